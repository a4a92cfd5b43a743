/- The pool's map: what it holds, and that it is kept. -/
import Derived.Test.YtbfieomjobbhoaaGreatDoorMN30
import Derived.Test.YtbfieomjobbhoaaGreatDoorMN04
import Derived.Maps.GroupsBeside
namespace Go.Proofs.YtbfieomjobbhoaaGreatDoor
open Go.RowKit Go.Gz Go.Shelf Go.Maps Go.ChangeShapes Go.WideElems
open Go.ChangeMaps (setBlock)

set_option maxRecDepth 100000
theorem lawU : Keyed Tryz.prog 22 := int_keyed Tryz.underlying22
theorem zeroS (w : World) : (zeroValue 305).run Tryz.prog w = .ok (.slice none 0 0) w := by
  have h : (Tryz.prog.info? 305).map (fun i => (i.zero, i.size, i.bytes)) = some (some (.slice none 0 0), 1, 24) := by kernel_rfl
  obtain ⟨i, h1, h2, _, _⟩ := info_parts h;simp [zeroValue, typeInfo, h1, h2]
def ixV (l : List Nat) : List Value := l.map fun (k : Nat) => Value.int .i64 (k : Int)
def GrpAt (D : DataW Unit) (h : Nat) (l : List Nat) : Prop := (D.atKey (.int .u64 h) .nil = .nil ∧ l = []) ∨ D.atKey (.int .u64 h) .nil = .slice (lits .i64 (l.map Int.ofNat)) []
def MapP (w : World) (base : Nat) (mv : Value) (cs : List Bs) : Prop :=
  (mv = .map none ∧ cs = []) ∨ ∃ M gb D, mv = .map (some M) ∧ (base ≤ M ∧ gb ≤ w.heap.size) ∧ w.ownsGroups (H := Unit) Tryz.prog 22 gb 3 .i64 M cs.length D ∧ IsMap D ∧ ∀ h, h < 18446744073709551616 → GrpAt D h (hitL cs h)
theorem grp_other {w w' : World} {gb M n : Nat} {D : DataW Unit} {row : Option Nat} (h : w.ownsGroups (H := Unit) Tryz.prog 22 gb 3 .i64 M n D) (hg : w.grownBy w' row) (hr : ∀ r, row = some r → ∃ cur t fz, w.heap[r]? = some (.cells cur t fz) ∧ t ≠ 3) : w'.ownsGroups (H := Unit) Tryz.prog 22 gb 3 .i64 M n D := by
  have h0 := h;obtain ⟨es, clock, hb, F, _⟩ := h0;refine h.kept hg ?_ ?_
  · intro e;obtain ⟨cur, t, fz, h1, _⟩ := hr M e.symm;rw [hb] at h1;cases h1
  · intro es' clock' hb' x hx;rw [hb] at hb';injection hb' with hb';injection hb' with e1 e2;subst e1 e2;obtain ⟨y, hy⟩ := F.reads x hx;obtain ⟨z, hz, _⟩ := rd_val hy;obtain ⟨zs, hoi, _⟩ := rowElem_inv hz;cases hx' : x.val.ownBlock with
    | none => exact Or.inl rfl
    | some g =>
      refine Or.inr (fun e1 => ?_);obtain ⟨cur, t, fz, h1, h2⟩ := hr g e1.symm;obtain ⟨cur', fz', h3⟩ := own_row hoi.1 g hx';rw [h1] at h3;injection h3 with h3;injection h3 with _ h3 _;exact h2 h3
theorem MapP.other {w w' : World} {base : Nat} {mv : Value} {cs : List Bs} {row : Option Nat} (h : MapP w base mv cs) (hg : w.grownBy w' row) (hr : ∀ r, row = some r → ∃ cur t fz, w.heap[r]? = some (.cells cur t fz) ∧ t ≠ 3) : MapP w' base mv cs := by
  rcases h with h | ⟨M, gb, D, h1, h2, h3, h4⟩
  · exact .inl h
  · exact .inr ⟨M, gb, D, h1, ⟨h2.1, Nat.le_trans h2.2 hg.size⟩, grp_other h3 hg hr, h4⟩
theorem MapP.up {w w' : World} {base : Nat} {mv : Value} {cs : List Bs} (h : MapP w base mv cs) (hu : Up w w') : MapP w' base mv cs :=
  h.other (row := none) ⟨hu.os, hu.tape, hu.output, hu.size, fun j hj _ => hu.block hj⟩ (fun r hr => by cases hr)
theorem zs_of {w : World} {gb : Nat} {v : Value} {zs : List Int} {D : DataW Unit} {h : Nat} {l : List Nat} (hat : D.atKey (.int .u64 h) .nil = rowDatum .i64 v zs) (ho : w.ownsInts gb 3 .i64 v zs) (hG : GrpAt D h l) : zs = l.map Int.ofNat := by
  have hinj : ∀ a b : List Int, (lits .i64 a : List (DataW Unit)) = lits .i64 b → a = b := by
    intro a b hab;exact (List.map_inj_right (fun x y hxy => by cases hxy; rfl)).1 hab
  rcases hG with ⟨h1, rfl⟩ | h1
  · rw [h1] at hat
    rcases ho.datum (H := Unit) with ⟨_, h2⟩ | h2
    · exact h2
    · rw [h2] at hat; cases hat
  · rw [h1] at hat
    rcases ho.datum (H := Unit) with ⟨h3, h2⟩ | h2
    · rw [h3] at hat; cases hat
    · rw [h2] at hat
      injection hat with hat
      exact (hinj _ _ hat).symm
theorem hit_nil (h : Nat) : hitL [] h = [] := rfl
theorem MapP.look {w : World} {base : Nat} {mv : Value} {cs : List Bs} (hm : MapP w base mv cs) (hl : cs.length ≤ 100000) (h : Nat) (hh : h < 18446744073709551616) :
    ∃ A c, (Instr.lookup 276 mv (.int .u64 h) false).run Tryz.prog w = .ok (.slice A (hitL cs h).length c) w ∧ Rd w 1 A (hitL cs h).length c (ixV (hitL cs h)) := by
  have hw : (Lit.int .u64 h).wf = true := by
    simp [Lit.wf, IntKind.min, IntKind.max, IntKind.bits, IntKind.signed]; omega
  rcases hm with ⟨rfl, rfl⟩ | ⟨M, gb, D, rfl, h2, h3, h4, h5⟩
  · refine ⟨none, 0, ?_, Rd.nil_ w 1⟩;have hz := zeroS w;have hc := lawU.check w true (v := .int .u64 h) (keyOf_int_mk Tryz.underlying22 hw);have hf : (Instr.findKey 22 (.int .u64 h) []).run Tryz.prog w = .ok none w := rfl;rw [hit_nil];simp [Instr.lookup, go_sem, hc, hf, hz]
  · obtain ⟨v, zs, h6, h7, h8, _⟩ := h3.at lawU Tryz.underlying276 (zeroS w) (by unfold maxLen; omega) (keyOf_int_mk Tryz.underlying22 hw);have hz := zs_of h7 h8 (h5 h hh);subst hz;obtain ⟨A, c, rfl, hr⟩ := Rd.of_own h8.1;rw [List.length_map] at h6 hr;refine ⟨A, c, h6, ?_⟩;unfold ixV;rw [List.map_map] at hr;exact hr
end Go.Proofs.YtbfieomjobbhoaaGreatDoor
/- Walk: pool.Find. -/
namespace Go.Proofs.YtbfieomjobbhoaaGreatDoor
open Go.RowKit Go.Gz Go.Shelf Go.Maps

set_option maxRecDepth 100000
attribute [local go_sem] Oper.semAt_some
theorem ixV_get (l : List Nat) {k : Nat} (hk : k < l.length) : (ixV l)[k]? = some (.int .i64 (l[k] : Int)) := by
  unfold ixV; rw [List.getElem?_map, List.getElem?_eq_getElem hk]; rfl
theorem fnvV_lt (s : Bs) : fnvV s < 18446744073709551616 := by
  rw [fnvV_eq];induction s using snoc_ind with
  | h0 => rw [List.foldl_nil]; omega
  | h1 s a ih => rw [List.foldl_append, List.foldl_cons, List.foldl_nil]; exact fnvS_lt _ _
theorem set2c {w1 : World} {b : Nat} {t : TypeId} {a0 a1 : Value} (hb : w1.heap[b]? = some (.cells #[a0, a1] t (0, 0))) (x y : Value) :
    ((w1.setCell ⟨b, 0, none⟩ x).setCell ⟨b, 1, none⟩ y).heap[b]? = some (.cells #[x, y] t (0, 0)) :=
  heap_setCell_same _ b 1 _ t y (heap_setCell_same w1 b 0 _ t x hb)
def FindE (w : World) (cs : List Bs) (o : Option Nat) (en : Ending) (w' : World) : Prop := en = .returned (.tuple #[(findE cs o).1, (findE cs o).2]) ∧ Up w w'
set_option maxHeartbeats 4000000 in
theorem find_any (cs : List Bs) (hne : ∀ t ∈ cs, t ≠ []) (hl : cs.flatten.length ≤ 900000) (hl2 : cs.length ≤ 100000) (s : Bs) (hs : s.length ≤ 1000000) (B base : Nat) (mv : Value) (w : World) (hp : PoolR w B cs mv) (hm : MapP w base mv cs) :
    Calls Tryz.prog 170 #[.pointer (some ⟨B, 0, none⟩), .string ⟨s.toArray⟩] w (FindE w cs (findGo cs s (hitL cs (fnvV s)))) := by
  have SM := fun w => Lib.hid (sum_any s hs w);have AT := fun k hk w hp => Lib.hid (at_any cs hne hl k hk B mv w hp);have HP := Lib.hid hp;have HM := Lib.hid hm;have HH := Lib.hid (show ∀ k ∈ hitL cs (fnvV s), k < cs.length from fun k hk => hit_lt hk);have LK := fun w (h : Up _ w) => Lib.hid ((HM.out.up h).look hl2 (fnvV s) (fnvV_lt s));generalize hz : hitL cs (fnvV s) = zs at *;have hzl : zs.length ≤ 100000 := by rw [← hz]; have := hit_len cs (fnvV s); omega
  generalize fnvV s = sm at *;generalize hT : findGo cs s zs = T at *;have HT := Lib.hid hT;have HNE := Lib.hid hne;clear hT hz hm hp hne;obtain ⟨At, ct, Ap, cp, g1, g2, g3⟩ := HP.out;have c1 := blkc g1 1 _ rfl;have c2 := blkc g1 2 _ rfl;have G3 := Lib.hid g3;clear g1 g2 g3;have C1 := Lib.hid c1;go_enter Tryz.func170, Tryz.ntmps170;go_wp2_with fail;have hu0 : Up w (w.alloc (.cells #[.int .u64 0, .int .u32 0] 209)).drew := ((Up.refl w).alloc _).drew;have c2a := hu0.cell c2;have HU0 := Lib.hid hu0;go_region_with (go_at_call 214; refine (SM _).out.mono ?_; rintro e w1 ⟨rfl, hu1⟩; have HU1 := Lib.hid (HU0.out.trans hu1); have c2b := HU1.out.cell c2; obtain ⟨A, c, hlk, hrd⟩ := (LK w1 HU1.out).out; have HRD := Lib.hid hrd; clear hrd)
  all_goals
    have HQ := Lib.hid (hu1.obj (show ((w.alloc (.cells #[.int .u64 0, .int .u32 0] 209)).drew).heap[w.heap.size]? = some (.cells #[.int .u64 0, .int .u32 0] 209 (0, 0)) from heap_alloc_new w _));clear hlk c2b c2a hu0 hu1 c1 c2 LK SM;simp only [Act.put, List.getElem_toArray, List.getElem_cons_succ, List.getElem_cons_zero, List.setIfInBounds_toArray, List.set_cons_zero, List.set_cons_succ];go_wp2_with fail;go_loopg [20] zs.length (fun gk i wx => ∃ k : Nat, k + gk = zs.length ∧ i = .int .i64 k ∧ findGo cs s (zs.drop k) = T ∧ wx.heap[w.heap.size]? = some (.cells #[.int .u64 0, .int .u32 0] 209 (0, 0)) ∧ Up w1 wx)
    case atStart => exact ⟨0, by omega, rfl, by simpa using HT.out, HQ.out, Up.refl w1⟩
    case round =>
      rename World => wx
      obtain ⟨k, hk, rfl, hd, hq, hu2⟩ := hrel;have HQ2 := Lib.hid hq;have HU2 := Lib.hid hu2;have q0 := blkc hq 0 _ rfl;have q1 := blkc hq 1 _ rfl;have f0 := blkf hq 0;have f1 := blkf hq 1;have HUW := Lib.hid (HU1.out.trans hu2);by_cases hlt : k < zs.length
      · obtain ⟨m, rfl⟩ : ∃ m, gk = m + 1 := ⟨gk - 1, by omega⟩;rw [List.drop_eq_getElem_cons hlt] at hd;obtain ⟨b, o, u, rfl, h1, h2⟩ := (HRD.out.up hu2).one hlt;rw [ixV_get zs hlt] at h1;cases h1;have hz := HH.out zs[k] (List.getElem_mem hlt);unfold findGo at hd;have hgd : cs.getD zs[k] [] = cs[zs[k]] := by simp [List.getD, List.getElem?_eq_getElem hz]
        rw [hgd] at hd;generalize zs[k] = z at *;obtain ⟨b2, o2, rfl, d0, d1⟩ := plV_two cs (G3.out.up HUW.out) hz;have e1 := HUW.out.cell C1.out;have ATZ := fun w hp => Lib.hid ((AT z hz w hp).out);have HD := Lib.hid hd;have hltI : (k : Int) < (zs.length : Int) := by omega
        have hzI : (z : Int) < (cs.length : Int) := by omega
        clear hd hq hu2 AT;go_wp2_with fail;refine (ATZ _ (HP.out.up (HUW.out.alloc _))).out.mono ?_;rintro e w3 ⟨rfl, hu3⟩;have hn := hu3.obj (heap_alloc_new wx (.cells #[.int .u64 (offK cs z : Int), .int .u32 (cs[z].length : Int)] 209));have n0 := blkc hn 0 _ rfl;have n1 := blkc hn 1 _ rfl;have HU3 := Lib.hid (((Up.refl wx).alloc (.cells #[.int .u64 (offK cs z : Int), .int .u32 (cs[z].length : Int)] 209)).trans hu3);have hq3 := HU3.out.obj HQ2.out;have p0 := blkc hq3 0 _ rfl;have p1 := blkc hq3 1 _ rfl;have r0 := blkf hq3 0;have r1 := blkf hq3 1;have HQ3 := Lib.hid hq3;have HGD := Lib.hid hgd;clear hn hq3 d0 d1 e1 q0 q1 f0 f1 hu3 hgd ATZ;by_cases he : cs[z] = s
        · have h5 : some z = T := by
            have := HD.out;rw [if_pos he] at this;exact this
          subst h5;generalize cs[z] = t at *;have hb : (t == s) = true := by simp [he]
          have HTS := Lib.hid he;clear he HD HT;go_wp2_with fail;have hs2 := set2c HQ3.out (.int .u64 (offK cs z : Int)) (.int .u32 (t.length : Int));have k0 := blkc hs2 0 _ rfl;have k1 := blkc hs2 1 _ rfl;simp only [List.getElem_toArray, List.getElem_cons_succ, List.getElem_cons_zero] at k0 k1;refine bodyPost_ret (v := .tuple #[.agg #[(.int .u64 (offK cs z : Int)), (.int .u32 (t.length : Int))], .bool true]) (by simp [results, Tryz.results170, go_sem, k0, k1]) rfl ?_;exact ⟨by unfold findE; simp only []; rw [HGD.out], Up.of (((HUW.out.trans HU3.out).below.setCell (p := ⟨w.heap.size, 0, none⟩) (by simp) _).setCell (p := ⟨w.heap.size, 1, none⟩) (by simp) _)⟩
        · have h5 : findGo cs s (zs.drop (k + 1)) = T := by
            have := HD.out;rw [if_neg he] at this;exact this
          have H5 := Lib.hid h5;clear h5 HD;generalize cs[z] = t at *;have hb : (t == s) = false := by simp [he]
          clear he;go_wp2_with fail;go_roundg m
          case measure => omega
          case rel => exact ⟨k + 1, by omega, by go_num, H5.out, HQ3.out, HU2.out.trans HU3.out⟩
      · obtain rfl : k = zs.length := by omega
        obtain rfl : gk = 0 := by omega
        rw [List.drop_length] at hd;have hd : none = T := hd;subst hd;clear hlt hk hq hu2;go_wp2_with fail;have hs2 := set2c HQ2.out (.int .u64 0) (.int .u32 0);have k0 := blkc hs2 0 _ rfl;have k1 := blkc hs2 1 _ rfl;simp only [List.getElem_toArray, List.getElem_cons_succ, List.getElem_cons_zero] at k0 k1;refine bodyPost_ret (v := .tuple #[.agg #[(.int .u64 0), (.int .u32 0)], .bool false]) (by simp [results, Tryz.results170, go_sem, k0, k1]) rfl ?_;exact ⟨rfl, Up.of ((HUW.out.below.setCell (p := ⟨w.heap.size, 0, none⟩) (by simp) _).setCell (p := ⟨w.heap.size, 1, none⟩) (by simp) _)⟩
end Go.Proofs.YtbfieomjobbhoaaGreatDoor
/- 'p.buckets[sum] = append(p.buckets[sum], n)': the append and the store, at any world that has grown by new blocks since the look-up. -/
namespace Go.Proofs.YtbfieomjobbhoaaGreatDoor
open Go.RowKit Go.Gz Go.Shelf Go.Maps Go.ChangeShapes

set_option maxRecDepth 100000
/-- an append whose run is known, in a drawn region -/
theorem step_append_run {P : Program} {w w' : World} {ops : Array Oper} {o : Oper} {a : Act} {K : Act → World → Prop} {Q : Exit → Act → World → Prop} {E : Prop} (hgd : o.guard = none) (s x : Operand) (t : TypeId)
    (ho : o.op = .call { callee := .builtin .append, args := #[s, x], argTypes := #[t, t] }) {vs vx v' : Value} (hs : a.eval s = vs) (hx : a.eval x = vx)
    (hr : (Builtin.append_ #[t, t] o.type #[vs, vx]).run P w = .ok v' w') (h : K (a.put o.dst v') w') :
    if Region.wanted o (yielded ops a.tmps) = true then Oper.wp P o a w K Q else E := by
  have hw : Region.wanted o (yielded ops a.tmps) = true := by simp [Region.wanted, hgd]
  rw [if_pos hw];unfold Oper.wp execOp;simp only [ho, resolve, invoke, builtin, Sem.run_bind, Sem.run_pure, Result.andThen_ok, List.map_toArray, List.map_cons, List.map_nil, hs, hx, hr];exact h
/-- .. and in a plain walk -/
theorem wpList_append_run {P : Program} {w w' : World} {ops : Array Oper} {rest : List Oper} {o : Oper} {a : Act} {Q : Exit → Act → World → Prop} (hgd : o.guard = none) (s x : Operand) (t u : TypeId)
    (ho : o.op = .call { callee := .builtin .append, args := #[s, x], argTypes := #[t, u] }) {vs vx v' : Value} (hs : a.eval s = vs) (hx : a.eval x = vx)
    (hr : (Builtin.append_ #[t, u] o.type #[vs, vx]).run P w = .ok v' w') (h : wpList P ops Q rest (a.put o.dst v') w') : wpList P ops Q (o :: rest) a w := by
  refine wpList_plain hgd fun K hK => ?_;unfold Oper.wp execOp;simp only [ho, resolve, invoke, builtin, Sem.run_bind, Sem.run_pure, Result.andThen_ok, List.map_toArray, List.map_cons, List.map_nil, hs, hx, hr];exact hK _ _ h
theorem infoI64 : (Tryz.prog.info? 3).map (fun i => (i.zero, i.size, i.bytes)) = some (some (.int .i64 0), 1, 8) := by kernel_rfl
theorem push_grp {w0 wx : World} {gb M n sm X : Nat} {D : DataW Unit} {v : Value} {zs : List Int} (ty : TypeId)
    (hback : w0.groupBack Tryz.prog 276 22 gb 3 .i64 M n D (.int .u64 sm) (.int .u64 sm) v)
    (hoi : w0.ownsInts gb 3 .i64 v zs) (hzl : zs.length ≤ n) (hn : n ≤ 90000) (hgb : gb ≤ w0.heap.size) (hgx : w0.grownBy wx none)
    (hX : wx.heap[X]? = some (.cells #[.int .i64 n] 3 (0, 0))) :
    ∃ v' w' w2, (Builtin.append_ #[305, 305] ty #[v, .slice (some ⟨X, 0, none⟩) 1 1]).run Tryz.prog wx = .ok v' w' ∧ (Instr.mapUpdate 276 (.map (some M)) (.int .u64 sm) v').run Tryz.prog w' = .ok () w2 ∧
      w2.ownsGroups (H := Unit) Tryz.prog 22 gb 3 .i64 M (n + 1) (D.put (.int .u64 sm) (rowDatum .i64 v' (zs ++ [(n : Int)]))) ∧ w'.ownsInts gb 3 .i64 v' (zs ++ [(n : Int)]) ∧
      wx.grownBy w' v.ownBlock ∧ w'.grownBy w2 (some M) ∧ ∀ r, v.ownBlock = some r → gb ≤ r ∧ ∃ cur fz, wx.heap[r]? = some (.cells cur 3 fz) := by
  obtain ⟨i0, hi0, hz0, hz1, hz2⟩ := info_parts infoI64;have hox := hoi.kept hgx (by cases v.ownBlock <;> simp);have hsz := hgx.size;have hcell : ∀ j u, [Value.int .i64 (n : Int)][j]? = some u → wx.cell? ((⟨X, 0, none⟩ : Addr).add j) = some u := by
    intro j u hu;have hadd : (⟨X, 0, none⟩ : Addr).add j = ⟨X, j, none⟩ := by unfold Addr.add; split <;> simp_all
    rw [hadd, cell_of_row _ X j _ _ (0, 0) hX];simpa using hu
  obtain ⟨v', w', h1, h2, h3, _, h5⟩ := run_append_own_at (P := Tryz.prog) wx gb 305 ty 3 i0 _ 1 8 Tryz.underlying305 hi0 hz0 hz1 hz2 rfl (by decide) v zs.length _ hox.1 ⟨X, 0, none⟩ 1 1 [.int .i64 (n : Int)] rfl hcell (by simp [Value.oneCell']) (by unfold maxLen; omega) (by omega) (by omega);have ho' : w'.ownsInts gb 3 .i64 v' (zs ++ [(n : Int)]) := hox.appended h2 (by simp [Lit.wf, IntKind.min, IntKind.max, IntKind.bits, IntKind.signed]; omega);have hgo : w0.grownBy w' v.ownBlock := ⟨h3.os.trans hgx.os, h3.tape.trans hgx.tape, h3.output.trans hgx.output, Nat.le_trans hsz h3.size, fun j hj hne => (h3.block j (by omega) hne).trans (hgx.block j hj (by simp))⟩
  obtain ⟨w2, k1, k2, k3⟩ := hback w' v' _ hgo ho' (by simp; omega) (by
    rcases h5 with h5 | h5
    · exact .inl h5
    · exact .inr ⟨_, h5, hsz⟩)
  exact ⟨v', w', w2, h1, k1, k2, ho', h3, k3, fun r hr => ⟨(hox.1.lt r hr).1, own_row hox.1 r hr⟩⟩
/-- the map's groups, one content more -/
theorem gat_put {D : DataW Unit} {cs : List Bs} {s : Bs} {w : World} {gb : Nat} {v' : Value} (hD : IsMap D) (hG : ∀ h, h < 18446744073709551616 → GrpAt D h (hitL cs h)) (ho : w.ownsInts gb 3 .i64 v' ((hitL cs (fnvV s)).map Int.ofNat ++ [(cs.length : Int)])) :
    ∀ h, h < 18446744073709551616 → GrpAt (D.put (.int .u64 (fnvV s : Int)) (rowDatum .i64 v' ((hitL cs (fnvV s)).map Int.ofNat ++ [(cs.length : Int)]))) h (hitL (cs ++ [s]) h) := by
  intro h hh;by_cases e : fnvV s = h
  · subst e;right;rw [atKey_put_same hD (by trivial), ho.datum_pos (by simp), hit_snoc, if_pos rfl, List.map_append];rfl
  · rw [hit_snoc, if_neg e, List.append_nil];have hne : (Lit.int .u64 (h : Int)) ≠ (Lit.int .u64 (fnvV s : Int)) := by
      intro e2;injection e2 with _ e2;exact e (by omega)
    unfold GrpAt;rw [atKey_put_other hne];exact hG h hh
end Go.Proofs.YtbfieomjobbhoaaGreatDoor
/- pool.put: what holds within it, and its three steps (map, places, text). -/
namespace Go.Proofs.YtbfieomjobbhoaaGreatDoor
open Go.RowKit Go.Gz Go.Shelf Go.Maps

set_option maxRecDepth 100000
/-- a pool of the call's own -/
def PoolW (w : World) (base B : Nat) (cs : List Bs) : Prop := ∃ tv pv mv, w.heap[B]? = some (.cells #[tv, pv, mv] 278 (0, 0)) ∧ w.ownsRow base 5 1 tv cs.flatten.length (byV cs.flatten) ∧ w.ownsRow base 209 2 pv cs.length (plV cs) ∧ MapP w base mv cs ∧ B < base ∧ base ≤ w.heap.size
theorem PoolW.read {w : World} {base B : Nat} {cs : List Bs} (h : PoolW w base B cs) : ∃ mv, PoolR w B cs mv ∧ MapP w base mv cs := by
  obtain ⟨tv, pv, mv, h1, h2, h3, h4, h5, _⟩ := h;obtain ⟨A, c, rfl, r1⟩ := Rd.of_own h2;obtain ⟨A2, c2, rfl, r2⟩ := Rd.of_own h3;exact ⟨mv, ⟨A, c, A2, c2, h1, r1, r2⟩, h4⟩
/-- what a pool's walk turns: its own block, rows of its own types -/
structure PKeep (base B : Nat) (w w' : World) : Prop where
  below : ∀ j, j < base → j ≠ B → w'.heap[j]? = w.heap[j]?
  size : w.heap.size ≤ w'.heap.size
  os : w'.os = w.os
  tape : w'.tape = w.tape
  output : w'.output = w.output
  typ : ∀ (j : Nat) (c : Array Value) (t : TypeId) (fz : Nat × Nat), w.heap[j]? = some (.cells c t fz) → t ≠ 5 → t ≠ 209 → t ≠ 3 → t ≠ 278 → w'.heap[j]? = some (.cells c t fz)
theorem PKeep.trans {base B : Nat} {a b c : World} (h : PKeep base B a b) (k : PKeep base B b c) : PKeep base B a c :=
  ⟨fun j h1 h2 => (k.below j h1 h2).trans (h.below j h1 h2), Nat.le_trans h.size k.size, k.os.trans h.os, k.tape.trans h.tape, k.output.trans h.output, fun j cs t fz h0 h1 h2 h3 h4 => k.typ j cs t fz (h.typ j cs t fz h0 h1 h2 h3 h4) h1 h2 h3 h4⟩
theorem PKeep.up {base B : Nat} {w w' : World} (h : Up w w') (hb : base ≤ w.heap.size) : PKeep base B w w' :=
  ⟨fun j h1 _ => h.block (by omega), h.le, h.os, h.tape, h.output, fun j c t fz h0 _ _ _ _ => h.obj h0⟩
theorem PKeep.grown {base B : Nat} {w w' : World} {row : Option Nat} (hg : w.grownBy w' row) (hb : base ≤ w.heap.size) (hr : ∀ r, row = some r → (base ≤ r ∨ r = B) ∧ ∀ c t fz, w.heap[r]? = some (.cells c t fz) → t = 5 ∨ t = 209 ∨ t = 3 ∨ t = 278) : PKeep base B w w' := by
  refine ⟨fun j h1 h2 => hg.block j (by omega) (fun e => ?_), hg.size, hg.os, hg.tape, hg.output, fun j c t fz h0 h1 h2 h3 h4 => ?_⟩
  · rcases (hr j e.symm).1 with h | h
    · omega
    · exact h2 h
  · refine (hg.block j (Array.getElem?_eq_some_iff.1 h0).1 (fun e => ?_)).trans h0;rcases (hr j e.symm).2 c t fz h0 with h | h | h | h
    · exact h1 h
    · exact h2 h
    · exact h3 h
    · exact h4 h
theorem eqlNil (w : World) : (binOp .eql 276 (.map none) (.map none)).run Tryz.prog w = .ok (.bool true) w := by kernel_rfl
theorem eqlSome (m : Nat) (w : World) : (binOp .eql 276 (.map (some m)) (.map none)).run Tryz.prog w = .ok (.bool false) w := by kernel_rfl
theorem grown_setO (W : World) (b o : Nat) (v : Value) : W.grownBy (W.setCell ⟨b, o, none⟩ v) (some b) :=
  ⟨rfl, rfl, rfl, by simp, fun j _ hne => Below.heap_setCell W ⟨b, o, none⟩ v j (fun e => hne (by rw [e]))⟩
/-- the pool within 'put', its map made -/
structure PN (w w1 : World) (base B : Nat) (cs : List Bs) (s : Bs) (tv pv : Value) (M gb : Nat) (D : DataW Unit) : Prop where
  blk : w1.heap[B]? = some (.cells #[tv, pv, .map (some M)] 278 (0, 0))
  txt : w1.ownsRow base 5 1 tv cs.flatten.length (byV cs.flatten)
  pls : w1.ownsRow base 209 2 pv cs.length (plV cs)
  grp : w1.ownsGroups (H := Unit) Tryz.prog 22 gb 3 .i64 M cs.length D
  ism : IsMap D
  gat : ∀ h, h < 18446744073709551616 → GrpAt D h (hitL cs h)
  lo : base ≤ M
  ghi : gb ≤ w1.heap.size
  cc : w1.heap[w.heap.size + 1]? = some (.cells #[.int .u64 (cs.flatten.length : Int), .int .u32 (s.length : Int)] 209 (0, 0))
  rr : w1.heap[w.heap.size]? = some (.cells #[.int .u64 0, .int .u32 0] 209 (0, 0))
  keep : PKeep base B w w1
  ex : ∀ (R : Nat) (c : Array Value) (fz : Nat × Nat), w.heap[R]? = some (.cells c 209 fz) → w1.heap[R]? = some (.cells c 209 fz)
theorem pn_up {w w1 w2 : World} {base B : Nat} {cs : List Bs} {s : Bs} {tv pv : Value} {M gb : Nat} {D : DataW Unit} (h : PN w w1 base B cs s tv pv M gb D) (hu : Up w1 w2) (hb : base ≤ w1.heap.size) : PN w w2 base B cs s tv pv M gb D :=
  ⟨hu.obj h.blk, own_up h.txt hu, own_up h.pls hu, grp_other (row := none) h.grp ⟨hu.os, hu.tape, hu.output, hu.size, fun j hj _ => hu.block hj⟩ (fun r hr => by cases hr), h.ism, h.gat, h.lo, Nat.le_trans h.ghi hu.le, hu.obj h.cc, hu.obj h.rr, h.keep.trans (.up hu hb), fun R c fz h1 => hu.obj (h.ex R c fz h1)⟩
theorem pn_some {w : World} {base B : Nat} {cs : List Bs} {s : Bs} {tv pv : Value} {M gb : Nat} {D : DataW Unit} (h1 : w.heap[B]? = some (.cells #[tv, pv, .map (some M)] 278 (0, 0))) (h2 : w.ownsRow base 5 1 tv cs.flatten.length (byV cs.flatten)) (h3 : w.ownsRow base 209 2 pv cs.length (plV cs))
    (h4 : w.ownsGroups (H := Unit) Tryz.prog 22 gb 3 .i64 M cs.length D) (h5 : IsMap D) (h6 : ∀ h, h < 18446744073709551616 → GrpAt D h (hitL cs h)) (h7 : base ≤ M) (h8 : gb ≤ w.heap.size) (hb : base ≤ w.heap.size) :
    PN w ((w.alloc (.cells #[.int .u64 0, .int .u32 0] 209)).alloc (.cells #[.int .u64 (cs.flatten.length : Int), .int .u32 (s.length : Int)] 209)) base B cs s tv pv M gb D := by
  have hu : Up w ((w.alloc (.cells #[.int .u64 0, .int .u32 0] 209)).alloc (.cells #[.int .u64 (cs.flatten.length : Int), .int .u32 (s.length : Int)] 209)) := ((Up.refl w).alloc _).alloc _;have hq := heap_alloc_new (w.alloc (.cells #[.int .u64 0, .int .u32 0] 209)) (.cells #[.int .u64 (cs.flatten.length : Int), .int .u32 (s.length : Int)] 209);rw [World.size_alloc] at hq;exact ⟨hu.obj h1, own_up h2 hu, own_up h3 hu, grp_other (row := none) h4 ⟨hu.os, hu.tape, hu.output, hu.size, fun j hj _ => hu.block hj⟩ (fun r hr => by cases hr), h5, h6, h7, Nat.le_trans h8 hu.le, hq, ((Up.refl _).alloc _).obj (heap_alloc_new w _), .up hu hb, fun R c fz h => hu.obj h⟩
theorem pn_none {w : World} {base B : Nat} {cs : List Bs} {s : Bs} {tv pv : Value} (hcs : cs = []) (h1 : w.heap[B]? = some (.cells #[tv, pv, .map none] 278 (0, 0))) (h2 : w.ownsRow base 5 1 tv cs.flatten.length (byV cs.flatten)) (h3 : w.ownsRow base 209 2 pv cs.length (plV cs)) (hb : base ≤ w.heap.size) :
    PN w ((((w.alloc (.cells #[.int .u64 0, .int .u32 0] 209)).alloc (.cells #[.int .u64 (cs.flatten.length : Int), .int .u32 (s.length : Int)] 209)).alloc (.map #[] 0)).setCell ⟨B, 2, none⟩ (.map (some (w.heap.size + 1 + 1)))) base B cs s tv pv (w.heap.size + 1 + 1) (w.heap.size + 1 + 1 + 1) (.map []) := by
  subst hcs;obtain ⟨W2, hW2⟩ : ∃ W2, (w.alloc (.cells #[.int .u64 0, .int .u32 0] 209)).alloc (.cells #[.int .u64 (([] : List Bs).flatten.length : Int), .int .u32 (s.length : Int)] 209) = W2 := ⟨_, rfl⟩;have hs2 : W2.heap.size = w.heap.size + 1 + 1 := by rw [← hW2]; simp
  have hu : Up w W2 := by rw [← hW2]; exact ((Up.refl w).alloc _).alloc _
  have hq : W2.heap[w.heap.size + 1]? = some (.cells #[.int .u64 (([] : List Bs).flatten.length : Int), .int .u32 (s.length : Int)] 209 (0, 0)) := by
    have hq := heap_alloc_new (w.alloc (.cells #[.int .u64 0, .int .u32 0] 209)) (.cells #[.int .u64 (([] : List Bs).flatten.length : Int), .int .u32 (s.length : Int)] 209);rw [World.size_alloc, hW2] at hq;exact hq
  have hr0 : W2.heap[w.heap.size]? = some (.cells #[.int .u64 0, .int .u32 0] 209 (0, 0)) := by
    rw [← hW2];exact ((Up.refl _).alloc _).obj (heap_alloc_new w _)
  rw [hW2, ← hs2];have hua := (Up.refl W2).alloc (.map #[] 0);have hu3 := hu.trans hua;have hg := grown_setO (W2.alloc (.map #[] 0)) B 2 (.map (some W2.heap.size));have hb3 := hu3.obj h1;have hr : ∀ r, some B = some r → ∃ cur t fz, (W2.alloc (.map #[] 0)).heap[r]? = some (.cells cur t fz) ∧ t ≠ 3 := by
    intro r e; injection e with e; subst e; exact ⟨_, _, _, hb3, by decide⟩
  have hr2 : ∀ r, some B = some r → ∃ cur fz, (W2.alloc (.map #[] 0)).heap[r]? = some (.cells cur 278 fz) := by
    intro r e; injection e with e; subst e; exact ⟨_, _, hb3⟩
  have hBl := (Array.getElem?_eq_some_iff.1 h1).1;refine ⟨heap_setCell_same _ B 2 _ _ _ hb3, own_other (own_up h2 hu3) hg hr2 (by decide), own_other (own_up h3 hu3) hg hr2 (by decide), grp_other (World.ownsGroups_made W2 _ _ _ _) hg hr, ⟨_, rfl⟩, fun h _ => .inl ⟨rfl, rfl⟩, by have := hu.le; omega, by simp, ?_, ?_, ?_, fun R c fz h => (hg.block R (Array.getElem?_eq_some_iff.1 (hu3.obj h)).1 (fun e => ?_)).trans (hu3.obj h)⟩
  · refine (hg.block _ (by simp; omega) (by intro e; injection e with e; omega)).trans (hua.obj hq)
  · refine (hg.block _ (by simp; omega) (by intro e; injection e with e; omega)).trans (hua.obj hr0)
  · refine (PKeep.up hu3 hb).trans (.grown hg (by have := hu3.le; omega) (fun r e => ?_));injection e with e;subst e;refine ⟨.inr rfl, fun c t fz h => ?_⟩;rw [hb3] at h;injection h with h;injection h with _ h _;exact .inr (.inr (.inr h.symm))
  · injection e with e;subst e;rw [h1] at h;injection h with h;injection h with _ h _;exact absurd h (by decide)
theorem own_nomap {w : World} {base : Nat} {e : TypeId} {size n : Nat} {v : Value} {xs : List Value} {M : Nat} {es : Array MapEntry} {clock : Nat} (h : w.ownsRow base e size v n xs) (hM : w.heap[M]? = some (.map es clock)) : v.ownBlock = none ∨ v.ownBlock ≠ some M := by
  right;intro e;obtain ⟨cur, fz, h2⟩ := own_row h M e;rw [hM] at h2;cases h2
/-- the pool within 'put', the new place told in its map -/
structure PM (w w1 : World) (base B : Nat) (cs : List Bs) (s : Bs) (tv pv : Value) (M gb : Nat) (D : DataW Unit) : Prop where
  blk : w1.heap[B]? = some (.cells #[tv, pv, .map (some M)] 278 (0, 0))
  txt : w1.ownsRow base 5 1 tv cs.flatten.length (byV cs.flatten)
  pls : w1.ownsRow base 209 2 pv cs.length (plV cs)
  grp : w1.ownsGroups (H := Unit) Tryz.prog 22 gb 3 .i64 M (cs.length + 1) D
  ism : IsMap D
  gat : ∀ h, h < 18446744073709551616 → GrpAt D h (hitL (cs ++ [s]) h)
  lo : base ≤ M
  ghi : gb ≤ w1.heap.size
  cc : w1.heap[w.heap.size + 1]? = some (.cells #[.int .u64 (cs.flatten.length : Int), .int .u32 (s.length : Int)] 209 (0, 0))
  rr : w1.heap[w.heap.size]? = some (.cells #[.int .u64 0, .int .u32 0] 209 (0, 0))
  keep : PKeep base B w w1
  ex : ∀ (R : Nat) (c : Array Value) (fz : Nat × Nat), w.heap[R]? = some (.cells c 209 fz) → w1.heap[R]? = some (.cells c 209 fz)
theorem pn_push {w wx w' w2 : World} {base B : Nat} {cs : List Bs} {s : Bs} {tv pv v' : Value} {M gb : Nat} {D : DataW Unit} {row : Option Nat} {zs : List Int} (h : PN w wx base B cs s tv pv M gb D) (hb : base ≤ wx.heap.size)
    (hzs : zs = (hitL cs (fnvV s)).map Int.ofNat) (hg1 : wx.grownBy w' row) (hrow : ∀ r, row = some r → gb ≤ r ∧ ∃ cur fz, wx.heap[r]? = some (.cells cur 3 fz)) (hg2 : w'.grownBy w2 (some M)) (ho' : w'.ownsInts gb 3 .i64 v' (zs ++ [(cs.length : Int)]))
    (hgr : w2.ownsGroups (H := Unit) Tryz.prog 22 gb 3 .i64 M (cs.length + 1) (D.put (.int .u64 (fnvV s : Int)) (rowDatum .i64 v' (zs ++ [(cs.length : Int)])))) :
    PM w w2 base B cs s tv pv M gb (D.put (.int .u64 (fnvV s : Int)) (rowDatum .i64 v' (zs ++ [(cs.length : Int)]))) := by
  subst hzs;obtain ⟨es, clock, hM, _⟩ := h.grp;have hrow2 : ∀ r, row = some r → ∃ cur fz, wx.heap[r]? = some (.cells cur 3 fz) := fun r e => (hrow r e).2;have hMb : gb ≤ wx.heap.size := h.ghi;have hMl := (Array.getElem?_eq_some_iff.1 hM).1;have hM' : w'.heap[M]? = some (.map es clock) := by
    refine (hg1.block M hMl (fun e => ?_)).trans hM;obtain ⟨cur, fz, h2⟩ := hrow2 M e.symm;rw [hM] at h2; cases h2
  have hkeep : ∀ (j : Nat) (c : Array Value) (t : TypeId) (fz : Nat × Nat), wx.heap[j]? = some (.cells c t fz) → t ≠ 3 → w2.heap[j]? = some (.cells c t fz) := by
    intro j c t fz hj ht;have hjl := (Array.getElem?_eq_some_iff.1 hj).1;have h1 : w'.heap[j]? = some (.cells c t fz) := by
      refine (hg1.block j hjl (fun e => ?_)).trans hj;obtain ⟨cur, fz', h2⟩ := hrow2 j e.symm;rw [hj] at h2;injection h2 with h2;injection h2 with _ h2 _;exact ht h2
    refine (hg2.block j (Array.getElem?_eq_some_iff.1 h1).1 (fun e => ?_)).trans h1;injection e with e;subst e;rw [h1] at hM'; cases hM'
  have hown : ∀ {e : TypeId} {size n : Nat} {v : Value} {xs : List Value}, e ≠ 3 → wx.ownsRow base e size v n xs → w2.ownsRow base e size v n xs := fun hne ho => by
    have h1 := own_other ho hg1 hrow2 (Ne.symm hne);exact h1.kept hg2 (own_nomap h1 hM')
  have hsz1 := hg1.size;have hsz2 := hg2.size;have hgbM := h.lo;have hMg : M < gb := by
    obtain ⟨_, _, _, _, _, _, hb, _⟩ := h.grp;exact hb
  refine ⟨hkeep _ _ _ _ h.blk (by decide), hown (by decide) h.txt, hown (by decide) h.pls, hgr, h.ism.put _ _, gat_put h.ism h.gat ho', h.lo, by omega, hkeep _ _ _ _ h.cc (by decide), hkeep _ _ _ _ h.rr (by decide), (h.keep.trans (.grown hg1 hb (fun r e => ?_))).trans ⟨fun j h1 _ => hg2.block j (by omega) (by intro e; injection e with e; omega), hsz2, hg2.os, hg2.tape, hg2.output, fun j c t fz h0 _ _ _ _ => (hg2.block j (Array.getElem?_eq_some_iff.1 h0).1 (fun e => ?_)).trans h0⟩, fun R c fz h1 => hkeep _ _ _ _ (h.ex R c fz h1) (by decide)⟩
  · obtain ⟨h1, cur, fz, h2⟩ := hrow r e;refine ⟨.inl (by omega), fun c t fz' h3 => ?_⟩;rw [h2] at h3;injection h3 with h3;injection h3 with _ h3 _;exact .inr (.inr (.inl h3.symm))
  · injection e with e;subst e;rw [h0] at hM'; cases hM'
theorem infoCo : (Tryz.prog.info? 209).map (fun i => (i.zero, i.size, i.bytes)) = some (some (.agg #[.int .u64 0, .int .u32 0]), 2, 16) := by kernel_rfl
theorem infoU8p : (Tryz.prog.info? 5).map (fun i => (i.zero, i.size, i.bytes)) = some (some (.int .u8 0), 1, 1) := by kernel_rfl
theorem pm_up {w w1 w2 : World} {base B : Nat} {cs : List Bs} {s : Bs} {tv pv : Value} {M gb : Nat} {D : DataW Unit} (h : PM w w1 base B cs s tv pv M gb D) (hu : Up w1 w2) (hb : base ≤ w1.heap.size) : PM w w2 base B cs s tv pv M gb D :=
  ⟨hu.obj h.blk, own_up h.txt hu, own_up h.pls hu, grp_other (row := none) h.grp ⟨hu.os, hu.tape, hu.output, hu.size, fun j hj _ => hu.block hj⟩ (fun r hr => by cases hr), h.ism, h.gat, h.lo, Nat.le_trans h.ghi hu.le, hu.obj h.cc, hu.obj h.rr, h.keep.trans (.up hu hb), fun R c fz h1 => hu.obj (h.ex R c fz h1)⟩
/-- within 'put', the place kept -/
structure PQ (w w1 : World) (base B : Nat) (cs : List Bs) (s : Bs) (tv pv : Value) (M gb : Nat) (D : DataW Unit) : Prop where
  blk : w1.heap[B]? = some (.cells #[tv, pv, .map (some M)] 278 (0, 0))
  txt : w1.ownsRow base 5 1 tv cs.flatten.length (byV cs.flatten)
  pls : w1.ownsRow base 209 2 pv (cs.length + 1) (plV (cs ++ [s]))
  grp : w1.ownsGroups (H := Unit) Tryz.prog 22 gb 3 .i64 M (cs.length + 1) D
  ism : IsMap D
  gat : ∀ h, h < 18446744073709551616 → GrpAt D h (hitL (cs ++ [s]) h)
  lo : base ≤ M
  ghi : gb ≤ w1.heap.size
  keep : PKeep base B w w1
theorem place_step {w wx : World} {base B X : Nat} {cs : List Bs} {s : Bs} {tv pv : Value} {M gb : Nat} {D : DataW Unit} (ty : TypeId) (h : PM w wx base B cs s tv pv M gb D) (hB : B < base) (hb : base ≤ wx.heap.size) (hl : cs.length ≤ 90000)
    (hX : wx.heap[X]? = some (.cells #[.int .u64 (cs.flatten.length : Int), .int .u32 (s.length : Int)] 209 (0, 0))) :
    ∃ pv' w4, (Builtin.append_ #[275, 275] ty #[pv, .slice (some ⟨X, 0, none⟩) 1 1]).run Tryz.prog wx = .ok pv' w4 ∧ (pv'.ownBlock = pv.ownBlock ∨ pv'.ownBlock = some wx.heap.size) ∧ wx.grownBy w4 pv.ownBlock ∧ w4.heap[B]? = some (.cells #[tv, pv, .map (some M)] 278 (0, 0)) ∧
      PQ w (w4.setCell ⟨B, 1, none⟩ pv') base B cs s tv pv' M gb D ∧ (∀ (R : Nat) (c : Array Value) (fz : Nat × Nat), w.heap[R]? = some (.cells c 209 fz) → pv.ownBlock ≠ some R → (w4.setCell ⟨B, 1, none⟩ pv').heap[R]? = some (.cells c 209 fz)) := by
  obtain ⟨i0, hi0, hz0, hz1, hz2⟩ := info_parts infoCo;have hcell : ∀ j u, [Value.int .u64 (cs.flatten.length : Int), .int .u32 (s.length : Int)][j]? = some u → wx.cell? ((⟨X, 0, none⟩ : Addr).add j) = some u := by
    intro j u hu;have hadd : (⟨X, 0, none⟩ : Addr).add j = ⟨X, j, none⟩ := by unfold Addr.add; split <;> simp_all
    rw [hadd, cell_of_row _ X j _ _ (0, 0) hX];simpa using hu
  obtain ⟨v', w4, h1, h2, h3, _, hdis⟩ := run_append_own_at (P := Tryz.prog) wx base 275 ty 209 i0 _ 2 16 Tryz.underlying275 hi0 hz0 hz1 hz2 rfl (by decide) pv cs.length _ h.pls ⟨X, 0, none⟩ 1 1 [.int .u64 (cs.flatten.length : Int), .int .u32 (s.length : Int)] rfl hcell (by simp [Value.oneCell']) (by unfold maxLen; omega) (by omega) hb;have hrow := own_row h.pls;have hblk : w4.heap[B]? = some (.cells #[tv, pv, .map (some M)] 278 (0, 0)) := by
    refine (h3.block B (by omega) (fun e => ?_)).trans h.blk;obtain ⟨cur, fz, h5⟩ := hrow B e.symm;rw [h.blk] at h5;injection h5 with h5;injection h5 with _ h5 _;exact absurd h5 (by decide)
  have hg := grown_setO w4 B 1 v';have hr : ∀ r, some B = some r → ∃ cur fz, w4.heap[r]? = some (.cells cur 278 fz) := by
    intro r e; injection e with e; subst e; exact ⟨_, _, hblk⟩
  have hex : ∀ (R : Nat) (c : Array Value) (fz : Nat × Nat), w.heap[R]? = some (.cells c 209 fz) → pv.ownBlock ≠ some R → (w4.setCell ⟨B, 1, none⟩ v').heap[R]? = some (.cells c 209 fz) := by
    intro R c fz h5 h6;have h7 := h.ex R c fz h5;have h8 := (h3.block R (Array.getElem?_eq_some_iff.1 h7).1 (fun e => h6 e.symm)).trans h7;refine (hg.block R (Array.getElem?_eq_some_iff.1 h8).1 (fun e => ?_)).trans h8;injection e with e;subst e;rw [hblk] at h8;injection h8 with h8;injection h8 with _ h8 _;exact absurd h8 (by decide)
  refine ⟨v', w4, h1, hdis, h3, hblk, ⟨heap_setCell_same _ B 1 _ _ _ hblk, own_other (own_other h.txt h3 hrow (by decide)) hg hr (by decide), ?_, ?_, h.ism, h.gat, h.lo, by have := h.ghi; have := h3.size; have := hg.size; omega, (h.keep.trans (.grown h3 hb (fun r e => ?_))).trans (.grown hg (by have := h3.size; omega) (fun r e => ?_))⟩, hex⟩
  · rw [plV_snoc];exact own_other h2 hg hr (by decide)
  · exact grp_other (grp_other h.grp h3 (fun r e => by obtain ⟨cur, fz, h5⟩ := hrow r e; exact ⟨_, _, _, h5, by decide⟩)) hg (fun r e => by obtain ⟨cur, fz, h5⟩ := hr r e; exact ⟨_, _, _, h5, by decide⟩)
  · obtain ⟨cur, fz, h5⟩ := hrow r e;refine ⟨.inl (h.pls.lt r e).1, fun c t fz' h6 => ?_⟩;rw [h5] at h6;injection h6 with h6;injection h6 with _ h6 _;exact .inr (.inl h6.symm)
  · obtain ⟨cur, fz, h5⟩ := hr r e;injection e with e;refine ⟨.inr e.symm, fun c t fz' h6 => ?_⟩;rw [h5] at h6;injection h6 with h6;injection h6 with _ h6 _;exact .inr (.inr (.inr h6.symm))
theorem text_step {w wx : World} {base B : Nat} {cs : List Bs} {s : Bs} {tv pv : Value} {M gb : Nat} {D : DataW Unit} (ty : TypeId) (h : PQ w wx base B cs s tv pv M gb D) (hB : B < base) (hb : base ≤ wx.heap.size) (hl : cs.flatten.length ≤ 800000) (hs : s.length ≤ 65536) :
    ∃ tv' w4, (Builtin.append_ #[49, 9] ty #[tv, .string ⟨s.toArray⟩]).run Tryz.prog wx = .ok tv' w4 ∧ wx.grownBy w4 tv.ownBlock ∧ w4.heap[B]? = some (.cells #[tv, pv, .map (some M)] 278 (0, 0)) ∧
      PoolW (w4.setCell ⟨B, 0, none⟩ tv') base B (cs ++ [s]) ∧ PKeep base B w (w4.setCell ⟨B, 0, none⟩ tv') ∧ (∀ (R : Nat) (c : Array Value) (fz : Nat × Nat), wx.heap[R]? = some (.cells c 209 fz) → (w4.setCell ⟨B, 0, none⟩ tv').heap[R]? = some (.cells c 209 fz)) := by
  obtain ⟨i0, hi0, hz0, hz1, hz2⟩ := info_parts infoU8p;have hsz : (ByteArray.mk s.toArray).size = s.length := by simp [ByteArray.size]
  obtain ⟨v', w4, h1, h2, h3, _⟩ := Lib.run_append_own_string (P := Tryz.prog) wx base 49 9 ty 5 i0 Tryz.underlying49 Tryz.underlying9 hi0 hz0 hz1 hz2 tv cs.flatten.length _ h.txt ⟨s.toArray⟩ (by rw [hsz]; unfold maxLen; omega) (by rw [hsz]; omega) hb;rw [hsz] at h2;have hrow := own_row h.txt;have hblk : w4.heap[B]? = some (.cells #[tv, pv, .map (some M)] 278 (0, 0)) := by
    refine (h3.block B (by omega) (fun e => ?_)).trans h.blk;obtain ⟨cur, fz, h5⟩ := hrow B e.symm;rw [h.blk] at h5;injection h5 with h5;injection h5 with _ h5 _;exact absurd h5 (by decide)
  have hg := grown_setO w4 B 0 v';have hr : ∀ r, some B = some r → ∃ cur fz, w4.heap[r]? = some (.cells cur 278 fz) := by
    intro r e; injection e with e; subst e; exact ⟨_, _, hblk⟩
  have hsz3 := h3.size;have hszg := hg.size;have hflat : (cs ++ [s]).flatten = cs.flatten ++ s := by simp
  have hex : ∀ (R : Nat) (c : Array Value) (fz : Nat × Nat), wx.heap[R]? = some (.cells c 209 fz) → (w4.setCell ⟨B, 0, none⟩ v').heap[R]? = some (.cells c 209 fz) := by
    intro R c fz h7;have h8 : w4.heap[R]? = some (.cells c 209 fz) := by
      refine (h3.block R (Array.getElem?_eq_some_iff.1 h7).1 (fun e => ?_)).trans h7;obtain ⟨cur, fz2, h9⟩ := hrow R e.symm;rw [h7] at h9;injection h9 with h9;injection h9 with _ h9 _;exact absurd h9 (by decide)
    refine (hg.block R (Array.getElem?_eq_some_iff.1 h8).1 (fun e => ?_)).trans h8;injection e with e;subst e;rw [hblk] at h8;injection h8 with h8;injection h8 with _ h8 _;exact absurd h8 (by decide)
  refine ⟨v', w4, h1, h3, hblk, ⟨v', pv, .map (some M), heap_setCell_same _ B 0 _ _ _ hblk, ?_, ?_, .inr ⟨M, gb, D, rfl, ⟨h.lo, by have := h.ghi; omega⟩, ?_, h.ism, h.gat⟩, hB, by omega⟩, (h.keep.trans (.grown h3 hb (fun r e => ?_))).trans (.grown hg (by omega) (fun r e => ?_)), hex⟩
  · rw [hflat, List.length_append, byV_app];exact own_other h2 hg hr (by decide)
  · rw [List.length_append];exact own_other (own_other h.pls h3 hrow (by decide)) hg hr (by decide)
  · rw [List.length_append];exact grp_other (grp_other h.grp h3 (fun r e => by obtain ⟨cur, fz, h5⟩ := hrow r e; exact ⟨_, _, _, h5, by decide⟩)) hg (fun r e => by obtain ⟨cur, fz, h5⟩ := hr r e; exact ⟨_, _, _, h5, by decide⟩)
  · obtain ⟨cur, fz, h5⟩ := hrow r e;refine ⟨.inl (h.txt.lt r e).1, fun c t fz' h6 => ?_⟩;rw [h5] at h6;injection h6 with h6;injection h6 with _ h6 _;exact .inl h6.symm
  · obtain ⟨cur, fz, h5⟩ := hr r e;injection e with e;refine ⟨.inr e.symm, fun c t fz' h6 => ?_⟩;rw [h5] at h6;injection h6 with h6;injection h6 with _ h6 _;exact .inr (.inr (.inr h6.symm))
/-- two stores into the result's block leave the pool as it is -/
theorem pool_ret {w : World} {base B R : Nat} {cs : List Bs} {a0 a1 x y : Value} {tv pv mv : Value} (hR : w.heap[R]? = some (.cells #[a0, a1] 209 (0, 0))) (h1 : w.heap[B]? = some (.cells #[tv, pv, mv] 278 (0, 0))) (h2 : w.ownsRow base 5 1 tv cs.flatten.length (byV cs.flatten)) (h3 : w.ownsRow base 209 2 pv cs.length (plV cs)) (h4 : MapP w base mv cs) (h5 : B < base) (h6 : base ≤ R) (h7 : pv.ownBlock ≠ some R) :
    PoolW ((w.setCell ⟨R, 0, none⟩ x).setCell ⟨R, 1, none⟩ y) base B cs ∧ PKeep base B w ((w.setCell ⟨R, 0, none⟩ x).setCell ⟨R, 1, none⟩ y) ∧ ((w.setCell ⟨R, 0, none⟩ x).setCell ⟨R, 1, none⟩ y).heap[B]? = w.heap[B]? ∧ (∀ j, j < w.heap.size → j ≠ R → ((w.setCell ⟨R, 0, none⟩ x).setCell ⟨R, 1, none⟩ y).heap[j]? = w.heap[j]?) := by
  have hRl := (Array.getElem?_eq_some_iff.1 hR).1;have hg1 := grown_setO w R 0 x;have hg2 := grown_setO (w.setCell ⟨R, 0, none⟩ x) R 1 y;have hg : w.grownBy ((w.setCell ⟨R, 0, none⟩ x).setCell ⟨R, 1, none⟩ y) (some R) := ⟨rfl, rfl, rfl, by simp, fun j hj hne => (hg2.block j (by simp; exact hj) hne).trans (hg1.block j hj hne)⟩;have hr : ∀ r, some R = some r → ∃ cur fz, w.heap[r]? = some (.cells cur 209 fz) := by
    intro r e; injection e with e; subst e; exact ⟨_, _, hR⟩
  refine ⟨⟨tv, pv, mv, (hg.block B (Array.getElem?_eq_some_iff.1 h1).1 (by intro e; injection e with e; omega)).trans h1, own_other h2 hg hr (by decide), h3.kept hg (.inr h7), h4.other hg (fun r e => by obtain ⟨cur, fz, h⟩ := hr r e; exact ⟨_, _, _, h, by decide⟩), h5, by have := hg.size; omega⟩, .grown hg (by omega) (fun r e => ?_), hg.block B (Array.getElem?_eq_some_iff.1 h1).1 (by intro e; injection e with e; omega), fun j hj hne => hg.block j hj (by intro e; injection e with e; exact hne e)⟩;injection e with e;subst e;refine ⟨.inl h6, fun c t fz h => ?_⟩;rw [hR] at h;injection h with h;injection h with _ h _;exact .inr (.inl h.symm)
/-- another block of the places' type that the pool does not hold -/
def FreeC (w : World) (B R : Nat) (c : Array Value) (fz : Nat × Nat) : Prop := w.heap[R]? = some (.cells c 209 fz) ∧ ∀ tv pv mv : Value, w.heap[B]? = some (.cells #[tv, pv, mv] 278 (0, 0)) → pv.ownBlock ≠ some R
def PutE (w : World) (base B : Nat) (cs : List Bs) (s : Bs) (en : Ending) (w' : World) : Prop := en = .returned (.agg #[.int .u64 (cs.flatten.length : Int), .int .u32 (s.length : Int)]) ∧ PoolW w' base B (cs ++ [s]) ∧ PKeep base B w w' ∧ ∀ R c fz, FreeC w B R c fz → FreeC w' B R c fz
end Go.Proofs.YtbfieomjobbhoaaGreatDoor
