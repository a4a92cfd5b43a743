/- The pool's map: what it holds, and that it is kept. -/
import Derived.Test.YtjhgaildbeokkaaGreatDoorGT29
import Derived.Test.YtjhgaildbeokkaaGreatDoorGT07
import Derived.Maps.GroupsBeside
namespace Go.Proofs.YtjhgaildbeokkaaGreatDoor
open Go.RowKit Go.Gz Go.Shelf Go.Maps Go.ChangeShapes Go.WideElems
open Go.ChangeMaps (setBlock)

set_option maxRecDepth 100000
theorem lawU : Keyed Tryz.prog 40 := int_keyed Tryz.underlying40
theorem zeroS (w : World) : (zeroValue 385).run Tryz.prog w = .ok (.slice none 0 0) w := by
  have h : (Tryz.prog.info? 385).map (fun i => (i.zero, i.size, i.bytes)) = some (some (.slice none 0 0), 1, 24) := by kernel_rfl
  obtain ⟨i, h1, h2, _, _⟩ := info_parts h;simp [zeroValue, typeInfo, h1, h2]
def ixV (l : List Nat) : List Value := l.map fun (k : Nat) => Value.int .i64 (k : Int)
def GrpAt (D : DataW Unit) (h : Nat) (l : List Nat) : Prop := (D.atKey (.int .u64 h) .nil = .nil ∧ l = []) ∨ D.atKey (.int .u64 h) .nil = .slice (lits .i64 (l.map Int.ofNat)) []
def MapP (w : World) (base : Nat) (mv : Value) (cs : List Bs) : Prop :=
  (mv = .map none ∧ cs = []) ∨ ∃ M gb D, mv = .map (some M) ∧ (base ≤ M ∧ gb ≤ w.heap.size) ∧ w.ownsGroups (H := Unit) Tryz.prog 40 gb 3 .i64 M cs.length D ∧ IsMap D ∧ ∀ h, h < 18446744073709551616 → GrpAt D h (hitL cs h)
theorem grp_other {w w' : World} {gb M n : Nat} {D : DataW Unit} {row : Option Nat} (h : w.ownsGroups (H := Unit) Tryz.prog 40 gb 3 .i64 M n D) (hg : w.grownBy w' row) (hr : ∀ r, row = some r → ∃ cur t fz, w.heap[r]? = some (.cells cur t fz) ∧ t ≠ 3) : w'.ownsGroups (H := Unit) Tryz.prog 40 gb 3 .i64 M n D := by
  have h0 := h;obtain ⟨es, clock, hb, F, _⟩ := h0;refine h.kept hg ?_ ?_
  · intro e;obtain ⟨cur, t, fz, h1, _⟩ := hr M e.symm;rw [hb] at h1;cases h1
  · intro es' clock' hb' x hx;rw [hb] at hb';injection hb' with hb';injection hb' with e1 e2;subst e1 e2;obtain ⟨y, hy⟩ := F.reads x hx;obtain ⟨z, hz, _⟩ := rd_val hy;obtain ⟨zs, hoi, _⟩ := rowElem_inv hz;cases hx' : x.val.ownBlock with
    | none => exact Or.inl rfl
    | some g =>
      refine Or.inr (fun e1 => ?_);obtain ⟨cur, t, fz, h1, h2⟩ := hr g e1.symm;obtain ⟨cur', fz', h3⟩ := own_row hoi.1 g hx';rw [h1] at h3;injection h3 with h3;injection h3 with _ h3 _;exact h2 h3
theorem MapP.other {w w' : World} {base : Nat} {mv : Value} {cs : List Bs} {row : Option Nat} (h : MapP w base mv cs) (hg : w.grownBy w' row) (hr : ∀ r, row = some r → ∃ cur t fz, w.heap[r]? = some (.cells cur t fz) ∧ t ≠ 3) : MapP w' base mv cs := by
  rcases h with h | ⟨M, gb, D, h1, h2, h3, h4⟩
  · exact .inl h
  · exact .inr ⟨M, gb, D, h1, ⟨h2.1, Nat.le_trans h2.2 hg.size⟩, grp_other h3 hg hr, h4⟩
theorem MapP.up {w w' : World} {base : Nat} {mv : Value} {cs : List Bs} (h : MapP w base mv cs) (hu : Up w w') : MapP w' base mv cs :=
  h.other (row := none) ⟨hu.os, hu.tape, hu.output, hu.size, fun j hj _ => hu.block hj⟩ (fun r hr => by cases hr)
theorem zs_of {w : World} {gb : Nat} {v : Value} {zs : List Int} {D : DataW Unit} {h : Nat} {l : List Nat} (hat : D.atKey (.int .u64 h) .nil = rowDatum .i64 v zs) (ho : w.ownsInts gb 3 .i64 v zs) (hG : GrpAt D h l) : zs = l.map Int.ofNat := by
  have hinj : ∀ a b : List Int, (lits .i64 a : List (DataW Unit)) = lits .i64 b → a = b := by
    intro a b hab;exact (List.map_inj_right (fun x y hxy => by cases hxy; rfl)).1 hab
  rcases hG with ⟨h1, rfl⟩ | h1
  · rw [h1] at hat
    rcases ho.datum (H := Unit) with ⟨_, h2⟩ | h2
    · exact h2
    · rw [h2] at hat; cases hat
  · rw [h1] at hat
    rcases ho.datum (H := Unit) with ⟨h3, h2⟩ | h2
    · rw [h3] at hat; cases hat
    · rw [h2] at hat
      injection hat with hat
      exact (hinj _ _ hat).symm
theorem hit_nil (h : Nat) : hitL [] h = [] := rfl
theorem MapP.look {w : World} {base : Nat} {mv : Value} {cs : List Bs} (hm : MapP w base mv cs) (hl : cs.length ≤ 100000) (h : Nat) (hh : h < 18446744073709551616) :
    ∃ A c, (Instr.lookup 301 mv (.int .u64 h) false).run Tryz.prog w = .ok (.slice A (hitL cs h).length c) w ∧ Rd w 1 A (hitL cs h).length c (ixV (hitL cs h)) := by
  have hw : (Lit.int .u64 h).wf = true := by
    simp [Lit.wf, IntKind.min, IntKind.max, IntKind.bits, IntKind.signed]; omega
  rcases hm with ⟨rfl, rfl⟩ | ⟨M, gb, D, rfl, h2, h3, h4, h5⟩
  · refine ⟨none, 0, ?_, Rd.nil_ w 1⟩;have hz := zeroS w;have hc := lawU.check w true (v := .int .u64 h) (keyOf_int_mk Tryz.underlying40 hw);have hf : (Instr.findKey 40 (.int .u64 h) []).run Tryz.prog w = .ok none w := rfl;rw [hit_nil];simp [Instr.lookup, go_sem, hc, hf, hz]
  · obtain ⟨v, zs, h6, h7, h8, _⟩ := h3.at lawU Tryz.underlying301 (zeroS w) (by unfold maxLen; omega) (keyOf_int_mk Tryz.underlying40 hw);have hz := zs_of h7 h8 (h5 h hh);subst hz;obtain ⟨A, c, rfl, hr⟩ := Rd.of_own h8.1;rw [List.length_map] at h6 hr;refine ⟨A, c, h6, ?_⟩;unfold ixV;rw [List.map_map] at hr;exact hr
end Go.Proofs.YtjhgaildbeokkaaGreatDoor
/- 'p.buckets[sum] = append(p.buckets[sum], n)': the append and the store, at any world that has grown by new blocks since the look-up. -/
namespace Go.Proofs.YtjhgaildbeokkaaGreatDoor
open Go.RowKit Go.Gz Go.Shelf Go.Maps Go.ChangeShapes

set_option maxRecDepth 100000
/-- an append whose run is known, in a drawn region -/
theorem step_append_run {P : Program} {w w' : World} {ops : Array Oper} {o : Oper} {a : Act} {K : Act → World → Prop} {Q : Exit → Act → World → Prop} {E : Prop} (hgd : o.guard = none) (s x : Operand) (t : TypeId)
    (ho : o.op = .call { callee := .builtin .append, args := #[s, x], argTypes := #[t, t] }) {vs vx v' : Value} (hs : a.eval s = vs) (hx : a.eval x = vx)
    (hr : (Builtin.append_ #[t, t] o.type #[vs, vx]).run P w = .ok v' w') (h : K (a.put o.dst v') w') :
    if Region.wanted o (yielded ops a.tmps) = true then Oper.wp P o a w K Q else E := by
  have hw : Region.wanted o (yielded ops a.tmps) = true := by simp [Region.wanted, hgd]
  rw [if_pos hw];unfold Oper.wp execOp;simp only [ho, resolve, invoke, builtin, Sem.run_bind, Sem.run_pure, Result.andThen_ok, List.map_toArray, List.map_cons, List.map_nil, hs, hx, hr];exact h
/-- .. and in a plain walk -/
theorem wpList_append_run {P : Program} {w w' : World} {ops : Array Oper} {rest : List Oper} {o : Oper} {a : Act} {Q : Exit → Act → World → Prop} (hgd : o.guard = none) (s x : Operand) (t u : TypeId)
    (ho : o.op = .call { callee := .builtin .append, args := #[s, x], argTypes := #[t, u] }) {vs vx v' : Value} (hs : a.eval s = vs) (hx : a.eval x = vx)
    (hr : (Builtin.append_ #[t, u] o.type #[vs, vx]).run P w = .ok v' w') (h : wpList P ops Q rest (a.put o.dst v') w') : wpList P ops Q (o :: rest) a w := by
  refine wpList_plain hgd fun K hK => ?_;unfold Oper.wp execOp;simp only [ho, resolve, invoke, builtin, Sem.run_bind, Sem.run_pure, Result.andThen_ok, List.map_toArray, List.map_cons, List.map_nil, hs, hx, hr];exact hK _ _ h
theorem infoI64 : (Tryz.prog.info? 3).map (fun i => (i.zero, i.size, i.bytes)) = some (some (.int .i64 0), 1, 8) := by kernel_rfl
theorem push_grp {w0 wx : World} {gb M n sm X : Nat} {D : DataW Unit} {v : Value} {zs : List Int} (ty : TypeId)
    (hback : w0.groupBack Tryz.prog 301 40 gb 3 .i64 M n D (.int .u64 sm) (.int .u64 sm) v)
    (hoi : w0.ownsInts gb 3 .i64 v zs) (hzl : zs.length ≤ n) (hn : n ≤ 90000) (hgb : gb ≤ w0.heap.size) (hgx : w0.grownBy wx none)
    (hX : wx.heap[X]? = some (.cells #[.int .i64 n] 3 (0, 0))) :
    ∃ v' w' w2, (Builtin.append_ #[385, 385] ty #[v, .slice (some ⟨X, 0, none⟩) 1 1]).run Tryz.prog wx = .ok v' w' ∧ (Instr.mapUpdate 301 (.map (some M)) (.int .u64 sm) v').run Tryz.prog w' = .ok () w2 ∧
      w2.ownsGroups (H := Unit) Tryz.prog 40 gb 3 .i64 M (n + 1) (D.put (.int .u64 sm) (rowDatum .i64 v' (zs ++ [(n : Int)]))) ∧ w'.ownsInts gb 3 .i64 v' (zs ++ [(n : Int)]) ∧
      wx.grownBy w' v.ownBlock ∧ w'.grownBy w2 (some M) ∧ ∀ r, v.ownBlock = some r → gb ≤ r ∧ ∃ cur fz, wx.heap[r]? = some (.cells cur 3 fz) := by
  obtain ⟨i0, hi0, hz0, hz1, hz2⟩ := info_parts infoI64;have hox := hoi.kept hgx (by cases v.ownBlock <;> simp);have hsz := hgx.size;have hcell : ∀ j u, [Value.int .i64 (n : Int)][j]? = some u → wx.cell? ((⟨X, 0, none⟩ : Addr).add j) = some u := by
    intro j u hu;have hadd : (⟨X, 0, none⟩ : Addr).add j = ⟨X, j, none⟩ := by unfold Addr.add; split <;> simp_all
    rw [hadd, cell_of_row _ X j _ _ (0, 0) hX];simpa using hu
  obtain ⟨v', w', h1, h2, h3, _, h5⟩ := run_append_own_at (P := Tryz.prog) wx gb 385 ty 3 i0 _ 1 8 Tryz.underlying385 hi0 hz0 hz1 hz2 rfl (by decide) v zs.length _ hox.1 ⟨X, 0, none⟩ 1 1 [.int .i64 (n : Int)] rfl hcell (by simp [Value.oneCell']) (by unfold maxLen; omega) (by omega) (by omega);have ho' : w'.ownsInts gb 3 .i64 v' (zs ++ [(n : Int)]) := hox.appended h2 (by simp [Lit.wf, IntKind.min, IntKind.max, IntKind.bits, IntKind.signed]; omega);have hgo : w0.grownBy w' v.ownBlock := ⟨h3.os.trans hgx.os, h3.tape.trans hgx.tape, h3.output.trans hgx.output, Nat.le_trans hsz h3.size, fun j hj hne => (h3.block j (by omega) hne).trans (hgx.block j hj (by simp))⟩
  obtain ⟨w2, k1, k2, k3⟩ := hback w' v' _ hgo ho' (by simp; omega) (by
    rcases h5 with h5 | h5
    · exact .inl h5
    · exact .inr ⟨_, h5, hsz⟩)
  exact ⟨v', w', w2, h1, k1, k2, ho', h3, k3, fun r hr => ⟨(hox.1.lt r hr).1, own_row hox.1 r hr⟩⟩
/-- the map's groups, one content more -/
theorem gat_put {D : DataW Unit} {cs : List Bs} {s : Bs} {w : World} {gb : Nat} {v' : Value} (hD : IsMap D) (hG : ∀ h, h < 18446744073709551616 → GrpAt D h (hitL cs h)) (ho : w.ownsInts gb 3 .i64 v' ((hitL cs (fnvV s)).map Int.ofNat ++ [(cs.length : Int)])) :
    ∀ h, h < 18446744073709551616 → GrpAt (D.put (.int .u64 (fnvV s : Int)) (rowDatum .i64 v' ((hitL cs (fnvV s)).map Int.ofNat ++ [(cs.length : Int)]))) h (hitL (cs ++ [s]) h) := by
  intro h hh;by_cases e : fnvV s = h
  · subst e;right;rw [atKey_put_same hD (by trivial), ho.datum_pos (by simp), hit_snoc, if_pos rfl, List.map_append];rfl
  · rw [hit_snoc, if_neg e, List.append_nil];have hne : (Lit.int .u64 (h : Int)) ≠ (Lit.int .u64 (fnvV s : Int)) := by
      intro e2;injection e2 with _ e2;exact e (by omega)
    unfold GrpAt;rw [atKey_put_other hne];exact hG h hh
end Go.Proofs.YtjhgaildbeokkaaGreatDoor
