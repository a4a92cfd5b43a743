/- Walks: merge.wrong, merge.Back of a row that may be. -/
import Derived.Test.YtbfieomjobbhoaaGreatDoorMN25
import Derived.Test.YtbfieomjobbhoaaGreatDoorMN27
import Derived.Test.YtbfieomjobbhoaaGreatDoorMN10
namespace Go.Proofs.YtbfieomjobbhoaaGreatDoor
open Go.RowKit Go.Gz Go.Shelf

set_option maxRecDepth 100000
set_option maxHeartbeats 4000000 in
theorem wrongR_any (x : Ent) (hc : chkE x = 0) (many : Nat) (data : Bs) (hs : data.length ≤ 1000000000) (w : World) :
    Calls Tryz.prog 71 #[.agg #[.int .u64 (x.id : Int), .int .u64 (x.off : Int), .int .u32 (x.len : Int), .int .u32 (x.run : Int)], .int .u64 (many : Int), .string ⟨data.toArray⟩] w fun e w' => e = .returned (.int .i64 (wrongR x many data)) ∧ Up w w' := by
  obtain ⟨k1, k2, k3⟩ := chk_ok hc;obtain ⟨q, hq⟩ : ∃ q, x.off + x.len = q := ⟨_, rfl⟩;have e1 : IntKind.u64.wrap (x.len : Int) = (x.len : Int) := IntWalk.u64_in _ (by omega);have e2 : IntKind.u64.wrap ((x.off : Int) + (x.len : Int)) = (q : Int) := by rw [IntWalk.u64_in _ (by omega)]; omega
  have e3 : IntKind.u64.wrap (data.length : Int) = (data.length : Int) := IntWalk.u64_in _ (by omega);obtain ⟨nu, d0, d1, d2, d3⟩ := new4 w 84 (.int .u64 (x.id : Int)) (.int .u64 (x.off : Int)) (.int .u32 (x.len : Int)) (.int .u32 (x.run : Int));have HU := Lib.hid nu;obtain ⟨W, hW⟩ : ∃ W, wrongR x many data = W := ⟨_, rfl⟩;rw [hW];unfold wrongR at hW;rw [hq] at hW;clear nu hc k1 k2 k3 hq;go_enter Tryz.func71, Tryz.ntmps71;by_cases hr : x.run = 0
  · rw [if_pos hr] at hW;subst hW;have r0 : ((x.run : Int) == 0) = true := by rw [beq_iff_eq]; omega
    clear hr;go_wp2_with fail;go_ret;exact ⟨rfl, HU.out⟩
  · rw [if_neg hr] at hW;have r0 : ((x.run : Int) == 0) = false := by rw [beq_eq_false_iff_ne]; omega
    by_cases h1 : data.length < q
    · rw [if_pos h1] at hW;subst hW;have t1 : (data.length : Int) < (q : Int) := by omega
      go_wp2_with fail;go_ret;exact ⟨rfl, HU.out⟩
    · rw [if_neg h1] at hW;have t1 : ¬ (data.length : Int) < (q : Int) := by omega
      by_cases h2 : 2048 < many
      · rw [if_pos h2] at hW;subst hW;have t2 : (2048 : Int) < (many : Int) := by omega
        go_wp2_with fail;go_ret;exact ⟨rfl, HU.out⟩
      · rw [if_neg h2] at hW;have t2 : ¬ (2048 : Int) < (many : Int) := by omega
        by_cases h3 : 65536 < x.len
        · rw [if_pos h3] at hW;subst hW;have t3 : (65536 : Int) < (x.len : Int) := by omega
          go_wp2_with fail;go_ret;exact ⟨rfl, HU.out⟩
        · rw [if_neg h3] at hW;subst hW;have t3 : ¬ (65536 : Int) < (x.len : Int) := by omega
          go_wp2_with fail;go_ret;exact ⟨rfl, HU.out⟩
theorem blk_keep {w w' : World} {base size n : Nat} {e e' : TypeId} {v : Value} {xs : List Value} (h : w.ownsRow base e size v n xs) (hg : w.grownBy w' v.ownBlock) {g : Nat} {cs : Array Value} {fz : Nat × Nat} (hb : w.heap[g]? = some (.cells cs e' fz)) (hne : e' ≠ e) : w'.heap[g]? = some (.cells cs e' fz) := by
  refine (hg.block g (Array.getElem?_eq_some_iff.1 hb).1 ?_).trans hb;intro e2;obtain ⟨cur, fz2, h2⟩ := own_row h g e2.symm;rw [hb] at h2;injection h2 with h2;injection h2 with _ h2;exact hne h2
/-- a chart, or why there is none -/
def ChartE (w : World) (r : Int × Items) (e : Ending) (w' : World) : Prop := ∃ v : Value, e = .returned (.tuple #[.agg #[v], .int .i64 r.1]) ∧ Up w w' ∧ (r.1 = 0 → ∃ A c, v = .slice A r.2.length c ∧ Rd w' 2 A r.2.length c (itV r.2)) ∧ (r.1 ≠ 0 → v = .slice none 0 0)
def ChartG (fr : Bool) (w : World) (r : Int × Items) (e : Ending) (w' : World) : Prop := ∃ v : Value, e = .returned (.tuple #[.agg #[v], .int .i64 r.1]) ∧ Up w w' ∧ (r.1 = 0 → ∃ A c, v = .slice A r.2.length c ∧ Rd w' 2 A r.2.length c (itV r.2) ∧ (fr = true → Fresh w A)) ∧ (r.1 ≠ 0 → v = .slice none 0 0)
theorem chartE_of {fr : Bool} {w : World} {r : Int × Items} {e : Ending} {w' : World} (h : ChartG fr w r e w') : ChartE w r e w' := by
  obtain ⟨v, h1, h2, h3, h4⟩ := h;exact ⟨v, h1, h2, fun g => let ⟨A, c, a, b, _⟩ := h3 g; ⟨A, c, a, b⟩, h4⟩
theorem chartG_of {w : World} {r : Int × Items} {e : Ending} {w' : World} (h : ChartE w r e w') : ChartG false w r e w' := by
  obtain ⟨v, h1, h2, h3, h4⟩ := h;exact ⟨v, h1, h2, fun g => let ⟨A, c, a, b⟩ := h3 g; ⟨A, c, a, b, fun h => by cases h⟩, h4⟩
def BkR (w : World) (l : Ents) (data : Bs) (G : Int × Items) (gk : Nat) (mv v i : Value) (wr : World) : Prop := ∃ (k many : Nat) (out : Items), k + gk = l.length ∧ i = .int .i64 (k : Int) ∧ mv = .int .u64 (many : Int) ∧ many ≤ 2048 ∧ out.length = many ∧ wr.ownsRow (w.heap.size + 1) 54 2 v out.length (itV out) ∧ backGo data (l.drop k) many out = G ∧
  Up w wr ∧ w.heap.size + 1 ≤ wr.heap.size ∧ wr.heap[w.heap.size]? = some (.cells #[.slice none 0 0] 33 (0, 0))
def BkI (w wq : World) (q : Nat) (x : Ent) (data : Bs) (out : Items) (gj : Nat) (v i : Value) (wr : World) : Prop := ∃ (j : Nat), wr.heap[q]? = some (.cells #[.int .u64 (x.id : Int), .int .u64 (x.off : Int), .int .u32 (x.len : Int), .int .u32 (x.run : Int)] 84 (0, 0)) ∧ j + gj = x.run ∧ i = .int .u32 (j : Int) ∧ wr.ownsRow (w.heap.size + 1) 54 2 v (out.length + j) (itV (out ++ runI x data j)) ∧ Below (w.heap.size + 1) wq wr
set_option maxHeartbeats 8000000 in
theorem back_fr (l : Ents) (hok : ∀ e ∈ l, okE e) (hrow : rowE l = 0) (data : Bs) (hs : data.length ≤ 1000000000) (hT : (backE l data).1 = 0 → (backE l data).2.length ≤ 2048) (A : Option Addr) (c : Nat) (w : World) (hr : Rd w 4 A l.length c (entV l)) :
    Calls Tryz.prog 30 #[.slice A l.length c, .string ⟨data.toArray⟩] w (ChartG true w (backE l data)) := by
  have hll := row_len hrow;have hchk : ∀ x ∈ l, chkE x = 0 := fun x hx => row_chk hrow hx;have RW := fun w hr => Lib.hid (row_any l hok (by omega) A c w hr);rw [hrow] at RW;obtain ⟨i0, hi0, hz0, hz1, hz2⟩ := info_parts infoCI;have hBO := @backE_ok l data;have hEG := @expand_good l data hrow;obtain ⟨D, hD⟩ : ∃ D, backE l data = D := ⟨_, rfl⟩;rw [hD] at hT hBO ⊢;unfold backE at hD;rw [if_neg (by omega)] at hD;have HR := Lib.hid hr;have n1 := new1 w 33 (.slice none 0 0);have HU0 := Lib.hid n1.1;have HB0 := Lib.hid n1.2.2;clear hr hrow n1;go_enter Tryz.func30, Tryz.ntmps30;go_wp2_with fail;with_reducible refine (RW _ (HR.out.up HU0.out)).out.mono ?_
  rintro e w1 ⟨rfl, hu1⟩;have HU1 := Lib.hid (HU0.out.trans hu1);have HB1 := Lib.hid (hu1.obj HB0.out);have hsz1 : w.heap.size + 1 ≤ w1.heap.size := by have := hu1.le; rw [World.size_alloc] at this; exact this
  clear hu1 RW HU0 HB0;go_wp2_with fail;go_loopg [7, 8, 22] l.length (fun gk mv v i wr => BkR w l data D gk mv v i wr)
  case atStart => exact ⟨0, 0, [], by omega, rfl, rfl, by omega, rfl, by simpa [itV] using World.ownsRow_nil _ _ _ _, by rw [List.drop_zero]; exact hD, HU1.out, hsz1, HB1.out⟩
  case round =>
    obtain ⟨k, many, out, hk, rfl, rfl, hmany, hol, ho, hgo, hu, hsz, hblk⟩ := hrel;have HO := Lib.hid ho;have HU := Lib.hid hu;have HBK := Lib.hid hblk;clear ho hblk hD;by_cases hlt : k < l.length
    · obtain ⟨m, rfl⟩ : ∃ x, gk = x + 1 := ⟨gk - 1, by omega⟩;obtain ⟨b, o, rfl, d0, d1, d2, d3⟩ := (HR.out.up hu).ent hlt;have hmem := List.getElem_mem hlt;have hc := hchk _ hmem;have hxo := hok _ hmem;rw [List.drop_eq_getElem_cons hlt] at hgo;obtain ⟨x, hx⟩ : ∃ x, l[k] = x := ⟨_, rfl⟩;rw [hx] at d0 d1 d2 d3 hc hgo hxo;obtain ⟨k1, k2, k3⟩ := chk_ok hc;obtain ⟨hx1, hx2, hx3, hx4⟩ := hxo;have WR := fun w => Lib.hid (wrongR_any x hc (many + x.run) data hs w);have kI : (k : Int) < (l.length : Int) := by omega
      have e1 : IntKind.u64.wrap (x.run : Int) = (x.run : Int) := IntWalk.u64_in _ (by omega);have e2 : IntKind.u64.wrap ((many : Int) + (x.run : Int)) = ((many + x.run : Nat) : Int) := by rw [IntWalk.u64_in _ (by omega)]; omega
      obtain ⟨mr, hmr⟩ : ∃ y, many + x.run = y := ⟨_, rfl⟩;unfold backGo at hgo;rw [hmr] at e2 WR hgo;obtain ⟨nu, z0, z1, z2, z3⟩ := new4 wr 84 (.int .u64 (x.id : Int)) (.int .u64 (x.off : Int)) (.int .u32 (x.len : Int)) (.int .u32 (x.run : Int));have NU := Lib.hid nu;obtain ⟨E, hE⟩ : ∃ E, wrongR x mr data = E := ⟨_, rfl⟩;rw [hE] at WR hgo;clear nu hx hmem hu;go_wp2_with fail;refine (WR _).out.mono ?_;rintro e w2 ⟨rfl, hu2⟩;replace z0 := hu2.cell z0;replace z1 := hu2.cell z1;replace z2 := hu2.cell z2;replace z3 := hu2.cell z3;have hun := NU.out.trans hu2;have O2 := Lib.hid (own_up HO.out hun);have HU2 := Lib.hid (HU.out.trans hun);have HBK2 := Lib.hid (hun.obj HBK.out);have EQ2 := hu2.obj (heap_alloc_new wr (.cells #[.int .u64 (x.id : Int), .int .u64 (x.off : Int), .int .u32 (x.len : Int), .int .u32 (x.run : Int)] 84));have hsz2 : w.heap.size + 1 ≤ w2.heap.size := Nat.le_trans hsz hun.le;clear HO HU NU hu2 hun HBK d0 d1 d2 d3 WR;by_cases hE0 : E = 0
      · rw [if_neg (by omega)] at hgo;subst hE0;obtain ⟨w1', w2', w3', w4'⟩ := wrongR_ok hE;have x0 := part_mk data x.off x.len (x.off + x.len) rfl;unfold Gz.part at x0;obtain ⟨q, hq⟩ : ∃ q, x.off + x.len = q := ⟨_, rfl⟩;rw [hq] at x0;have e3 : IntKind.u64.wrap (x.len : Int) = (x.len : Int) := IntWalk.u64_in _ (by omega);have e4 : IntKind.u64.wrap ((x.off : Int) + (x.len : Int)) = (q : Int) := by rw [IntWalk.u64_in _ (by omega)]; omega
        have b1 : (x.off : Int) ≤ (q : Int) := by omega
        have b2 : (q : Int) ≤ (data.length : Int) := by omega
        have hri : ∀ j, runI x data (j + 1) = runI x data j ++ [(x.id + j, (data.drop x.off).take x.len)] := runI_succ x data;generalize hTT : (data.drop x.off).take x.len = T at *;have HRI := Lib.hid hri;have HGO := Lib.hid hgo;clear hri hgo hTT hE w1' hc;have EK := Lib.hid EQ2;clear EQ2;go_wp2_with fail;obtain ⟨qb, hqb⟩ : ∃ y, wr.heap.size = y := ⟨_, rfl⟩;rw [hqb] at EK ⊢;go_loopg [8, 51] x.run (fun gj v i wx => BkI w w2 qb x data out gj v i wx)
        case atStart => exact ⟨0, EK.out, by omega, rfl, by simpa [runI] using O2.out, Below.refl _ _⟩
        case round =>
          rename World => wx
          obtain ⟨j, heb, hj, rfl, hob, hbl⟩ := hrel;have HOB := Lib.hid hob;have HBL := Lib.hid hbl;have HEB := Lib.hid heb;have y0 := blkc heb 0 (.int .u64 (x.id : Int)) rfl;have hszx : w.heap.size + 1 ≤ wx.heap.size := Nat.le_trans hsz2 hbl.size;clear hob hbl heb z0 z1 z2 z3;by_cases hlt2 : j < x.run
          · obtain ⟨m2, rfl⟩ : ∃ y, gk = y + 1 := ⟨gk - 1, by omega⟩;have jI : (j : Int) < (x.run : Int) := by omega
            have e5 : IntKind.u64.wrap (j : Int) = (j : Int) := IntWalk.u64_in _ (by omega);obtain ⟨xi, hxi⟩ : ∃ y, x.id + j = y := ⟨_, rfl⟩;have e6 : IntKind.u64.wrap ((x.id : Int) + (j : Int)) = (xi : Int) := by rw [IntWalk.u64_in _ (by omega)]; omega
            have e7 : IntKind.u32.wrap ((j : Int) + 1) = (j : Int) + 1 := IntWalk.u32_in _ (by omega);go_wp2_with (at_builtin; refine app_one wx rfl _ _ 31 rfl (w.heap.size + 1) 54 i0 _ 2 24 Tryz.underlying31 hi0 hz0 hz1 hz2 rfl (by decide) _ _ _ HOB.out rfl #[.int .u64 (xi : Int), .string ⟨T.toArray⟩] rfl rfl (by simp [Value.oneCell']) (by omega) (by omega) hszx ?_; intro v7 w7 ho7 hg7 hb7; have HO7 := Lib.hid ho7; have HB7 := Lib.hid hb7; have HK7 := Lib.hid (blk_keep HOB.out hg7 HEB.out (by decide)); clear ho7 hb7 hg7)
            go_roundg m2
            case measure => omega
            case rel =>
              refine ⟨j + 1, HK7.out, by omega, by go_num, ?_, Below.trans HBL.out HB7.out⟩;rw [HRI.out, ← List.append_assoc, itV_app _ [_], hxi];exact HO7.out
          · obtain rfl : j = x.run := by omega
            obtain rfl : gk = 0 := by omega
            have jI : ¬ (x.run : Int) < (x.run : Int) := by omega
            go_wp2_with fail;go_roundg m
            case measure => omega
            case rel => exact ⟨k + 1, mr, out ++ runI x data x.run, by omega, by go_num, rfl, by omega, by rw [List.length_append, runI_len]; omega, by rw [List.length_append, runI_len]; exact HOB.out, HGO.out, HU2.out.base (by omega) HBL.out, hszx, (HBL.out.block _ (by omega)).trans HBK2.out⟩
      · rw [if_pos hE0] at hgo;subst hgo;have hEb : (E == 0) = false := by rw [beq_eq_false_iff_ne]; exact hE0
        obtain ⟨g0, gz⟩ := blk_one HBK2.out;clear z0 z1 z2 z3;go_wp2_with fail;have f0 := heap_setCell_same w2 w.heap.size 0 _ _ (.slice none 0 0) HBK2.out;have k0 := (blk_one f0).1;change bodyPost _ _ _ _ _ _;refine bodyPost_ret (v := .tuple #[.agg #[.slice none 0 0], .int .i64 E]) (by simp [results, Tryz.results30, go_sem, k0]) rfl ?_;exact ⟨_, rfl, HU2.out.set (p := ⟨w.heap.size, 0, none⟩) (Nat.le_refl _) _, fun h => absurd h hE0, fun _ => rfl⟩
    · obtain rfl : k = l.length := by omega
      obtain rfl : gk = 0 := by omega
      rw [List.drop_length] at hgo;have hD2 : (0, out) = D := hgo;subst hD2;obtain ⟨_, hex, hall, hsum⟩ := hBO rfl;have hG := hEG hall hsum;rw [← hex] at hG;simp only at hG;have hle := hT rfl;simp only at hle;obtain ⟨A9, c9, rfl, r9⟩ := Rd.of_own HO.out;have OF := fun w hr => Lib.hid ((of_fr out (good_fit hG) (by omega) A9 c9 w hr).mono fun _ _ h => h.1 hle);unfold OfFr at OF;have R9 := Lib.hid r9;have kI : ¬ (l.length : Int) < (l.length : Int) := by omega
      clear r9 hgo hlt hu hex hall hsum hT hBO hEG hchk hok hol;go_wp2_with fail;with_reducible refine (OF _ R9.out).out.mono ?_
      rintro e w8 ⟨M, hp, hs8, A8, c8, rfl, hr8, hu8, hf8⟩;have HF8 := Lib.hid (fun a ha => Nat.le_trans HU.out.le (hf8 a ha));obtain rfl := srt_perm hG.srt hs8 hp;have hb8 := hu8.obj HBK.out;obtain ⟨g0, gz⟩ := blk_one hb8;have HR8 := Lib.hid (Rd.far hr8 hb8 (.slice A8 M.length c8));have HU8 := Lib.hid ((HU.out.trans hu8).set (p := ⟨w.heap.size, 0, none⟩) (Nat.le_refl _) (.slice A8 M.length c8));have k0 := (blk_one (heap_setCell_same w8 w.heap.size 0 _ _ (.slice A8 M.length c8) hb8)).1;clear hr8 hu8 hp hs8 hf8;go_wp2_with fail;change bodyPost _ _ _ _ _ _;refine bodyPost_ret (v := .tuple #[.agg #[.slice A8 M.length c8], .int .i64 0]) (by simp [results, Tryz.results30, go_sem, k0]) rfl ?_;exact ⟨_, rfl, HU8.out, fun _ => ⟨A8, c8, rfl, HR8.out, fun _ => HF8.out⟩, fun h => absurd rfl h⟩
theorem back_any (l : Ents) (hok : ∀ e ∈ l, okE e) (hrow : rowE l = 0) (data : Bs) (hs : data.length ≤ 1000000000) (hT : (backE l data).1 = 0 → (backE l data).2.length ≤ 2048) (A : Option Addr) (c : Nat) (w : World) (hr : Rd w 4 A l.length c (entV l)) :
    Calls Tryz.prog 30 #[.slice A l.length c, .string ⟨data.toArray⟩] w (ChartE w (backE l data)) :=
  (back_fr l hok hrow data hs hT A c w hr).mono fun _ _ h => chartE_of h
end Go.Proofs.YtbfieomjobbhoaaGreatDoor
