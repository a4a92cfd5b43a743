/- Walks: cover.join, Spans' rule. -/
import Derived.Test.YtkfococpanailaaGreatDoorGX28
import Derived.Test.YtkfococpanailaaGreatDoorGX31
import Derived.Test.YtkfococpanailaaGreatDoorGX12
namespace Go.Proofs.YtkfococpanailaaGreatDoor
open Go.RowKit Go.Gz Go.Shelf

set_option maxRecDepth 100000
abbrev spA (s : Sp) : Value := .agg #[.int .u64 (s.1 : Int), .int .u64 (s.2 : Int)]
abbrev spC (s : Sp) : Obj := .cells #[.int .u64 (s.1 : Int), .int .u64 (s.2 : Int)] 129
theorem infoSp : (Tryz.prog.info? 129).map (fun i => (i.zero, i.size, i.bytes)) = some (some (.agg #[.int .u64 0, .int .u64 0]), 2, 16) := by kernel_rfl
def JoinE (w : World) (base : Nat) (v : Value) (l : Sps) (e : Ending) (w' : World) : Prop := ∃ v', e = .returned v' ∧ w'.ownsRow base 129 2 v' l.length (spV l) ∧ w.grownBy w' v.ownBlock
theorem grown_up {w w1 w2 : World} {r : Option Nat} (h : Up w w1) (hg : w1.grownBy w2 r) : w.grownBy w2 r :=
  ⟨hg.os.trans h.os, hg.tape.trans h.tape, hg.output.trans h.output, Nat.le_trans h.le hg.size, fun k hk hne => (hg.block k (Nat.lt_of_lt_of_le hk h.le) hne).trans (h.block hk)⟩
theorem grown_then {w w1 w2 : World} {r : Option Nat} (hg : w.grownBy w1 r) (h : Up w1 w2) : w.grownBy w2 r :=
  ⟨h.os.trans hg.os, h.tape.trans hg.tape, h.output.trans hg.output, Nat.le_trans hg.size h.le, fun k hk hne => (h.block (Nat.lt_of_lt_of_le hk hg.size)).trans (hg.block k hk hne)⟩
set_option maxHeartbeats 4000000 in
theorem join_none (s : Sp) (base : Nat) (v : Value) (w : World) (hb : base ≤ w.heap.size) (ho : w.ownsRow base 129 2 v 0 []) (hs1 : s.1 < 18446744073709551616) :
    Calls Tryz.prog 126 #[v, spA s] w (JoinE w base v [s]) := by
  obtain ⟨i0, hi, hz0, hz1, hz2⟩ := info_parts infoSp
  obtain ⟨sf, st⟩ := s
  simp only at hs1
  have hu := (Up.refl w).alloc (spC (sf, st))
  have hn := heap_alloc_new w (spC (sf, st))
  have c0 := blkc hn 0 _ rfl
  have c1 := blkc hn 1 _ rfl
  simp only [List.getElem_toArray, List.getElem_cons_succ, List.getElem_cons_zero] at c0 c1
  have HO := Lib.hid (own_up ho hu)
  have hsz := hu.le
  obtain ⟨A, c, rfl, _⟩ := Rd.of_own ho
  have HOX := Lib.hid (own_up HO.out (Up.refl _).drew)
  go_enter Tryz.func126, Tryz.ntmps126
  go_wp2_with fail
  refine wp_region_held_drew (S := fun w' => w'.cell? ⟨w.heap.size, 0, none⟩ = some (.int .u64 (sf : Int)) ∧ w'.cell? ⟨w.heap.size, 1, none⟩ = some (.int .u64 (st : Int))) (by kernel_rfl) ⟨c0, c1⟩ (fun hHeld => ?_)
  refine tk 0 rfl ?_
  (try simp only [Act.put, tz1, tz2, tz3])
  refine tk 1 rfl ?_
  (try simp only [Act.put, tz1, tz2, tz3])
  refine tk 2 rfl ?_
  (try simp only [Act.put, tz1, tz2, tz3])
  refine tk 3 rfl ?_
  (try simp only [Act.put, tz1, tz2, tz3])
  refine tk 4 rfl ?_
  (try simp only [Act.put, tz1, tz2, tz3])
  refine tk 5 rfl ?_
  (try simp only [Act.put, tz1, tz2, tz3])
  refine tk 6 rfl ?_
  (try simp only [Act.put, tz1, tz2, tz3])
  refine tk 7 rfl ?_
  (try simp only [Act.put, tz1, tz2, tz3])
  refine tk 8 rfl ?_
  (try simp only [Act.put, tz1, tz2, tz3])
  refine tk 9 rfl ?_
  (try simp only [Act.put, tz1, tz2, tz3])
  refine tk 10 rfl ?_
  (try simp only [Act.put, tz1, tz2, tz3])
  refine tk 11 rfl ?_
  (try simp only [Act.put, tz1, tz2, tz3])
  refine tk 12 rfl ?_
  (try simp only [Act.put, tz1, tz2, tz3])
  refine tk 13 rfl ?_
  (try simp only [Act.put, tz1, tz2, tz3])
  refine tk 14 rfl ?_
  (try simp only [Act.put, tz1, tz2, tz3])
  refine tk 15 rfl ?_
  (try simp only [Act.put, tz1, tz2, tz3])
  refine tk 16 rfl ?_
  (try simp only [Act.put, tz1, tz2, tz3])
  refine tk 17 rfl ?_
  (try simp only [Act.put, tz1, tz2, tz3])
  refine tk 18 rfl ?_
  (try simp only [Act.put, tz1, tz2, tz3])
  refine tk 19 rfl ?_
  (try simp only [Act.put, tz1, tz2, tz3])
  refine tk 20 rfl ?_
  (try simp only [Act.put, tz1, tz2, tz3])
  refine tk 21 rfl ?_
  (try simp only [Act.put, tz1, tz2, tz3])
  refine tk 22 rfl ?_
  (try simp only [Act.put, tz1, tz2, tz3])
  refine wpAnyH_done (by kernel_rfl) ?_ _
  clear hHeld
  have e0 := (Up.refl (w.alloc (spC (sf, st)))).drew.cell c0
  have e1 := (Up.refl (w.alloc (spC (sf, st)))).drew.cell c1
  clear c0 c1
  have hsz2 : base ≤ (w.alloc (spC (sf, st))).drew.heap.size := Nat.le_trans hb hsz
  obtain ⟨Y, hY⟩ : ∃ Y, (w.alloc (spC (sf, st))).drew = Y := ⟨_, rfl⟩
  rw [hY] at e0 e1 HOX hsz2
  (try rw [hY])
  have HYU := Lib.hid (show Up w Y by rw [← hY]; exact hu.drew)
  clear hY
  go_wp2_with (at_builtin; refine app_one Y rfl _ _ 73 rfl base 129 i0 _ 2 16 Tryz.underlying73 hi hz0 hz1 hz2 rfl (by decide) _ _ _ HOX.out rfl #[.int .u64 (sf : Int), .int .u64 (st : Int)] (by show Value.slice (some ⟨(Y).heap.size, 0, none⟩) 1 1 = _; rfl) rfl (by simp [Value.oneCell']) (by omega) (by omega) (by omega) ?_; intro v3 w3 ho3 hg3 hb3)
  go_ret
  exact ⟨v3, rfl, by simpa [spV] using ho3, grown_up HYU.out hg3⟩
set_option maxHeartbeats 4000000 in
theorem join_more (pre : Sps) (x s : Sp) (hl : pre.length ≤ 100000) (base : Nat) (v : Value) (w : World) (hb : base ≤ w.heap.size) (ho : w.ownsRow base 129 2 v (pre.length + 1) (spV (pre ++ [x]))) (hs1 : s.1 < 18446744073709551616) (hlt2 : x.2 < 18446744073709551615) (hx : ¬ s.1 ≤ x.2 + 1) :
    Calls Tryz.prog 126 #[v, spA s] w (JoinE w base v (pre ++ [x] ++ [s])) := by
  obtain ⟨i0, hi, hz0, hz1, hz2⟩ := info_parts infoSp
  obtain ⟨sf, st⟩ := s
  simp only at hs1
  have hu := (Up.refl w).alloc (spC (sf, st))
  have hn := heap_alloc_new w (spC (sf, st))
  have c0 := blkc hn 0 _ rfl
  have c1 := blkc hn 1 _ rfl
  simp only [List.getElem_toArray, List.getElem_cons_succ, List.getElem_cons_zero] at c0 c1
  have HO := Lib.hid (own_up ho hu)
  have hsz := hu.le
  obtain ⟨lf, lt⟩ := x
  simp only at hx hlt2
  obtain ⟨m, hm⟩ : ∃ m, pre.length = m := ⟨_, rfl⟩
  rw [hm] at ho hl HO
  obtain ⟨g, cap, rfl⟩ := ownsRow_succ ho
  obtain ⟨g0, g1⟩ := spV_last pre (lf, lt)
  rw [hm] at g0 g1
  have d1 := ho.cells (g := g) rfl _ _ g1
  rw [add_plain, Nat.zero_add] at d1
  have hgl := (ho.lt g rfl).1
  have hgs : g < w.heap.size := World.block_lt_of_cell? w _ d1
  have d1u := hu.cell d1
  have e0 : IntKind.i64.wrap (((m + 1 : Nat) : Int) - 1) = (m : Int) := by rw [IntWalk.i64_in _ (by omega)]; omega
  have e00 : ((m + 1 : Nat) : Int) = (m : Int) + 1 := by omega
  have kI : (m : Int) < (m : Int) + 1 := by omega
  have e01 : IntKind.i64.wrap ((m : Int) + 1 - 1) = (m : Int) := by rw [IntWalk.i64_in _ (by omega)]; omega
  have HOX := Lib.hid (own_up HO.out (Up.refl _).drew)
  have f1 : ¬ (sf : Int) ≤ (lt : Int) := by omega
  have f1n : ¬ sf ≤ lt := by omega
  have f2 : IntKind.u64.wrap ((sf : Int) - 1) = (sf : Int) - 1 := IntWalk.u64_in _ (by omega)
  have f3 : ((sf : Int) - 1 == (lt : Int)) = false := by rw [beq_eq_false_iff_ne]; omega
  clear ho d1
  go_enter Tryz.func126, Tryz.ntmps126
  go_wp2_with fail
  refine wp_region_held_drew (S := fun w' => w'.cell? ⟨w.heap.size, 0, none⟩ = some (.int .u64 (sf : Int)) ∧ w'.cell? ⟨w.heap.size, 1, none⟩ = some (.int .u64 (st : Int)) ∧ w'.cell? ⟨g, m * 2 + 1, none⟩ = some (.int .u64 (lt : Int))) (by kernel_rfl) ⟨c0, c1, d1u⟩ (fun hHeld => ?_)
  refine tk 0 rfl ?_
  (try simp only [Act.put, tz1, tz2, tz3])
  refine tk 1 rfl ?_
  (try simp only [Act.put, tz1, tz2, tz3])
  refine tk 2 rfl ?_
  (try simp only [Act.put, tz1, tz2, tz3])
  refine tk 3 rfl ?_
  (try simp only [Act.put, tz1, tz2, tz3])
  refine tk 4 rfl ?_
  (try simp only [Act.put, tz1, tz2, tz3])
  refine tk 5 rfl ?_
  (try simp only [Act.put, tz1, tz2, tz3])
  refine tk 6 rfl ?_
  (try simp only [Act.put, tz1, tz2, tz3])
  refine tk 7 rfl ?_
  (try simp only [Act.put, tz1, tz2, tz3])
  refine tk 8 rfl ?_
  (try simp only [Act.put, tz1, tz2, tz3])
  refine tk 9 rfl ?_
  (try simp only [Act.put, tz1, tz2, tz3])
  refine tk 10 rfl ?_
  (try simp only [Act.put, tz1, tz2, tz3])
  refine tk 11 rfl ?_
  (try simp only [Act.put, tz1, tz2, tz3])
  refine tk 12 rfl ?_
  (try simp only [Act.put, tz1, tz2, tz3])
  refine tk 13 rfl ?_
  (try simp only [Act.put, tz1, tz2, tz3])
  refine tk 14 rfl ?_
  (try simp only [Act.put, tz1, tz2, tz3])
  refine tk 15 rfl ?_
  (try simp only [Act.put, tz1, tz2, tz3])
  refine tk 16 rfl ?_
  (try simp only [Act.put, tz1, tz2, tz3])
  refine tk 17 rfl ?_
  (try simp only [Act.put, tz1, tz2, tz3])
  refine tk 18 rfl ?_
  (try simp only [Act.put, tz1, tz2, tz3])
  refine tk 19 rfl ?_
  (try simp only [Act.put, tz1, tz2, tz3])
  refine tk 20 rfl ?_
  (try simp only [Act.put, tz1, tz2, tz3])
  refine tk 21 rfl ?_
  (try simp only [Act.put, tz1, tz2, tz3])
  refine tk 22 rfl ?_
  (try simp only [Act.put, tz1, tz2, tz3])
  refine wpAnyH_done (by kernel_rfl) ?_ _
  clear hHeld
  have k0 := (Up.refl (w.alloc (spC (sf, st)))).drew.cell c0
  have k1 := (Up.refl (w.alloc (spC (sf, st)))).drew.cell c1
  clear c0 c1 d1u
  have hsz2 : base ≤ (w.alloc (spC (sf, st))).drew.heap.size := Nat.le_trans hb hsz
  obtain ⟨Y, hY⟩ : ∃ Y, (w.alloc (spC (sf, st))).drew = Y := ⟨_, rfl⟩
  rw [hY] at k0 k1 HOX hsz2
  (try rw [hY])
  have HYU := Lib.hid (show Up w Y by rw [← hY]; exact hu.drew)
  clear hY
  go_wp2_with (at_builtin; refine app_one Y rfl _ _ 73 rfl base 129 i0 _ 2 16 Tryz.underlying73 hi hz0 hz1 hz2 rfl (by decide) _ _ _ HOX.out rfl #[.int .u64 (sf : Int), .int .u64 (st : Int)] (by show Value.slice (some ⟨(Y).heap.size, 0, none⟩) 1 1 = _; rfl) rfl (by simp [Value.oneCell']) (by omega) (by omega) (by omega) ?_; intro v3 w3 ho3 hg3 hb3)
  go_ret
  refine ⟨v3, rfl, ?_, grown_up HYU.out hg3⟩
  have hfin : (pre ++ [(lf, lt), (sf, st)]).length = m + 1 + 1 := by simp [hm]
  have e2 : spV (pre ++ [(lf, lt), (sf, st)]) = spV (pre ++ [(lf, lt)]) ++ [.int .u64 (sf : Int), .int .u64 (st : Int)] := by simp [spV]
  rw [hfin, e2]
  exact ho3
set_option maxHeartbeats 4000000 in
theorem join_put (pre : Sps) (x s : Sp) (hl : pre.length ≤ 100000) (base : Nat) (v : Value) (w : World) (ho : w.ownsRow base 129 2 v (pre.length + 1) (spV (pre ++ [x]))) (hs1 : s.1 < 18446744073709551616) (hlt2 : x.2 < 18446744073709551615) (hx : s.1 ≤ x.2 + 1) :
    Calls Tryz.prog 126 #[v, spA s] w (JoinE w base v (pre ++ [(x.1, max x.2 s.2)])) := by
  obtain ⟨i0, hi, hz0, hz1, hz2⟩ := info_parts infoSp
  obtain ⟨sf, st⟩ := s
  simp only at hs1
  have hu := (Up.refl w).alloc (spC (sf, st))
  have hn := heap_alloc_new w (spC (sf, st))
  have c0 := blkc hn 0 _ rfl
  have c1 := blkc hn 1 _ rfl
  simp only [List.getElem_toArray, List.getElem_cons_succ, List.getElem_cons_zero] at c0 c1
  have HO := Lib.hid (own_up ho hu)
  have hsz := hu.le
  obtain ⟨lf, lt⟩ := x
  simp only at hx hlt2
  obtain ⟨m, hm⟩ : ∃ m, pre.length = m := ⟨_, rfl⟩
  rw [hm] at ho hl HO
  obtain ⟨g, cap, rfl⟩ := ownsRow_succ ho
  obtain ⟨g0, g1⟩ := spV_last pre (lf, lt)
  rw [hm] at g0 g1
  have d1 := ho.cells (g := g) rfl _ _ g1
  rw [add_plain, Nat.zero_add] at d1
  have hgl := (ho.lt g rfl).1
  have hgs : g < w.heap.size := World.block_lt_of_cell? w _ d1
  have d1u := hu.cell d1
  have e0 : IntKind.i64.wrap (((m + 1 : Nat) : Int) - 1) = (m : Int) := by rw [IntWalk.i64_in _ (by omega)]; omega
  have e00 : ((m + 1 : Nat) : Int) = (m : Int) + 1 := by omega
  have kI : (m : Int) < (m : Int) + 1 := by omega
  have e01 : IntKind.i64.wrap ((m : Int) + 1 - 1) = (m : Int) := by rw [IntWalk.i64_in _ (by omega)]; omega
  have HOw := Lib.hid ho
  have f2 : 1 ≤ sf → IntKind.u64.wrap ((sf : Int) - 1) = (sf : Int) - 1 := fun h => IntWalk.u64_in _ (by omega)
  clear ho
  by_cases h1 : sf ≤ lt
  · have f1 : (sf : Int) ≤ (lt : Int) := by omega
    clear f2
    go_enter Tryz.func126, Tryz.ntmps126
    go_wp2_with fail
    refine wp_region_held_drew (S := fun w' => w'.cell? ⟨w.heap.size, 0, none⟩ = some (.int .u64 (sf : Int)) ∧ w'.cell? ⟨w.heap.size, 1, none⟩ = some (.int .u64 (st : Int)) ∧ w'.cell? ⟨g, m * 2 + 1, none⟩ = some (.int .u64 (lt : Int))) (by kernel_rfl) ⟨c0, c1, d1u⟩ (fun hHeld => ?_)
    refine tk 0 rfl ?_
    (try simp only [Act.put, tz1, tz2, tz3])
    refine tk 1 rfl ?_
    (try simp only [Act.put, tz1, tz2, tz3])
    refine tk 2 rfl ?_
    (try simp only [Act.put, tz1, tz2, tz3])
    refine tk 3 rfl ?_
    (try simp only [Act.put, tz1, tz2, tz3])
    refine tk 4 rfl ?_
    (try simp only [Act.put, tz1, tz2, tz3])
    refine tk 5 rfl ?_
    (try simp only [Act.put, tz1, tz2, tz3])
    refine tk 6 rfl ?_
    (try simp only [Act.put, tz1, tz2, tz3])
    refine tk 7 rfl ?_
    (try simp only [Act.put, tz1, tz2, tz3])
    refine tk 8 rfl ?_
    (try simp only [Act.put, tz1, tz2, tz3])
    refine tk 9 rfl ?_
    (try simp only [Act.put, tz1, tz2, tz3])
    refine tk 10 rfl ?_
    (try simp only [Act.put, tz1, tz2, tz3])
    refine tk 11 rfl ?_
    (try simp only [Act.put, tz1, tz2, tz3])
    refine tk 12 rfl ?_
    (try simp only [Act.put, tz1, tz2, tz3])
    refine tk 13 rfl ?_
    (try simp only [Act.put, tz1, tz2, tz3])
    refine tk 14 rfl ?_
    (try simp only [Act.put, tz1, tz2, tz3])
    refine tk 15 rfl ?_
    (try simp only [Act.put, tz1, tz2, tz3])
    refine tk 16 rfl ?_
    (try simp only [Act.put, tz1, tz2, tz3])
    refine tk 17 rfl ?_
    (try simp only [Act.put, tz1, tz2, tz3])
    refine tk 18 rfl ?_
    (try simp only [Act.put, tz1, tz2, tz3])
    refine tk 19 rfl ?_
    (try simp only [Act.put, tz1, tz2, tz3])
    refine tk 20 rfl ?_
    (try simp only [Act.put, tz1, tz2, tz3])
    refine tk 21 rfl ?_
    (try simp only [Act.put, tz1, tz2, tz3])
    refine tk 22 rfl ?_
    (try simp only [Act.put, tz1, tz2, tz3])
    refine wpAnyH_done (by kernel_rfl) ?_ _
    clear hHeld
    go_wp2_with fail
    have hfz := (own_up HO.out (Up.refl _).drew).frozenAt (m * 2 + 1)
    have k0 := (Up.refl (w.alloc (spC (sf, st)))).drew.cell c0
    have k1 := (Up.refl (w.alloc (spC (sf, st)))).drew.cell c1
    have k2 := (Up.refl (w.alloc (spC (sf, st)))).drew.cell d1u
    clear c0 c1 d1u d1
    go_region
    go_wp2_with fail
    go_ret
    obtain ⟨s1, s2⟩ := World.ownsRow.stored HOw.out (m * 2 + 1) (.int .u64 (max (lt : Int) (st : Int)))
    have hup := (((Up.refl (w.setCell ⟨g, m * 2 + 1, none⟩ (.int .u64 (max (lt : Int) (st : Int))))).alloc (spC (sf, st))).drew).drew
    refine ⟨_, rfl, ?_, grown_then s2 hup⟩
    have em : max (lt : Int) (st : Int) = ((max lt st : Nat) : Int) := by omega
    have h3 := own_up s1 hup
    rw [em] at h3 ⊢
    have ep := spV_put pre (lf, lt) (max lt st)
    rw [hm] at ep
    rw [ep] at h3
    rw [show (pre ++ [(lf, max lt st)]).length = m + 1 by simp [hm]]
    exact h3
  · have f1 : ¬ (sf : Int) ≤ (lt : Int) := by omega
    have f2 : IntKind.u64.wrap ((sf : Int) - 1) = (sf : Int) - 1 := f2 (by omega)
    have f3 : (sf : Int) - 1 = (lt : Int) := by omega
    rw [f3] at f2
    have f4 : IntKind.u64.wrap ((sf : Int) - 1) = (lt : Int) := by rw [IntWalk.u64_in _ (by omega)]; omega
    clear f3 f2
    go_enter Tryz.func126, Tryz.ntmps126
    go_wp2_with fail
    refine wp_region_held_drew (S := fun w' => w'.cell? ⟨w.heap.size, 0, none⟩ = some (.int .u64 (sf : Int)) ∧ w'.cell? ⟨w.heap.size, 1, none⟩ = some (.int .u64 (st : Int)) ∧ w'.cell? ⟨g, m * 2 + 1, none⟩ = some (.int .u64 (lt : Int))) (by kernel_rfl) ⟨c0, c1, d1u⟩ (fun hHeld => ?_)
    refine tk 0 rfl ?_
    (try simp only [Act.put, tz1, tz2, tz3])
    refine tk 1 rfl ?_
    (try simp only [Act.put, tz1, tz2, tz3])
    refine tk 2 rfl ?_
    (try simp only [Act.put, tz1, tz2, tz3])
    refine tk 3 rfl ?_
    (try simp only [Act.put, tz1, tz2, tz3])
    refine tk 4 rfl ?_
    (try simp only [Act.put, tz1, tz2, tz3])
    refine tk 5 rfl ?_
    (try simp only [Act.put, tz1, tz2, tz3])
    refine tk 6 rfl ?_
    (try simp only [Act.put, tz1, tz2, tz3])
    refine tk 7 rfl ?_
    (try simp only [Act.put, tz1, tz2, tz3])
    refine tk 8 rfl ?_
    (try simp only [Act.put, tz1, tz2, tz3])
    refine tk 9 rfl ?_
    (try simp only [Act.put, tz1, tz2, tz3])
    refine tk 10 rfl ?_
    (try simp only [Act.put, tz1, tz2, tz3])
    refine tk 11 rfl ?_
    (try simp only [Act.put, tz1, tz2, tz3])
    refine tk 12 rfl ?_
    (try simp only [Act.put, tz1, tz2, tz3])
    refine tk 13 rfl ?_
    (try simp only [Act.put, tz1, tz2, tz3])
    refine tk 14 rfl ?_
    (try simp only [Act.put, tz1, tz2, tz3])
    refine tk 15 rfl ?_
    (try simp only [Act.put, tz1, tz2, tz3])
    refine tk 16 rfl ?_
    (try simp only [Act.put, tz1, tz2, tz3])
    refine tk 17 rfl ?_
    (try simp only [Act.put, tz1, tz2, tz3])
    refine tk 18 rfl ?_
    (try simp only [Act.put, tz1, tz2, tz3])
    refine tk 19 rfl ?_
    (try simp only [Act.put, tz1, tz2, tz3])
    refine tk 20 rfl ?_
    (try simp only [Act.put, tz1, tz2, tz3])
    refine tk 21 rfl ?_
    (try simp only [Act.put, tz1, tz2, tz3])
    refine tk 22 rfl ?_
    (try simp only [Act.put, tz1, tz2, tz3])
    refine wpAnyH_done (by kernel_rfl) ?_ _
    clear hHeld
    go_wp2_with fail
    have hfz := (own_up HO.out (Up.refl _).drew).frozenAt (m * 2 + 1)
    have k0 := (Up.refl (w.alloc (spC (sf, st)))).drew.cell c0
    have k1 := (Up.refl (w.alloc (spC (sf, st)))).drew.cell c1
    have k2 := (Up.refl (w.alloc (spC (sf, st)))).drew.cell d1u
    clear c0 c1 d1u d1
    go_region
    go_wp2_with fail
    go_ret
    obtain ⟨s1, s2⟩ := World.ownsRow.stored HOw.out (m * 2 + 1) (.int .u64 (max (lt : Int) (st : Int)))
    have hup := (((Up.refl (w.setCell ⟨g, m * 2 + 1, none⟩ (.int .u64 (max (lt : Int) (st : Int))))).alloc (spC (sf, st))).drew).drew
    refine ⟨_, rfl, ?_, grown_then s2 hup⟩
    have em : max (lt : Int) (st : Int) = ((max lt st : Nat) : Int) := by omega
    have h3 := own_up s1 hup
    rw [em] at h3 ⊢
    have ep := spV_put pre (lf, lt) (max lt st)
    rw [hm] at ep
    rw [ep] at h3
    rw [show (pre ++ [(lf, max lt st)]).length = m + 1 by simp [hm]]
    exact h3
theorem join_any (l : Sps) (s : Sp) (hl : l.length ≤ 100000) (base : Nat) (v : Value) (w : World) (hb : base ≤ w.heap.size) (ho : w.ownsRow base 129 2 v l.length (spV l)) (hs1 : s.1 < 18446744073709551616) (hx : ∀ x ∈ l, x.2 < 18446744073709551615) :
    Calls Tryz.prog 126 #[v, spA s] w (JoinE w base v (joinL l s)) := by
  rcases List.eq_nil_or_concat l with rfl | ⟨pre, x, rfl⟩
  · exact join_none s base v w hb ho hs1
  · rw [List.concat_eq_append] at *
    rw [List.length_append] at ho hl
    have hx2 := hx x (by simp)
    rw [join_snoc]
    by_cases h : s.1 ≤ x.2 + 1
    · rw [if_pos h]
      exact join_put pre x s (by simp at hl; omega) base v w ho hs1 hx2 h
    · rw [if_neg h]
      exact join_more pre x s (by simp at hl; omega) base v w hb ho hs1 hx2 h
/-- what a call that adds spans keeps: all but the box at BO and rows of spans from base on -/
structure KpS (base BO : Nat) (w w' : World) : Prop where
  os : w'.os = w.os
  tape : w'.tape = w.tape
  output : w'.output = w.output
  size : w.heap.size ≤ w'.heap.size
  low : ∀ k, k < base → k < w.heap.size → k ≠ BO → w'.heap[k]? = w.heap[k]?
  oth : ∀ (k : Nat) (o : Obj), w.heap[k]? = some o → k ≠ BO → (∀ cs fz, o ≠ .cells cs 129 fz) → w'.heap[k]? = some o
theorem KpS.trans {base BO : Nat} {a b c : World} (h : KpS base BO a b) (k : KpS base BO b c) : KpS base BO a c :=
  ⟨k.os.trans h.os, k.tape.trans h.tape, k.output.trans h.output, Nat.le_trans h.size k.size, fun j h1 h0 h2 => (k.low j h1 (Nat.lt_of_lt_of_le h0 h.size) h2).trans (h.low j h1 h0 h2), fun j o h1 h2 h3 => k.oth j o (h.oth j o h1 h2 h3) h2 h3⟩
theorem KpS.of_up {base BO : Nat} {a b : World} (h : Up a b) : KpS base BO a b :=
  ⟨h.os, h.tape, h.output, h.le, fun _ _ h1 _ => h.block h1, fun _ _ h1 _ _ => h.obj h1⟩
theorem KpS.toUp {base BO : Nat} {w a b : World} (h : KpS base BO a b) (hu : Up w a) (h1 : w.heap.size ≤ BO) (h2 : w.heap.size ≤ base) : Up w b :=
  Up.of ⟨h.os.trans hu.os, h.tape.trans hu.tape, h.output.trans hu.output, Nat.le_trans hu.le h.size, fun j hj => (h.low j (by omega) (Nat.lt_of_lt_of_le hj hu.le) (by omega)).trans (hu.block hj)⟩
/-- the spans that are put together, in a box -/
def SpW (base BO : Nat) (l : Sps) (w : World) : Prop := ∃ v, w.heap[BO]? = some (.cells #[v] 73 (0, 0)) ∧ w.ownsRow base 129 2 v l.length (spV l) ∧ base ≤ w.heap.size ∧ BO < base
end Go.Proofs.YtkfococpanailaaGreatDoor
