/- Walks: cover.side, Check, Has; slices.ContainsFunc of rectangles; gazetteerlaw38.rects. -/
import Derived.Test.YtkfococpanailaaGreatDoorGX02
import Derived.Test.YtkfococpanailaaGreatDoorGX23
import Derived.Test.YtkfococpanailaaGreatDoorGX12
namespace Go.Proofs.YtkfococpanailaaGreatDoor
open Go.RowKit Go.Gz Go.Shelf

set_option maxRecDepth 100000
theorem cside_any (a b n : Int) (w : World) :
    Calls Tryz.prog 177 #[.int .i64 a, .int .i64 b, .int .i64 n] w fun e w' => e = .returned (.bool (inR a b n)) ∧ w = w' := by
  unfold inR
  by_cases h0 : 0 ≤ a
  · by_cases h1 : a ≤ b
    · by_cases h2 : b < n
      all_goals
        go_enter Tryz.func177, Tryz.ntmps177
        go_wp2_with fail
        go_ret
        refine ⟨?_, rfl⟩
        simp [h0, h1, h2]
    · go_enter Tryz.func177, Tryz.ntmps177
      go_wp2_with fail
      go_ret
      refine ⟨ret_bool ?_, rfl⟩
      rw [show decide (a ≤ b) = false from decide_eq_false (by omega)]; simp
  · go_enter Tryz.func177, Tryz.ntmps177
    go_wp2_with fail
    go_ret
    refine ⟨ret_bool ?_, rfl⟩
    rw [show decide (0 ≤ a) = false from decide_eq_false (by omega)]; simp
abbrev rcA (r : Rc) : Value := .agg #[.int .i64 r.z, .int .i64 r.x0, .int .i64 r.y0, .int .i64 r.x1, .int .i64 r.y1]
abbrev rcC (r : Rc) : Obj := .cells #[.int .i64 r.z, .int .i64 r.x0, .int .i64 r.y0, .int .i64 r.x1, .int .i64 r.y1] 127
abbrev tiA (z x y : Int) : Value := .agg #[.int .i64 z, .int .i64 x, .int .i64 y]
abbrev tiC (z x y : Int) : Obj := .cells #[.int .i64 z, .int .i64 x, .int .i64 y] 132
theorem rc_cells {w : World} {B : Nat} {r : Rc} (h : w.heap[B]? = some (rcC r)) : w.cell? ⟨B, 0, none⟩ = some (.int .i64 r.z) ∧ w.cell? ⟨B, 1, none⟩ = some (.int .i64 r.x0) ∧ w.cell? ⟨B, 2, none⟩ = some (.int .i64 r.y0) ∧ w.cell? ⟨B, 3, none⟩ = some (.int .i64 r.x1) ∧ w.cell? ⟨B, 4, none⟩ = some (.int .i64 r.y1) :=
  ⟨blkc h 0 _ rfl, blkc h 1 _ rfl, blkc h 2 _ rfl, blkc h 3 _ rfl, blkc h 4 _ rfl⟩
theorem ti_cells {w : World} {B : Nat} {z x y : Int} (h : w.heap[B]? = some (tiC z x y)) : w.cell? ⟨B, 0, none⟩ = some (.int .i64 z) ∧ w.cell? ⟨B, 1, none⟩ = some (.int .i64 x) ∧ w.cell? ⟨B, 2, none⟩ = some (.int .i64 y) :=
  ⟨blkc h 0 _ rfl, blkc h 1 _ rfl, blkc h 2 _ rfl⟩
theorem ccheck_any (r : Rc) (w : World) :
    Calls Tryz.prog 121 #[rcA r] w fun e w' => e = .returned (.int .i64 (chkR r)) ∧ Up w w' := by
  obtain ⟨z, x0, y0, x1, y1⟩ := r
  unfold chkR
  simp only
  have SD := fun w => Lib.hid (side_any z w)
  generalize sideV z = n at *
  have S1 := fun w => Lib.hid (cside_any x0 x1 n w)
  have S2 := fun w => Lib.hid (cside_any y0 y1 n w)
  generalize inR x0 x1 n = b1 at *
  generalize inR y0 y1 n = b2 at *
  obtain ⟨c0, c1, c2, c3, c4⟩ := rc_cells (r := ⟨z, x0, y0, x1, y1⟩) (heap_alloc_new w _)
  simp only at c0 c1 c2 c3 c4
  have hu := (Up.refl w).alloc (rcC ⟨z, x0, y0, x1, y1⟩)
  by_cases h0 : n = 0
  · subst h0
    rw [if_pos rfl]
    go_enter Tryz.func121, Tryz.ntmps121
    go_wp2_with fail
    refine (SD _).out.mono ?_
    rintro e w1 ⟨rfl, rfl⟩
    go_wp2_with fail
    go_ret
    exact ⟨rfl, hu⟩
  have h0b : (n == 0) = false := by rw [beq_eq_false_iff_ne]; exact h0
  rw [if_neg h0]
  cases b1 with
  | false =>
    rw [show (if ((false : Bool) = true ∧ b2 = true) then (0 : Int) else 8) = 8 from by simp]
    go_enter Tryz.func121, Tryz.ntmps121
    go_wp2_with fail
    refine (SD _).out.mono ?_
    rintro e w1 ⟨rfl, rfl⟩
    go_wp2_with fail
    refine (S1 _).out.mono ?_
    rintro e w1 ⟨rfl, rfl⟩
    go_wp2_with fail
    go_ret
    exact ⟨rfl, hu⟩
  | true =>
    cases b2 with
    | false =>
      rw [show (if ((true : Bool) = true ∧ (false : Bool) = true) then (0 : Int) else 8) = 8 from by simp]
      go_enter Tryz.func121, Tryz.ntmps121
      go_wp2_with fail
      refine (SD _).out.mono ?_
      rintro e w1 ⟨rfl, rfl⟩
      go_wp2_with fail
      refine (S1 _).out.mono ?_
      rintro e w1 ⟨rfl, rfl⟩
      go_wp2_with fail
      refine (S2 _).out.mono ?_
      rintro e w1 ⟨rfl, rfl⟩
      go_wp2_with fail
      go_ret
      exact ⟨rfl, hu⟩
    | true =>
      rw [show (if ((true : Bool) = true ∧ (true : Bool) = true) then (0 : Int) else 8) = 0 from by simp]
      go_enter Tryz.func121, Tryz.ntmps121
      go_wp2_with fail
      refine (SD _).out.mono ?_
      rintro e w1 ⟨rfl, rfl⟩
      go_wp2_with fail
      refine (S1 _).out.mono ?_
      rintro e w1 ⟨rfl, rfl⟩
      go_wp2_with fail
      refine (S2 _).out.mono ?_
      rintro e w1 ⟨rfl, rfl⟩
      go_wp2_with fail
      go_ret
      exact ⟨rfl, hu⟩
theorem chas_any (r : Rc) (z x y : Int) (w : World) :
    Calls Tryz.prog 74 #[rcA r, tiA z x y] w fun e w' => e = .returned (.bool (hasR r z x y)) ∧ Up w w' := by
  have CK := fun w => Lib.hid (ccheck_any r w)
  unfold hasR
  generalize chkR r = E at *
  obtain ⟨rz, x0, y0, x1, y1⟩ := r
  simp only at *
  have hu := ((Up.refl w).alloc (rcC ⟨rz, x0, y0, x1, y1⟩)).alloc (tiC z x y)
  have q0 := ((Up.refl _).alloc (tiC z x y)).obj (heap_alloc_new w (rcC ⟨rz, x0, y0, x1, y1⟩))
  have q1 := heap_alloc_new (w.alloc (rcC ⟨rz, x0, y0, x1, y1⟩)) (tiC z x y)
  rw [World.size_alloc] at q1
  obtain ⟨c0, c1, c2, c3, c4⟩ := rc_cells (r := ⟨rz, x0, y0, x1, y1⟩) q0
  simp only at c0 c1 c2 c3 c4
  have HQ0 := Lib.hid q0
  have HQ1 := Lib.hid q1
  clear q0 q1
  have ST : ∀ P : World → Prop, (∀ w1, Up ((w.alloc (rcC ⟨rz, x0, y0, x1, y1⟩)).alloc (tiC z x y)) w1 → P w1) → True := fun _ _ => trivial
  clear ST
  have W := fun w1 (h : Up ((w.alloc (rcC ⟨rz, x0, y0, x1, y1⟩)).alloc (tiC z x y)) w1) => And.intro (rc_cells (r := ⟨rz, x0, y0, x1, y1⟩) (h.obj HQ0.out)) (ti_cells (h.obj HQ1.out))
  simp only at W
  have W := Lib.hid W
  by_cases h0 : E = 0
  · rw [decide_eq_true h0]
    simp only [Bool.true_and]
    have g0 : (E == 0) = true := by rw [beq_iff_eq]; exact h0
    clear h0
    by_cases h1 : z = rz
    · rw [decide_eq_true h1]
      simp only [Bool.true_and]
      have g1 : (z == rz) = true := by rw [beq_iff_eq]; exact h1
      clear h1
      by_cases h2 : x0 ≤ x
      · rw [decide_eq_true h2]
        simp only [Bool.true_and]
        by_cases h3 : x ≤ x1
        · rw [decide_eq_true h3]
          simp only [Bool.true_and]
          by_cases h4 : y0 ≤ y
          · rw [decide_eq_true h4]
            simp only [Bool.true_and]
            by_cases h5 : y ≤ y1
            · rw [decide_eq_true h5]
              go_enter Tryz.func74, Tryz.ntmps74
              go_wp2_with fail
              refine (CK _).out.mono ?_
              rintro e w1 ⟨rfl, hu1⟩
              obtain ⟨⟨a0, a1, a2, a3, a4⟩, b0, b1, b2⟩ := W.out w1 hu1
              go_wp2_with fail
              go_ret
              first | exact ⟨rfl, hu.trans hu1⟩ | exact ⟨ret_bool (decide_eq_true (by omega)), hu.trans hu1⟩ | exact ⟨ret_bool (decide_eq_false (by omega)), hu.trans hu1⟩
            · rw [decide_eq_false h5]
              go_enter Tryz.func74, Tryz.ntmps74
              go_wp2_with fail
              refine (CK _).out.mono ?_
              rintro e w1 ⟨rfl, hu1⟩
              obtain ⟨⟨a0, a1, a2, a3, a4⟩, b0, b1, b2⟩ := W.out w1 hu1
              go_wp2_with fail
              go_ret
              first | exact ⟨rfl, hu.trans hu1⟩ | exact ⟨ret_bool (decide_eq_true (by omega)), hu.trans hu1⟩ | exact ⟨ret_bool (decide_eq_false (by omega)), hu.trans hu1⟩
          · rw [decide_eq_false h4]
            simp only [Bool.false_and]
            go_enter Tryz.func74, Tryz.ntmps74
            go_wp2_with fail
            refine (CK _).out.mono ?_
            rintro e w1 ⟨rfl, hu1⟩
            obtain ⟨⟨a0, a1, a2, a3, a4⟩, b0, b1, b2⟩ := W.out w1 hu1
            go_wp2_with fail
            go_ret
            first | exact ⟨rfl, hu.trans hu1⟩ | exact ⟨ret_bool (decide_eq_true (by omega)), hu.trans hu1⟩ | exact ⟨ret_bool (decide_eq_false (by omega)), hu.trans hu1⟩
        · rw [decide_eq_false h3]
          simp only [Bool.false_and]
          go_enter Tryz.func74, Tryz.ntmps74
          go_wp2_with fail
          refine (CK _).out.mono ?_
          rintro e w1 ⟨rfl, hu1⟩
          obtain ⟨⟨a0, a1, a2, a3, a4⟩, b0, b1, b2⟩ := W.out w1 hu1
          go_wp2_with fail
          go_ret
          first | exact ⟨rfl, hu.trans hu1⟩ | exact ⟨ret_bool (decide_eq_true (by omega)), hu.trans hu1⟩ | exact ⟨ret_bool (decide_eq_false (by omega)), hu.trans hu1⟩
      · rw [decide_eq_false h2]
        simp only [Bool.false_and]
        go_enter Tryz.func74, Tryz.ntmps74
        go_wp2_with fail
        refine (CK _).out.mono ?_
        rintro e w1 ⟨rfl, hu1⟩
        obtain ⟨⟨a0, a1, a2, a3, a4⟩, b0, b1, b2⟩ := W.out w1 hu1
        go_wp2_with fail
        go_ret
        first | exact ⟨rfl, hu.trans hu1⟩ | exact ⟨ret_bool (decide_eq_true (by omega)), hu.trans hu1⟩ | exact ⟨ret_bool (decide_eq_false (by omega)), hu.trans hu1⟩
    · rw [decide_eq_false h1]
      simp only [Bool.false_and]
      have g1 : (z == rz) = false := by rw [beq_eq_false_iff_ne]; exact h1
      clear h1
      go_enter Tryz.func74, Tryz.ntmps74
      go_wp2_with fail
      refine (CK _).out.mono ?_
      rintro e w1 ⟨rfl, hu1⟩
      obtain ⟨⟨a0, a1, a2, a3, a4⟩, b0, b1, b2⟩ := W.out w1 hu1
      go_wp2_with fail
      go_ret
      first | exact ⟨rfl, hu.trans hu1⟩ | exact ⟨ret_bool (decide_eq_true (by omega)), hu.trans hu1⟩ | exact ⟨ret_bool (decide_eq_false (by omega)), hu.trans hu1⟩
  · rw [decide_eq_false h0]
    simp only [Bool.false_and]
    have g0 : (E == 0) = false := by rw [beq_eq_false_iff_ne]; exact h0
    clear h0
    go_enter Tryz.func74, Tryz.ntmps74
    go_wp2_with fail
    refine (CK _).out.mono ?_
    rintro e w1 ⟨rfl, hu1⟩
    obtain ⟨⟨a0, a1, a2, a3, a4⟩, b0, b1, b2⟩ := W.out w1 hu1
    go_wp2_with fail
    go_ret
    first | exact ⟨rfl, hu.trans hu1⟩ | exact ⟨ret_bool (decide_eq_true (by omega)), hu.trans hu1⟩ | exact ⟨ret_bool (decide_eq_false (by omega)), hu.trans hu1⟩
end Go.Proofs.YtkfococpanailaaGreatDoor
