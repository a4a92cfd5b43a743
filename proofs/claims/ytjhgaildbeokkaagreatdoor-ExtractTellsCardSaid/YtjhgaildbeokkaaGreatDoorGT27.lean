/- Walks: cover.apart, within, square; extract.Of, Zooms. -/
import Derived.Test.YtjhgaildbeokkaaGreatDoorGT26
namespace Go.Gz
def apartR (a b : Rc) : Bool := decide (a.x1 < b.x0) || (decide (b.x1 < a.x0) || (decide (a.y1 < b.y0) || decide (b.y1 < a.y0)))
def withinR (a b : Rc) : Bool := decide (b.x0 ≤ a.x0) && (decide (a.x1 ≤ b.x1) && (decide (b.y0 ≤ a.y0) && decide (a.y1 ≤ b.y1)))
end Go.Gz
namespace Go.Proofs.YtjhgaildbeokkaaGreatDoor
open Go.RowKit Go.Gz Go.Shelf

set_option maxRecDepth 100000
theorem capart_any (a b : Rc) (w : World) :
    Calls Tryz.prog 235 #[rcA a, rcA b] w fun e w' => e = .returned (.bool (apartR a b)) ∧ Up w w' := by
  obtain ⟨az, ax0, ay0, ax1, ay1⟩ := a;obtain ⟨bz, bx0, by0, bx1, by1⟩ := b;unfold apartR;simp only;have hu := ((Up.refl w).alloc (rcC ⟨az, ax0, ay0, ax1, ay1⟩)).alloc (rcC ⟨bz, bx0, by0, bx1, by1⟩);have q0 := ((Up.refl _).alloc (rcC ⟨bz, bx0, by0, bx1, by1⟩)).obj (heap_alloc_new w (rcC ⟨az, ax0, ay0, ax1, ay1⟩));have q1 := heap_alloc_new (w.alloc (rcC ⟨az, ax0, ay0, ax1, ay1⟩)) (rcC ⟨bz, bx0, by0, bx1, by1⟩);rw [World.size_alloc] at q1;obtain ⟨c0, c1, c2, c3, c4⟩ := rc_cells (r := ⟨az, ax0, ay0, ax1, ay1⟩) q0;obtain ⟨d0, d1, d2, d3, d4⟩ := rc_cells (r := ⟨bz, bx0, by0, bx1, by1⟩) q1;simp only at c0 c1 c2 c3 c4 d0 d1 d2 d3 d4;clear q0 q1;by_cases h0 : ax1 < bx0
  · rw [decide_eq_true h0];simp only [Bool.true_or];go_enter Tryz.func235, Tryz.ntmps235;go_wp2_with fail;go_ret;first | exact ⟨rfl, hu⟩ | exact ⟨ret_bool (decide_eq_true (by omega)), hu⟩ | exact ⟨ret_bool (decide_eq_false (by omega)), hu⟩
  · rw [decide_eq_false h0];simp only [Bool.false_or];by_cases h1 : bx1 < ax0
    · rw [decide_eq_true h1];simp only [Bool.true_or];go_enter Tryz.func235, Tryz.ntmps235;go_wp2_with fail;go_ret;first | exact ⟨rfl, hu⟩ | exact ⟨ret_bool (decide_eq_true (by omega)), hu⟩ | exact ⟨ret_bool (decide_eq_false (by omega)), hu⟩
    · rw [decide_eq_false h1];simp only [Bool.false_or];by_cases h2 : ay1 < by0
      · rw [decide_eq_true h2];simp only [Bool.true_or];go_enter Tryz.func235, Tryz.ntmps235;go_wp2_with fail;go_ret;first | exact ⟨rfl, hu⟩ | exact ⟨ret_bool (decide_eq_true (by omega)), hu⟩ | exact ⟨ret_bool (decide_eq_false (by omega)), hu⟩
      · rw [decide_eq_false h2];simp only [Bool.false_or];by_cases h3 : by1 < ay0
        focus
          rw [decide_eq_true h3]
        rotate_left;focus
          rw [decide_eq_false h3]
        rotate_left;all_goals
          go_enter Tryz.func235, Tryz.ntmps235;go_wp2_with fail;go_ret;first | exact ⟨rfl, hu⟩ | exact ⟨ret_bool (decide_eq_true (by omega)), hu⟩ | exact ⟨ret_bool (decide_eq_false (by omega)), hu⟩
theorem cwithin_any (a b : Rc) (w : World) :
    Calls Tryz.prog 236 #[rcA a, rcA b] w fun e w' => e = .returned (.bool (withinR a b)) ∧ Up w w' := by
  obtain ⟨az, ax0, ay0, ax1, ay1⟩ := a;obtain ⟨bz, bx0, by0, bx1, by1⟩ := b;unfold withinR;simp only;have hu := ((Up.refl w).alloc (rcC ⟨az, ax0, ay0, ax1, ay1⟩)).alloc (rcC ⟨bz, bx0, by0, bx1, by1⟩);have q0 := ((Up.refl _).alloc (rcC ⟨bz, bx0, by0, bx1, by1⟩)).obj (heap_alloc_new w (rcC ⟨az, ax0, ay0, ax1, ay1⟩));have q1 := heap_alloc_new (w.alloc (rcC ⟨az, ax0, ay0, ax1, ay1⟩)) (rcC ⟨bz, bx0, by0, bx1, by1⟩);rw [World.size_alloc] at q1;obtain ⟨c0, c1, c2, c3, c4⟩ := rc_cells (r := ⟨az, ax0, ay0, ax1, ay1⟩) q0;obtain ⟨d0, d1, d2, d3, d4⟩ := rc_cells (r := ⟨bz, bx0, by0, bx1, by1⟩) q1;simp only at c0 c1 c2 c3 c4 d0 d1 d2 d3 d4;clear q0 q1;by_cases h0 : bx0 ≤ ax0
  · rw [decide_eq_true h0];simp only [Bool.true_and];by_cases h1 : ax1 ≤ bx1
    · rw [decide_eq_true h1];simp only [Bool.true_and];by_cases h2 : by0 ≤ ay0
      · rw [decide_eq_true h2];simp only [Bool.true_and];by_cases h3 : ay1 ≤ by1
        focus
          rw [decide_eq_true h3]
        rotate_left;focus
          rw [decide_eq_false h3]
        rotate_left;all_goals
          go_enter Tryz.func236, Tryz.ntmps236;go_wp2_with fail;go_ret;first | exact ⟨rfl, hu⟩ | exact ⟨ret_bool (decide_eq_true (by omega)), hu⟩ | exact ⟨ret_bool (decide_eq_false (by omega)), hu⟩
      · rw [decide_eq_false h2];simp only [Bool.false_and];go_enter Tryz.func236, Tryz.ntmps236;go_wp2_with fail;go_ret;first | exact ⟨rfl, hu⟩ | exact ⟨ret_bool (decide_eq_true (by omega)), hu⟩ | exact ⟨ret_bool (decide_eq_false (by omega)), hu⟩
    · rw [decide_eq_false h1];simp only [Bool.false_and];go_enter Tryz.func236, Tryz.ntmps236;go_wp2_with fail;go_ret;first | exact ⟨rfl, hu⟩ | exact ⟨ret_bool (decide_eq_true (by omega)), hu⟩ | exact ⟨ret_bool (decide_eq_false (by omega)), hu⟩
  · rw [decide_eq_false h0];simp only [Bool.false_and];go_enter Tryz.func236, Tryz.ntmps236;go_wp2_with fail;go_ret;first | exact ⟨rfl, hu⟩ | exact ⟨ret_bool (decide_eq_true (by omega)), hu⟩ | exact ⟨ret_bool (decide_eq_false (by omega)), hu⟩
theorem eof_any (L : Items) (hg : Gz.Good L) (l : Rcs) (hl : l.length ≤ 1000000) (A1 : Option Addr) (c1 : Nat) (A2 : Option Addr) (c2 : Nat) (w : World) (hr1 : Rd w 2 A1 L.length c1 (itV L)) (hr2 : Rd w 5 A2 l.length c2 (rcV l)) :
    Calls Tryz.prog 37 #[.agg #[.slice A1 L.length c1], .slice A2 l.length c2] w (ChaE w (keepL L (anyR l))) := by
  have n1 := ((((Up.refl w).alloc (.cells #[.slice A1 L.length c1] 29)).alloc (.cells #[.slice A2 l.length c2] 78)).alloc (.cells #[.slice none 0 0] 29));have q1 := heap_alloc_new (w.alloc (.cells #[.slice A1 L.length c1] 29)) (.cells #[.slice A2 l.length c2] 78);have q2 := heap_alloc_new ((w.alloc (.cells #[.slice A1 L.length c1] 29)).alloc (.cells #[.slice A2 l.length c2] 78)) (.cells #[.slice none 0 0] 29);simp only [World.size_alloc] at q1 q2;have SX := Lib.hid (keepR_any L hg l hl (w.heap.size + 1) A2 c2 A1 c1 _ (hr1.up n1) (hr2.up n1) (blk_one (((Up.refl _).alloc (.cells #[.slice none 0 0] 29)).obj q1)).1);have HQ := Lib.hid q2;have HN := Lib.hid n1;clear hr1 hr2 n1 q1 q2;go_enter Tryz.func37, Tryz.ntmps37;go_wp2_with fail;with_reducible refine SX.out.mono ?_
  rintro e w2 ⟨A6, c6, rfl, r6, hu⟩;generalize keepL L (anyR l) = S at *;have HQ2 := Lib.hid (hu.obj HQ.out);obtain ⟨k3, f3⟩ := blk_one HQ2.out;have HR := Lib.hid r6;clear r6;go_wp2_with fail;have HB5 := Lib.hid (heap_setCell_same w2 (w.heap.size + 1 + 1) 0 _ 29 (.slice A6 S.length c6) HQ2.out);have d7 := (blk_one HB5.out).1;refine bodyPost_ret (v := .agg #[.slice A6 S.length c6]) (by simp [results, Tryz.results37, go_sem, d7]) rfl ⟨A6, c6, rfl, HR.out.far HQ2.out _, (HN.out.trans hu).set (p := ⟨w.heap.size + 1 + 1, 0, none⟩) (by simp; omega) _⟩
theorem ezooms_any (L : Items) (hg : Gz.Good L) (lo hj : Int) (A1 : Option Addr) (c1 : Nat) (w : World) (hr1 : Rd w 2 A1 L.length c1 (itV L)) :
    Calls Tryz.prog 39 #[.agg #[.slice A1 L.length c1], .int .i64 lo, .int .i64 hj] w (ChaE w (keepL L (zoomR lo hj))) := by
  have n1 := (((((Up.refl w).alloc (.cells #[.slice A1 L.length c1] 29)).alloc (.cells #[.int .i64 lo] 3)).alloc (.cells #[.int .i64 hj] 3)).alloc (.cells #[.slice none 0 0] 29));have q1 := heap_alloc_new (w.alloc (.cells #[.slice A1 L.length c1] 29)) (.cells #[.int .i64 lo] 3);have q2 := heap_alloc_new ((w.alloc (.cells #[.slice A1 L.length c1] 29)).alloc (.cells #[.int .i64 lo] 3)) (.cells #[.int .i64 hj] 3);have q3 := heap_alloc_new (((w.alloc (.cells #[.slice A1 L.length c1] 29)).alloc (.cells #[.int .i64 lo] 3)).alloc (.cells #[.int .i64 hj] 3)) (.cells #[.slice none 0 0] 29);simp only [World.size_alloc] at q1 q2 q3;have SX := Lib.hid (keepZ_any L hg lo hj (w.heap.size + 1) (w.heap.size + 1 + 1) A1 c1 _ (hr1.up n1) (blk_one ((((Up.refl _).alloc (.cells #[.int .i64 hj] 3)).alloc (.cells #[.slice none 0 0] 29)).obj q1)).1 (blk_one (((Up.refl _).alloc (.cells #[.slice none 0 0] 29)).obj q2)).1);have HQ := Lib.hid q3;have HN := Lib.hid n1;clear hr1 n1 q1 q2 q3;go_enter Tryz.func39, Tryz.ntmps39;go_wp2_with fail;with_reducible refine SX.out.mono ?_
  rintro e w2 ⟨A6, c6, rfl, r6, hu⟩;generalize keepL L (zoomR lo hj) = S at *;have HQ2 := Lib.hid (hu.obj HQ.out);obtain ⟨k3, f3⟩ := blk_one HQ2.out;have HR := Lib.hid r6;clear r6;go_wp2_with fail;have HB5 := Lib.hid (heap_setCell_same w2 (w.heap.size + 1 + 1 + 1) 0 _ 29 (.slice A6 S.length c6) HQ2.out);have d7 := (blk_one HB5.out).1;refine bodyPost_ret (v := .agg #[.slice A6 S.length c6]) (by simp [results, Tryz.results39, go_sem, d7]) rfl ⟨A6, c6, rfl, HR.out.far HQ2.out _, (HN.out.trans hu).set (p := ⟨w.heap.size + 1 + 1 + 1, 0, none⟩) (by simp; omega) _⟩
end Go.Proofs.YtjhgaildbeokkaaGreatDoor
