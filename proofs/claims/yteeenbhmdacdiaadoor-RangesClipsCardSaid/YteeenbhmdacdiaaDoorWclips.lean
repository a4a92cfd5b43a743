/- Walks: the law RangesClips. -/
import Derived.Test.YteeenbhmdacdiaaDoorWlaw24
import Derived.Test.YteeenbhmdacdiaaDoorPlaw24
namespace Go.Proofs.YteeenbhmdacdiaaDoor
open Go.RowKit Go.Gz

set_option maxRecDepth 100000
set_option maxHeartbeats 8000000 in
theorem clips24_a (f t n : Int) (hn : -9223372036854775808 ≤ n ∧ n ≤ 9223372036854775807) (w : World) (hg : Gm w) (h : ¬ (clipR f t n).2 = 0) (h2 : n ≤ f) :
    Calls Tryd.prog 9 #[.agg #[.int .i64 f, .int .i64 t], .int .i64 n] w fun e w' => e = .returned (.bool true) ∧ Up w w' := by
  have AW := fun w hg => Lib.hid (awake24 w hg)
  have A1 := fun w => Lib.hid (clip_any f t n hn w)
  rw [clip_bad h] at A1
  clear h
  go_enter Tryd.func9, Tryd.ntmps9
  have HU := Lib.hid (Up.refl w)
  have n0 := new2 w 42 f t
  replace HU := Lib.hid (HU.out.trans n0.1)
  have r0 := n0.2.1
  have r1 := n0.2.2
  clear n0
  have n0 := new2 (w.alloc (.cells #[.int .i64 f, .int .i64 t] 42)) 43 f t
  replace HU := Lib.hid (HU.out.trans n0.1)
  replace r0 := n0.1.cell r0
  replace r1 := n0.1.cell r1
  have x0 := n0.2.1
  have x1 := n0.2.2
  clear n0
  have hsz : (w.alloc (.cells #[.int .i64 f, .int .i64 t] 42)).heap.size = w.heap.size + 1 := by simp
  rw [hsz] at x0 x1
  clear hsz
  go_wp2_with fail
  refine (A1 _).out.mono ?_
  rintro e w1 ⟨rfl, hu⟩
  replace r0 := hu.cell r0
  replace r1 := hu.cell r1
  replace x0 := hu.cell x0
  replace x1 := hu.cell x1
  replace HU := Lib.hid (HU.out.trans hu)
  clear hu
  have n0 := new2 w1 43 0 0
  replace HU := Lib.hid (HU.out.trans n0.1)
  replace r0 := n0.1.cell r0
  replace r1 := n0.1.cell r1
  replace x0 := n0.1.cell x0
  replace x1 := n0.1.cell x1
  have y0 := n0.2.1
  have y1 := n0.2.2
  clear n0
  go_wp2_with fail
  refine (AW _ (hg.up HU.out)).out.mono ?_
  rintro e w2 ⟨rfl, hu⟩
  replace r0 := hu.cell r0
  replace r1 := hu.cell r1
  replace x0 := hu.cell x0
  replace x1 := hu.cell x1
  replace y0 := hu.cell y0
  replace y1 := hu.cell y1
  replace HU := Lib.hid (HU.out.trans hu)
  clear hu
  go_wp2_with fail
  go_ret
  exact ⟨rfl, HU.out⟩
set_option maxHeartbeats 8000000 in
theorem clips24_b (f t n : Int) (hn : -9223372036854775808 ≤ n ∧ n ≤ 9223372036854775807) (w : World) (hg : Gm w) (h : ¬ (clipR f t n).2 = 0) (h2 : ¬ n ≤ f) (hk : chk f t = 8) :
    Calls Tryd.prog 9 #[.agg #[.int .i64 f, .int .i64 t], .int .i64 n] w fun e w' => e = .returned (.bool true) ∧ Up w w' := by
  have AW := fun w hg => Lib.hid (awake24 w hg)
  have A1 := fun w => Lib.hid (clip_any f t n hn w)
  rw [clip_bad h] at A1
  clear h
  have A2 := fun w => Lib.hid (check_any f t w)
  rw [hk] at A2
  clear hk
  go_enter Tryd.func9, Tryd.ntmps9
  have HU := Lib.hid (Up.refl w)
  have n0 := new2 w 42 f t
  replace HU := Lib.hid (HU.out.trans n0.1)
  have r0 := n0.2.1
  have r1 := n0.2.2
  clear n0
  have n0 := new2 (w.alloc (.cells #[.int .i64 f, .int .i64 t] 42)) 43 f t
  replace HU := Lib.hid (HU.out.trans n0.1)
  replace r0 := n0.1.cell r0
  replace r1 := n0.1.cell r1
  have x0 := n0.2.1
  have x1 := n0.2.2
  clear n0
  have hsz : (w.alloc (.cells #[.int .i64 f, .int .i64 t] 42)).heap.size = w.heap.size + 1 := by simp
  rw [hsz] at x0 x1
  clear hsz
  go_wp2_with fail
  refine (A1 _).out.mono ?_
  rintro e w1 ⟨rfl, hu⟩
  replace r0 := hu.cell r0
  replace r1 := hu.cell r1
  replace x0 := hu.cell x0
  replace x1 := hu.cell x1
  replace HU := Lib.hid (HU.out.trans hu)
  clear hu
  have n0 := new2 w1 43 0 0
  replace HU := Lib.hid (HU.out.trans n0.1)
  replace r0 := n0.1.cell r0
  replace r1 := n0.1.cell r1
  replace x0 := n0.1.cell x0
  replace x1 := n0.1.cell x1
  have y0 := n0.2.1
  have y1 := n0.2.2
  clear n0
  go_wp2_with fail
  refine (A2 _).out.mono ?_
  rintro e w2 ⟨rfl, hu⟩
  replace r0 := hu.cell r0
  replace r1 := hu.cell r1
  replace x0 := hu.cell x0
  replace x1 := hu.cell x1
  replace y0 := hu.cell y0
  replace y1 := hu.cell y1
  replace HU := Lib.hid (HU.out.trans hu)
  clear hu
  go_wp2_with fail
  refine (AW _ (hg.up HU.out)).out.mono ?_
  rintro e w3 ⟨rfl, hu⟩
  replace r0 := hu.cell r0
  replace r1 := hu.cell r1
  replace x0 := hu.cell x0
  replace x1 := hu.cell x1
  replace y0 := hu.cell y0
  replace y1 := hu.cell y1
  replace HU := Lib.hid (HU.out.trans hu)
  clear hu
  go_wp2_with fail
  go_ret
  exact ⟨rfl, HU.out⟩
set_option maxHeartbeats 8000000 in
theorem clips24_c (f t n : Int) (hn : -9223372036854775808 ≤ n ∧ n ≤ 9223372036854775807) (w : World) (hg : Gm w) (h : (clipR f t n).2 = 0) (h2 : n ≤ t) :
    Calls Tryd.prog 9 #[.agg #[.int .i64 f, .int .i64 t], .int .i64 n] w fun e w' => e = .returned (.bool true) ∧ Up w w' := by
  have AW := fun w hg => Lib.hid (awake24 w hg)
  have A1 := fun w => Lib.hid (clip_any f t n hn w)
  obtain ⟨h3, h4, h5, h6, h7⟩ := clip_good h
  rw [h5] at A1
  have A2 := fun w => Lib.hid (clip_any f (min t (n - 1)) n hn w)
  rw [h6] at A2
  clear h h5 h6
  have A3 := fun w => Lib.hid (length_any f (min t (n - 1)) w)
  have k := chk_fits h7
  have hl : 1 ≤ lenR f (min t (n - 1)) := by unfold lenR; rw [if_neg (by omega)]; omega
  clear h3 h7
  generalize hm : min t (n - 1) = m at *
  have k1 : m ≤ t := by omega
  have k2 : m < n := by omega
  clear hm k
  generalize lenR f m = lv at *
  go_enter Tryd.func9, Tryd.ntmps9
  have HU := Lib.hid (Up.refl w)
  have n0 := new2 w 42 f t
  replace HU := Lib.hid (HU.out.trans n0.1)
  have r0 := n0.2.1
  have r1 := n0.2.2
  clear n0
  have n0 := new2 (w.alloc (.cells #[.int .i64 f, .int .i64 t] 42)) 43 f t
  replace HU := Lib.hid (HU.out.trans n0.1)
  replace r0 := n0.1.cell r0
  replace r1 := n0.1.cell r1
  have x0 := n0.2.1
  have x1 := n0.2.2
  clear n0
  have hsz : (w.alloc (.cells #[.int .i64 f, .int .i64 t] 42)).heap.size = w.heap.size + 1 := by simp
  rw [hsz] at x0 x1
  clear hsz
  go_wp2_with fail
  refine (A1 _).out.mono ?_
  rintro e w1 ⟨rfl, hu⟩
  replace r0 := hu.cell r0
  replace r1 := hu.cell r1
  replace x0 := hu.cell x0
  replace x1 := hu.cell x1
  replace HU := Lib.hid (HU.out.trans hu)
  clear hu
  have n0 := new2 w1 43 f m
  replace HU := Lib.hid (HU.out.trans n0.1)
  replace r0 := n0.1.cell r0
  replace r1 := n0.1.cell r1
  replace x0 := n0.1.cell x0
  replace x1 := n0.1.cell x1
  have y0 := n0.2.1
  have y1 := n0.2.2
  clear n0
  go_wp2_with fail
  refine (A2 _).out.mono ?_
  rintro e w2 ⟨rfl, hu⟩
  replace r0 := hu.cell r0
  replace r1 := hu.cell r1
  replace x0 := hu.cell x0
  replace x1 := hu.cell x1
  replace y0 := hu.cell y0
  replace y1 := hu.cell y1
  replace HU := Lib.hid (HU.out.trans hu)
  clear hu
  have n0 := new2 w2 43 f m
  replace HU := Lib.hid (HU.out.trans n0.1)
  replace r0 := n0.1.cell r0
  replace r1 := n0.1.cell r1
  replace x0 := n0.1.cell x0
  replace x1 := n0.1.cell x1
  replace y0 := n0.1.cell y0
  replace y1 := n0.1.cell y1
  have z0 := n0.2.1
  have z1 := n0.2.2
  clear n0
  go_wp2_with fail
  refine (A3 _).out.mono ?_
  rintro e w3 ⟨rfl, hu⟩
  replace r0 := hu.cell r0
  replace r1 := hu.cell r1
  replace x0 := hu.cell x0
  replace x1 := hu.cell x1
  replace y0 := hu.cell y0
  replace y1 := hu.cell y1
  replace z0 := hu.cell z0
  replace z1 := hu.cell z1
  replace HU := Lib.hid (HU.out.trans hu)
  clear hu
  go_wp2_with fail
  refine (AW _ (hg.up HU.out)).out.mono ?_
  rintro e w4 ⟨rfl, hu⟩
  replace r0 := hu.cell r0
  replace r1 := hu.cell r1
  replace x0 := hu.cell x0
  replace x1 := hu.cell x1
  replace y0 := hu.cell y0
  replace y1 := hu.cell y1
  replace z0 := hu.cell z0
  replace z1 := hu.cell z1
  replace HU := Lib.hid (HU.out.trans hu)
  clear hu
  go_wp2_with fail
  go_ret
  exact ⟨rfl, HU.out⟩
set_option maxHeartbeats 8000000 in
theorem clips24_d (f t n : Int) (hn : -9223372036854775808 ≤ n ∧ n ≤ 9223372036854775807) (w : World) (hg : Gm w) (h : (clipR f t n).2 = 0) (h2 : ¬ n ≤ t) :
    Calls Tryd.prog 9 #[.agg #[.int .i64 f, .int .i64 t], .int .i64 n] w fun e w' => e = .returned (.bool true) ∧ Up w w' := by
  have AW := fun w hg => Lib.hid (awake24 w hg)
  have A1 := fun w => Lib.hid (clip_any f t n hn w)
  obtain ⟨h3, h4, h5, h6, h7⟩ := clip_good h
  rw [h5] at A1
  have A2 := fun w => Lib.hid (clip_any f (min t (n - 1)) n hn w)
  rw [h6] at A2
  clear h h5 h6
  have A3 := fun w => Lib.hid (length_any f (min t (n - 1)) w)
  have k := chk_fits h7
  have hl : 1 ≤ lenR f (min t (n - 1)) := by unfold lenR; rw [if_neg (by omega)]; omega
  clear h3 h7
  rw [show min t (n - 1) = t by omega] at *
  clear k
  have k2 : t < n := by omega
  generalize lenR f t = lv at *
  go_enter Tryd.func9, Tryd.ntmps9
  have HU := Lib.hid (Up.refl w)
  have n0 := new2 w 42 f t
  replace HU := Lib.hid (HU.out.trans n0.1)
  have r0 := n0.2.1
  have r1 := n0.2.2
  clear n0
  have n0 := new2 (w.alloc (.cells #[.int .i64 f, .int .i64 t] 42)) 43 f t
  replace HU := Lib.hid (HU.out.trans n0.1)
  replace r0 := n0.1.cell r0
  replace r1 := n0.1.cell r1
  have x0 := n0.2.1
  have x1 := n0.2.2
  clear n0
  have hsz : (w.alloc (.cells #[.int .i64 f, .int .i64 t] 42)).heap.size = w.heap.size + 1 := by simp
  rw [hsz] at x0 x1
  clear hsz
  go_wp2_with fail
  refine (A1 _).out.mono ?_
  rintro e w1 ⟨rfl, hu⟩
  replace r0 := hu.cell r0
  replace r1 := hu.cell r1
  replace x0 := hu.cell x0
  replace x1 := hu.cell x1
  replace HU := Lib.hid (HU.out.trans hu)
  clear hu
  have n0 := new2 w1 43 f t
  replace HU := Lib.hid (HU.out.trans n0.1)
  replace r0 := n0.1.cell r0
  replace r1 := n0.1.cell r1
  replace x0 := n0.1.cell x0
  replace x1 := n0.1.cell x1
  have y0 := n0.2.1
  have y1 := n0.2.2
  clear n0
  go_wp2_with fail
  refine (A2 _).out.mono ?_
  rintro e w2 ⟨rfl, hu⟩
  replace r0 := hu.cell r0
  replace r1 := hu.cell r1
  replace x0 := hu.cell x0
  replace x1 := hu.cell x1
  replace y0 := hu.cell y0
  replace y1 := hu.cell y1
  replace HU := Lib.hid (HU.out.trans hu)
  clear hu
  have n0 := new2 w2 43 f t
  replace HU := Lib.hid (HU.out.trans n0.1)
  replace r0 := n0.1.cell r0
  replace r1 := n0.1.cell r1
  replace x0 := n0.1.cell x0
  replace x1 := n0.1.cell x1
  replace y0 := n0.1.cell y0
  replace y1 := n0.1.cell y1
  have z0 := n0.2.1
  have z1 := n0.2.2
  clear n0
  go_wp2_with fail
  refine (A3 _).out.mono ?_
  rintro e w3 ⟨rfl, hu⟩
  replace r0 := hu.cell r0
  replace r1 := hu.cell r1
  replace x0 := hu.cell x0
  replace x1 := hu.cell x1
  replace y0 := hu.cell y0
  replace y1 := hu.cell y1
  replace z0 := hu.cell z0
  replace z1 := hu.cell z1
  replace HU := Lib.hid (HU.out.trans hu)
  clear hu
  go_wp2_with fail
  refine (AW _ (hg.up HU.out)).out.mono ?_
  rintro e w4 ⟨rfl, hu⟩
  replace r0 := hu.cell r0
  replace r1 := hu.cell r1
  replace x0 := hu.cell x0
  replace x1 := hu.cell x1
  replace y0 := hu.cell y0
  replace y1 := hu.cell y1
  replace z0 := hu.cell z0
  replace z1 := hu.cell z1
  replace HU := Lib.hid (HU.out.trans hu)
  clear hu
  go_wp2_with fail
  go_ret
  exact ⟨rfl, HU.out⟩
theorem clips24 (f t n : Int) (hn : -9223372036854775808 ≤ n ∧ n ≤ 9223372036854775807) (w : World) (hg : Gm w) :
    Calls Tryd.prog 9 #[.agg #[.int .i64 f, .int .i64 t], .int .i64 n] w fun e w' => e = .returned (.bool true) ∧ Up w w' := by
  by_cases h : (clipR f t n).2 = 0
  · by_cases h2 : n ≤ t
    · exact clips24_c f t n hn w hg h h2
    · exact clips24_d f t n hn w hg h h2
  · rcases clip_why h with h2 | h2
    · exact clips24_a f t n hn w hg h h2
    · by_cases h3 : n ≤ f
      · exact clips24_a f t n hn w hg h h3
      · exact clips24_b f t n hn w hg h h3 h2
end Go.Proofs.YteeenbhmdacdiaaDoor
