/- Walks: the laws of ranges. -/
import Derived.Test.YteeenbhmdacdiaaDoorWtell
namespace Go.Proofs.YteeenbhmdacdiaaDoor
open Go.RowKit Go.Gz

set_option maxRecDepth 100000
set_option maxHeartbeats 8000000 in
theorem awake24 (w : World) (hg : Gm w) :
    Calls Tryd.prog 31 #[] w fun e w' => e = .returned (.bool true) ∧ Up w w' := by
  have A1 := fun w hg => Lib.hid (ask_any 0 99 w hg)
  rw [show askR 0 99 = ([98, 121, 116, 101, 115, 61, 48, 45, 57, 57], 0) by decide +kernel] at A1
  have A2 := fun w hg => Lib.hid (told_any 0 99 1000 w hg)
  rw [show toldR 0 99 1000 = ([98, 121, 116, 101, 115, 32, 48, 45, 57, 57, 47, 49, 48, 48, 48], 0) by decide +kernel] at A2
  have A3 := fun w hg => Lib.hid (asked_any [98, 121, 116, 101, 115, 61, 53, 45, 57] (by decide) w hg)
  rw [show askedV [98, 121, 116, 101, 115, 61, 53, 45, 57] = ((5, 9), 0) by decide +kernel] at A3
  have A4 := fun w hg => Lib.hid (tell_w [98, 121, 116, 101, 115, 32, 53, 45, 57, 47, 49, 48] (by decide) w hg)
  rw [show tellV [98, 121, 116, 101, 115, 32, 53, 45, 57, 47, 49, 48] = ((5, 9), 10, 0) by decide +kernel] at A4
  have A5 := fun w hg => Lib.hid (tell_w [98, 121, 116, 101, 115, 32, 53, 45, 57, 47, 57] (by decide) w hg)
  rw [show tellV [98, 121, 116, 101, 115, 32, 53, 45, 57, 47, 57] = ((0, 0), 0, 8) by decide +kernel] at A5
  have A6 := fun w hg => Lib.hid (asked_any [98, 121, 116, 101, 115, 61, 57] (by decide) w hg)
  rw [show askedV [98, 121, 116, 101, 115, 61, 57] = ((0, 0), 4) by decide +kernel] at A6
  have A7 := fun w => Lib.hid (clip_any 5 99 10 (by omega) w)
  rw [show clipR 5 99 10 = ((5, 9), 0) by decide +kernel] at A7
  have A8 := fun w => Lib.hid (length_any 5 9 w)
  rw [show lenR 5 9 = 5 by decide +kernel] at A8
  have A9 := fun w => Lib.hid (check_any 1 0 w)
  rw [show chk 1 0 = 8 by decide +kernel] at A9
  go_enter Tryd.func31, Tryd.ntmps31
  have HU := Lib.hid (Up.refl w)
  have n0 := new2 w 43 0 99
  replace HU := Lib.hid (HU.out.trans n0.1)
  have r0 := n0.2.1
  have r1 := n0.2.2
  clear n0
  go_wp2_with fail
  refine (A1 _ (hg.1.up HU.out)).out.mono ?_
  rintro e w1 ⟨rfl, hu⟩
  replace r0 := hu.cell r0
  replace r1 := hu.cell r1
  replace HU := Lib.hid (HU.out.trans hu)
  clear hu
  go_wp2_with fail
  refine (A2 _ (hg.1.up HU.out)).out.mono ?_
  rintro e w2 ⟨rfl, hu⟩
  replace r0 := hu.cell r0
  replace r1 := hu.cell r1
  replace HU := Lib.hid (HU.out.trans hu)
  clear hu
  clear r0 r1
  go_wp2_with fail
  refine (A3 _ (hg.up HU.out)).out.mono ?_
  rintro e w3 ⟨rfl, hu⟩
  replace HU := Lib.hid (HU.out.trans hu)
  clear hu
  have n0 := new2 w3 43 5 9
  replace HU := Lib.hid (HU.out.trans n0.1)
  have x0 := n0.2.1
  have x1 := n0.2.2
  clear n0
  go_wp2_with fail
  refine (A4 _ (hg.up HU.out)).out.mono ?_
  rintro e w4 ⟨rfl, hu⟩
  replace x0 := hu.cell x0
  replace x1 := hu.cell x1
  replace HU := Lib.hid (HU.out.trans hu)
  clear hu
  have n0 := new2 w4 43 5 9
  replace HU := Lib.hid (HU.out.trans n0.1)
  replace x0 := n0.1.cell x0
  replace x1 := n0.1.cell x1
  have y0 := n0.2.1
  have y1 := n0.2.2
  clear n0
  go_wp2_with fail
  refine (A5 _ (hg.up HU.out)).out.mono ?_
  rintro e w5 ⟨rfl, hu⟩
  replace x0 := hu.cell x0
  replace x1 := hu.cell x1
  replace y0 := hu.cell y0
  replace y1 := hu.cell y1
  replace HU := Lib.hid (HU.out.trans hu)
  clear hu
  have n0 := new2 w5 43 0 0
  replace HU := Lib.hid (HU.out.trans n0.1)
  replace x0 := n0.1.cell x0
  replace x1 := n0.1.cell x1
  replace y0 := n0.1.cell y0
  replace y1 := n0.1.cell y1
  have u0 := n0.2.1
  have u1 := n0.2.2
  clear n0
  clear u0 u1
  go_wp2_with fail
  refine (A6 _ (hg.up HU.out)).out.mono ?_
  rintro e w6 ⟨rfl, hu⟩
  replace x0 := hu.cell x0
  replace x1 := hu.cell x1
  replace y0 := hu.cell y0
  replace y1 := hu.cell y1
  replace HU := Lib.hid (HU.out.trans hu)
  clear hu
  have n0 := new2 w6 43 0 0
  replace HU := Lib.hid (HU.out.trans n0.1)
  replace x0 := n0.1.cell x0
  replace x1 := n0.1.cell x1
  replace y0 := n0.1.cell y0
  replace y1 := n0.1.cell y1
  have v0 := n0.2.1
  have v1 := n0.2.2
  clear n0
  clear v0 v1
  go_wp2_with fail
  refine (A7 _).out.mono ?_
  rintro e w7 ⟨rfl, hu⟩
  replace x0 := hu.cell x0
  replace x1 := hu.cell x1
  replace y0 := hu.cell y0
  replace y1 := hu.cell y1
  replace HU := Lib.hid (HU.out.trans hu)
  clear hu
  have n0 := new2 w7 43 5 9
  replace HU := Lib.hid (HU.out.trans n0.1)
  replace x0 := n0.1.cell x0
  replace x1 := n0.1.cell x1
  replace y0 := n0.1.cell y0
  replace y1 := n0.1.cell y1
  have z0 := n0.2.1
  have z1 := n0.2.2
  clear n0
  go_wp2_with fail
  refine (A8 _).out.mono ?_
  rintro e w8 ⟨rfl, hu⟩
  replace x0 := hu.cell x0
  replace x1 := hu.cell x1
  replace y0 := hu.cell y0
  replace y1 := hu.cell y1
  replace z0 := hu.cell z0
  replace z1 := hu.cell z1
  replace HU := Lib.hid (HU.out.trans hu)
  clear hu
  go_wp2_with fail
  refine (A9 _).out.mono ?_
  rintro e w9 ⟨rfl, hu⟩
  replace x0 := hu.cell x0
  replace x1 := hu.cell x1
  replace y0 := hu.cell y0
  replace y1 := hu.cell y1
  replace z0 := hu.cell z0
  replace z1 := hu.cell z1
  replace HU := Lib.hid (HU.out.trans hu)
  clear hu
  go_wp2_with fail
  go_ret
  exact ⟨rfl, HU.out⟩
theorem keep8 {w2 w w' : World} {a b c d : Nat} {v0 v1 v2 v3 v4 v5 v6 v7 : Value} (h : Up w2 w ∧ Gm w ∧ w.cell? ⟨a, 0, none⟩ = some v0 ∧ w.cell? ⟨a, 1, none⟩ = some v1 ∧ w.cell? ⟨b, 0, none⟩ = some v2 ∧ w.cell? ⟨b, 1, none⟩ = some v3 ∧ w.cell? ⟨c, 0, none⟩ = some v4 ∧ w.cell? ⟨c, 1, none⟩ = some v5 ∧ w.cell? ⟨d, 0, none⟩ = some v6 ∧ w.cell? ⟨d, 1, none⟩ = some v7) (hu : Up w w') :
    Up w2 w' ∧ Gm w' ∧ w'.cell? ⟨a, 0, none⟩ = some v0 ∧ w'.cell? ⟨a, 1, none⟩ = some v1 ∧ w'.cell? ⟨b, 0, none⟩ = some v2 ∧ w'.cell? ⟨b, 1, none⟩ = some v3 ∧ w'.cell? ⟨c, 0, none⟩ = some v4 ∧ w'.cell? ⟨c, 1, none⟩ = some v5 ∧ w'.cell? ⟨d, 0, none⟩ = some v6 ∧ w'.cell? ⟨d, 1, none⟩ = some v7 :=
  ⟨h.1.trans hu, h.2.1.up hu, hu.cell h.2.2.1, hu.cell h.2.2.2.1, hu.cell h.2.2.2.2.1, hu.cell h.2.2.2.2.2.1, hu.cell h.2.2.2.2.2.2.1, hu.cell h.2.2.2.2.2.2.2.1, hu.cell h.2.2.2.2.2.2.2.2.1, hu.cell h.2.2.2.2.2.2.2.2.2⟩
set_option maxHeartbeats 8000000 in
theorem lays24 (f t n : Int) (hn : -9223372036854775808 ≤ n ∧ n ≤ 9223372036854775807) (w : World) (hg : Gm w) :
    Calls Tryd.prog 6 #[.agg #[.int .i64 f, .int .i64 t], .int .i64 n] w fun e w' => e = .returned (.bool true) ∧ Up w w' := by
  have A1 := fun w hg => Lib.hid (ask_any f t w hg)
  have A2 := fun w => Lib.hid (rask_any f t w)
  have A3 := fun w hg => Lib.hid (told_any f t n w hg)
  have A4 := fun w => Lib.hid (rtold_any f t n w)
  have A5 := fun w => Lib.hid (clip_any f t n hn w)
  have A6 := fun w => Lib.hid (rclip_any f t n hn w)
  have B1 := fun w => check_any f t w
  have B2 := fun w => rcheck_any f t w
  have B3 := fun w => length_any f t w
  have B4 := fun w => rlength_any f t w
  have AW := fun w hg => awake24 w hg
  generalize askR f t = av at *
  generalize toldR f t n = tv at *
  generalize clipR f t n = cv at *
  generalize chk f t = kv at *
  generalize lenR f t = lv at *
  obtain ⟨aa, ae⟩ := av
  obtain ⟨ta, te⟩ := tv
  obtain ⟨⟨cf, ct⟩, ce⟩ := cv
  go_enter Tryd.func6, Tryd.ntmps6
  have HU := Lib.hid (Up.refl w)
  have n0 := new2 w 42 f t
  replace HU := Lib.hid (HU.out.trans n0.1)
  have r0 := n0.2.1
  have r1 := n0.2.2
  clear n0
  have n0 := new2 (w.alloc (.cells #[.int .i64 f, .int .i64 t] 42)) 43 f t
  replace HU := Lib.hid (HU.out.trans n0.1)
  replace r0 := n0.1.cell r0
  replace r1 := n0.1.cell r1
  have x0 := n0.2.1
  have x1 := n0.2.2
  clear n0
  have hsz : (w.alloc (.cells #[.int .i64 f, .int .i64 t] 42)).heap.size = w.heap.size + 1 := by simp
  rw [hsz] at x0 x1
  clear hsz
  go_wp2_with fail
  refine (A1 _ (hg.1.up HU.out)).out.mono ?_
  rintro e w1 ⟨rfl, hu⟩
  replace r0 := hu.cell r0
  replace r1 := hu.cell r1
  replace x0 := hu.cell x0
  replace x1 := hu.cell x1
  replace HU := Lib.hid (HU.out.trans hu)
  clear hu
  go_wp2_with fail
  refine (A2 _).out.mono ?_
  rintro e w2 ⟨rfl, hu⟩
  replace r0 := hu.cell r0
  replace r1 := hu.cell r1
  replace x0 := hu.cell x0
  replace x1 := hu.cell x1
  replace HU := Lib.hid (HU.out.trans hu)
  clear hu
  go_wp2_with fail
  refine (A3 _ (hg.1.up HU.out)).out.mono ?_
  rintro e w3 ⟨rfl, hu⟩
  replace r0 := hu.cell r0
  replace r1 := hu.cell r1
  replace x0 := hu.cell x0
  replace x1 := hu.cell x1
  replace HU := Lib.hid (HU.out.trans hu)
  clear hu
  go_wp2_with fail
  refine (A4 _).out.mono ?_
  rintro e w4 ⟨rfl, hu⟩
  replace r0 := hu.cell r0
  replace r1 := hu.cell r1
  replace x0 := hu.cell x0
  replace x1 := hu.cell x1
  replace HU := Lib.hid (HU.out.trans hu)
  clear hu
  go_wp2_with fail
  refine (A5 _).out.mono ?_
  rintro e w5 ⟨rfl, hu⟩
  replace r0 := hu.cell r0
  replace r1 := hu.cell r1
  replace x0 := hu.cell x0
  replace x1 := hu.cell x1
  replace HU := Lib.hid (HU.out.trans hu)
  clear hu
  have n0 := new2 w5 43 cf ct
  replace HU := Lib.hid (HU.out.trans n0.1)
  replace r0 := n0.1.cell r0
  replace r1 := n0.1.cell r1
  replace x0 := n0.1.cell x0
  replace x1 := n0.1.cell x1
  have y0 := n0.2.1
  have y1 := n0.2.2
  clear n0
  go_wp2_with fail
  refine (A6 _).out.mono ?_
  rintro e w6 ⟨rfl, hu⟩
  replace r0 := hu.cell r0
  replace r1 := hu.cell r1
  replace x0 := hu.cell x0
  replace x1 := hu.cell x1
  replace y0 := hu.cell y0
  replace y1 := hu.cell y1
  replace HU := Lib.hid (HU.out.trans hu)
  clear hu
  have n0 := new2 w6 42 cf ct
  replace HU := Lib.hid (HU.out.trans n0.1)
  replace r0 := n0.1.cell r0
  replace r1 := n0.1.cell r1
  replace x0 := n0.1.cell x0
  replace x1 := n0.1.cell x1
  replace y0 := n0.1.cell y0
  replace y1 := n0.1.cell y1
  have z0 := n0.2.1
  have z1 := n0.2.2
  clear n0
  have hgw := hg.up HU.out
  have huw := HU.out
  go_wp2_with fail
  go_region_held3 (fun w' => Up w w' ∧ Gm w' ∧ w'.cell? ⟨w.heap.size, 0, none⟩ = some (.int .i64 f) ∧ w'.cell? ⟨w.heap.size, 1, none⟩ = some (.int .i64 t) ∧ w'.cell? ⟨w.heap.size + 1, 0, none⟩ = some (.int .i64 f) ∧ w'.cell? ⟨w.heap.size + 1, 1, none⟩ = some (.int .i64 t) ∧ w'.cell? ⟨w5.heap.size, 0, none⟩ = some (.int .i64 cf) ∧ w'.cell? ⟨w5.heap.size, 1, none⟩ = some (.int .i64 ct) ∧ w'.cell? ⟨w6.heap.size, 0, none⟩ = some (.int .i64 cf) ∧ w'.cell? ⟨w6.heap.size, 1, none⟩ = some (.int .i64 ct)) (first | assumption | exact ⟨huw.drew, hgw.up (Up.refl _).drew, r0, r1, x0, x1, y0, y1, z0, z1⟩ | exact keep8 (by assumption) (by assumption) | exact keep8 (by assumption) ((Up.refl _).alloc _)) (first | (go_at_call 27; refine (B1 _).mono ?_; rintro e w8 ⟨rfl, hu8⟩) | (go_at_call 28; refine (B2 _).mono ?_; rintro e w8 ⟨rfl, hu8⟩) | (go_at_call 29; refine (B3 _).mono ?_; rintro e w8 ⟨rfl, hu8⟩) | (go_at_call 30; refine (B4 _).mono ?_; rintro e w8 ⟨rfl, hu8⟩) | (go_at_call 31; refine (AW _ (by go_split_ands; assumption)).mono ?_; rintro e w8 ⟨rfl, hu8⟩))
  all_goals
    go_wp2_with fail
    go_ret
    exact ⟨rfl, by go_split_ands; assumption⟩
end Go.Proofs.YteeenbhmdacdiaaDoor
