/- Walk: the law RouteBack. -/
import Derived.Test.YteeenbhmdacdiaaDoorWlaw34
import Derived.Test.YteeenbhmdacdiaaDoorPlaw34
namespace Go.Proofs.YteeenbhmdacdiaaDoor
open Go.RowKit Go.Gz

set_option maxRecDepth 100000 in
set_option maxHeartbeats 8000000 in
theorem back34_00 (z x y : Int) (ext l : Bs) (h1 : ¬ l.length > 300) (h2 : ¬ ext.length > 300) (w : World) (hg : Gl w)
    (hp : ¬ (prT z x y ext).2 = 0)
    (hq : ¬ (rt l).2.2 = 0) :
    Calls Tryd.prog 4 #[.agg #[.int .i64 z, .int .i64 x, .int .i64 y], .string ⟨ext.toArray⟩, .string ⟨l.toArray⟩] w fun e w' => e = .returned (.bool true) ∧ Up w w' := by
  have AW := fun w hg => Lib.hid (awake34 w hg)
  have A4 := fun w hg => Lib.hid (print_any z x y ext (by omega) w hg)
  generalize prT z x y ext = p at *
  obtain ⟨pb, pe⟩ := p
  have hb : (pe == 0) = false := by rw [beq_eq_false_iff_ne]; exact hp
  clear hp
  have A1 := fun w hg => Lib.hid (Parse_any l (by omega) w hg)
  have A3 := fun w hg => Lib.hid (Ext_any l (by omega) w hg)
  obtain ⟨_, hr⟩ | ⟨rz, rx, ry, re, hr, _⟩ := rt_cases l
  rotate_left
  · exact absurd (by rw [hr]) hq
  rw [hr] at A1 A3
  simp only at A1 A3
  clear hr
  generalize (rt l).2.2 = er at *
  have hb1 : (er != 0) = true := by rw [bne_iff_ne]; exact hq
  clear hq
  go_enter Tryd.func4, Tryd.ntmps4
  have n0 := new3 w 23 z x y
  go_wp2_with fail
  refine (A4 _ (hg.up n0.1)).out.mono ?_
  rintro e w1 ⟨rfl, hu⟩
  have HU := Lib.hid (n0.1.trans hu)
  have c0 := hu.cell n0.2.1
  have c1 := hu.cell n0.2.2.1
  have c2 := hu.cell n0.2.2.2
  clear hu n0
  go_wp2_with fail
  clear c0 c1 c2
  refine (A1 _ (hg.up HU.out)).out.mono ?_
  rintro e w4 ⟨rfl, hu⟩
  have n1 := new3 w4 25 0 0 0
  replace HU := Lib.hid (HU.out.trans (hu.trans n1.1))
  clear hu
  go_wp2_with fail
  refine (A3 _ (hg.up HU.out)).out.mono ?_
  rintro e w5 ⟨rfl, hu⟩
  replace HU := Lib.hid (HU.out.trans hu)
  have d0 := hu.cell n1.2.1
  have d1 := hu.cell n1.2.2.1
  have d2 := hu.cell n1.2.2.2
  clear hu n1
  go_wp2_with fail
  refine (AW _ (hg.up HU.out)).out.mono ?_
  rintro e w7 ⟨rfl, hu⟩
  go_wp2_with fail
  go_ret
  exact ⟨rfl, HU.out.trans hu⟩
set_option maxRecDepth 100000 in
set_option maxHeartbeats 8000000 in
theorem back34_01 (z x y : Int) (ext l : Bs) (h1 : ¬ l.length > 300) (h2 : ¬ ext.length > 300) (w : World) (hg : Gl w)
    (hp : ¬ (prT z x y ext).2 = 0)
    (hq : (rt l).2.2 = 0) :
    Calls Tryd.prog 4 #[.agg #[.int .i64 z, .int .i64 x, .int .i64 y], .string ⟨ext.toArray⟩, .string ⟨l.toArray⟩] w fun e w' => e = .returned (.bool true) ∧ Up w w' := by
  have AW := fun w hg => Lib.hid (awake34 w hg)
  have A4 := fun w hg => Lib.hid (print_any z x y ext (by omega) w hg)
  generalize prT z x y ext = p at *
  obtain ⟨pb, pe⟩ := p
  have hb : (pe == 0) = false := by rw [beq_eq_false_iff_ne]; exact hp
  clear hp
  have A1 := fun w hg => Lib.hid (Parse_any l (by omega) w hg)
  have A3 := fun w hg => Lib.hid (Ext_any l (by omega) w hg)
  obtain ⟨hn, _⟩ | ⟨rz, rx, ry, re, hr, hpl, he, hs⟩ := rt_cases l
  · exact absurd hq hn
  have hle : re.length ≤ 1000000 := by
    rcases he with rfl | he
    · simp
    · have := known_len he; omega
  have A5 := fun w hg => Lib.hid (print_any rz rx ry re hle w hg)
  rw [print_of hpl he, ← hs] at A5
  rw [hr] at A1 A3
  clear hq hr hpl he hs hle
  go_enter Tryd.func4, Tryd.ntmps4
  have n0 := new3 w 23 z x y
  go_wp2_with fail
  refine (A4 _ (hg.up n0.1)).out.mono ?_
  rintro e w1 ⟨rfl, hu⟩
  have HU := Lib.hid (n0.1.trans hu)
  have c0 := hu.cell n0.2.1
  have c1 := hu.cell n0.2.2.1
  have c2 := hu.cell n0.2.2.2
  clear hu n0
  go_wp2_with fail
  clear c0 c1 c2
  refine (A1 _ (hg.up HU.out)).out.mono ?_
  rintro e w4 ⟨rfl, hu⟩
  have n1 := new3 w4 25 rz rx ry
  replace HU := Lib.hid (HU.out.trans (hu.trans n1.1))
  clear hu
  go_wp2_with fail
  refine (A3 _ (hg.up HU.out)).out.mono ?_
  rintro e w5 ⟨rfl, hu⟩
  replace HU := Lib.hid (HU.out.trans hu)
  have d0 := hu.cell n1.2.1
  have d1 := hu.cell n1.2.2.1
  have d2 := hu.cell n1.2.2.2
  clear hu n1
  go_wp2_with fail
  refine (A5 _ (hg.up HU.out)).out.mono ?_
  rintro e w6 ⟨rfl, hu⟩
  replace HU := Lib.hid (HU.out.trans hu)
  clear hu
  go_wp2_with fail
  refine (AW _ (hg.up HU.out)).out.mono ?_
  rintro e w7 ⟨rfl, hu⟩
  go_wp2_with fail
  go_ret
  exact ⟨rfl, HU.out.trans hu⟩
set_option maxRecDepth 100000 in
set_option maxHeartbeats 8000000 in
theorem back34_10 (z x y : Int) (ext l : Bs) (h1 : ¬ l.length > 300) (h2 : ¬ ext.length > 300) (w : World) (hg : Gl w)
    (hp : (prT z x y ext).2 = 0)
    (hq : ¬ (rt l).2.2 = 0) :
    Calls Tryd.prog 4 #[.agg #[.int .i64 z, .int .i64 x, .int .i64 y], .string ⟨ext.toArray⟩, .string ⟨l.toArray⟩] w fun e w' => e = .returned (.bool true) ∧ Up w w' := by
  have AW := fun w hg => Lib.hid (awake34 w hg)
  have A4 := fun w hg => Lib.hid (print_any z x y ext (by omega) w hg)
  obtain ⟨hpl, he, hs⟩ := print_path (s := (prT z x y ext).1) (show prT z x y ext = (_, 0) from by rw [← hp])
  have hr := rt_path hpl he
  have hl := path_len hpl he
  rw [show prT z x y ext = (pathB z x y ext, 0) from print_of hpl he] at A4
  have AP := fun w hg => Lib.hid (Parse_any (pathB z x y ext) (by omega) w hg)
  have AE := fun w hg => Lib.hid (Ext_any (pathB z x y ext) (by omega) w hg)
  rw [hr] at AP AE
  clear hp hs hr hpl he
  generalize pathB z x y ext = s at *
  have h64 : ¬ s.length > 64 := by omega
  clear hl
  have A1 := fun w hg => Lib.hid (Parse_any l (by omega) w hg)
  have A3 := fun w hg => Lib.hid (Ext_any l (by omega) w hg)
  obtain ⟨_, hr⟩ | ⟨rz, rx, ry, re, hr, _⟩ := rt_cases l
  rotate_left
  · exact absurd (by rw [hr]) hq
  rw [hr] at A1 A3
  simp only at A1 A3
  clear hr
  generalize (rt l).2.2 = er at *
  have hb1 : (er != 0) = true := by rw [bne_iff_ne]; exact hq
  clear hq
  go_enter Tryd.func4, Tryd.ntmps4
  have n0 := new3 w 23 z x y
  go_wp2_with fail
  refine (A4 _ (hg.up n0.1)).out.mono ?_
  rintro e w1 ⟨rfl, hu⟩
  have HU := Lib.hid (n0.1.trans hu)
  have c0 := hu.cell n0.2.1
  have c1 := hu.cell n0.2.2.1
  have c2 := hu.cell n0.2.2.2
  clear hu n0
  go_wp2_with fail
  refine (AP _ (hg.up HU.out)).out.mono ?_
  rintro e w2 ⟨rfl, hu⟩
  have n1 := new3 w2 25 z x y
  replace HU := Lib.hid (HU.out.trans (hu.trans n1.1))
  replace c0 := n1.1.cell (hu.cell c0)
  replace c1 := n1.1.cell (hu.cell c1)
  replace c2 := n1.1.cell (hu.cell c2)
  clear hu
  go_wp2_with fail
  refine (AE _ (hg.up HU.out)).out.mono ?_
  rintro e w3 ⟨rfl, hu⟩
  replace HU := Lib.hid (HU.out.trans hu)
  replace c0 := hu.cell c0
  replace c1 := hu.cell c1
  replace c2 := hu.cell c2
  have d0 := hu.cell n1.2.1
  have d1 := hu.cell n1.2.2.1
  have d2 := hu.cell n1.2.2.2
  clear hu n1
  go_wp2_with fail
  clear d0 d1 d2
  clear c0 c1 c2
  refine (A1 _ (hg.up HU.out)).out.mono ?_
  rintro e w4 ⟨rfl, hu⟩
  have n1 := new3 w4 25 0 0 0
  replace HU := Lib.hid (HU.out.trans (hu.trans n1.1))
  clear hu
  go_wp2_with fail
  refine (A3 _ (hg.up HU.out)).out.mono ?_
  rintro e w5 ⟨rfl, hu⟩
  replace HU := Lib.hid (HU.out.trans hu)
  have d0 := hu.cell n1.2.1
  have d1 := hu.cell n1.2.2.1
  have d2 := hu.cell n1.2.2.2
  clear hu n1
  go_wp2_with fail
  refine (AW _ (hg.up HU.out)).out.mono ?_
  rintro e w7 ⟨rfl, hu⟩
  go_wp2_with fail
  go_ret
  exact ⟨rfl, HU.out.trans hu⟩
set_option maxRecDepth 100000 in
set_option maxHeartbeats 8000000 in
theorem back34_11 (z x y : Int) (ext l : Bs) (h1 : ¬ l.length > 300) (h2 : ¬ ext.length > 300) (w : World) (hg : Gl w)
    (hp : (prT z x y ext).2 = 0)
    (hq : (rt l).2.2 = 0) :
    Calls Tryd.prog 4 #[.agg #[.int .i64 z, .int .i64 x, .int .i64 y], .string ⟨ext.toArray⟩, .string ⟨l.toArray⟩] w fun e w' => e = .returned (.bool true) ∧ Up w w' := by
  have AW := fun w hg => Lib.hid (awake34 w hg)
  have A4 := fun w hg => Lib.hid (print_any z x y ext (by omega) w hg)
  obtain ⟨hpl, he, hs⟩ := print_path (s := (prT z x y ext).1) (show prT z x y ext = (_, 0) from by rw [← hp])
  have hr := rt_path hpl he
  have hl := path_len hpl he
  rw [show prT z x y ext = (pathB z x y ext, 0) from print_of hpl he] at A4
  have AP := fun w hg => Lib.hid (Parse_any (pathB z x y ext) (by omega) w hg)
  have AE := fun w hg => Lib.hid (Ext_any (pathB z x y ext) (by omega) w hg)
  rw [hr] at AP AE
  clear hp hs hr hpl he
  generalize pathB z x y ext = s at *
  have h64 : ¬ s.length > 64 := by omega
  clear hl
  have A1 := fun w hg => Lib.hid (Parse_any l (by omega) w hg)
  have A3 := fun w hg => Lib.hid (Ext_any l (by omega) w hg)
  obtain ⟨hn, _⟩ | ⟨rz, rx, ry, re, hr, hpl, he, hs⟩ := rt_cases l
  · exact absurd hq hn
  have hle : re.length ≤ 1000000 := by
    rcases he with rfl | he
    · simp
    · have := known_len he; omega
  have A5 := fun w hg => Lib.hid (print_any rz rx ry re hle w hg)
  rw [print_of hpl he, ← hs] at A5
  rw [hr] at A1 A3
  clear hq hr hpl he hs hle
  go_enter Tryd.func4, Tryd.ntmps4
  have n0 := new3 w 23 z x y
  go_wp2_with fail
  refine (A4 _ (hg.up n0.1)).out.mono ?_
  rintro e w1 ⟨rfl, hu⟩
  have HU := Lib.hid (n0.1.trans hu)
  have c0 := hu.cell n0.2.1
  have c1 := hu.cell n0.2.2.1
  have c2 := hu.cell n0.2.2.2
  clear hu n0
  go_wp2_with fail
  refine (AP _ (hg.up HU.out)).out.mono ?_
  rintro e w2 ⟨rfl, hu⟩
  have n1 := new3 w2 25 z x y
  replace HU := Lib.hid (HU.out.trans (hu.trans n1.1))
  replace c0 := n1.1.cell (hu.cell c0)
  replace c1 := n1.1.cell (hu.cell c1)
  replace c2 := n1.1.cell (hu.cell c2)
  clear hu
  go_wp2_with fail
  refine (AE _ (hg.up HU.out)).out.mono ?_
  rintro e w3 ⟨rfl, hu⟩
  replace HU := Lib.hid (HU.out.trans hu)
  replace c0 := hu.cell c0
  replace c1 := hu.cell c1
  replace c2 := hu.cell c2
  have d0 := hu.cell n1.2.1
  have d1 := hu.cell n1.2.2.1
  have d2 := hu.cell n1.2.2.2
  clear hu n1
  go_wp2_with fail
  clear d0 d1 d2
  clear c0 c1 c2
  refine (A1 _ (hg.up HU.out)).out.mono ?_
  rintro e w4 ⟨rfl, hu⟩
  have n1 := new3 w4 25 rz rx ry
  replace HU := Lib.hid (HU.out.trans (hu.trans n1.1))
  clear hu
  go_wp2_with fail
  refine (A3 _ (hg.up HU.out)).out.mono ?_
  rintro e w5 ⟨rfl, hu⟩
  replace HU := Lib.hid (HU.out.trans hu)
  have d0 := hu.cell n1.2.1
  have d1 := hu.cell n1.2.2.1
  have d2 := hu.cell n1.2.2.2
  clear hu n1
  go_wp2_with fail
  refine (A5 _ (hg.up HU.out)).out.mono ?_
  rintro e w6 ⟨rfl, hu⟩
  replace HU := Lib.hid (HU.out.trans hu)
  clear hu
  go_wp2_with fail
  refine (AW _ (hg.up HU.out)).out.mono ?_
  rintro e w7 ⟨rfl, hu⟩
  go_wp2_with fail
  go_ret
  exact ⟨rfl, HU.out.trans hu⟩
theorem back34 (z x y : Int) (ext l : Bs) (w : World) (hg : Gl w) :
    Calls Tryd.prog 4 #[.agg #[.int .i64 z, .int .i64 x, .int .i64 y], .string ⟨ext.toArray⟩, .string ⟨l.toArray⟩] w fun e w' => e = .returned (.bool true) ∧ Up w w' := by
  by_cases h1 : l.length > 300
  · have AW := fun w hg => Lib.hid (awake34 w hg)
    go_enter Tryd.func4, Tryd.ntmps4
    go_wp2_with fail
    refine (AW _ (hg.up ((Up.refl w).alloc _))).out.mono ?_
    rintro e w1 ⟨rfl, hu⟩
    go_wp2_with fail
    go_ret
    exact ⟨rfl, ((Up.refl w).alloc _).trans hu⟩
  by_cases h2 : ext.length > 300
  · have AW := fun w hg => Lib.hid (awake34 w hg)
    go_enter Tryd.func4, Tryd.ntmps4
    go_wp2_with fail
    refine (AW _ (hg.up ((Up.refl w).alloc _))).out.mono ?_
    rintro e w1 ⟨rfl, hu⟩
    go_wp2_with fail
    go_ret
    exact ⟨rfl, ((Up.refl w).alloc _).trans hu⟩
  by_cases hp : (prT z x y ext).2 = 0
  · by_cases hq : (rt l).2.2 = 0
    · exact back34_11 z x y ext l h1 h2 w hg hp hq
    · exact back34_10 z x y ext l h1 h2 w hg hp hq
  · by_cases hq : (rt l).2.2 = 0
    · exact back34_01 z x y ext l h1 h2 w hg hp hq
    · exact back34_00 z x y ext l h1 h2 w hg hp hq
end Go.Proofs.YteeenbhmdacdiaaDoor
