/- Walks: the laws of paths. -/
import Derived.Test.YteeenbhmdacdiaaDoorWprint
import Derived.Test.YteeenbhmdacdiaaDoorWrprint
namespace Go.Proofs.YteeenbhmdacdiaaDoor
open Go.RowKit Go.Gz

/-- a struct of three numbers, just laid -/
theorem new3 (w1 : World) (t : TypeId) (z x y : Int) :
    Up w1 (w1.alloc (.cells #[.int .i64 z, .int .i64 x, .int .i64 y] t)) ∧
    (w1.alloc (.cells #[.int .i64 z, .int .i64 x, .int .i64 y] t)).cell? ⟨w1.heap.size, 0, none⟩ = some (.int .i64 z) ∧
    (w1.alloc (.cells #[.int .i64 z, .int .i64 x, .int .i64 y] t)).cell? ⟨w1.heap.size, 1, none⟩ = some (.int .i64 x) ∧
    (w1.alloc (.cells #[.int .i64 z, .int .i64 x, .int .i64 y] t)).cell? ⟨w1.heap.size, 2, none⟩ = some (.int .i64 y) := by
  have hb := heap_alloc_new w1 (.cells #[.int .i64 z, .int .i64 x, .int .i64 y] t)
  exact ⟨(Up.refl _).alloc _, blk_cell hb 0 _ rfl, blk_cell hb 1 _ rfl, blk_cell hb 2 _ rfl⟩
set_option maxRecDepth 100000 in
set_option maxHeartbeats 4000000 in
theorem awake34 (w : World) (hg : Gl w) :
    Calls Tryd.prog 13 #[] w fun e w' => e = .returned (.bool true) ∧ Up w w' := by
  have A1 := fun w hg => Lib.hid (Parse_any [47, 51, 47, 49, 47, 55, 46, 112, 110, 103] (by decide) w hg)
  rw [show rt [47, 51, 47, 49, 47, 55, 46, 112, 110, 103] = ((3, 1, 7), [112, 110, 103], 0) by decide +kernel] at A1
  have A2 := fun w hg => Lib.hid (Parse_any [47, 51, 47, 48, 49, 47, 55] (by decide) w hg)
  rw [show rt [47, 51, 47, 48, 49, 47, 55] = ((0, 0, 0), [], 4) by decide +kernel] at A2
  have A3 := fun w hg => Lib.hid (Parse_any [47, 51, 47, 56, 47, 48] (by decide) w hg)
  rw [show rt [47, 51, 47, 56, 47, 48] = ((0, 0, 0), [], 8) by decide +kernel] at A3
  have A4 := fun w hg => Lib.hid (Parse_any [47, 51, 47, 49, 47, 55, 46, 103, 105, 102] (by decide) w hg)
  rw [show rt [47, 51, 47, 49, 47, 55, 46, 103, 105, 102] = ((0, 0, 0), [], 14) by decide +kernel] at A4
  have A5 := fun w hg => Lib.hid (Ext_any [47, 51, 47, 49, 47, 55, 46, 112, 110, 103] (by decide) w hg)
  rw [show rt [47, 51, 47, 49, 47, 55, 46, 112, 110, 103] = ((3, 1, 7), [112, 110, 103], 0) by decide +kernel] at A5
  have A6 := fun w hg => Lib.hid (print_any 3 1 7 [109, 118, 116] (by decide) w hg)
  rw [show prT 3 1 7 [109, 118, 116] = ([47, 51, 47, 49, 47, 55, 46, 109, 118, 116], 0) by decide +kernel] at A6
  have K1 := fun w => Lib.hid (known_any [119, 101, 98, 112] w)
  rw [show knownB [119, 101, 98, 112] = true by decide +kernel] at K1
  have K2 := fun w => Lib.hid (known_any [] w)
  rw [show knownB [] = false by decide +kernel] at K2
  go_enter Tryd.func13, Tryd.ntmps13
  go_wp2_with fail
  refine (A1 _ hg).out.mono ?_
  rintro e w1 ⟨rfl, hu1⟩
  go_wp2_with fail
  have n1 := new3 w1 25 3 1 7
  refine (A2 _ (hg.up (hu1.trans n1.1))).out.mono ?_
  rintro e w2 ⟨rfl, hu2⟩
  have HU2 := Lib.hid (hu1.trans (n1.1.trans hu2))
  have c0 := hu2.cell n1.2.1
  have c1 := hu2.cell n1.2.2.1
  have c2 := hu2.cell n1.2.2.2
  clear hu1 hu2 n1
  go_wp2_with fail
  have n1 := new3 w2 25 0 0 0
  refine (A3 _ (hg.up (HU2.out.trans n1.1))).out.mono ?_
  rintro e w3 ⟨rfl, hu2⟩
  have HU3 := Lib.hid (HU2.out.trans (n1.1.trans hu2))
  replace c0 := hu2.cell (n1.1.cell c0)
  replace c1 := hu2.cell (n1.1.cell c1)
  replace c2 := hu2.cell (n1.1.cell c2)
  clear hu2 n1 HU2
  go_wp2_with fail
  have n1 := new3 w3 25 0 0 0
  refine (A4 _ (hg.up (HU3.out.trans n1.1))).out.mono ?_
  rintro e w4 ⟨rfl, hu2⟩
  have HU4 := Lib.hid (HU3.out.trans (n1.1.trans hu2))
  replace c0 := hu2.cell (n1.1.cell c0)
  replace c1 := hu2.cell (n1.1.cell c1)
  replace c2 := hu2.cell (n1.1.cell c2)
  clear hu2 n1 HU3
  have n1 := new3 w4 25 0 0 0
  replace c0 := n1.1.cell c0
  replace c1 := n1.1.cell c1
  replace c2 := n1.1.cell c2
  go_wp2_with fail
  refine (A6 _ (hg.up (HU4.out.trans n1.1))).out.mono ?_
  rintro e w5 ⟨rfl, hu2⟩
  have HU5 := Lib.hid (HU4.out.trans (n1.1.trans hu2))
  replace c0 := hu2.cell c0
  replace c1 := hu2.cell c1
  replace c2 := hu2.cell c2
  clear hu2 n1 HU4
  go_wp2_with fail
  refine (A5 _ (hg.up HU5.out)).out.mono ?_
  rintro e w6 ⟨rfl, hu2⟩
  have HU6 := Lib.hid (HU5.out.trans hu2)
  replace c0 := hu2.cell c0
  replace c1 := hu2.cell c1
  replace c2 := hu2.cell c2
  clear hu2 HU5
  go_wp2_with fail
  refine (K1 _).out.mono ?_
  rintro e w7 ⟨rfl, rfl⟩
  go_wp2_with fail
  refine (K2 _).out.mono ?_
  rintro e w7 ⟨rfl, rfl⟩
  go_wp2_with fail
  go_ret
  exact ⟨rfl, HU6.out⟩
set_option maxRecDepth 100000 in
set_option maxHeartbeats 8000000 in
theorem tells34 (l : Bs) (z x y : Int) (ext : Bs) (w : World) (hg : Gl w) :
    Calls Tryd.prog 3 #[.string ⟨l.toArray⟩, .agg #[.int .i64 z, .int .i64 x, .int .i64 y], .string ⟨ext.toArray⟩] w fun e w' => e = .returned (.bool true) ∧ Up w w' := by
  have AW := fun w hg => Lib.hid (awake34 w hg)
  by_cases h1 : l.length > 300
  · go_enter Tryd.func3, Tryd.ntmps3
    go_wp2_with fail
    refine (AW _ (hg.up ((Up.refl w).alloc _))).out.mono ?_
    rintro e w1 ⟨rfl, hu⟩
    go_wp2_with fail
    go_ret
    exact ⟨rfl, ((Up.refl w).alloc _).trans hu⟩
  by_cases h2 : ext.length > 300
  · go_enter Tryd.func3, Tryd.ntmps3
    go_wp2_with fail
    refine (AW _ (hg.up ((Up.refl w).alloc _))).out.mono ?_
    rintro e w1 ⟨rfl, hu⟩
    go_wp2_with fail
    go_ret
    exact ⟨rfl, ((Up.refl w).alloc _).trans hu⟩
  have hl : l.length ≤ 1000000 := by omega
  have hx : ext.length ≤ 1000000 := by omega
  have A1 := fun w hg => Lib.hid (Parse_any l hl w hg)
  have A2 := fun w => Lib.hid (rparse_any l hl w)
  have A3 := fun w hg => Lib.hid (Ext_any l hl w hg)
  have A4 := fun w hg => Lib.hid (print_any z x y ext hx w hg)
  have A5 := fun w => Lib.hid (rprint_any z x y ext hx w)
  have K1 := fun w => Lib.hid (known_any ext w)
  have K2 := fun w => Lib.hid (rknown_any ext w)
  generalize rt l = r at *
  generalize prT z x y ext = p at *
  generalize knownB ext = k at *
  obtain ⟨⟨rz, rx, ry⟩, re, rerr⟩ := r
  obtain ⟨pb, pe⟩ := p
  unfold ParEnd at A2
  go_enter Tryd.func3, Tryd.ntmps3
  have n0 := new3 w 23 z x y
  go_wp2_with fail
  refine (A1 _ (hg.up n0.1)).out.mono ?_
  rintro e w1 ⟨rfl, hu⟩
  have HU1 := Lib.hid (n0.1.trans hu)
  have c0 := hu.cell n0.2.1
  have c1 := hu.cell n0.2.2.1
  have c2 := hu.cell n0.2.2.2
  clear hu n0
  have n1 := new3 w1 25 rz rx ry
  go_wp2_with fail
  refine (A2 _).out.mono ?_
  rintro e w2 ⟨rfl, hu⟩
  have HU2 := Lib.hid (HU1.out.trans (n1.1.trans hu))
  replace c0 := hu.cell (n1.1.cell c0)
  replace c1 := hu.cell (n1.1.cell c1)
  replace c2 := hu.cell (n1.1.cell c2)
  have d0 := hu.cell n1.2.1
  have d1 := hu.cell n1.2.2.1
  have d2 := hu.cell n1.2.2.2
  clear hu n1 HU1
  have n1 := new3 w2 23 rz rx ry
  go_wp2_with fail
  refine (A3 _ (hg.up (HU2.out.trans n1.1))).out.mono ?_
  rintro e w3 ⟨rfl, hu⟩
  have HU3 := Lib.hid (HU2.out.trans (n1.1.trans hu))
  replace c0 := hu.cell (n1.1.cell c0)
  replace c1 := hu.cell (n1.1.cell c1)
  replace c2 := hu.cell (n1.1.cell c2)
  replace d0 := hu.cell (n1.1.cell d0)
  replace d1 := hu.cell (n1.1.cell d1)
  replace d2 := hu.cell (n1.1.cell d2)
  have e0 := hu.cell n1.2.1
  have e1 := hu.cell n1.2.2.1
  have e2 := hu.cell n1.2.2.2
  clear hu n1 HU2
  go_wp2_with fail
  refine (A4 _ (hg.up HU3.out)).out.mono ?_
  rintro e w4 ⟨rfl, hu⟩
  have HU4 := Lib.hid (HU3.out.trans hu)
  replace c0 := hu.cell c0
  replace c1 := hu.cell c1
  replace c2 := hu.cell c2
  replace d0 := hu.cell d0
  replace d1 := hu.cell d1
  replace d2 := hu.cell d2
  replace e0 := hu.cell e0
  replace e1 := hu.cell e1
  replace e2 := hu.cell e2
  clear hu HU3
  go_wp2_with fail
  refine (A5 _).out.mono ?_
  rintro e w5 ⟨rfl, hu⟩
  have HU5 := Lib.hid (HU4.out.trans hu)
  replace d0 := hu.cell d0
  replace d1 := hu.cell d1
  replace d2 := hu.cell d2
  replace e0 := hu.cell e0
  replace e1 := hu.cell e1
  replace e2 := hu.cell e2
  clear hu HU4 c0 c1 c2
  go_wp2_with fail
  refine (K1 _).out.mono ?_
  rintro e w6 ⟨rfl, rfl⟩
  go_wp2_with fail
  refine (K2 _).out.mono ?_
  rintro e w6 ⟨rfl, hu⟩
  have HU6 := Lib.hid (HU5.out.trans hu)
  clear hu HU5
  go_wp2_with fail
  refine (AW _ (hg.up HU6.out)).out.mono ?_
  rintro e w7 ⟨rfl, hu⟩
  go_wp2_with fail
  go_ret
  exact ⟨rfl, HU6.out.trans hu⟩
end Go.Proofs.YteeenbhmdacdiaaDoor
