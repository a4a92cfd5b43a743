/- Walk: the law RangesTakes. -/
import Derived.Test.YteeenbhmdacdiaaDoorWlaw24
namespace Go.Proofs.YteeenbhmdacdiaaDoor
open Go.RowKit Go.Gz

set_option maxRecDepth 100000
set_option maxHeartbeats 8000000 in
theorem takes24 (l : Bs) (w : World) (hg : Gm w) :
    Calls Tryd.prog 7 #[.string ⟨l.toArray⟩] w fun e w' => e = .returned (.bool true) ∧ Up w w' := by
  have AW := fun w hg => Lib.hid (awake24 w hg)
  by_cases h1 : l.length > 300
  · go_enter Tryd.func7, Tryd.ntmps7
    go_wp2_with fail
    refine (AW _ hg).out.mono ?_
    rintro e w1 ⟨rfl, hu⟩
    go_wp2_with fail
    go_ret
    exact ⟨rfl, hu⟩
  have A1 := fun w hg => Lib.hid (asked_any l (by omega) w hg)
  have A2 := fun w => Lib.hid (rasked_any l (by omega) w)
  have A3 := fun w hg => Lib.hid (tell_w l (by omega) w hg)
  have A4 := fun w => Lib.hid (rtell_any l (by omega) w)
  generalize askedV l = av at *
  generalize tellV l = tv at *
  obtain ⟨⟨af, at'⟩, ae⟩ := av
  obtain ⟨⟨tf, tt⟩, tn, te⟩ := tv
  go_enter Tryd.func7, Tryd.ntmps7
  have HU := Lib.hid (Up.refl w)
  go_wp2_with fail
  refine (A1 _ (hg.up HU.out)).out.mono ?_
  rintro e w1 ⟨rfl, hu⟩
  replace HU := Lib.hid (HU.out.trans hu)
  clear hu
  have n0 := new2 w1 43 af at'
  replace HU := Lib.hid (HU.out.trans n0.1)
  have a0 := n0.2.1
  have a1 := n0.2.2
  clear n0
  go_wp2_with fail
  refine (A2 _).out.mono ?_
  rintro e w2 ⟨rfl, hu⟩
  replace a0 := hu.cell a0
  replace a1 := hu.cell a1
  replace HU := Lib.hid (HU.out.trans hu)
  clear hu
  have n0 := new2 w2 42 af at'
  replace HU := Lib.hid (HU.out.trans n0.1)
  replace a0 := n0.1.cell a0
  replace a1 := n0.1.cell a1
  have b0 := n0.2.1
  have b1 := n0.2.2
  clear n0
  go_wp2_with fail
  refine (A3 _ (hg.up HU.out)).out.mono ?_
  rintro e w3 ⟨rfl, hu⟩
  replace a0 := hu.cell a0
  replace a1 := hu.cell a1
  replace b0 := hu.cell b0
  replace b1 := hu.cell b1
  replace HU := Lib.hid (HU.out.trans hu)
  clear hu
  have n0 := new2 w3 43 tf tt
  replace HU := Lib.hid (HU.out.trans n0.1)
  replace a0 := n0.1.cell a0
  replace a1 := n0.1.cell a1
  replace b0 := n0.1.cell b0
  replace b1 := n0.1.cell b1
  have c0 := n0.2.1
  have c1 := n0.2.2
  clear n0
  go_wp2_with fail
  refine (A4 _).out.mono ?_
  rintro e w4 ⟨rfl, hu⟩
  replace a0 := hu.cell a0
  replace a1 := hu.cell a1
  replace b0 := hu.cell b0
  replace b1 := hu.cell b1
  replace c0 := hu.cell c0
  replace c1 := hu.cell c1
  replace HU := Lib.hid (HU.out.trans hu)
  clear hu
  have n0 := new2 w4 42 tf tt
  replace HU := Lib.hid (HU.out.trans n0.1)
  replace a0 := n0.1.cell a0
  replace a1 := n0.1.cell a1
  replace b0 := n0.1.cell b0
  replace b1 := n0.1.cell b1
  replace c0 := n0.1.cell c0
  replace c1 := n0.1.cell c1
  have d0 := n0.2.1
  have d1 := n0.2.2
  clear n0
  go_wp2_with fail
  refine (AW _ (hg.up HU.out)).out.mono ?_
  rintro e w5 ⟨rfl, hu⟩
  replace a0 := hu.cell a0
  replace a1 := hu.cell a1
  replace b0 := hu.cell b0
  replace b1 := hu.cell b1
  replace c0 := hu.cell c0
  replace c1 := hu.cell c1
  replace d0 := hu.cell d0
  replace d1 := hu.cell d1
  replace HU := Lib.hid (HU.out.trans hu)
  clear hu
  go_wp2_with fail
  go_ret
  exact ⟨rfl, HU.out⟩
end Go.Proofs.YteeenbhmdacdiaaDoor
