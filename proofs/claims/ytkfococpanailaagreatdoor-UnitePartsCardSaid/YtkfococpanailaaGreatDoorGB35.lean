/- Walks: slices.Equal, chart.Same of a chart and itself. -/
import Derived.Test.YtkfococpanailaaGreatDoorGB07
namespace Go.Proofs.YtkfococpanailaaGreatDoor
open Go.RowKit Go.Gz Go.Shelf

set_option maxRecDepth 100000
set_option maxHeartbeats 4000000 in
theorem equal_any (M : Items) (hl : M.length ≤ 1000000) (A1 : Option Addr) (c1 : Nat) (A2 : Option Addr) (c2 : Nat) (w : World) (h1 : Rd w 2 A1 M.length c1 (itV M)) (h2 : Rd w 2 A2 M.length c2 (itV M)) :
    Calls Tryz.prog 55 #[.slice A1 M.length c1, .slice A2 M.length c2] w fun e w' => e = .returned (.bool true) ∧ Up w w' := by
  have HR1 := Lib.hid h1
  have HR2 := Lib.hid h2
  clear h1 h2
  go_enter Tryz.func55, Tryz.ntmps55
  go_wp2_with fail
  go_loopg [13] M.length (fun gk i wr => ∃ k : Nat, k + gk = M.length ∧ i = .int .i64 (k : Int) ∧ Up w wr)
  case atStart => exact ⟨0, by omega, rfl, Up.refl w⟩
  case round =>
    obtain ⟨k, hk, rfl, hu⟩ := hrel
    by_cases hlt : k < M.length
    · obtain ⟨m, rfl⟩ : ∃ x, gk = x + 1 := ⟨gk - 1, by omega⟩
      obtain ⟨b1, o1, rfl, p0, p1⟩ := (HR1.out.up hu).item hlt
      obtain ⟨b2, o2, rfl, q0, q1⟩ := (HR2.out.up hu).item hlt
      obtain ⟨⟨n, t⟩, hx⟩ : ∃ x, M[k] = x := ⟨_, rfl⟩
      rw [hx] at p0 p1 q0 q1
      simp only at p0 p1 q0 q1
      have HU := Lib.hid hu
      have kI : (k : Int) < (M.length : Int) := by omega
      clear hx hu
      go_wp2_with fail
      refine wp_region_held_drew (S := fun w' => (w'.cell? ⟨b1, o1 + k * 2, none⟩ = some (.int .u64 (n : Int)) ∧ w'.cell? ⟨b1, o1 + k * 2 + 1, none⟩ = some (.string ⟨t.toArray⟩) ∧ w'.cell? ⟨b2, o2 + k * 2, none⟩ = some (.int .u64 (n : Int)) ∧ w'.cell? ⟨b2, o2 + k * 2 + 1, none⟩ = some (.string ⟨t.toArray⟩))) (by kernel_rfl) ⟨p0, p1, q0, q1⟩ (fun hHeld => ?_)
      first | refine tku 0 rfl ?_ | refine tkv 0 rfl ?_
      (try simp only [Act.put, tz1, tz2, tz3])
      first | refine tku 1 rfl ?_ | refine tkv 1 rfl ?_
      (try simp only [Act.put, tz1, tz2, tz3])
      first | refine tku 2 rfl ?_ | refine tkv 2 rfl ?_
      (try simp only [Act.put, tz1, tz2, tz3])
      first | refine tku 3 rfl ?_ | refine tkv 3 rfl ?_
      (try simp only [Act.put, tz1, tz2, tz3])
      first | refine tku 4 rfl ?_ | refine tkv 4 rfl ?_
      (try simp only [Act.put, tz1, tz2, tz3])
      first | refine tku 5 rfl ?_ | refine tkv 5 rfl ?_
      (try simp only [Act.put, tz1, tz2, tz3])
      first | refine tku 6 rfl ?_ | refine tkv 6 rfl ?_
      (try simp only [Act.put, tz1, tz2, tz3])
      first | refine tku 7 rfl ?_ | refine tkv 7 rfl ?_
      (try simp only [Act.put, tz1, tz2, tz3])
      first | refine tku 8 rfl ?_ | refine tkv 8 rfl ?_
      (try simp only [Act.put, tz1, tz2, tz3])

      refine wpAnyH_done (by kernel_rfl) ?_ _
      clear hHeld
      go_wp2_with fail
      go_roundg m
      case measure => omega
      case rel => exact ⟨k + 1, by omega, by go_num, HU.out.drew⟩
    · obtain rfl : k = M.length := by omega
      obtain rfl : gk = 0 := by omega
      have kI : ¬ (M.length : Int) < (M.length : Int) := by omega
      go_wp2_with fail
      go_ret
      exact ⟨rfl, hu⟩
theorem same_any (M : Items) (hl : M.length ≤ 1000000) (A1 : Option Addr) (c1 : Nat) (A2 : Option Addr) (c2 : Nat) (w : World) (h1 : Rd w 2 A1 M.length c1 (itV M)) (h2 : Rd w 2 A2 M.length c2 (itV M)) :
    Calls Tryz.prog 29 #[.agg #[.slice A1 M.length c1], .agg #[.slice A2 M.length c2]] w fun e w' => e = .returned (.bool true) ∧ Up w w' := by
  have EQ := fun w h1 h2 => Lib.hid (equal_any M hl A1 c1 A2 c2 w h1 h2)
  have n1 := new1 w 26 (.slice A1 M.length c1)
  have n2 := new1 (w.alloc (.cells #[.slice A1 M.length c1] 26)) 26 (.slice A2 M.length c2)
  rw [World.size_alloc] at n2
  have d0 := n2.1.cell n1.2.1
  have d1 := n2.2.1
  have HU := Lib.hid (n1.1.trans n2.1)
  have HR1 := Lib.hid (h1.up (n1.1.trans n2.1))
  have HR2 := Lib.hid (h2.up (n1.1.trans n2.1))
  clear n1 n2 h1 h2
  go_enter Tryz.func29, Tryz.ntmps29
  go_wp2_with fail
  with_reducible refine (EQ _ HR1.out HR2.out).out.mono ?_
  rintro e w1 ⟨rfl, hu1⟩
  go_wp2_with fail
  go_ret
  exact ⟨rfl, HU.out.trans hu1⟩
end Go.Proofs.YtkfococpanailaaGreatDoor
