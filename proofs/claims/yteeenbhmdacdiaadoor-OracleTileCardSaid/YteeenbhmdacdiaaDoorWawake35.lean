/- Walk: what every right program answers of a chart of one tile. -/
import Derived.Test.YteeenbhmdacdiaaDoorWof35
namespace Go.Proofs.YteeenbhmdacdiaaDoor
open Go.RowKit Go.Gz Go.Maps

set_option maxRecDepth 100000
theorem newS (w1 : World) (t : TypeId) (a b c d : Bs) : Rd (w1.alloc (.cells #[strV a, strV b, strV c, strV d] t)) 1 (some ⟨w1.heap.size, 0, none⟩) 4 4 ([a, b, c, d].map strV) := by
  refine ⟨rfl, by omega, by unfold maxLen; omega, fun h => by (cases h), fun _ => ⟨_, 0, rfl, fun j u hj => ?_⟩⟩
  rw [cell_of_row _ w1.heap.size (0 + j) #[strV a, strV b, strV c, strV d] t (0, 0) (heap_alloc_new w1 _), ← hj, Nat.zero_add]
  simp
theorem srt_one (x : Gz.Item) : Srt [x] := by intro i j hi hj h; simp at hi hj; omega
abbrev P1 : Bs := [47, 48, 47, 48, 47, 48, 46, 112, 110, 103]
abbrev P2 : Bs := [47, 49, 47, 48, 47, 48]
abbrev P3 : Bs := [47, 97]
abbrev P4 : Bs := [47, 98]
abbrev P5 : Bs := [47, 48, 47, 48, 47, 48]
def L1 : Items := [(0, [120])]
def T1 : Tolds := [(200, [120]), (404, []), (400, []), (400, [])]
theorem play1 : [P1, P2, P3, P4].map (ansV L1) = T1 := by decide +kernel
theorem ans1 : ansV L1 P5 = (200, [120]) := by decide +kernel
def Sl (w : World) (cs : List Value) (n : Nat) (e : Ending) (w' : World) : Prop := ∃ A c, e = .returned (.slice A n c) ∧ Rd w' 2 A n c cs ∧ Up w w'
theorem play4 (A : Option Addr) (c : Nat) (B : Option Addr) (d : Nat) (w : World) (hg : Gl w) (hr : Rd w 2 A 1 c (itV L1)) (hp : Rd w 1 B 4 d ([P1, P2, P3, P4].map strV)) :
    Calls Tryd.prog 40 #[.agg #[.slice A 1 c], .slice B 4 d] w (Sl w (tdV T1) 4) := by
  have h := play_any L1 (by decide) (srt_one _) A c [P1, P2, P3, P4] (by decide) (by decide) B d w hg hr hp
  rw [play1] at h
  exact h.mono fun _ _ ⟨A, c, e, h1, h2⟩ => ⟨A, c, e, h1, h2⟩
def Ta (w : World) (T : Tolds) (n : Nat) (e : Ending) (w' : World) : Prop := ∃ B D, e = .returned (.map (some B)) ∧ w'.ownsMap Tryd.prog 3 (plainElem Tryd.prog 3) B n D ∧ TalOK D T ∧ Up w w'
theorem tal4 (A : Option Addr) (c : Nat) (w : World) (hr : Rd w 2 A 4 c (tdV T1)) : Calls Tryd.prog 43 #[.slice A 4 c] w (Ta w T1 4) :=
  (tally_any T1 (by decide) (by decide) A c w hr).mono fun _ _ ⟨B, D, e, h⟩ => ⟨B, D, e, h⟩
theorem tal0 (w : World) : Calls Tryd.prog 43 #[.slice none 0 0] w (Ta w [] 0) :=
  (tally_any [] (by decide) (by decide) none 0 w (Rd.nil_ _ _)).mono fun _ _ ⟨B, D, e, h⟩ => ⟨B, D, e, h⟩
theorem ans5 (A : Option Addr) (c : Nat) (w : World) (hg : Gl w) (hr : Rd w 2 A 1 c (itV L1)) : Calls Tryd.prog 42 #[.agg #[.slice A 1 c], .string ⟨#[47, 48, 47, 48, 47, 48]⟩] w fun e w' => e = .returned (.agg #[.int .i64 200, .string ⟨#[120]⟩]) ∧ Up w w' := by
  have h := ans_any L1 (by decide) (srt_one _) P5 (by decide) A c w hg hr
  rw [ans1] at h
  exact h
def Of1 (w : World) (e : Ending) (w' : World) : Prop := ∃ A c, e = .returned (.tuple #[.agg #[.slice A 1 c], .int .i64 0]) ∧ Rd w' 2 A 1 c (itV L1) ∧ Up w w'
theorem of1 (b : Nat) (w : World) (hc0 : w.cell? ⟨b, 0, none⟩ = some (.int .u64 0)) (hc1 : w.cell? ⟨b, 1, none⟩ = some (.string ⟨#[120]⟩)) :
    Calls Tryd.prog 62 #[.slice (some ⟨b, 0, none⟩) 1 1] w (Of1 w) :=
  (of1_any b w hc0 hc1).mono fun _ _ ⟨A, c, e, h1, h2⟩ => ⟨A, c, e, h1, h2⟩
theorem map_up {w w' : World} {P : Program} {k : TypeId} {R : Value → Option (DataW Unit × List MemPlace)} {b n : Nat} {D : DataW Unit} (h : w.ownsMap P k R b n D) (hu : Up w w') : w'.ownsMap P k R b n D :=
  h.kept (row := none) ⟨hu.os, hu.tape, hu.output, hu.size, fun j hj _ => hu.block hj⟩ (by simp)
theorem looks {w : World} {B n : Nat} {D : DataW Unit} {T : Tolds} (h : w.ownsMap Tryd.prog 3 (plainElem Tryd.prog 3) B n D) (ht : TalOK D T) (c : Int) (hc : (Lit.int .i64 c).wf = true) :
    (Instr.lookup 80 (.map (some B)) (.int .i64 c) false).run Tryd.prog w = .ok (.int .i64 (cntT T c)) w := by
  obtain ⟨v, hrun, hat, _⟩ := h.lookup_int lawI Tryd.underlying80 Tryd.underlying3 (zeroI w) (keyOf_int_mk Tryd.underlying3 hc)
  rw [hrun, tal_at ht hc hat]
set_option maxHeartbeats 8000000 in
theorem awake35 (w : World) (hg : Gl w) :
    Calls Tryd.prog 38 #[] w fun e w' => e = .returned (.bool true) ∧ Up w w' := by
  have OF := fun b w h0 h1 => Lib.hid (of1 b w h0 h1)
  have PL := fun A c B d w hg hr hp => Lib.hid (play4 A c B d w hg hr hp)
  have TL := fun A c w hr => Lib.hid (tal4 A c w hr)
  have TN := fun w => Lib.hid (tal0 w)
  have AN := fun A c w hg hr => Lib.hid (ans5 A c w hg hr)
  go_enter Tryd.func38, Tryd.ntmps38
  have n0 := newT2 w 118 (.int .u64 0) (.string ⟨#[120]⟩)
  go_wp2_with fail
  refine (OF _ _ n0.2.1 n0.2.2).out.mono ?_
  rintro e w1 ⟨A, c, rfl, hr1, hu1⟩
  have HR1 := Lib.hid hr1
  have n1 := new1 w1 69 (.slice A 1 c)
  have HU1 := Lib.hid (n0.1.trans (hu1.trans n1.1))
  have HR2 := Lib.hid (hr1.up n1.1)
  have hc0 := n1.2.1
  have HC0 := Lib.hid hc0
  clear hr1 hu1 n0 n1
  go_wp2_with fail
  have n2 := newS (w1.alloc (.cells #[.slice A 1 c] 69)) 9 P1 P2 P3 P4
  rw [show (w1.alloc (.cells #[.slice A 1 c] 69)).heap.size = w1.heap.size + 1 by simp] at n2
  replace n2 : Rd ((w1.alloc (.cells #[.slice A 1 c] 69)).alloc (.cells #[.string ⟨#[47, 48, 47, 48, 47, 48, 46, 112, 110, 103]⟩, .string ⟨#[47, 49, 47, 48, 47, 48]⟩, .string ⟨#[47, 97]⟩, .string ⟨#[47, 98]⟩] 9)) 1 (some ⟨w1.heap.size + 1, 0, none⟩) 4 4 ([P1, P2, P3, P4].map strV) := n2
  have hu2 := (Up.refl (w1.alloc (.cells #[.slice A 1 c] 69))).alloc (.cells #[.string ⟨#[47, 48, 47, 48, 47, 48, 46, 112, 110, 103]⟩, .string ⟨#[47, 49, 47, 48, 47, 48]⟩, .string ⟨#[47, 97]⟩, .string ⟨#[47, 98]⟩] 9)
  have hg2 := hg.up (HU1.out.trans hu2)
  have hr2 := HR2.out.up hu2
  with_reducible refine (PL A c _ _ _ hg2 hr2 n2).out.mono ?_
  rintro e w2 ⟨A3, c3, rfl, hr3, hu3⟩
  have HR3 := Lib.hid hr3
  have HU3 := Lib.hid (HU1.out.trans (hu2.trans hu3))
  have HR4 := Lib.hid (HR2.out.up (hu2.trans hu3))
  have HC3 := Lib.hid ((hu2.trans hu3).cell HC0.out)
  clear hr3 hu3 hu2 n2 hc0 hr2 hg2
  go_wp2_with fail
  with_reducible refine (TL _ _ _ HR3.out).out.mono ?_
  rintro e w3 ⟨B, D, rfl, hown, htal, hu3⟩
  have HO := Lib.hid hown
  have HT := Lib.hid htal
  have HU4 := Lib.hid (HU3.out.trans hu3)
  have HR5 := Lib.hid (HR3.out.up hu3)
  have HR6 := Lib.hid (HR4.out.up hu3)
  have HC4 := Lib.hid (hu3.cell HC3.out)
  clear hown htal hu3
  go_wp2_with fail
  have hsz : Maps.size D = 3 := by rw [HT.out.2.2.2]; decide
  have HSZ := Lib.hid hsz
  obtain ⟨b3, o3, rfl, hcs⟩ := HR5.out.2.2.2.2 (by omega)
  have k0 : w3.cell? ⟨b3, o3, none⟩ = some (.int .i64 200) := by simpa using hcs 0 _ rfl
  have k1 := hcs 1 _ rfl
  have k2 := hcs 2 _ rfl
  have k3 := hcs 3 _ rfl
  have k4 := hcs 4 _ rfl
  have k5 := hcs 5 _ rfl
  have hcc := HC4.out
  have hmap := looks HO.out HT.out 400 (by decide)
  rw [show ((cntT T1 400 : Nat) : Int) = 2 by decide] at hmap
  have MK := Lib.hid (fun w' (h : Up w3 w') => (⟨h, h.cell hcc, h.cell k0, h.cell k1, h.cell k2, h.cell k3, h.cell k4, h.cell k5, by
    have := looks (map_up HO.out h) HT.out 400 (by decide)
    rwa [show ((cntT T1 400 : Nat) : Int) = 2 by decide] at this, by
    have := World.ownsMap.len (map_up HO.out h) Tryd.underlying80 3
    rwa [HSZ.out] at this⟩ : Up w3 w' ∧ w'.cell? ⟨w1.heap.size, 0, none⟩ = some (.slice A 1 c) ∧ w'.cell? ⟨b3, o3, none⟩ = some (.int .i64 200) ∧ w'.cell? ⟨b3, o3 + 1, none⟩ = some (.string ⟨#[120]⟩) ∧ w'.cell? ⟨b3, o3 + 2, none⟩ = some (.int .i64 404) ∧ w'.cell? ⟨b3, o3 + 3, none⟩ = some (.string ⟨#[]⟩) ∧ w'.cell? ⟨b3, o3 + 4, none⟩ = some (.int .i64 400) ∧ w'.cell? ⟨b3, o3 + 5, none⟩ = some (.string ⟨#[]⟩) ∧
      (Instr.lookup 80 (.map (some B)) (.int .i64 400) false).run Tryd.prog w' = .ok (.int .i64 2) w' ∧
      (Builtin.len_ #[80] 3 #[.map (some B)]).run Tryd.prog w' = .ok (.int .i64 3) w'))
  have hgw := hg.up HU4.out
  have qT := fun w r => Go.run_neq_map_nil (P := Tryd.prog) w 80 3 3 (some r) Tryd.underlying80
  simp only [Option.isNone_some, Bool.not_false] at qT
  have hlen := World.ownsMap.len HO.out Tryd.underlying80 3
  rw [hsz] at hlen
  clear hcs hsz
  go_region_held3 (fun w' => Up w3 w' ∧ w'.cell? ⟨w1.heap.size, 0, none⟩ = some (.slice A 1 c) ∧ w'.cell? ⟨b3, o3, none⟩ = some (.int .i64 200) ∧ w'.cell? ⟨b3, o3 + 1, none⟩ = some (.string ⟨#[120]⟩) ∧ w'.cell? ⟨b3, o3 + 2, none⟩ = some (.int .i64 404) ∧ w'.cell? ⟨b3, o3 + 3, none⟩ = some (.string ⟨#[]⟩) ∧ w'.cell? ⟨b3, o3 + 4, none⟩ = some (.int .i64 400) ∧ w'.cell? ⟨b3, o3 + 5, none⟩ = some (.string ⟨#[]⟩) ∧
      (Instr.lookup 80 (.map (some B)) (.int .i64 400) false).run Tryd.prog w' = .ok (.int .i64 2) w' ∧
      (Builtin.len_ #[80] 3 #[.map (some B)]).run Tryd.prog w' = .ok (.int .i64 3) w')
    (first
      | assumption
      | exact MK.out _ (Up.refl _).drew
      | exact MK.out _ (Up.trans (And.left (by assumption)) (by assumption)))
    (first
      | (go_at_call 42; refine (AN _ _ _ (hgw.up (And.left (by assumption))) (HR6.out.up (And.left (by assumption)))).out.mono ?_; rintro e w8 ⟨rfl, hu8⟩)
      | (go_at_call 43; refine (TN _).out.mono ?_; rintro e w9 ⟨B9, D9, rfl, hz1, hz2, hu9⟩; clear hz1 hz2))
  all_goals
    go_wp2_with fail
    go_ret
    exact ⟨rfl, HU4.out.trans (by go_split_ands; assumption)⟩
end Go.Proofs.YteeenbhmdacdiaaDoor
