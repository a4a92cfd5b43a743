/- ScriptGrows: the law's call, at any two texts, given what script.Read tells. -/
import Derived.Test.YtongfkckenahnaaGreatDoorWsdef
import Derived.Test.YtongfkckenahnaaGreatDoorBase
namespace Go.Proofs.YtongfkckenahnaaGreatDoor
open Go.RowKit Go.Gz
open Go.Ev (GlobW Kept GVar)
set_option maxRecDepth 100000
theorem app_mk (a b : Bs) : (⟨a.toArray⟩ ++ ⟨b.toArray⟩ : ByteArray) = ⟨(a ++ b).toArray⟩ := by
  have h : (⟨a.toArray⟩ ++ ⟨b.toArray⟩ : ByteArray).data = (⟨(a ++ b).toArray⟩ : ByteArray).data := by
    rw [ByteArray.data_append]; simp
  exact congrArg ByteArray.mk h
/-- the cells of a step -/
theorem SlR.step {w : World} {B : Option Addr} {xs : List Value} {P : List (Nat × Nat)} (h : SlR w B xs) (hx : StX P xs) {k : Nat} (hk : k < P.length) :
    ∃ g F c, B = some ⟨g, 0, none⟩ ∧ w.cell? ⟨g, k * 2, none⟩ = some (.string ⟨(pathT P[k].1).toArray⟩) ∧ w.cell? ⟨g, k * 2 + 1, none⟩ = some (.slice F P[k].2 c) := by
  obtain ⟨h1, F, c, h2⟩ := hx.2 k hk
  rcases h with h | ⟨g, h3, h4⟩
  · rw [h] at h1; simp at h1
  · exact ⟨g, F, c, h3, by rw [Nat.mul_comm]; exact h4 _ _ h1, by rw [Nat.mul_comm]; exact h4 _ _ h2⟩
theorem ply_facts (l m : Bs) : (plyV l).length ≤ (plyV (l ++ m)).length ∧ (2 ≤ l.length → retV l = retV (l ++ m) ∧ mosV l = mosV (l ++ m)) ∧ (∀ i, i + 1 < (plyV l).length → (plyV l)[i]? = (plyV (l ++ m))[i]?) ∧ (plyV (l ++ m)).length ≤ 64 ∧ itmN (l ++ m) < 32 := by
  obtain ⟨h1, h2, h3⟩ := ply_grow l m
  refine ⟨?_, h1, h3, stepsV_len _ _, Nat.mod_lt _ (by omega)⟩
  rcases h2 with h2 | h2
  · exact h2
  · rw [(ply_short h2).1]; exact Nat.zero_le _
/-- what the law's loop reads -/
structure GrF (a : Nat) (A1 A2 B1 B2 : Option Addr) (i1 i2 r1 r2 s1 s2 p1 p2 c1 c2 d1 d2 : Nat) (W : World) : Prop where
  x0 : W.cell? ⟨a, 0, none⟩ = some (.slice A1 i1 c1)
  x1 : W.cell? ⟨a, 1, none⟩ = some (.int .i64 (r1 : Int))
  x2 : W.cell? ⟨a, 2, none⟩ = some (.int .i64 (s1 : Int))
  x3 : W.cell? ⟨a, 3, none⟩ = some (.slice B1 p1 d1)
  y0 : W.cell? ⟨a + 1, 0, none⟩ = some (.slice A2 i2 c2)
  y1 : W.cell? ⟨a + 1, 1, none⟩ = some (.int .i64 (r2 : Int))
  y2 : W.cell? ⟨a + 1, 2, none⟩ = some (.int .i64 (s2 : Int))
  y3 : W.cell? ⟨a + 1, 3, none⟩ = some (.slice B2 p2 d2)
set_option maxHeartbeats 16000000 in
theorem sgrow_main (AWX : ∀ w, GlobW Tryz.prog gv w → Calls Tryz.prog 4 #[] w (fun e w' => e = .returned (.bool true) ∧ Kept w w'))
    (RDX : ∀ (l : Bs), l.length ≤ 400 → ∀ w, GlobW Tryz.prog gv w → Calls Tryz.prog 5 #[.string ⟨l.toArray⟩] w (ReadE l w))
    (l m : Bs) (hl : ¬ 200 < l.length) (hm : ¬ 200 < m.length) (w : World) (hg : GlobW Tryz.prog gv w) :
    Calls Tryz.prog 3 #[.string ⟨l.toArray⟩, .string ⟨m.toArray⟩] w fun e w' => e = .returned (.bool true) ∧ Up w w' := by
  have AW := fun w (hg : GlobW Tryz.prog gv w) => Lib.hid (AWX w hg)
  have R1 := fun w hg => Lib.hid (RDX l (by omega) w hg)
  have R2 := fun w hg => Lib.hid (RDX (l ++ m) (by rw [List.length_append]; omega) w hg)
  simp only [← app_mk] at R2
  clear AWX RDX
  obtain ⟨f1, f2, f3, f4, f5⟩ := ply_facts l m
  have F2 := Lib.hid f2
  have F3 := Lib.hid f3
  unfold ReadE at R1 R2
  have hp1 := stepsV_len 64 (rstV l)
  have hp1 : (plyV l).length ≤ 64 := hp1
  generalize hP : plyV l = P at *
  generalize hQ : plyV (l ++ m) = Q at *
  generalize itmN (l ++ m) = im at *
  generalize itmN l = il at *
  clear f2 f3 hP hQ
  have hi1 : (l.length : Int) ≤ 200 := by omega
  have hi2 : (m.length : Int) ≤ 200 := by omega
  have hs : ¬ 9223372036854775807 < l.length + m.length := by omega
  have hpq : (P.length : Int) ≤ (Q.length : Int) := by omega
  have FIN : ∀ (a : Nat) (A1 A2 B1 B2 : Option Addr) (r1 r2 s1 s2 c1 c2 d1 d2 : Nat) (W : World), RowKit.Hid (GlobW Tryz.prog gv W) → True := fun _ _ _ _ _ _ _ _ _ _ _ _ _ _ _ => trivial
  clear FIN
  clear hl hm
  by_cases h2 : 2 ≤ l.length
  case' pos =>
    obtain ⟨e1, e2⟩ := F2.out h2
    rw [← e1, ← e2] at R2
    clear e1 e2
    have h2I : (2 : Int) ≤ (l.length : Int) := by omega
  case' neg =>
    have h2I : (l.length : Int) < 2 := by omega
  all_goals
    clear F2
    generalize retV (l ++ m) = r2 at *
    generalize mosV (l ++ m) = s2 at *
    generalize retV l = r1 at *
    generalize mosV l = s1 at *
    go_enter Tryz.func3, Tryz.ntmps3
    go_wp2_with fail
    with_reducible refine (R1 _ hg).out.mono ?_
    rintro e w1 ⟨A1, c1, B1, d1, xs1, rfl, hx1, hr1, hu1⟩
    have HX1 := Lib.hid hx1
    have HR1 := Lib.hid hr1
    have HU1 := Lib.hid hu1
    clear hx1 hr1 hu1
    go_wp2_with fail
    with_reducible refine (R2 _ ?_).out.mono ?_
    · exact globW_up hg HU1.out
    rintro e w2 ⟨A2, c2, B2, d2, xs2, rfl, hx2, hr2, hu2⟩
    have HX2 := Lib.hid hx2
    have HR2 := Lib.hid hr2
    have HU2 := Lib.hid hu2
    clear hx2 hr2 hu2
    go_wp2_with fail
    have KEY : ∀ (RR SS : Nat) (WX : World), WX = (w2.alloc (.cells #[.slice A1 il c1, .int .i64 (r1 : Int), .int .i64 (s1 : Int), .slice B1 P.length d1] 26)).alloc (.cells #[.slice A2 im c2, .int .i64 (RR : Int), .int .i64 (SS : Int), .slice B2 Q.length d2] 26) →
        GrF w2.heap.size A1 A2 B1 B2 il im r1 RR s1 SS P.length Q.length c1 c2 d1 d2 WX ∧ Up w2 WX := fun RR SS WX hWX => ⟨by rw [hWX]; constructor <;> simp, by rw [hWX]; exact ((Up.refl w2).alloc _).alloc _⟩
    first
      | (obtain ⟨WX, hWX⟩ : ∃ W, W = (w2.alloc (.cells #[.slice A1 il c1, .int .i64 (r1 : Int), .int .i64 (s1 : Int), .slice B1 P.length d1] 26)).alloc (.cells #[.slice A2 im c2, .int .i64 (r1 : Int), .int .i64 (s1 : Int), .slice B2 Q.length d2] 26) := ⟨_, rfl⟩
         have KF := KEY _ _ _ hWX
         rw [← hWX])
      | (obtain ⟨WX, hWX⟩ : ∃ W, W = (w2.alloc (.cells #[.slice A1 il c1, .int .i64 (r1 : Int), .int .i64 (s1 : Int), .slice B1 P.length d1] 26)).alloc (.cells #[.slice A2 im c2, .int .i64 (r2 : Int), .int .i64 (s2 : Int), .slice B2 Q.length d2] 26) := ⟨_, rfl⟩
         have KF := KEY _ _ _ hWX
         rw [← hWX])
    have HF := Lib.hid KF.1
    have HUX := Lib.hid KF.2
    clear hWX KEY KF
    have HR1' := Lib.hid (HR1.out.up (HU2.out.trans HUX.out))
    have HR2' := Lib.hid (HR2.out.up HUX.out)
    generalize w2.heap.size = a at *
    go_loopg [7] P.length (fun gk i wr => ∃ k : Nat, k + gk = P.length ∧ i = .int .i64 k ∧ Up WX wr)
    case atStart => exact ⟨0, by omega, rfl, Up.refl _⟩
    case round =>
      obtain ⟨k, hk, rfl, hu⟩ := hrel
      have x0 := hu.cell HF.out.x0
      have x3 := hu.cell HF.out.x3
      have y0 := hu.cell HF.out.y0
      have y3 := hu.cell HF.out.y3
      have hk64 : k ≤ 64 := by omega
      have hQ64 : (Q.length : Int) ≤ 64 := by omega
      have hi32 : (im : Int) < 32 := by omega
      by_cases hlt : k + 1 < P.length
      · have hltI : (k : Int) + 1 < (P.length : Int) := by omega
        by_cases hi : il = im
        · have hkQ : ¬ (Q.length : Int) ≤ (k : Int) := by omega
          have hkQ2 : (k : Int) < (Q.length : Int) := by omega
          have hkP2 : (k : Int) < (P.length : Int) := by omega
          have hkN1 : ¬ Q.length ≤ k := by omega
          have hkN2 : k < Q.length := by omega
          have hkN3 : k < P.length := by omega
          obtain ⟨g, rfl⟩ : ∃ g, gk = g + 1 := ⟨gk - 1, by omega⟩
          have hPQ : P[k]'(by omega) = Q[k]'(by omega) := by
            have := F3.out k hlt
            rw [List.getElem?_eq_getElem (by omega), List.getElem?_eq_getElem (by omega)] at this
            exact Option.some.inj this
          obtain ⟨g1, F1, k1, rfl, a1, a2⟩ := (HR1'.out.up hu).step HX1.out (show k < P.length by omega)
          obtain ⟨g2, F2, k2, rfl, b1, b2⟩ := (HR2'.out.up hu).step HX2.out (show k < Q.length by omega)
          rw [← hPQ] at b1 b2
          generalize P[k]'(by omega) = z at *
          obtain ⟨zp, zn⟩ := z
          simp only at a1 a2 b1 b2
          generalize pathT zp = ps at *
          clear hPQ
          subst hi
          have MK := Lib.hid (fun w' (h : Up wr w') => (⟨h, h.cell x3, h.cell y3, h.cell a1, h.cell a2, h.cell b1, h.cell b2⟩ : Up wr w' ∧ w'.cell? ⟨a, 3, none⟩ = some (.slice (some ⟨g1, 0, none⟩) P.length d1) ∧ w'.cell? ⟨a + 1, 3, none⟩ = some (.slice (some ⟨g2, 0, none⟩) Q.length d2) ∧ w'.cell? ⟨g1, k * 2, none⟩ = some (.string ⟨ps.toArray⟩) ∧ w'.cell? ⟨g1, k * 2 + 1, none⟩ = some (.slice F1 zn k1) ∧ w'.cell? ⟨g2, k * 2, none⟩ = some (.string ⟨ps.toArray⟩) ∧ w'.cell? ⟨g2, k * 2 + 1, none⟩ = some (.slice F2 zn k2)))
          go_wp2_with fail
          have HUr := Lib.hid hu
          clear hu x0 x3 y0 y3 a1 a2 b1 b2
          go_region_held3 (fun w' => Up wr w' ∧ w'.cell? ⟨a, 3, none⟩ = some (.slice (some ⟨g1, 0, none⟩) P.length d1) ∧ w'.cell? ⟨a + 1, 3, none⟩ = some (.slice (some ⟨g2, 0, none⟩) Q.length d2) ∧ w'.cell? ⟨g1, k * 2, none⟩ = some (.string ⟨ps.toArray⟩) ∧ w'.cell? ⟨g1, k * 2 + 1, none⟩ = some (.slice F1 zn k1) ∧ w'.cell? ⟨g2, k * 2, none⟩ = some (.string ⟨ps.toArray⟩) ∧ w'.cell? ⟨g2, k * 2 + 1, none⟩ = some (.slice F2 zn k2))
            (first
              | assumption
              | exact MK.out _ (Up.refl _).drew
              | exact MK.out _ (Up.drew (And.left (by assumption))))
            (fail)
          go_wp2_with fail
          go_roundg g
          case measure => omega
          case rel => exact ⟨k + 1, by omega, by go_num, HUr.out.drew⟩
        · have hiI : ¬ ((il : Int) = (im : Int)) := by omega
          have hg5 := globW_up hg ((HU1.out.trans HU2.out).trans (HUX.out.trans hu))
          go_wp2_with fail
          with_reducible refine (AW _ ?_).out.mono ?_
          · exact hg5
          rintro e w9 ⟨rfl, hk9⟩
          go_wp2_with fail
          go_ret
          exact ⟨rfl, ((HU1.out.trans HU2.out).trans (HUX.out.trans hu)).trans (kept_up hk9)⟩
      · have hltI : (P.length : Int) ≤ (k : Int) + 1 := by omega
        have hg5 := globW_up hg ((HU1.out.trans HU2.out).trans (HUX.out.trans hu))
        go_wp2_with fail
        with_reducible refine (AW _ ?_).out.mono ?_
        · exact hg5
        rintro e w9 ⟨rfl, hk9⟩
        go_wp2_with fail
        go_ret
        exact ⟨rfl, ((HU1.out.trans HU2.out).trans (HUX.out.trans hu)).trans (kept_up hk9)⟩
end Go.Proofs.YtongfkckenahnaaGreatDoor
