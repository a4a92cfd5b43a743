/- Walk: gazetteerlaw47.awake; MeterMore. -/
import Derived.Test.YtcfmidmokciofaaGreatDoorKM40
import Derived.Test.YtcfmidmokciofaaGreatDoorKM44
namespace Go.Proofs.YtcfmidmokciofaaGreatDoor
open Go.RowKit Go.Gz
set_option maxRecDepth 100000
theorem ask1 {w : World} {BM : Nat} {A : Option Addr} {c B m : Nat} (hg : Gl w) (h1 : BM ≠ B) (h2 : BM ≠ m) (s : Bs) (hs : s.length ≤ 1000000) (x : Gz.Way) (hx : wayW R1m L1 s = x) (kn kn' : Bool) (K K' : List NK) (tot n : Nat) (ht : tot ≤ 1000) (hn : n ≤ 3)
    (ha : askL 1 kn K x = (kn', K', n)) (h : Hold w BM A L1 c R1m kn B m 1 tot K) :
    Calls Tryz.prog 11 #[.pointer (some ⟨BM, 0, none⟩), .string ⟨s.toArray⟩] w fun e w' => e = .returned (.int .i64 (n : Int)) ∧ Hold w' BM A L1 c R1m kn' B m 1 (tot + n) K' ∧ Tw [BM, B, m] w w' := by
  have hr : rowE R1m = 0 := by decide
  have hok : ∀ e ∈ R1m, okE e := by
    intro e he
    simp only [R1m, List.mem_singleton] at he
    subst he
    unfold okE
    decide
  have := hold_ask (w := w) (A := A) (cc := c) (L := L1) (R := R1m) (tot := tot) (K := K) (kn := kn) (most := 1) s hs (by omega) (by decide) srt1 hok hr (by decide) hg h1 h2 h (by rw [hx, ha]; exact hn)
  rw [hx, ha] at this
  exact this
set_option maxHeartbeats 16000000 in
theorem awake47 (w : World) (hg : Gl w) :
    Calls Tryz.prog 8 #[] w fun e w' => e = .returned (.bool true) ∧ Up w w' := by
  have OF := fun b w h => Lib.hid (of1_any b w h)
  have NA : ∀ A c w, Gl w → Rd w 2 A 1 c (itV L1) → RowKit.Hid (Calls Tryz.prog 10 #[.agg #[.slice A 1 c], .int .i64 512, .int .i64 1] w (NewE w A L1 c 512 1)) := fun A c w hg hr => Lib.hid (mnew_any L1 good1 (by decide) (by decide) A c 512 (by omega) (by omega) 1 (by omega) w hg hr)
  have NL : ∀ A c w, Gl w → RowKit.Hid (Calls Tryz.prog 10 #[.agg #[.slice A 1 c], .int .i64 511, .int .i64 99] w fun e w' => e = .returned (.tuple #[.pointer none, .int .i64 15]) ∧ Up w w') := fun A c w hg => Lib.hid (mnew_low A 1 c 99 w hg)
  have NR : ∀ A c w, Gl w → Rd w 2 A 1 c (itV L1) → RowKit.Hid (Calls Tryz.prog 10 #[.agg #[.slice A 1 c], .int .i64 512, .int .i64 65] w fun e w' => e = .returned (.tuple #[.pointer none, .int .i64 2]) ∧ Up w w') := fun A c w hg hr => Lib.hid (mnew_room L1 good1 (by decide) (by decide) A c w hg hr)
  have HG := Lib.hid hg
  clear hg
  go_enter Tryz.func8, Tryz.ntmps8
  go_wp2_with fail
  with_reducible refine (OF _ _ (heap_alloc_new w (.cells #[.int .u64 0, .string ⟨#[120]⟩] 59))).out.mono ?_
  rintro e w1 ⟨A, c, rfl, hr, hu⟩
  have HU1 := Lib.hid ((((Up.refl w).alloc (.cells #[.int .u64 0, .string ⟨#[120]⟩] 59)).trans hu).alloc (.cells #[.slice A 1 c] 29))
  have HR1 := Lib.hid (hr.up ((Up.refl w1).alloc (.cells #[.slice A 1 c] 29)))
  have Q1 := Lib.hid (heap_alloc_new w1 (.cells #[.slice A 1 c] 29))
  clear hr hu OF
  go_wp2_with fail
  with_reducible refine (NA _ _ _ (HG.out.up HU1.out) HR1.out).out.mono ?_
  rintro e w2 hn2
  obtain ⟨BM, B, m, rfl, ha2, hu2, n1, n2, n3, n4, n5⟩ := hold_new hn2 HR1.out
  rw [root1] at ha2
  have HA2 := Lib.hid ha2
  have HU2 := Lib.hid (HU1.out.trans hu2)
  have HR2 := Lib.hid (HR1.out.up hu2)
  have Q2 := Lib.hid (hu2.obj Q1.out)
  have c2 := (blk_onec Q2.out).1
  have hs1 := HU1.out.size
  clear hn2 ha2 hu2 NA
  go_wp2_with fail
  with_reducible refine (NL _ _ _ (HG.out.up HU2.out)).out.mono ?_
  rintro e w3 ⟨rfl, hu3⟩
  have HA3 := Lib.hid (HA2.out.up hu3)
  have HU3 := Lib.hid (HU2.out.trans hu3)
  have HR3 := Lib.hid (HR2.out.up hu3)
  have c3 := (blk_onec (hu3.obj Q2.out)).1
  clear hu3 c2 NL
  go_wp2_with fail
  with_reducible refine (NR _ _ _ (HG.out.up HU3.out) HR3.out).out.mono ?_
  rintro e w4 ⟨rfl, hu4⟩
  have HA4 := Lib.hid (HA3.out.up hu4)
  have HU4 := Lib.hid (HU3.out.trans hu4)
  clear hu4 c3 NR
  have X1 := fun w hg h => Lib.hid (ask1 (w := w) (BM := BM) (A := A) (c := c) (B := B) (m := m) hg n1 n2 [47, 48, 47, 48, 47, 48] (by decide) (3, (0, 1)) way1 false true [] [RKey] 0 2 (by omega) (by omega) (by decide) h)
  have X2 := fun w hg h => Lib.hid (ask1 (w := w) (BM := BM) (A := A) (c := c) (B := B) (m := m) hg n1 n2 [47, 48, 47, 48, 47, 48] (by decide) (3, (0, 1)) way1 true true [RKey] [RKey] 2 1 (by omega) (by omega) (by decide) h)
  have X3 := fun w hg h => Lib.hid (ask1 (w := w) (BM := BM) (A := A) (c := c) (B := B) (m := m) hg n1 n2 [47, 49, 47, 48, 47, 48] (by decide) (1, (0, 0)) way2 true true [RKey] [RKey] 3 0 (by omega) (by omega) (by decide) h)
  have X4 := fun w hg h => Lib.hid (ask1 (w := w) (BM := BM) (A := A) (c := c) (B := B) (m := m) hg n1 n2 [120] (by decide) (0, (0, 0)) way3 true true [RKey] [RKey] 3 0 (by omega) (by omega) (by decide) h)
  have hd : ∀ q ∈ [BM, B, m], w.heap.size ≤ q := by
    intro q hq
    simp only [List.mem_cons, List.not_mem_nil, or_false] at hq
    have hs2 : w.heap.size ≤ w1.heap.size + 1 := by simpa using hs1
    rcases hq with rfl | rfl | rfl <;> omega
  have HD := Lib.hid hd
  clear hd
  go_wp2_with fail
  with_reducible refine (X1 _ (HG.out.up HU4.out) HA4.out).out.mono ?_
  rintro e w5 ⟨rfl, h5, t5⟩
  have HU5 := Lib.hid (Up.tw HU4.out t5 HD.out)
  have HA5 := Lib.hid h5
  clear h5 t5 X1
  go_wp2_with fail
  with_reducible refine (X2 _ (HG.out.up HU5.out) HA5.out).out.mono ?_
  rintro e w6 ⟨rfl, h6, t6⟩
  have HU6 := Lib.hid (Up.tw HU5.out t6 HD.out)
  have HA6 := Lib.hid h6
  clear h6 t6 X2
  go_wp2_with fail
  with_reducible refine (X3 _ (HG.out.up HU6.out) HA6.out).out.mono ?_
  rintro e w7 ⟨rfl, h7, t7⟩
  have HU7 := Lib.hid (Up.tw HU6.out t7 HD.out)
  have HA7 := Lib.hid h7
  clear h7 t7 X3
  go_wp2_with fail
  with_reducible refine (X4 _ (HG.out.up HU7.out) HA7.out).out.mono ?_
  rintro e w8 ⟨rfl, h8, t8⟩
  have HU8 := Lib.hid (Up.tw HU7.out t8 HD.out)
  obtain ⟨RA, rc, e1, e2, e3⟩ := h8
  have TT := Lib.hid (mtotal_any _ _ _ _ _ _ _ _ _ _ _ e1)
  have KP := Lib.hid (mkept_any _ _ _ _ _ _ _ _ _ _ _ _ _ _ e1 e2)
  have LV := Lib.hid (mleaves_any _ _ _ _ _ _ _ _ _ _ (by decide) _ e1 e3.rt)
  clear e1 e2 e3 t8 X4
  go_wp2_with fail
  with_reducible refine TT.out.mono ?_
  rintro e w' ⟨rfl, rfl⟩
  go_wp2_with fail
  with_reducible refine KP.out.mono ?_
  rintro e w' ⟨rfl, rfl⟩
  go_wp2_with fail
  with_reducible refine LV.out.mono ?_
  rintro e w9 ⟨rfl, hu9⟩
  go_wp2_with fail
  go_ret
  exact ⟨rfl, HU8.out.trans hu9⟩
/-- METERMORE -/
theorem mmore47 (l : Items) (hx : ∀ x ∈ l, x.2.length ≤ 9223372036854775807) (mo : Nat) (hmo : mo < 256) (ps : List Bs) (A : Option Addr) (c : Nat) (A2 : Option Addr) (c2 : Nat) (w : World) (hg : Gl w) (hr : Rd w 2 A l.length c (itV l)) (hr2 : Rd w 1 A2 ps.length c2 (ps.map strV)) :
    Calls Tryz.prog 3 #[.slice A l.length c, .int .u8 (mo : Int), .slice A2 ps.length c2] w fun e w' => e = .returned (.bool true) ∧ Up w w' :=
  mmore_main awake47 l hx mo hmo ps A c A2 c2 w hg hr hr2
end Go.Proofs.YtcfmidmokciofaaGreatDoor
