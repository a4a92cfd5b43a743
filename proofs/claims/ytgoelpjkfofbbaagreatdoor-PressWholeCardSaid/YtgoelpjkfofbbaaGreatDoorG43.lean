/- Walk: gazetteerlaw18.PressWhole. -/
import Derived.Test.YtgoelpjkfofbbaaGreatDoorG39
import Derived.Test.YtgoelpjkfofbbaaGreatDoorG12
import Derived.Test.YtgoelpjkfofbbaaGreatDoorG41
import Derived.Test.YtgoelpjkfofbbaaGreatDoorG42
namespace Go.Proofs.YtgoelpjkfofbbaaGreatDoor
open Go.RowKit Go.Gz Go.Maps Go.Shelf

set_option maxRecDepth 100000
def WholeOK (w : World) (e : Ending) (w' : World) : Prop := e = .returned (.bool true) ∧ Up w w'
set_option maxHeartbeats 64000000 in
theorem whole18 (l : Items) (hx : ∀ x ∈ l, x.2.length ≤ 9223372036854775807) (b : Int) (kind : Nat) (note : Bs) (A : Option Addr) (c : Nat) (w : World) (hg : Gl w) (hr : Rd w 2 A l.length c (itV l)) :
    Calls Tryz.prog 5 #[.slice A l.length c, .agg #[.int .i64 b, .int .u8 (kind : Int), .string ⟨note.toArray⟩]] w (WholeOK w) := by
  have OV : ∀ w, Rd w 2 A l.length c (itV l) → Hid (Calls Tryz.prog 8 #[.slice A l.length c, .int .i64 80, .int .i64 4000] w (OverEnd (l.length ≤ 80 ∧ sumL l ≤ 4000) w)) := fun w hr => Lib.hid (over12_any l 80 4000 (by decide) hx A c w hr)
  have AW := fun w hg => Lib.hid (awake18 w hg)
  have q := heap_alloc_new w (.cells #[.int .i64 b, .int .u8 (kind : Int), .string ⟨note.toArray⟩] 56)
  have HU0 := Lib.hid ((Up.refl w).alloc (.cells #[.int .i64 b, .int .u8 (kind : Int), .string ⟨note.toArray⟩] 56))
  have s0 := blkc q 0 (.int .i64 b) rfl
  have s1 := blkc q 1 (.int .u8 (kind : Int)) rfl
  have s2 := blkc q 2 (.string ⟨note.toArray⟩) rfl
  have HG := Lib.hid hg
  have HR := Lib.hid hr
  clear q hg hr hx
  go_enter Tryz.func5, Tryz.ntmps5
  go_wp2_with fail
  with_reducible refine (OV _ (HR.out.up HU0.out)).out.mono ?_
  rintro e w1 ⟨b1, rfl, hb, rfl⟩
  cases b1 with
  | true =>
    go_wp2_with fail
    with_reducible refine (AW _ (HG.out.up HU0.out)).out.mono ?_
    rintro e w2 ⟨rfl, hu2⟩
    go_wp2_with fail
    go_ret
    exact ⟨rfl, HU0.out.trans hu2⟩
  | false =>
    obtain ⟨hl80, hsum⟩ := hb rfl
    clear hb OV
    by_cases hn : 1000 < note.length
    · have hnI : (1000 : Int) < (note.length : Int) := by omega
      go_wp2_with fail
      with_reducible refine (AW _ (HG.out.up HU0.out)).out.mono ?_
      rintro e w2 ⟨rfl, hu2⟩
      go_wp2_with fail
      go_ret
      exact ⟨rfl, HU0.out.trans hu2⟩
    have hnI : ¬ (1000 : Int) < (note.length : Int) := by omega
    have OW := fun w hr => Lib.hid (own12_any l (by omega) A c w hr)
    unfold OwnEnd at OW
    have hgood := good_own l (by omega)
    have htot := total_own l
    have hlen := own_len l
    generalize ownL l = M at *
    go_wp2_with fail
    with_reducible refine (OW _ (HR.out.up HU0.out)).out.mono ?_
    rintro e w2 ⟨A1, c1, A1', c1', rfl, hr1, hr1', hu2⟩
    have n1 := new1 w2 30 (.slice A1 M.length c1)
    have hu3 := hu2.trans n1.1
    have HU2 := Lib.hid (HU0.out.trans hu3)
    have HR2 := Lib.hid (hr1.up n1.1)
    have g5 := n1.2.1
    replace s0 := hu3.cell s0
    replace s1 := hu3.cell s1
    replace s2 := hu3.cell s2
    clear hr1' hr1 hu2 hu3 n1 OW HU0 HR
    obtain ⟨b5, hb5⟩ : ∃ b, w2.heap.size = b := ⟨_, rfl⟩
    rw [hb5] at g5
    have CK := fun w hg => Lib.hid (pcheck_all b kind note (by omega) w hg)
    obtain ⟨E, hE⟩ : ∃ E, planN b kind note = E := ⟨_, rfl⟩
    rw [hE] at CK
    by_cases hE0 : E = 0
    · subst hE0
      have hpl : 512 ≤ b ∧ b ≤ 16257 ∧ kind ≤ 5 := by
        unfold planN at hE
        split at hE
        · simp at hE
        · split at hE
          · simp at hE
          · omega
      obtain ⟨b, rfl⟩ : ∃ n : Nat, b = (n : Int) := ⟨b.toNat, by omega⟩
      have PR := fun w hg hr => Lib.hid (press_good M hgood (by omega) (by omega) A1 c1 b (by omega) (by omega) kind hpl.2.2 note (by omega) CK w hg hr)
      unfold PressE at PR
      obtain ⟨T, h, rt, tx, dt, R, L, hT, CT, DC, JN, BK, LD, f1, f2, f3, f4, f5⟩ := arch_whole (b := b) (kind := kind) (note := note) hgood (by omega) (by omega) (by omega) (by omega) hpl.2.2 (by omega)
      rw [← hT] at PR
      have CT0 := CT [] (by decide)
      rw [List.append_nil] at CT0
      unfold DdecE at DC
      unfold EntsE at JN
      unfold ChartE at BK
      simp only at DC JN BK
      have LN := fun w => Lib.hid (len_any A1 M.length c1 w)
      have ED := fun w => Lib.hid (send_any h.d0 h.d1 (by omega) w)
      rw [f1] at ED
      obtain ⟨re, hre⟩ : ∃ x, 127 + h.r1 = x := ⟨_, rfl⟩
      have ER := fun w => Lib.hid (send_any 127 h.r1 (by omega) w)
      rw [hre] at ER f2
      simp only [show ((127 : Nat) : Int) = 127 from rfl] at ER
      have SM := fun A2 c2 w h1 h2 => Lib.hid (same_any M (by omega) A1 c1 A2 c2 w h1 h2)
      have m1 : IntKind.u64.wrap (M.length : Int) = (M.length : Int) := IntWalk.u64_in _ (by omega)
      have m2 : IntKind.u64.wrap (L.length : Int) = (L.length : Int) := IntWalk.u64_in _ (by omega)
      have m3 : IntKind.u64.wrap (T.length : Int) = (T.length : Int) := IntWalk.u64_in _ (by omega)
      have m4 : (re : Int) ≤ 16384 := by omega
      have m5 : (rt.length : Int) ≤ (b : Int) := by omega
      clear hT CT hE f1 f2 f3 hre hpl hsum htot hl80 hlen
      go_wp2_with fail
      with_reducible refine (PR _ (HG.out.up HU2.out) HR2.out).out.mono ?_
      rintro e y1 ⟨rfl, hy1⟩
      replace s0 := hy1.cell s0
      replace s1 := hy1.cell s1
      replace s2 := hy1.cell s2
      replace g5 := hy1.cell g5
      have HU3 := Lib.hid (HU2.out.trans hy1)
      have HR3 := Lib.hid (HR2.out.up hy1)
      clear hy1 HU2 HR2 PR CK
      go_wp2_with fail
      with_reducible refine (CT0 _).out.mono ?_
      rintro e y2 ⟨rfl, hy2⟩
      obtain ⟨b9, hb9⟩ : ∃ b, y2.heap.size = b := ⟨_, rfl⟩
      obtain ⟨Z1, Z2, hZ1, hZ2, th1, th2, huz, r9, r10⟩ := whole_blocks y2 b9 hb9 h M.length L.length rt note tx dt
      have hyz := hy2.trans huz
      replace s0 := hyz.cell s0
      replace s1 := hyz.cell s1
      replace s2 := hyz.cell s2
      replace g5 := hyz.cell g5
      have HU4 := Lib.hid (HU3.out.trans hyz)
      have HR4 := Lib.hid (HR3.out.up hyz)
      have x0 : Z2.cell? ⟨b9, 0, none⟩ = some (.int .u64 127) := r9 0 _ rfl
      have x1 : Z2.cell? ⟨b9, 1, none⟩ = some (.int .u64 (h.r1 : Int)) := r9 1 _ rfl
      have x6 : Z2.cell? ⟨b9, 6, none⟩ = some (.int .u64 (h.d0 : Int)) := r9 6 _ rfl
      have x7 : Z2.cell? ⟨b9, 7, none⟩ = some (.int .u64 (h.d1 : Int)) := r9 7 _ rfl
      have x8 : Z2.cell? ⟨b9, 8, none⟩ = some (.int .u64 (M.length : Int)) := r9 8 _ rfl
      have x9 : Z2.cell? ⟨b9, 9, none⟩ = some (.int .u64 (L.length : Int)) := r9 9 _ rfl
      have x11 : Z2.cell? ⟨b9, 11, none⟩ = some (.bool true) := r9 11 _ rfl
      have x12 : Z2.cell? ⟨b9, 12, none⟩ = some (.int .u8 1) := r9 12 _ rfl
      have x13 : Z2.cell? ⟨b9, 13, none⟩ = some (.int .u8 1) := r9 13 _ rfl
      have y0 : Z2.cell? ⟨b9 + 1, 0, none⟩ = some (.string ⟨rt.toArray⟩) := r10 0 _ rfl
      have y1' : Z2.cell? ⟨b9 + 1, 1, none⟩ = some (.string ⟨note.toArray⟩) := r10 1 _ rfl
      have y2' : Z2.cell? ⟨b9 + 1, 2, none⟩ = some (.string ⟨tx.toArray⟩) := r10 2 _ rfl
      have y3' : Z2.cell? ⟨b9 + 1, 3, none⟩ = some (.string ⟨dt.toArray⟩) := r10 3 _ rfl
      have RG := Lib.hid (fun (X : World) (hu : Up Z2 X) => (fun j v hv => hu.cell (r9 j v hv) : X.rangeAt b9 0 (HW h M.length L.length).toList))
      clear hyz hy2 huz HU3 HR3 CT0 r9 r10
      go_wp2_with (first
        | (refine wpList_store_mid rfl 51 _ _ rfl b9 0 (HW h M.length L.length) rfl rfl th1 (by kernel_rfl) (by simp [Value.oneCell']) ?_; rw [hZ1])
        | (refine wpList_store_mid rfl 52 _ _ rfl (b9 + 1) 0 (S4 rt note tx dt) rfl rfl th2 (by kernel_rfl) (by simp [Value.oneCell']) ?_; rw [hZ2]))
      clear hZ1 hZ2 th1 th2
      with_reducible refine (DC _).out.mono ?_
      rintro e y3 ⟨v3, at3, rfl, hy3, hv3, _⟩
      obtain ⟨A3, c3, rfl, r3⟩ := hv3 trivial
      replace g5 := hy3.cell g5
      replace s0 := hy3.cell s0
      replace s1 := hy3.cell s1
      replace s2 := hy3.cell s2
      replace x0 := hy3.cell x0
      replace x1 := hy3.cell x1
      replace x6 := hy3.cell x6
      replace x7 := hy3.cell x7
      replace x8 := hy3.cell x8
      replace x9 := hy3.cell x9
      replace x11 := hy3.cell x11
      replace x12 := hy3.cell x12
      replace x13 := hy3.cell x13
      replace y0 := hy3.cell y0
      replace y1' := hy3.cell y1'
      replace y2' := hy3.cell y2'
      replace y3' := hy3.cell y3'
      have HU5 := Lib.hid (HU4.out.trans hy3)
      have HR5 := Lib.hid (HR4.out.up hy3)
      have HUZ3 := Lib.hid hy3
      clear hy3 HU4 HR4 
      clear hv3 DC
      go_wp2_with fail
      with_reducible refine (JN _ _ _ r3).out.mono ?_
      rintro e y4 ⟨v4, rfl, hy4, hv4, _⟩
      obtain ⟨A4, c4, rfl, r4⟩ := hv4 trivial
      replace g5 := hy4.cell g5
      replace s0 := hy4.cell s0
      replace s1 := hy4.cell s1
      replace s2 := hy4.cell s2
      replace x0 := hy4.cell x0
      replace x1 := hy4.cell x1
      replace x6 := hy4.cell x6
      replace x7 := hy4.cell x7
      replace x8 := hy4.cell x8
      replace x9 := hy4.cell x9
      replace x11 := hy4.cell x11
      replace x12 := hy4.cell x12
      replace x13 := hy4.cell x13
      replace y0 := hy4.cell y0
      replace y1' := hy4.cell y1'
      replace y2' := hy4.cell y2'
      replace y3' := hy4.cell y3'
      have HU6 := Lib.hid (HU5.out.trans hy4)
      have HR6 := Lib.hid (HR5.out.up hy4)
      have HUZ4 := Lib.hid (HUZ3.out.trans hy4)
      clear hy4 HU5 HR5 HUZ3
      clear hv4 JN r3
      go_wp2_with fail
      with_reducible refine (BK _ _ _ r4).out.mono ?_
      rintro e y5 ⟨v5, rfl, hy5, hv5, _⟩
      obtain ⟨A5, c5, rfl, r5⟩ := hv5 trivial
      have n5 := new1 y5 30 (.slice A5 M.length c5)
      have k17 := n5.2.1
      have R5 := Lib.hid (r5.up n5.1)
      have hyn := hy5.trans n5.1
      replace g5 := hyn.cell g5
      replace s0 := hyn.cell s0
      replace s1 := hyn.cell s1
      replace s2 := hyn.cell s2
      replace x0 := hyn.cell x0
      replace x1 := hyn.cell x1
      replace x6 := hyn.cell x6
      replace x7 := hyn.cell x7
      replace x8 := hyn.cell x8
      replace x9 := hyn.cell x9
      replace x11 := hyn.cell x11
      replace x12 := hyn.cell x12
      replace x13 := hyn.cell x13
      replace y0 := hyn.cell y0
      replace y1' := hyn.cell y1'
      replace y2' := hyn.cell y2'
      replace y3' := hyn.cell y3'
      have HU7 := Lib.hid (HU6.out.trans hyn)
      have HR7 := Lib.hid (HR6.out.up hyn)
      have HUZ5 := Lib.hid (HUZ4.out.trans hyn)
      clear hyn HU6 HR6 HUZ4
      clear hv5 BK r4 r5 n5 hy5
      go_wp2_with fail
      with_reducible refine (SM _ _ _ HR7.out R5.out).out.mono ?_
      rintro e y6 ⟨rfl, hy6⟩
      replace g5 := hy6.cell g5
      replace s0 := hy6.cell s0
      replace s1 := hy6.cell s1
      replace s2 := hy6.cell s2
      replace x0 := hy6.cell x0
      replace x1 := hy6.cell x1
      replace x6 := hy6.cell x6
      replace x7 := hy6.cell x7
      replace x8 := hy6.cell x8
      replace x9 := hy6.cell x9
      replace x11 := hy6.cell x11
      replace x12 := hy6.cell x12
      replace x13 := hy6.cell x13
      replace y0 := hy6.cell y0
      replace y1' := hy6.cell y1'
      replace y2' := hy6.cell y2'
      replace y3' := hy6.cell y3'
      have HU77 := Lib.hid (HU7.out.trans hy6)
      have HR77 := Lib.hid (HR7.out.up hy6)
      have HUZ6 := Lib.hid (HUZ5.out.trans hy6)
      clear hy6 HU7 HR7 HUZ5
      have HR9 := Lib.hid (RG.out _ HUZ6.out)
      clear SM R5 k17
      go_wp2_with (refine wpList_load_g (by rfl) 51 _ rfl b9 0 rfl (HW h M.length L.length).toList _ HR9.out Tryz.underlying51 rfl (by kernel_rfl) ?_)
      with_reducible refine (LD _).out.mono ?_
      rintro e y7 ⟨rfl, hy7⟩
      replace g5 := hy7.cell g5
      replace s0 := hy7.cell s0
      replace s1 := hy7.cell s1
      replace s2 := hy7.cell s2
      replace x0 := hy7.cell x0
      replace x1 := hy7.cell x1
      replace x6 := hy7.cell x6
      replace x7 := hy7.cell x7
      replace x8 := hy7.cell x8
      replace x9 := hy7.cell x9
      replace x11 := hy7.cell x11
      replace x12 := hy7.cell x12
      replace x13 := hy7.cell x13
      replace y0 := hy7.cell y0
      replace y1' := hy7.cell y1'
      replace y2' := hy7.cell y2'
      replace y3' := hy7.cell y3'
      have HU8 := Lib.hid (HU77.out.trans hy7)
      have HR8 := Lib.hid (HR77.out.up hy7)
      have HUZ7 := Lib.hid (HUZ6.out.trans hy7)
      clear hy7 HU77 HR77 HUZ6
      clear LD HR9 y1' s1 s2
      go_wp2_with fail
      refine wp_region_held_drew (S := fun w' => (w'.cell? ⟨b5, 0, none⟩ = some (.slice A1 M.length c1) ∧ w'.cell? ⟨b9, 0, none⟩ = some (.int .u64 127) ∧ w'.cell? ⟨b9, 1, none⟩ = some (.int .u64 (h.r1 : Int)) ∧ w'.cell? ⟨b9, 6, none⟩ = some (.int .u64 (h.d0 : Int)) ∧ w'.cell? ⟨b9, 7, none⟩ = some (.int .u64 (h.d1 : Int)) ∧ w'.cell? ⟨b9, 8, none⟩ = some (.int .u64 (M.length : Int)) ∧ w'.cell? ⟨b9, 9, none⟩ = some (.int .u64 (L.length : Int)) ∧ w'.cell? ⟨b9, 11, none⟩ = some (.bool true) ∧ w'.cell? ⟨b9, 12, none⟩ = some (.int .u8 1) ∧ w'.cell? ⟨b9, 13, none⟩ = some (.int .u8 1) ∧ w'.cell? ⟨(b9 + 1), 0, none⟩ = some (.string ⟨rt.toArray⟩) ∧ w'.cell? ⟨w.heap.size, 0, none⟩ = some (.int .i64 (b : Int)))) (by kernel_rfl) ⟨g5, x0, x1, x6, x7, x8, x9, x11, x12, x13, y0, s0⟩ (fun hHeld => ?_)
      first | refine tku 0 rfl ?_ | refine tkv 0 rfl ?_
      (try simp only [Act.put, tz1, tz2, tz3])
      first | refine tku 1 rfl ?_ | refine tkv 1 rfl ?_
      (try simp only [Act.put, tz1, tz2, tz3])
      first | refine tku 2 rfl ?_ | refine tkv 2 rfl ?_
      (try simp only [Act.put, tz1, tz2, tz3])
      refine wpAnyH_ready (rs := [3]) (by kernel_rfl) (by simp) ?_
      refine AllReadyH.cons (o := ⟨_, _, _, _, _, _⟩) rfl (fun K hK => ?_) AllReadyH.nil
      clear hHeld
      go_simp
      go_at_call 24
      refine (LN _).out.mono ?_
      rintro e q1 ⟨rfl, huq⟩
      refine hK.out _ _ ⟨huq.cell g5, huq.cell x0, huq.cell x1, huq.cell x6, huq.cell x7, huq.cell x8, huq.cell x9, huq.cell x11, huq.cell x12, huq.cell x13, huq.cell y0, huq.cell s0⟩ (fun hHeld => ?_)
      clear hK K
      replace g5 := huq.cell g5
      replace x0 := huq.cell x0
      replace x1 := huq.cell x1
      replace x6 := huq.cell x6
      replace x7 := huq.cell x7
      replace x8 := huq.cell x8
      replace x9 := huq.cell x9
      replace x11 := huq.cell x11
      replace x12 := huq.cell x12
      replace x13 := huq.cell x13
      replace y0 := huq.cell y0
      replace s0 := huq.cell s0
      (try simp only [Act.put, tz1, tz2, tz3])
      have HUQ := Lib.hid (HU8.out.drew.trans huq)
      first | refine tku 4 rfl ?_ | refine tkv 4 rfl ?_
      (try simp only [Act.put, tz1, tz2, tz3])
      first | refine tku 5 rfl ?_ | refine tkv 5 rfl ?_
      (try simp only [Act.put, tz1, tz2, tz3])
      first | refine tku 6 rfl ?_ | refine tkv 6 rfl ?_
      (try simp only [Act.put, tz1, tz2, tz3])
      first | refine tku 7 rfl ?_ | refine tkv 7 rfl ?_
      (try simp only [Act.put, tz1, tz2, tz3])
      first | refine tku 8 rfl ?_ | refine tkv 8 rfl ?_
      (try simp only [Act.put, tz1, tz2, tz3])
      first | refine tku 9 rfl ?_ | refine tkv 9 rfl ?_
      (try simp only [Act.put, tz1, tz2, tz3])
      first | refine tku 10 rfl ?_ | refine tkv 10 rfl ?_
      (try simp only [Act.put, tz1, tz2, tz3])
      first | refine tku 11 rfl ?_ | refine tkv 11 rfl ?_
      (try simp only [Act.put, tz1, tz2, tz3])
      first | refine tku 12 rfl ?_ | refine tkv 12 rfl ?_
      (try simp only [Act.put, tz1, tz2, tz3])
      first | refine tku 13 rfl ?_ | refine tkv 13 rfl ?_
      (try simp only [Act.put, tz1, tz2, tz3])
      first | refine tku 14 rfl ?_ | refine tkv 14 rfl ?_
      (try simp only [Act.put, tz1, tz2, tz3])
      first | refine tku 15 rfl ?_ | refine tkv 15 rfl ?_
      (try simp only [Act.put, tz1, tz2, tz3])
      first | refine tku 16 rfl ?_ | refine tkv 16 rfl ?_
      (try simp only [Act.put, tz1, tz2, tz3])
      first | refine tku 18 rfl ?_ | refine tkv 18 rfl ?_
      (try simp only [Act.put, tz1, tz2, tz3])
      first | refine tku 19 rfl ?_ | refine tkv 19 rfl ?_
      (try simp only [Act.put, tz1, tz2, tz3])
      first | refine tku 20 rfl ?_ | refine tkv 20 rfl ?_
      (try simp only [Act.put, tz1, tz2, tz3])
      refine wpAnyH_ready (rs := [17]) (by kernel_rfl) (by simp) ?_
      refine AllReadyH.cons (o := ⟨_, _, _, _, _, _⟩) rfl (fun K hK => ?_) AllReadyH.nil
      clear hHeld
      go_simp
      go_at_call 25
      refine (ED _).out.mono ?_
      rintro e q2 ⟨rfl, hur⟩
      refine hK.out _ _ ⟨hur.cell g5, hur.cell x0, hur.cell x1, hur.cell x6, hur.cell x7, hur.cell x8, hur.cell x9, hur.cell x11, hur.cell x12, hur.cell x13, hur.cell y0, hur.cell s0⟩ (fun hHeld => ?_)
      clear hK K
      replace g5 := hur.cell g5
      replace x0 := hur.cell x0
      replace x1 := hur.cell x1
      replace x6 := hur.cell x6
      replace x7 := hur.cell x7
      replace x8 := hur.cell x8
      replace x9 := hur.cell x9
      replace x11 := hur.cell x11
      replace x12 := hur.cell x12
      replace x13 := hur.cell x13
      replace y0 := hur.cell y0
      replace s0 := hur.cell s0
      (try simp only [Act.put, tz1, tz2, tz3])
      have HUR := Lib.hid (HUQ.out.trans hur)
      first | refine tku 21 rfl ?_ | refine tkv 21 rfl ?_
      (try simp only [Act.put, tz1, tz2, tz3])
      first | refine tku 22 rfl ?_ | refine tkv 22 rfl ?_
      (try simp only [Act.put, tz1, tz2, tz3])
      first | refine tku 23 rfl ?_ | refine tkv 23 rfl ?_
      (try simp only [Act.put, tz1, tz2, tz3])
      first | refine tku 24 rfl ?_ | refine tkv 24 rfl ?_
      (try simp only [Act.put, tz1, tz2, tz3])
      first | refine tku 25 rfl ?_ | refine tkv 25 rfl ?_
      (try simp only [Act.put, tz1, tz2, tz3])
      first | refine tku 26 rfl ?_ | refine tkv 26 rfl ?_
      (try simp only [Act.put, tz1, tz2, tz3])
      first | refine tku 27 rfl ?_ | refine tkv 27 rfl ?_
      (try simp only [Act.put, tz1, tz2, tz3])
      first | refine tku 28 rfl ?_ | refine tkv 28 rfl ?_
      (try simp only [Act.put, tz1, tz2, tz3])
      first | refine tku 29 rfl ?_ | refine tkv 29 rfl ?_
      (try simp only [Act.put, tz1, tz2, tz3])
      first | refine tku 30 rfl ?_ | refine tkv 30 rfl ?_
      (try simp only [Act.put, tz1, tz2, tz3])
      first | refine tku 31 rfl ?_ | refine tkv 31 rfl ?_
      (try simp only [Act.put, tz1, tz2, tz3])
      refine wpAnyH_ready (rs := [32]) (by kernel_rfl) (by simp) ?_
      refine AllReadyH.cons (o := ⟨_, _, _, _, _, _⟩) rfl (fun K hK => ?_) AllReadyH.nil
      clear hHeld
      go_simp
      go_at_call 25
      refine (ER _).out.mono ?_
      rintro e q3 ⟨rfl, hus⟩
      refine hK.out _ _ ⟨hus.cell g5, hus.cell x0, hus.cell x1, hus.cell x6, hus.cell x7, hus.cell x8, hus.cell x9, hus.cell x11, hus.cell x12, hus.cell x13, hus.cell y0, hus.cell s0⟩ (fun hHeld => ?_)
      clear hK K
      replace g5 := hus.cell g5
      replace x0 := hus.cell x0
      replace x1 := hus.cell x1
      replace x6 := hus.cell x6
      replace x7 := hus.cell x7
      replace x8 := hus.cell x8
      replace x9 := hus.cell x9
      replace x11 := hus.cell x11
      replace x12 := hus.cell x12
      replace x13 := hus.cell x13
      replace y0 := hus.cell y0
      replace s0 := hus.cell s0
      (try simp only [Act.put, tz1, tz2, tz3])
      have HUS := Lib.hid (HUR.out.trans hus)
      first | refine tku 33 rfl ?_ | refine tkv 33 rfl ?_
      (try simp only [Act.put, tz1, tz2, tz3])
      first | refine tku 34 rfl ?_ | refine tkv 34 rfl ?_
      (try simp only [Act.put, tz1, tz2, tz3])
      first | refine tku 35 rfl ?_ | refine tkv 35 rfl ?_
      (try simp only [Act.put, tz1, tz2, tz3])
      first | refine tku 36 rfl ?_ | refine tkv 36 rfl ?_
      (try simp only [Act.put, tz1, tz2, tz3])
      first | refine tku 37 rfl ?_ | refine tkv 37 rfl ?_
      (try simp only [Act.put, tz1, tz2, tz3])
      first | refine tku 38 rfl ?_ | refine tkv 38 rfl ?_
      (try simp only [Act.put, tz1, tz2, tz3])
      first | refine tku 39 rfl ?_ | refine tkv 39 rfl ?_
      (try simp only [Act.put, tz1, tz2, tz3])
      first | refine tku 40 rfl ?_ | refine tkv 40 rfl ?_
      (try simp only [Act.put, tz1, tz2, tz3])
      first | refine tku 41 rfl ?_ | refine tkv 41 rfl ?_
      (try simp only [Act.put, tz1, tz2, tz3])
      first | refine tku 42 rfl ?_ | refine tkv 42 rfl ?_
      (try simp only [Act.put, tz1, tz2, tz3])
      first | refine tku 43 rfl ?_ | refine tkv 43 rfl ?_
      (try simp only [Act.put, tz1, tz2, tz3])
      first | refine tku 44 rfl ?_ | refine tkv 44 rfl ?_
      (try simp only [Act.put, tz1, tz2, tz3])
      first | refine tku 45 rfl ?_ | refine tkv 45 rfl ?_
      (try simp only [Act.put, tz1, tz2, tz3])
      first | refine tku 46 rfl ?_ | refine tkv 46 rfl ?_
      (try simp only [Act.put, tz1, tz2, tz3])
      first | refine tku 47 rfl ?_ | refine tkv 47 rfl ?_
      (try simp only [Act.put, tz1, tz2, tz3])
      first | refine tku 48 rfl ?_ | refine tkv 48 rfl ?_
      (try simp only [Act.put, tz1, tz2, tz3])
      first | refine tku 49 rfl ?_ | refine tkv 49 rfl ?_
      (try simp only [Act.put, tz1, tz2, tz3])
      first | refine tku 50 rfl ?_ | refine tkv 50 rfl ?_
      (try simp only [Act.put, tz1, tz2, tz3])
      first | refine tku 51 rfl ?_ | refine tkv 51 rfl ?_
      (try simp only [Act.put, tz1, tz2, tz3])
      first | refine tku 52 rfl ?_ | refine tkv 52 rfl ?_
      (try simp only [Act.put, tz1, tz2, tz3])
      first | refine tku 53 rfl ?_ | refine tkv 53 rfl ?_
      (try simp only [Act.put, tz1, tz2, tz3])
      first | refine tku 54 rfl ?_ | refine tkv 54 rfl ?_
      (try simp only [Act.put, tz1, tz2, tz3])
      first | refine tku 55 rfl ?_ | refine tkv 55 rfl ?_
      (try simp only [Act.put, tz1, tz2, tz3])
      first | refine tku 56 rfl ?_ | refine tkv 56 rfl ?_
      (try simp only [Act.put, tz1, tz2, tz3])
      first | refine tku 57 rfl ?_ | refine tkv 57 rfl ?_
      (try simp only [Act.put, tz1, tz2, tz3])
      refine wpAnyH_ready (rs := [58]) (by kernel_rfl) (by simp) ?_
      refine AllReadyH.cons (o := ⟨_, _, _, _, _, _⟩) rfl (fun K hK => ?_) AllReadyH.nil
      clear hHeld
      go_simp
      go_at_call 9
      refine (AW _ (HG.out.up HUS.out)).out.mono ?_
      rintro e q4 ⟨rfl, hut⟩
      refine hK.out _ _ ⟨hut.cell g5, hut.cell x0, hut.cell x1, hut.cell x6, hut.cell x7, hut.cell x8, hut.cell x9, hut.cell x11, hut.cell x12, hut.cell x13, hut.cell y0, hut.cell s0⟩ (fun hHeld => ?_)
      clear hK K
      replace g5 := hut.cell g5
      replace x0 := hut.cell x0
      replace x1 := hut.cell x1
      replace x6 := hut.cell x6
      replace x7 := hut.cell x7
      replace x8 := hut.cell x8
      replace x9 := hut.cell x9
      replace x11 := hut.cell x11
      replace x12 := hut.cell x12
      replace x13 := hut.cell x13
      replace y0 := hut.cell y0
      replace s0 := hut.cell s0
      (try simp only [Act.put, tz1, tz2, tz3])
      have HUT := Lib.hid (HUS.out.trans hut)
      first | refine tku 59 rfl ?_ | refine tkv 59 rfl ?_
      (try simp only [Act.put, tz1, tz2, tz3])
      first | refine tku 60 rfl ?_ | refine tkv 60 rfl ?_
      (try simp only [Act.put, tz1, tz2, tz3])
      refine wpAnyH_done (by kernel_rfl) ?_ _
      clear hHeld
      go_wp2_with fail
      go_ret
      exact ⟨rfl, HUT.out⟩
    · have hEb : (E == 0) = false := by rw [beq_eq_false_iff_ne]; exact hE0
      have PB := fun w hg => Lib.hid (press_bad A1 M.length c1 b kind note E hE0 CK w hg)
      unfold PressE at PB
      clear hE
      go_wp2_with fail
      with_reducible refine (PB _ (HG.out.up HU2.out)).out.mono ?_
      rintro e y1 ⟨rfl, hy1⟩
      replace s0 := hy1.cell s0
      replace s1 := hy1.cell s1
      replace s2 := hy1.cell s2
      have HU3 := Lib.hid (HU2.out.trans hy1)
      clear hy1 HU2 HR2 PB g5
      go_wp2_with fail
      with_reducible refine (CK _ (HG.out.up HU3.out)).out.mono ?_
      rintro e y2 ⟨rfl, hy2⟩
      have HU4 := Lib.hid (HU3.out.trans hy2)
      clear hy2
      go_wp2_with fail
      with_reducible refine (AW _ (HG.out.up HU4.out)).out.mono ?_
      rintro e y3 ⟨rfl, hy3⟩
      go_wp2_with fail
      go_ret
      first
        | exact ⟨rfl, HU4.out.trans hy3⟩
        | (refine ⟨ret_bool ?_, HU4.out.trans hy3⟩; simp)
end Go.Proofs.YtgoelpjkfofbbaaGreatDoor
