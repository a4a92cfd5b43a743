/- Walk: chart.Zooms. -/
import Derived.Test.YtcfmidmokciofaaGreatDoorKR06
import Derived.Test.YtcfmidmokciofaaGreatDoorKR09
namespace Go.Proofs.YtcfmidmokciofaaGreatDoor
open Go.RowKit Go.Gz Go.Shelf

set_option maxRecDepth 100000
set_option maxHeartbeats 4000000 in
theorem zooms_any (L : Items) (hg : Gz.Good L) (hl : L.length ≤ 100000) (A : Option Addr) (c : Nat) (w : World) (hr : Rd w 2 A L.length c (itV L)) :
    Calls Tryz.prog 96 #[.agg #[.slice A L.length c]] w fun e w' => e = .returned (.tuple #[.int .i64 (minZ L), .int .i64 (maxZ L), .bool (decide (L ≠ []))]) ∧ Up w w' := by
  rcases List.eq_nil_or_concat L with hL | ⟨pre, y, hL⟩
  · subst hL;show Calls Tryz.prog 96 #[.agg #[.slice A 0 c]] w fun e w' => e = .returned (.tuple #[.int .i64 0, .int .i64 0, .bool false]) ∧ Up w w'
    clear hr hl;go_enter Tryz.func96, Tryz.ntmps96;go_wp2_with fail;refine bodyPost_ret (results_tmp3 rfl _ _ _) rfl ?_;exact ⟨rfl, (Up.refl w).alloc _⟩
  · rw [List.concat_eq_append] at hL;have hne : L ≠ [] := by rw [hL]; simp
    rw [decide_eq_true hne];obtain ⟨x, r, hx⟩ : ∃ x r, L = x :: r := by
      cases L with
      | nil => exact absurd rfl hne
      | cons x r => exact ⟨x, r, rfl⟩
    have hmin : minZ L = zoomV x.1 := by rw [hx]; rfl
    have hmax : maxZ L = zoomV y.1 := by unfold maxZ; rw [hL]; simp
    rw [hmin, hmax];have hm : L.length = pre.length + 1 := by rw [hL]; simp
    obtain ⟨b, o, rfl, g0, g0'⟩ := hr.item (k := 0) (by omega);obtain ⟨b', o', eb, g1, g1'⟩ := hr.item (k := pre.length) (by omega);injection eb with eb;injection eb with eb1 eb2 _;subst eb1 eb2;have e0 : L[0]'(by omega) = x := by simp [hx]
    have e1 : L[pre.length]'(by omega) = y := by
      have : L[pre.length]? = some y := by rw [hL]; simp
      rw [List.getElem?_eq_getElem (by omega)] at this;injection this
    rw [e0] at g0;rw [e1] at g1;have Z0 := fun w => Lib.hid (zoom_any x.1 (hg.id x (by rw [hx]; simp)) w);have Z1 := fun w => Lib.hid (zoom_any y.1 (hg.id y (by rw [hL]; simp)) w);rw [Nat.zero_mul, Nat.add_zero] at g0;generalize x.1 = i0 at *;generalize y.1 = i1 at *;generalize zoomV i0 = z0 at *;generalize zoomV i1 = z1 at *;have hnc := hr.2.1;clear g0' g1' hr hg hne hmin hmax e0 e1 hL hx;generalize hn : L.length = n at *;generalize pre.length = m at *;have hlt : (m : Int) < (n : Int) := by omega
    have h0 : (0 : Int) < (n : Int) := by omega
    have h0n : 0 < n := by omega
    have b0 : ((n : Int) == 0) = false := by rw [beq_eq_false_iff_ne]; omega
    have ew : IntKind.i64.wrap ((n : Int) - 1) = (m : Int) := by rw [IntWalk.i64_in _ (by omega)]; omega
    have hu0 := (Up.refl w).alloc (.cells #[.slice (some ⟨b, o, none⟩) n c] 29);have c0 := (blk_one (heap_alloc_new w (.cells #[.slice (some ⟨b, o, none⟩) n c] 29))).1;have HU := Lib.hid hu0;replace g0 := hu0.cell g0;replace g1 := hu0.cell g1;clear hu0 hm hn;go_enter Tryz.func96, Tryz.ntmps96;go_wp2_with fail;obtain ⟨X, hX⟩ : ∃ x, w.alloc (.cells #[.slice (some ⟨b, o, none⟩) n c] 29) = x := ⟨_, rfl⟩;rw [hX] at c0 HU g0 g1 ⊢;clear hX;have MK := Lib.hid (fun w' (h : Up X w') => (⟨h, h.cell c0, h.cell g0, h.cell g1⟩ : Up X w' ∧ w'.cell? ⟨w.heap.size, 0, none⟩ = some (.slice (some ⟨b, o, none⟩) n c) ∧ w'.cell? ⟨b, o, none⟩ = some (.int .u64 (i0 : Int)) ∧ w'.cell? ⟨b, o + m * 2, none⟩ = some (.int .u64 (i1 : Int))));clear c0 g0 g1;refine wp_region_held_drew (S := fun w' => Up X w' ∧ w'.cell? ⟨w.heap.size, 0, none⟩ = some (.slice (some ⟨b, o, none⟩) n c) ∧ w'.cell? ⟨b, o, none⟩ = some (.int .u64 (i0 : Int)) ∧ w'.cell? ⟨b, o + m * 2, none⟩ = some (.int .u64 (i1 : Int))) (by kernel_rfl) ?_ (fun hHeld => ?_)
    · exact MK.out _ (Up.refl X).drew
    refine tk 0 rfl ?_;(try simp only [Act.put, tz1, tz2, tz3]);refine tk 1 rfl ?_;(try simp only [Act.put, tz1, tz2, tz3]);refine tk 2 rfl ?_;(try simp only [Act.put, tz1, tz2, tz3]);refine tk 3 rfl ?_;(try simp only [Act.put, tz1, tz2, tz3]);refine tk 4 rfl ?_;(try simp only [Act.put, tz1, tz2, tz3]);refine tk 6 rfl ?_;(try simp only [Act.put, tz1, tz2, tz3]);refine tk 7 rfl ?_;(try simp only [Act.put, tz1, tz2, tz3]);refine tk 8 rfl ?_;(try simp only [Act.put, tz1, tz2, tz3]);refine tk 9 rfl ?_;(try simp only [Act.put, tz1, tz2, tz3]);refine tk 10 rfl ?_;(try simp only [Act.put, tz1, tz2, tz3]);refine tk 11 rfl ?_;(try simp only [Act.put, tz1, tz2, tz3]);refine tk 12 rfl ?_;(try simp only [Act.put, tz1, tz2, tz3]);refine rd1 5 rfl (fun K hK => ?_);go_simp;go_at_call 84;refine (Z0 _).out.mono ?_;rintro e w1 ⟨rfl, huw1⟩;refine hK.out _ _ ?_ (fun hHeld2 => ?_)
    · exact MK.out _ (Up.trans (And.left (by assumption)) (by assumption))
    clear hK K;(try simp only [Act.put, tz1, tz2, tz3]);refine rd1 13 rfl (fun K hK => ?_);go_simp;go_at_call 84;refine (Z1 _).out.mono ?_;rintro e w2 ⟨rfl, huw2⟩;refine hK.out _ _ ?_ (fun hHeld2 => ?_)
    · exact MK.out _ (Up.trans (And.left (by assumption)) (by assumption))
    clear hK K;(try simp only [Act.put, tz1, tz2, tz3]);refine tk 14 rfl ?_;(try simp only [Act.put, tz1, tz2, tz3]);refine tk 15 rfl ?_;(try simp only [Act.put, tz1, tz2, tz3]);refine tk 16 rfl ?_;(try simp only [Act.put, tz1, tz2, tz3]);refine wpAnyH_done (by kernel_rfl) ?_ _;go_wp2_with fail;refine bodyPost_ret (results_tmp3 rfl _ _ _) rfl ?_;exact ⟨rfl, HU.out.trans hHeld2.1⟩
end Go.Proofs.YtcfmidmokciofaaGreatDoor
