/- Walk: extract.File of an archive that is read. -/
import Derived.Test.YtkfococpanailaaGreatDoorGU48
import Derived.Test.YtkfococpanailaaGreatDoorGU19
namespace Go.Gz
theorem keep_total (L : Items) (p : Int → Int → Int → Bool) : total (keepL L p) ≤ total L := by
  unfold keepL total;induction L with
  | nil => exact Nat.le_refl _
  | cons x t ih =>
    rw [List.filter_cons, List.map_cons, List.sum_cons];split
    · rw [List.map_cons, List.sum_cons]; omega
    · omega
end Go.Gz
namespace Go.Proofs.YtkfococpanailaaGreatDoor
open Go.RowKit Go.Gz Go.Shelf

set_option maxRecDepth 100000
set_option maxHeartbeats 8000000 in
theorem xfile_any (s out : Bs) (L : Items) (hg : Gz.Good L) (r : Rcs) (hr8 : r.length ≤ 1000) (RD : ∀ w, Hid (Calls Tryz.prog 13 #[.string ⟨s.toArray⟩] w (ChartE w (0, L))))
    (PR : ∀ A c w, Gl w → Rd w 2 A (keepL L (anyR r)).length c (itV (keepL L (anyR r))) → Hid (Calls Tryz.prog 30 #[.agg #[.slice A (keepL L (anyR r)).length c], .agg #[.int .i64 512, .int .u8 0, .string ⟨([123, 125] : Bs).toArray⟩]] w (PressE w out 0)))
    (Ar : Option Addr) (cr : Nat) (w : World) (hgl : Gl w) (hrr : Rd w 5 Ar r.length cr (rcV r)) :
    Calls Tryz.prog 46 #[.string ⟨s.toArray⟩, .slice Ar r.length cr, .agg #[.int .i64 512, .int .u8 0, .string ⟨([123, 125] : Bs).toArray⟩]] w (PressE w out 0) := by
  have XR := fun A1 c1 w h1 h2 => Lib.hid (eof_any L hg r (by omega) A1 c1 Ar cr w h1 h2);generalize keepL L (anyR r) = S at *;have q := heap_alloc_new w (.cells #[.int .i64 512, .int .u8 0, .string ⟨([123, 125] : Bs).toArray⟩] 53);have HU := Lib.hid ((Up.refl w).alloc (.cells #[.int .i64 512, .int .u8 0, .string ⟨([123, 125] : Bs).toArray⟩] 53));have s0 := blkc q 0 (.int .i64 512) rfl;have s1 := blkc q 1 (.int .u8 0) rfl;have s2 := blkc q 2 (.string ⟨([123, 125] : Bs).toArray⟩) rfl;have HG := Lib.hid hgl;have HRR := Lib.hid (hrr.up HU.out);unfold ChartE at RD;unfold PressE at PR;unfold ChaE at XR;simp only at RD;clear q hgl hrr;go_enter Tryz.func46, Tryz.ntmps46;go_wp2_with fail;with_reducible refine (RD _).out.mono ?_
  rintro e v1 ⟨_, rfl, hu, hv1, _⟩;obtain ⟨A1, c1, rfl, r1⟩ := hv1 (by first | trivial | rfl);have hn := new1 v1 26 (.slice A1 L.length c1);have hv := hu.trans hn.1;replace s0 := hv.cell s0;replace s1 := hv.cell s1;replace s2 := hv.cell s2;replace HRR := Lib.hid (HRR.out.up hv);replace HU := Lib.hid (HU.out.trans hv);have kc := hn.2.1;have HC := Lib.hid (r1.up hn.1);clear hu hv hn r1 hv1 RD;obtain ⟨X, hX⟩ : ∃ X, v1.alloc (.cells #[.slice A1 L.length c1] 26) = X := ⟨_, rfl⟩;rw [hX] at kc s0 s1 s2 HU HC HRR;go_wp2_with fail;(try rw [hX]);have MK := Lib.hid (fun w' (h : Up X w') => (⟨h.cell kc, h.cell s0, h.cell s1, h.cell s2⟩ : w'.cell? ⟨v1.heap.size, 0, none⟩ = some (.slice A1 L.length c1) ∧ w'.cell? ⟨w.heap.size, 0, none⟩ = some (.int .i64 512) ∧ w'.cell? ⟨w.heap.size, 1, none⟩ = some (.int .u8 0) ∧ w'.cell? ⟨w.heap.size, 2, none⟩ = some (.string ⟨([123, 125] : Bs).toArray⟩)));refine wp_region_held_drew (S := fun w' => w'.cell? ⟨v1.heap.size, 0, none⟩ = some (.slice A1 L.length c1) ∧ w'.cell? ⟨w.heap.size, 0, none⟩ = some (.int .i64 512) ∧ w'.cell? ⟨w.heap.size, 1, none⟩ = some (.int .u8 0) ∧ w'.cell? ⟨w.heap.size, 2, none⟩ = some (.string ⟨([123, 125] : Bs).toArray⟩)) (by kernel_rfl) (MK.out _ (Up.refl _).drew) (fun hHeld => ?_);have hU := (Up.refl X).drew;generalize X.drew = y0 at *;refine tk 0 rfl ?_;(try simp only [Act.put, tz1, tz2, tz3]);refine tk 1 rfl ?_;(try simp only [Act.put, tz1, tz2, tz3]);refine tk 3 rfl ?_;(try simp only [Act.put, tz1, tz2, tz3]);refine rd1 2 rfl (fun K hK => ?_);go_simp;go_at_call 35;with_reducible refine (XR _ _ _ (HC.out.up hU) (HRR.out.up hU)).out.mono ?_
  rintro e y1 ⟨A4, c4, rfl, R4, hu⟩;refine hK.out _ _ (MK.out _ (hU.trans hu)) (fun hHeld => ?_);clear hK K;(try simp only [Act.put, tz1, tz2, tz3]);replace hU := hU.trans hu;clear hu;refine rd1 4 rfl (fun K hK => ?_);go_simp;go_at_call 30;with_reducible refine (PR _ _ _ (HG.out.up (HU.out.trans hU)) R4).out.mono ?_
  rintro e y2 ⟨rfl, hu⟩;clear R4;refine hK.out _ _ (MK.out _ (hU.trans hu)) (fun hHeld => ?_);clear hK K;(try simp only [Act.put, tz1, tz2, tz3]);replace hU := hU.trans hu;clear hu;refine tk 5 rfl ?_;(try simp only [Act.put, tz1, tz2, tz3]);refine tk 6 rfl ?_;(try simp only [Act.put, tz1, tz2, tz3]);refine tk 7 rfl ?_;(try simp only [Act.put, tz1, tz2, tz3]);refine tk 8 rfl ?_;(try simp only [Act.put, tz1, tz2, tz3]);refine wpAnyH_done (by kernel_rfl) ?_ _;go_wp2_with fail;go_ret2
  exact ⟨rfl, HU.out.trans hU⟩
end Go.Proofs.YtkfococpanailaaGreatDoor
