/- Walk: unite.Over. -/
import Derived.Test.YtkfococpanailaaGreatDoorGB26
import Derived.Test.YtkfococpanailaaGreatDoorGB07
import Derived.Test.YtkfococpanailaaGreatDoorGB29
namespace Go.Proofs.YtkfococpanailaaGreatDoor
open Go.RowKit Go.Gz Go.Shelf

set_option maxRecDepth 100000
set_option maxHeartbeats 16000000 in
theorem over48_ok (L M : Items) (hL : Gz.Good L) (hM : Gz.Good M) (hle : (someL L M false).length + M.length ≤ 2048) (A1 : Option Addr) (c1 : Nat) (A2 : Option Addr) (c2 : Nat) (w : World) (h1 : Rd w 2 A1 L.length c1 (itV L)) (h2 : Rd w 2 A2 M.length c2 (itV M)) :
    Calls Tryz.prog 21 #[.agg #[.slice A1 L.length c1], .agg #[.slice A2 M.length c2]] w (OfEnd w (overL L M)) := by
  have n1 := ((((Up.refl w).alloc (.cells #[.slice A1 L.length c1] 26)).alloc (.cells #[.slice A2 M.length c2] 26)).alloc (.cells #[.slice none 0 0] 26))
  have q0 := heap_alloc_new w (.cells #[.slice A1 L.length c1] 26)
  have q1 := heap_alloc_new (w.alloc (.cells #[.slice A1 L.length c1] 26)) (.cells #[.slice A2 M.length c2] 26)
  have q2 := heap_alloc_new ((w.alloc (.cells #[.slice A1 L.length c1] 26)).alloc (.cells #[.slice A2 M.length c2] 26)) (.cells #[.slice none 0 0] 26)
  simp only [World.size_alloc] at q1 q2
  replace q0 := (((Up.refl _).alloc (.cells #[.slice A2 M.length c2] 26)).alloc (.cells #[.slice none 0 0] 26)).obj q0
  replace q1 := ((Up.refl _).alloc (.cells #[.slice none 0 0] 26)).obj q1
  have HR1 := Lib.hid (h1.up n1)
  have HR2 := Lib.hid (h2.up n1)
  have ONL := fun w h1 h2 => Lib.hid (only48_any L M hL hL.len hM.srt (by have := hM.len; omega) A1 c1 A2 c2 w h1 h2)
  have hSl := some_len L M false
  have hLl := hL.len
  have hMl := hM.len
  have IT1 := fun A c w hr => Lib.hid (items_any (someL L M false) (by omega) A c w hr)
  have IT2 := fun w hr => Lib.hid (items_any M (by omega) A2 c2 w hr)
  unfold ChaE at ONL
  unfold OwnE at IT1 IT2
  have hgo := good_over hL hM hle
  have OF : ∀ A c w, Rd w 2 A (someL L M false ++ M).length c (itV (someL L M false ++ M)) → Hid (Calls Tryz.prog 32 #[.slice A (someL L M false ++ M).length c] w (OfEnd w (overL L M))) := by
    intro A c w hr
    have h := of_any (someL L M false ++ M) (fit_over hL hM) (by rw [List.length_append]; exact hle) A c w hr
    refine Lib.hid (h.mono ?_)
    rintro e w' ⟨M', hp, hs, he⟩
    obtain rfl := over_sorted hL.srt hM.srt hs hp
    exact he
  unfold OfEnd at OF
  obtain ⟨T, hT⟩ : ∃ T, someL L M false ++ M = T := ⟨_, rfl⟩
  rw [hT] at OF
  have HT := Lib.hid hT
  clear hT
  have m0 := (blk_one q0).1
  have m1 := (blk_one q1).1
  have HRES := Lib.hid q2
  clear h1 h2 q0 q1 q2
  go_enter Tryz.func21, Tryz.ntmps21
  go_wp2_with fail
  obtain ⟨X, hX⟩ : ∃ X, ((w.alloc (.cells #[.slice A1 L.length c1] 26)).alloc (.cells #[.slice A2 M.length c2] 26)).alloc (.cells #[.slice none 0 0] 26) = X := ⟨_, rfl⟩
  rw [hX] at n1 m0 m1 HRES HR1 HR2
  (try rw [hX])
  have HX := Lib.hid n1
  clear hX n1
  have MK := Lib.hid (fun w' (h : Up X w') => (⟨h.cell m0, h.cell m1⟩ : w'.cell? ⟨w.heap.size, 0, none⟩ = some (.slice A1 L.length c1) ∧ w'.cell? ⟨w.heap.size + 1, 0, none⟩ = some (.slice A2 M.length c2)))
  refine wp_region_held_drew (S := fun w' => w'.cell? ⟨w.heap.size, 0, none⟩ = some (.slice A1 L.length c1) ∧ w'.cell? ⟨w.heap.size + 1, 0, none⟩ = some (.slice A2 M.length c2)) (by kernel_rfl) (MK.out _ (Up.refl _).drew) (fun hHeld => ?_)
  first | refine tku 0 rfl ?_ | refine tkv 0 rfl ?_
  (try simp only [Act.put, tz1, tz2, tz3])
  first | refine tku 1 rfl ?_ | refine tkv 1 rfl ?_
  (try simp only [Act.put, tz1, tz2, tz3])
  first | refine tku 4 rfl ?_ | refine tkv 4 rfl ?_
  (try simp only [Act.put, tz1, tz2, tz3])
  have hU := (Up.refl X).drew
  generalize X.drew = y0 at *
  refine wpAnyH_ready (rs := [2, 11]) (by kernel_rfl) (by simp) ?_
  refine AllReadyH.cons (o := ⟨_, _, _, _, _, _⟩) rfl (fun K hK => ?_) (AllReadyH.cons (o := ⟨_, _, _, _, _, _⟩) rfl (fun K hK => ?_) AllReadyH.nil)
  · go_simp
    go_at_call 25
    with_reducible refine (ONL _ (HR1.out.up hU) (HR2.out.up hU)).out.mono ?_
    rintro e y1 ⟨A5, c5, rfl, R5, hu⟩
    refine hK.out _ _ (MK.out _ (hU.trans hu)) (fun hHeld => ?_)
    clear hK K
    (try simp only [Act.put, tz1, tz2, tz3])
    replace hU := hU.trans hu
    clear hu
    refine wpAnyH_ready (rs := [3, 11]) (by kernel_rfl) (by simp) ?_
    refine AllReadyH.cons (o := ⟨_, _, _, _, _, _⟩) rfl (fun K hK => ?_) (AllReadyH.cons (o := ⟨_, _, _, _, _, _⟩) rfl (fun K hK => ?_) AllReadyH.nil)
    · go_simp
      go_at_call 17
      have hW := hU
      with_reducible refine (IT1 _ _ _ R5).out.mono ?_
      rintro e y2 ⟨v1, rfl, ho, hu⟩
      refine hK.out _ _ (MK.out _ (hU.trans hu)) (fun hHeld => ?_)
      clear hK K
      (try simp only [Act.put, tz1, tz2, tz3])
      replace hU := hU.trans hu
      have RS := RowS.mk ho hu
      clear hu ho R5
      refine wpAnyH_ready (rs := [5, 11]) (by kernel_rfl) (by simp) ?_
      refine AllReadyH.cons (o := ⟨_, _, _, _, _, _⟩) rfl (fun K hK => ?_) (AllReadyH.cons (o := ⟨_, _, _, _, _, _⟩) rfl (fun K hK => ?_) AllReadyH.nil)
      · go_simp
        go_at_call 17
        with_reducible refine (IT2 _ (HR2.out.up hU)).out.mono ?_
        rintro e y3 ⟨v2, rfl, ho, hu⟩
        refine hK.out _ _ (MK.out _ (hU.trans hu)) (fun hHeld => ?_)
        clear hK K
        (try simp only [Act.put, tz1, tz2, tz3])
        replace hU := hU.trans hu
        replace RS := RowS.mk (own_up RS.own hu) (RS.up.trans hu)
        obtain ⟨A7, c7, rfl, R7⟩ := Rd.of_own ho
        clear hu ho
        refine wpAnyH_ready (rs := [6, 11]) (by kernel_rfl) (by simp) ?_
        refine AllReadyH.cons (o := ⟨_, _, _, _, _, _⟩) rfl (fun K hK => ?_) (AllReadyH.cons (o := ⟨_, _, _, _, _, _⟩) rfl (fun K hK => ?_) AllReadyH.nil)
        · obtain ⟨v9, y4, f9, RS9, p9⟩ := RS.app R7 (by omega)
          rw [HT.out] at RS9
          refine step_append_run rfl _ _ 24 rfl rfl rfl (f9 _) ?_
          replace hU := hW.trans RS9.up
          refine hK.out _ _ (MK.out _ hU) (fun hHeld => ?_)
          clear hK K
          (try simp only [Act.put, tz1, tz2, tz3])
          obtain ⟨A9, c9, rfl, R9⟩ := Rd.of_own RS9.own
          clear RS RS9 p9 f9 R7 hW
          refine wpAnyH_ready (rs := [7, 11]) (by kernel_rfl) (by simp) ?_
          refine AllReadyH.cons (o := ⟨_, _, _, _, _, _⟩) rfl (fun K hK => ?_) (AllReadyH.cons (o := ⟨_, _, _, _, _, _⟩) rfl (fun K hK => ?_) AllReadyH.nil)
          · go_simp
            go_at_call 32
            with_reducible refine (OF _ _ _ R9).out.mono ?_
            rintro e y5 ⟨A6, c6, rfl, R6, hu⟩
            refine hK.out _ _ (MK.out _ (hU.trans hu)) (fun hHeld => ?_)
            clear hK K
            (try simp only [Act.put, tz1, tz2, tz3])
            replace hU := hU.trans hu
            clear hu R9
            first | refine tku 8 rfl ?_ | refine tkv 8 rfl ?_
            (try simp only [Act.put, tz1, tz2, tz3])
            first | refine tku 9 rfl ?_ | refine tkv 9 rfl ?_
            (try simp only [Act.put, tz1, tz2, tz3])
            first | refine tku 10 rfl ?_ | refine tkv 10 rfl ?_
            (try simp only [Act.put, tz1, tz2, tz3])
            refine wpAnyH_ready (rs := [11]) (by kernel_rfl) (by simp) ?_
            refine AllReadyH.cons (o := ⟨_, _, _, _, _, _⟩) rfl (fun K hK => ?_) AllReadyH.nil
            go_simp
            refine hK.out _ _ (MK.out _ (hU.alloc _)) (fun hHeld => ?_)
            clear hK K
            (try simp only [Act.put, tz1, tz2, tz3])
            have hB := heap_alloc_new y5 (.cells #[.slice none 0 0] 26)
            have ha := (Up.refl y5).alloc (.cells #[.slice none 0 0] 26)
            have hq := hU.le
            replace hU := hU.trans ha
            replace R6 := R6.up ha
            generalize y5.alloc (.cells #[.slice none 0 0] 26) = z5 at *
            generalize y5.heap.size = q at *
            clear ha
            refine wpAnyH_ready (rs := [12]) (by kernel_rfl) (by simp) ?_
            refine AllReadyH.cons (o := ⟨_, _, _, _, _, _⟩) rfl (fun K hK => ?_) AllReadyH.nil
            obtain ⟨k9, z9⟩ := blk_one hB
            go_simp
            refine hK.out _ _ (MK.out _ (hU.set (p := ⟨q, 0, none⟩) hq _)) (fun hHeld => ?_)
            clear hK K
            (try simp only [Act.put, tz1, tz2, tz3])
            first | refine tku 13 rfl ?_ | refine tkv 13 rfl ?_
            (try simp only [Act.put, tz1, tz2, tz3])
            refine wpAnyH_done (by kernel_rfl) ?_ _
            have HR6 := Lib.hid (R6.far hB (.slice A6 (overL L M).length c6))
            replace hU := hU.set (p := ⟨q, 0, none⟩) hq (.slice A6 (overL L M).length c6)
            have HB := Lib.hid (heap_setCell_same _ q 0 _ 26 (.slice A6 (overL L M).length c6) hB)
            have d6 := (blk_one HB.out).1
            generalize World.setCell _ ⟨q, 0, none⟩ (.slice A6 (overL L M).length c6) = Z at *
            have HRS := Lib.hid (hU.obj HRES.out)
            have HUZ := Lib.hid (HX.out.trans hU)
            have i0 := hHeld.1
            obtain ⟨k2, z2⟩ := blk_one HRS.out
            clear k9 z9 hB hU MK hHeld ONL IT1 IT2 OF
            go_wp2_with fail
            have HB5 := heap_setCell_same Z (w.heap.size + 1 + 1) 0 _ 26 (.slice A6 (overL L M).length c6) HRS.out
            have d7 := (blk_one HB5).1
            refine bodyPost_ret (v := .tuple #[.agg #[.slice A6 (overL L M).length c6], .int .i64 0]) (by simp [results, Tryz.results21, go_sem, d7]) rfl ⟨A6, c6, rfl, HR6.out.far HRS.out _, HUZ.out.set (p := ⟨w.heap.size + 1 + 1, 0, none⟩) (by simp; omega) _⟩
          · go_simp
            refine hK.out _ _ (MK.out _ (hU.alloc _)) (fun hHeld => ?_)
            clear hK K
            (try simp only [Act.put, tz1, tz2, tz3])
            have hB := heap_alloc_new y4 (.cells #[.slice none 0 0] 26)
            have ha := (Up.refl y4).alloc (.cells #[.slice none 0 0] 26)
            have hq := hU.le
            replace hU := hU.trans ha
            replace R9 := R9.up ha
            generalize y4.alloc (.cells #[.slice none 0 0] 26) = z4 at *
            generalize y4.heap.size = q at *
            clear ha
            refine wpAnyH_ready (rs := [7]) (by kernel_rfl) (by simp) ?_
            refine AllReadyH.cons (o := ⟨_, _, _, _, _, _⟩) rfl (fun K hK => ?_) AllReadyH.nil
            go_simp
            go_at_call 32
            with_reducible refine (OF _ _ _ R9).out.mono ?_
            rintro e y5 ⟨A6, c6, rfl, R6, hu⟩
            refine hK.out _ _ (MK.out _ (hU.trans hu)) (fun hHeld => ?_)
            clear hK K
            (try simp only [Act.put, tz1, tz2, tz3])
            replace hU := hU.trans hu
            replace hB := hu.obj hB
            clear hu R9
            first | refine tku 8 rfl ?_ | refine tkv 8 rfl ?_
            (try simp only [Act.put, tz1, tz2, tz3])
            first | refine tku 9 rfl ?_ | refine tkv 9 rfl ?_
            (try simp only [Act.put, tz1, tz2, tz3])
            first | refine tku 10 rfl ?_ | refine tkv 10 rfl ?_
            (try simp only [Act.put, tz1, tz2, tz3])
            refine wpAnyH_ready (rs := [12]) (by kernel_rfl) (by simp) ?_
            refine AllReadyH.cons (o := ⟨_, _, _, _, _, _⟩) rfl (fun K hK => ?_) AllReadyH.nil
            obtain ⟨k9, z9⟩ := blk_one hB
            go_simp
            refine hK.out _ _ (MK.out _ (hU.set (p := ⟨q, 0, none⟩) hq _)) (fun hHeld => ?_)
            clear hK K
            (try simp only [Act.put, tz1, tz2, tz3])
            first | refine tku 13 rfl ?_ | refine tkv 13 rfl ?_
            (try simp only [Act.put, tz1, tz2, tz3])
            refine wpAnyH_done (by kernel_rfl) ?_ _
            have HR6 := Lib.hid (R6.far hB (.slice A6 (overL L M).length c6))
            replace hU := hU.set (p := ⟨q, 0, none⟩) hq (.slice A6 (overL L M).length c6)
            have HB := Lib.hid (heap_setCell_same _ q 0 _ 26 (.slice A6 (overL L M).length c6) hB)
            have d6 := (blk_one HB.out).1
            generalize World.setCell _ ⟨q, 0, none⟩ (.slice A6 (overL L M).length c6) = Z at *
            have HRS := Lib.hid (hU.obj HRES.out)
            have HUZ := Lib.hid (HX.out.trans hU)
            have i0 := hHeld.1
            obtain ⟨k2, z2⟩ := blk_one HRS.out
            clear k9 z9 hB hU MK hHeld ONL IT1 IT2 OF
            go_wp2_with fail
            have HB5 := heap_setCell_same Z (w.heap.size + 1 + 1) 0 _ 26 (.slice A6 (overL L M).length c6) HRS.out
            have d7 := (blk_one HB5).1
            refine bodyPost_ret (v := .tuple #[.agg #[.slice A6 (overL L M).length c6], .int .i64 0]) (by simp [results, Tryz.results21, go_sem, d7]) rfl ⟨A6, c6, rfl, HR6.out.far HRS.out _, HUZ.out.set (p := ⟨w.heap.size + 1 + 1, 0, none⟩) (by simp; omega) _⟩
        · go_simp
          refine hK.out _ _ (MK.out _ (hU.alloc _)) (fun hHeld => ?_)
          clear hK K
          (try simp only [Act.put, tz1, tz2, tz3])
          have hB := heap_alloc_new y3 (.cells #[.slice none 0 0] 26)
          have ha := (Up.refl y3).alloc (.cells #[.slice none 0 0] 26)
          have hq := hU.le
          replace hU := hU.trans ha
          replace RS := RowS.mk (own_up RS.own ha) (RS.up.trans ha)
          replace R7 := R7.up ha
          generalize y3.alloc (.cells #[.slice none 0 0] 26) = z3 at *
          generalize y3.heap.size = q at *
          clear ha
          refine wpAnyH_ready (rs := [6]) (by kernel_rfl) (by simp) ?_
          refine AllReadyH.cons (o := ⟨_, _, _, _, _, _⟩) rfl (fun K hK => ?_) AllReadyH.nil
          obtain ⟨v9, y4, f9, RS9, p9⟩ := RS.app R7 (by omega)
          rw [HT.out] at RS9
          refine step_append_run rfl _ _ 24 rfl rfl rfl (f9 _) ?_
          replace hU := hW.trans RS9.up
          refine hK.out _ _ (MK.out _ hU) (fun hHeld => ?_)
          clear hK K
          (try simp only [Act.put, tz1, tz2, tz3])
          replace hB := p9 _ _ hB (by intro cs fz e; injection e with _ e; exact absurd e (by decide))
          obtain ⟨A9, c9, rfl, R9⟩ := Rd.of_own RS9.own
          clear RS RS9 p9 f9 R7 hW
          refine wpAnyH_ready (rs := [7]) (by kernel_rfl) (by simp) ?_
          refine AllReadyH.cons (o := ⟨_, _, _, _, _, _⟩) rfl (fun K hK => ?_) AllReadyH.nil
          go_simp
          go_at_call 32
          with_reducible refine (OF _ _ _ R9).out.mono ?_
          rintro e y5 ⟨A6, c6, rfl, R6, hu⟩
          refine hK.out _ _ (MK.out _ (hU.trans hu)) (fun hHeld => ?_)
          clear hK K
          (try simp only [Act.put, tz1, tz2, tz3])
          replace hU := hU.trans hu
          replace hB := hu.obj hB
          clear hu R9
          first | refine tku 8 rfl ?_ | refine tkv 8 rfl ?_
          (try simp only [Act.put, tz1, tz2, tz3])
          first | refine tku 9 rfl ?_ | refine tkv 9 rfl ?_
          (try simp only [Act.put, tz1, tz2, tz3])
          first | refine tku 10 rfl ?_ | refine tkv 10 rfl ?_
          (try simp only [Act.put, tz1, tz2, tz3])
          refine wpAnyH_ready (rs := [12]) (by kernel_rfl) (by simp) ?_
          refine AllReadyH.cons (o := ⟨_, _, _, _, _, _⟩) rfl (fun K hK => ?_) AllReadyH.nil
          obtain ⟨k9, z9⟩ := blk_one hB
          go_simp
          refine hK.out _ _ (MK.out _ (hU.set (p := ⟨q, 0, none⟩) hq _)) (fun hHeld => ?_)
          clear hK K
          (try simp only [Act.put, tz1, tz2, tz3])
          first | refine tku 13 rfl ?_ | refine tkv 13 rfl ?_
          (try simp only [Act.put, tz1, tz2, tz3])
          refine wpAnyH_done (by kernel_rfl) ?_ _
          have HR6 := Lib.hid (R6.far hB (.slice A6 (overL L M).length c6))
          replace hU := hU.set (p := ⟨q, 0, none⟩) hq (.slice A6 (overL L M).length c6)
          have HB := Lib.hid (heap_setCell_same _ q 0 _ 26 (.slice A6 (overL L M).length c6) hB)
          have d6 := (blk_one HB.out).1
          generalize World.setCell _ ⟨q, 0, none⟩ (.slice A6 (overL L M).length c6) = Z at *
          have HRS := Lib.hid (hU.obj HRES.out)
          have HUZ := Lib.hid (HX.out.trans hU)
          have i0 := hHeld.1
          obtain ⟨k2, z2⟩ := blk_one HRS.out
          clear k9 z9 hB hU MK hHeld ONL IT1 IT2 OF
          go_wp2_with fail
          have HB5 := heap_setCell_same Z (w.heap.size + 1 + 1) 0 _ 26 (.slice A6 (overL L M).length c6) HRS.out
          have d7 := (blk_one HB5).1
          refine bodyPost_ret (v := .tuple #[.agg #[.slice A6 (overL L M).length c6], .int .i64 0]) (by simp [results, Tryz.results21, go_sem, d7]) rfl ⟨A6, c6, rfl, HR6.out.far HRS.out _, HUZ.out.set (p := ⟨w.heap.size + 1 + 1, 0, none⟩) (by simp; omega) _⟩
      · go_simp
        refine hK.out _ _ (MK.out _ (hU.alloc _)) (fun hHeld => ?_)
        clear hK K
        (try simp only [Act.put, tz1, tz2, tz3])
        have hB := heap_alloc_new y2 (.cells #[.slice none 0 0] 26)
        have ha := (Up.refl y2).alloc (.cells #[.slice none 0 0] 26)
        have hq := hU.le
        replace hU := hU.trans ha
        replace RS := RowS.mk (own_up RS.own ha) (RS.up.trans ha)
        generalize y2.alloc (.cells #[.slice none 0 0] 26) = z2 at *
        generalize y2.heap.size = q at *
        clear ha
        refine wpAnyH_ready (rs := [5]) (by kernel_rfl) (by simp) ?_
        refine AllReadyH.cons (o := ⟨_, _, _, _, _, _⟩) rfl (fun K hK => ?_) AllReadyH.nil
        go_simp
        go_at_call 17
        with_reducible refine (IT2 _ (HR2.out.up hU)).out.mono ?_
        rintro e y3 ⟨v2, rfl, ho, hu⟩
        refine hK.out _ _ (MK.out _ (hU.trans hu)) (fun hHeld => ?_)
        clear hK K
        (try simp only [Act.put, tz1, tz2, tz3])
        replace hU := hU.trans hu
        replace hB := hu.obj hB
        replace RS := RowS.mk (own_up RS.own hu) (RS.up.trans hu)
        obtain ⟨A7, c7, rfl, R7⟩ := Rd.of_own ho
        clear hu ho
        refine wpAnyH_ready (rs := [6]) (by kernel_rfl) (by simp) ?_
        refine AllReadyH.cons (o := ⟨_, _, _, _, _, _⟩) rfl (fun K hK => ?_) AllReadyH.nil
        obtain ⟨v9, y4, f9, RS9, p9⟩ := RS.app R7 (by omega)
        rw [HT.out] at RS9
        refine step_append_run rfl _ _ 24 rfl rfl rfl (f9 _) ?_
        replace hU := hW.trans RS9.up
        refine hK.out _ _ (MK.out _ hU) (fun hHeld => ?_)
        clear hK K
        (try simp only [Act.put, tz1, tz2, tz3])
        replace hB := p9 _ _ hB (by intro cs fz e; injection e with _ e; exact absurd e (by decide))
        obtain ⟨A9, c9, rfl, R9⟩ := Rd.of_own RS9.own
        clear RS RS9 p9 f9 R7 hW
        refine wpAnyH_ready (rs := [7]) (by kernel_rfl) (by simp) ?_
        refine AllReadyH.cons (o := ⟨_, _, _, _, _, _⟩) rfl (fun K hK => ?_) AllReadyH.nil
        go_simp
        go_at_call 32
        with_reducible refine (OF _ _ _ R9).out.mono ?_
        rintro e y5 ⟨A6, c6, rfl, R6, hu⟩
        refine hK.out _ _ (MK.out _ (hU.trans hu)) (fun hHeld => ?_)
        clear hK K
        (try simp only [Act.put, tz1, tz2, tz3])
        replace hU := hU.trans hu
        replace hB := hu.obj hB
        clear hu R9
        first | refine tku 8 rfl ?_ | refine tkv 8 rfl ?_
        (try simp only [Act.put, tz1, tz2, tz3])
        first | refine tku 9 rfl ?_ | refine tkv 9 rfl ?_
        (try simp only [Act.put, tz1, tz2, tz3])
        first | refine tku 10 rfl ?_ | refine tkv 10 rfl ?_
        (try simp only [Act.put, tz1, tz2, tz3])
        refine wpAnyH_ready (rs := [12]) (by kernel_rfl) (by simp) ?_
        refine AllReadyH.cons (o := ⟨_, _, _, _, _, _⟩) rfl (fun K hK => ?_) AllReadyH.nil
        obtain ⟨k9, z9⟩ := blk_one hB
        go_simp
        refine hK.out _ _ (MK.out _ (hU.set (p := ⟨q, 0, none⟩) hq _)) (fun hHeld => ?_)
        clear hK K
        (try simp only [Act.put, tz1, tz2, tz3])
        first | refine tku 13 rfl ?_ | refine tkv 13 rfl ?_
        (try simp only [Act.put, tz1, tz2, tz3])
        refine wpAnyH_done (by kernel_rfl) ?_ _
        have HR6 := Lib.hid (R6.far hB (.slice A6 (overL L M).length c6))
        replace hU := hU.set (p := ⟨q, 0, none⟩) hq (.slice A6 (overL L M).length c6)
        have HB := Lib.hid (heap_setCell_same _ q 0 _ 26 (.slice A6 (overL L M).length c6) hB)
        have d6 := (blk_one HB.out).1
        generalize World.setCell _ ⟨q, 0, none⟩ (.slice A6 (overL L M).length c6) = Z at *
        have HRS := Lib.hid (hU.obj HRES.out)
        have HUZ := Lib.hid (HX.out.trans hU)
        have i0 := hHeld.1
        obtain ⟨k2, z2⟩ := blk_one HRS.out
        clear k9 z9 hB hU MK hHeld ONL IT1 IT2 OF
        go_wp2_with fail
        have HB5 := heap_setCell_same Z (w.heap.size + 1 + 1) 0 _ 26 (.slice A6 (overL L M).length c6) HRS.out
        have d7 := (blk_one HB5).1
        refine bodyPost_ret (v := .tuple #[.agg #[.slice A6 (overL L M).length c6], .int .i64 0]) (by simp [results, Tryz.results21, go_sem, d7]) rfl ⟨A6, c6, rfl, HR6.out.far HRS.out _, HUZ.out.set (p := ⟨w.heap.size + 1 + 1, 0, none⟩) (by simp; omega) _⟩
    · go_simp
      refine hK.out _ _ (MK.out _ (hU.alloc _)) (fun hHeld => ?_)
      clear hK K
      (try simp only [Act.put, tz1, tz2, tz3])
      have hB := heap_alloc_new y1 (.cells #[.slice none 0 0] 26)
      have ha := (Up.refl y1).alloc (.cells #[.slice none 0 0] 26)
      have hq := hU.le
      replace hU := hU.trans ha
      replace R5 := R5.up ha
      generalize y1.alloc (.cells #[.slice none 0 0] 26) = z1 at *
      generalize y1.heap.size = q at *
      clear ha
      refine wpAnyH_ready (rs := [3]) (by kernel_rfl) (by simp) ?_
      refine AllReadyH.cons (o := ⟨_, _, _, _, _, _⟩) rfl (fun K hK => ?_) AllReadyH.nil
      go_simp
      go_at_call 17
      have hW := hU
      with_reducible refine (IT1 _ _ _ R5).out.mono ?_
      rintro e y2 ⟨v1, rfl, ho, hu⟩
      refine hK.out _ _ (MK.out _ (hU.trans hu)) (fun hHeld => ?_)
      clear hK K
      (try simp only [Act.put, tz1, tz2, tz3])
      replace hU := hU.trans hu
      replace hB := hu.obj hB
      have RS := RowS.mk ho hu
      clear hu ho R5
      refine wpAnyH_ready (rs := [5]) (by kernel_rfl) (by simp) ?_
      refine AllReadyH.cons (o := ⟨_, _, _, _, _, _⟩) rfl (fun K hK => ?_) AllReadyH.nil
      go_simp
      go_at_call 17
      with_reducible refine (IT2 _ (HR2.out.up hU)).out.mono ?_
      rintro e y3 ⟨v2, rfl, ho, hu⟩
      refine hK.out _ _ (MK.out _ (hU.trans hu)) (fun hHeld => ?_)
      clear hK K
      (try simp only [Act.put, tz1, tz2, tz3])
      replace hU := hU.trans hu
      replace hB := hu.obj hB
      replace RS := RowS.mk (own_up RS.own hu) (RS.up.trans hu)
      obtain ⟨A7, c7, rfl, R7⟩ := Rd.of_own ho
      clear hu ho
      refine wpAnyH_ready (rs := [6]) (by kernel_rfl) (by simp) ?_
      refine AllReadyH.cons (o := ⟨_, _, _, _, _, _⟩) rfl (fun K hK => ?_) AllReadyH.nil
      obtain ⟨v9, y4, f9, RS9, p9⟩ := RS.app R7 (by omega)
      rw [HT.out] at RS9
      refine step_append_run rfl _ _ 24 rfl rfl rfl (f9 _) ?_
      replace hU := hW.trans RS9.up
      refine hK.out _ _ (MK.out _ hU) (fun hHeld => ?_)
      clear hK K
      (try simp only [Act.put, tz1, tz2, tz3])
      replace hB := p9 _ _ hB (by intro cs fz e; injection e with _ e; exact absurd e (by decide))
      obtain ⟨A9, c9, rfl, R9⟩ := Rd.of_own RS9.own
      clear RS RS9 p9 f9 R7 hW
      refine wpAnyH_ready (rs := [7]) (by kernel_rfl) (by simp) ?_
      refine AllReadyH.cons (o := ⟨_, _, _, _, _, _⟩) rfl (fun K hK => ?_) AllReadyH.nil
      go_simp
      go_at_call 32
      with_reducible refine (OF _ _ _ R9).out.mono ?_
      rintro e y5 ⟨A6, c6, rfl, R6, hu⟩
      refine hK.out _ _ (MK.out _ (hU.trans hu)) (fun hHeld => ?_)
      clear hK K
      (try simp only [Act.put, tz1, tz2, tz3])
      replace hU := hU.trans hu
      replace hB := hu.obj hB
      clear hu R9
      first | refine tku 8 rfl ?_ | refine tkv 8 rfl ?_
      (try simp only [Act.put, tz1, tz2, tz3])
      first | refine tku 9 rfl ?_ | refine tkv 9 rfl ?_
      (try simp only [Act.put, tz1, tz2, tz3])
      first | refine tku 10 rfl ?_ | refine tkv 10 rfl ?_
      (try simp only [Act.put, tz1, tz2, tz3])
      refine wpAnyH_ready (rs := [12]) (by kernel_rfl) (by simp) ?_
      refine AllReadyH.cons (o := ⟨_, _, _, _, _, _⟩) rfl (fun K hK => ?_) AllReadyH.nil
      obtain ⟨k9, z9⟩ := blk_one hB
      go_simp
      refine hK.out _ _ (MK.out _ (hU.set (p := ⟨q, 0, none⟩) hq _)) (fun hHeld => ?_)
      clear hK K
      (try simp only [Act.put, tz1, tz2, tz3])
      first | refine tku 13 rfl ?_ | refine tkv 13 rfl ?_
      (try simp only [Act.put, tz1, tz2, tz3])
      refine wpAnyH_done (by kernel_rfl) ?_ _
      have HR6 := Lib.hid (R6.far hB (.slice A6 (overL L M).length c6))
      replace hU := hU.set (p := ⟨q, 0, none⟩) hq (.slice A6 (overL L M).length c6)
      have HB := Lib.hid (heap_setCell_same _ q 0 _ 26 (.slice A6 (overL L M).length c6) hB)
      have d6 := (blk_one HB.out).1
      generalize World.setCell _ ⟨q, 0, none⟩ (.slice A6 (overL L M).length c6) = Z at *
      have HRS := Lib.hid (hU.obj HRES.out)
      have HUZ := Lib.hid (HX.out.trans hU)
      have i0 := hHeld.1
      obtain ⟨k2, z2⟩ := blk_one HRS.out
      clear k9 z9 hB hU MK hHeld ONL IT1 IT2 OF
      go_wp2_with fail
      have HB5 := heap_setCell_same Z (w.heap.size + 1 + 1) 0 _ 26 (.slice A6 (overL L M).length c6) HRS.out
      have d7 := (blk_one HB5).1
      refine bodyPost_ret (v := .tuple #[.agg #[.slice A6 (overL L M).length c6], .int .i64 0]) (by simp [results, Tryz.results21, go_sem, d7]) rfl ⟨A6, c6, rfl, HR6.out.far HRS.out _, HUZ.out.set (p := ⟨w.heap.size + 1 + 1, 0, none⟩) (by simp; omega) _⟩
  · go_simp
    refine hK.out _ _ (MK.out _ (hU.alloc _)) (fun hHeld => ?_)
    clear hK K
    (try simp only [Act.put, tz1, tz2, tz3])
    have hB := heap_alloc_new y0 (.cells #[.slice none 0 0] 26)
    have ha := (Up.refl y0).alloc (.cells #[.slice none 0 0] 26)
    have hq := hU.le
    replace hU := hU.trans ha
    generalize y0.alloc (.cells #[.slice none 0 0] 26) = z0 at *
    generalize y0.heap.size = q at *
    clear ha
    refine wpAnyH_ready (rs := [2]) (by kernel_rfl) (by simp) ?_
    refine AllReadyH.cons (o := ⟨_, _, _, _, _, _⟩) rfl (fun K hK => ?_) AllReadyH.nil
    go_simp
    go_at_call 25
    with_reducible refine (ONL _ (HR1.out.up hU) (HR2.out.up hU)).out.mono ?_
    rintro e y1 ⟨A5, c5, rfl, R5, hu⟩
    refine hK.out _ _ (MK.out _ (hU.trans hu)) (fun hHeld => ?_)
    clear hK K
    (try simp only [Act.put, tz1, tz2, tz3])
    replace hU := hU.trans hu
    replace hB := hu.obj hB
    clear hu
    refine wpAnyH_ready (rs := [3]) (by kernel_rfl) (by simp) ?_
    refine AllReadyH.cons (o := ⟨_, _, _, _, _, _⟩) rfl (fun K hK => ?_) AllReadyH.nil
    go_simp
    go_at_call 17
    have hW := hU
    with_reducible refine (IT1 _ _ _ R5).out.mono ?_
    rintro e y2 ⟨v1, rfl, ho, hu⟩
    refine hK.out _ _ (MK.out _ (hU.trans hu)) (fun hHeld => ?_)
    clear hK K
    (try simp only [Act.put, tz1, tz2, tz3])
    replace hU := hU.trans hu
    replace hB := hu.obj hB
    have RS := RowS.mk ho hu
    clear hu ho R5
    refine wpAnyH_ready (rs := [5]) (by kernel_rfl) (by simp) ?_
    refine AllReadyH.cons (o := ⟨_, _, _, _, _, _⟩) rfl (fun K hK => ?_) AllReadyH.nil
    go_simp
    go_at_call 17
    with_reducible refine (IT2 _ (HR2.out.up hU)).out.mono ?_
    rintro e y3 ⟨v2, rfl, ho, hu⟩
    refine hK.out _ _ (MK.out _ (hU.trans hu)) (fun hHeld => ?_)
    clear hK K
    (try simp only [Act.put, tz1, tz2, tz3])
    replace hU := hU.trans hu
    replace hB := hu.obj hB
    replace RS := RowS.mk (own_up RS.own hu) (RS.up.trans hu)
    obtain ⟨A7, c7, rfl, R7⟩ := Rd.of_own ho
    clear hu ho
    refine wpAnyH_ready (rs := [6]) (by kernel_rfl) (by simp) ?_
    refine AllReadyH.cons (o := ⟨_, _, _, _, _, _⟩) rfl (fun K hK => ?_) AllReadyH.nil
    obtain ⟨v9, y4, f9, RS9, p9⟩ := RS.app R7 (by omega)
    rw [HT.out] at RS9
    refine step_append_run rfl _ _ 24 rfl rfl rfl (f9 _) ?_
    replace hU := hW.trans RS9.up
    refine hK.out _ _ (MK.out _ hU) (fun hHeld => ?_)
    clear hK K
    (try simp only [Act.put, tz1, tz2, tz3])
    replace hB := p9 _ _ hB (by intro cs fz e; injection e with _ e; exact absurd e (by decide))
    obtain ⟨A9, c9, rfl, R9⟩ := Rd.of_own RS9.own
    clear RS RS9 p9 f9 R7 hW
    refine wpAnyH_ready (rs := [7]) (by kernel_rfl) (by simp) ?_
    refine AllReadyH.cons (o := ⟨_, _, _, _, _, _⟩) rfl (fun K hK => ?_) AllReadyH.nil
    go_simp
    go_at_call 32
    with_reducible refine (OF _ _ _ R9).out.mono ?_
    rintro e y5 ⟨A6, c6, rfl, R6, hu⟩
    refine hK.out _ _ (MK.out _ (hU.trans hu)) (fun hHeld => ?_)
    clear hK K
    (try simp only [Act.put, tz1, tz2, tz3])
    replace hU := hU.trans hu
    replace hB := hu.obj hB
    clear hu R9
    first | refine tku 8 rfl ?_ | refine tkv 8 rfl ?_
    (try simp only [Act.put, tz1, tz2, tz3])
    first | refine tku 9 rfl ?_ | refine tkv 9 rfl ?_
    (try simp only [Act.put, tz1, tz2, tz3])
    first | refine tku 10 rfl ?_ | refine tkv 10 rfl ?_
    (try simp only [Act.put, tz1, tz2, tz3])
    refine wpAnyH_ready (rs := [12]) (by kernel_rfl) (by simp) ?_
    refine AllReadyH.cons (o := ⟨_, _, _, _, _, _⟩) rfl (fun K hK => ?_) AllReadyH.nil
    obtain ⟨k9, z9⟩ := blk_one hB
    go_simp
    refine hK.out _ _ (MK.out _ (hU.set (p := ⟨q, 0, none⟩) hq _)) (fun hHeld => ?_)
    clear hK K
    (try simp only [Act.put, tz1, tz2, tz3])
    first | refine tku 13 rfl ?_ | refine tkv 13 rfl ?_
    (try simp only [Act.put, tz1, tz2, tz3])
    refine wpAnyH_done (by kernel_rfl) ?_ _
    have HR6 := Lib.hid (R6.far hB (.slice A6 (overL L M).length c6))
    replace hU := hU.set (p := ⟨q, 0, none⟩) hq (.slice A6 (overL L M).length c6)
    have HB := Lib.hid (heap_setCell_same _ q 0 _ 26 (.slice A6 (overL L M).length c6) hB)
    have d6 := (blk_one HB.out).1
    generalize World.setCell _ ⟨q, 0, none⟩ (.slice A6 (overL L M).length c6) = Z at *
    have HRS := Lib.hid (hU.obj HRES.out)
    have HUZ := Lib.hid (HX.out.trans hU)
    have i0 := hHeld.1
    obtain ⟨k2, z2⟩ := blk_one HRS.out
    clear k9 z9 hB hU MK hHeld ONL IT1 IT2 OF
    go_wp2_with fail
    have HB5 := heap_setCell_same Z (w.heap.size + 1 + 1) 0 _ 26 (.slice A6 (overL L M).length c6) HRS.out
    have d7 := (blk_one HB5).1
    refine bodyPost_ret (v := .tuple #[.agg #[.slice A6 (overL L M).length c6], .int .i64 0]) (by simp [results, Tryz.results21, go_sem, d7]) rfl ⟨A6, c6, rfl, HR6.out.far HRS.out _, HUZ.out.set (p := ⟨w.heap.size + 1 + 1, 0, none⟩) (by simp; omega) _⟩
set_option maxHeartbeats 16000000 in
theorem over48_full (L M : Items) (hL : Gz.Good L) (hM : Gz.Good M) (hle : 2048 < (someL L M false).length + M.length) (A1 : Option Addr) (c1 : Nat) (A2 : Option Addr) (c2 : Nat) (w : World) (h1 : Rd w 2 A1 L.length c1 (itV L)) (h2 : Rd w 2 A2 M.length c2 (itV M)) :
    Calls Tryz.prog 21 #[.agg #[.slice A1 L.length c1], .agg #[.slice A2 M.length c2]] w fun e w' => e = .returned (.tuple #[.agg #[.slice A1 L.length c1], .int .i64 7]) ∧ Up w w' := by
  have n1 := ((((Up.refl w).alloc (.cells #[.slice A1 L.length c1] 26)).alloc (.cells #[.slice A2 M.length c2] 26)).alloc (.cells #[.slice none 0 0] 26))
  have q0 := heap_alloc_new w (.cells #[.slice A1 L.length c1] 26)
  have q1 := heap_alloc_new (w.alloc (.cells #[.slice A1 L.length c1] 26)) (.cells #[.slice A2 M.length c2] 26)
  have q2 := heap_alloc_new ((w.alloc (.cells #[.slice A1 L.length c1] 26)).alloc (.cells #[.slice A2 M.length c2] 26)) (.cells #[.slice none 0 0] 26)
  simp only [World.size_alloc] at q1 q2
  replace q0 := (((Up.refl _).alloc (.cells #[.slice A2 M.length c2] 26)).alloc (.cells #[.slice none 0 0] 26)).obj q0
  replace q1 := ((Up.refl _).alloc (.cells #[.slice none 0 0] 26)).obj q1
  have HR1 := Lib.hid (h1.up n1)
  have HR2 := Lib.hid (h2.up n1)
  have ONL := fun w h1 h2 => Lib.hid (only48_any L M hL hL.len hM.srt (by have := hM.len; omega) A1 c1 A2 c2 w h1 h2)
  have hSl := some_len L M false
  have hLl := hL.len
  have hMl := hM.len
  have IT1 := fun A c w hr => Lib.hid (items_any (someL L M false) (by omega) A c w hr)
  have IT2 := fun w hr => Lib.hid (items_any M (by omega) A2 c2 w hr)
  unfold ChaE at ONL
  unfold OwnE at IT1 IT2
  have OF : ∀ A c w, Rd w 2 A (someL L M false ++ M).length c (itV (someL L M false ++ M)) → Hid (Calls Tryz.prog 32 #[.slice A (someL L M false ++ M).length c] w fun e w' => e = .returned (.tuple #[.agg #[.slice none 0 0], .int .i64 7]) ∧ Up w w') := by
    intro A c w hr
    have h := of_if (someL L M false ++ M) (fit_over hL hM) (by rw [List.length_append]; omega) A c w hr
    exact Lib.hid (h.mono fun e w' h => h.2 (by rw [List.length_append]; exact hle))
  obtain ⟨T, hT⟩ : ∃ T, someL L M false ++ M = T := ⟨_, rfl⟩
  rw [hT] at OF
  have HT := Lib.hid hT
  clear hT
  have m0 := (blk_one q0).1
  have m1 := (blk_one q1).1
  have HRES := Lib.hid q2
  clear h1 h2 q0 q1 q2
  go_enter Tryz.func21, Tryz.ntmps21
  go_wp2_with fail
  obtain ⟨X, hX⟩ : ∃ X, ((w.alloc (.cells #[.slice A1 L.length c1] 26)).alloc (.cells #[.slice A2 M.length c2] 26)).alloc (.cells #[.slice none 0 0] 26) = X := ⟨_, rfl⟩
  rw [hX] at n1 m0 m1 HRES HR1 HR2
  (try rw [hX])
  have HX := Lib.hid n1
  clear hX n1
  have MK := Lib.hid (fun w' (h : Up X w') => (⟨h.cell m0, h.cell m1⟩ : w'.cell? ⟨w.heap.size, 0, none⟩ = some (.slice A1 L.length c1) ∧ w'.cell? ⟨w.heap.size + 1, 0, none⟩ = some (.slice A2 M.length c2)))
  refine wp_region_held_drew (S := fun w' => w'.cell? ⟨w.heap.size, 0, none⟩ = some (.slice A1 L.length c1) ∧ w'.cell? ⟨w.heap.size + 1, 0, none⟩ = some (.slice A2 M.length c2)) (by kernel_rfl) (MK.out _ (Up.refl _).drew) (fun hHeld => ?_)
  first | refine tku 0 rfl ?_ | refine tkv 0 rfl ?_
  (try simp only [Act.put, tz1, tz2, tz3])
  first | refine tku 1 rfl ?_ | refine tkv 1 rfl ?_
  (try simp only [Act.put, tz1, tz2, tz3])
  first | refine tku 4 rfl ?_ | refine tkv 4 rfl ?_
  (try simp only [Act.put, tz1, tz2, tz3])
  have hU := (Up.refl X).drew
  generalize X.drew = y0 at *
  refine wpAnyH_ready (rs := [2, 11]) (by kernel_rfl) (by simp) ?_
  refine AllReadyH.cons (o := ⟨_, _, _, _, _, _⟩) rfl (fun K hK => ?_) (AllReadyH.cons (o := ⟨_, _, _, _, _, _⟩) rfl (fun K hK => ?_) AllReadyH.nil)
  · go_simp
    go_at_call 25
    with_reducible refine (ONL _ (HR1.out.up hU) (HR2.out.up hU)).out.mono ?_
    rintro e y1 ⟨A5, c5, rfl, R5, hu⟩
    refine hK.out _ _ (MK.out _ (hU.trans hu)) (fun hHeld => ?_)
    clear hK K
    (try simp only [Act.put, tz1, tz2, tz3])
    replace hU := hU.trans hu
    clear hu
    refine wpAnyH_ready (rs := [3, 11]) (by kernel_rfl) (by simp) ?_
    refine AllReadyH.cons (o := ⟨_, _, _, _, _, _⟩) rfl (fun K hK => ?_) (AllReadyH.cons (o := ⟨_, _, _, _, _, _⟩) rfl (fun K hK => ?_) AllReadyH.nil)
    · go_simp
      go_at_call 17
      have hW := hU
      with_reducible refine (IT1 _ _ _ R5).out.mono ?_
      rintro e y2 ⟨v1, rfl, ho, hu⟩
      refine hK.out _ _ (MK.out _ (hU.trans hu)) (fun hHeld => ?_)
      clear hK K
      (try simp only [Act.put, tz1, tz2, tz3])
      replace hU := hU.trans hu
      have RS := RowS.mk ho hu
      clear hu ho R5
      refine wpAnyH_ready (rs := [5, 11]) (by kernel_rfl) (by simp) ?_
      refine AllReadyH.cons (o := ⟨_, _, _, _, _, _⟩) rfl (fun K hK => ?_) (AllReadyH.cons (o := ⟨_, _, _, _, _, _⟩) rfl (fun K hK => ?_) AllReadyH.nil)
      · go_simp
        go_at_call 17
        with_reducible refine (IT2 _ (HR2.out.up hU)).out.mono ?_
        rintro e y3 ⟨v2, rfl, ho, hu⟩
        refine hK.out _ _ (MK.out _ (hU.trans hu)) (fun hHeld => ?_)
        clear hK K
        (try simp only [Act.put, tz1, tz2, tz3])
        replace hU := hU.trans hu
        replace RS := RowS.mk (own_up RS.own hu) (RS.up.trans hu)
        obtain ⟨A7, c7, rfl, R7⟩ := Rd.of_own ho
        clear hu ho
        refine wpAnyH_ready (rs := [6, 11]) (by kernel_rfl) (by simp) ?_
        refine AllReadyH.cons (o := ⟨_, _, _, _, _, _⟩) rfl (fun K hK => ?_) (AllReadyH.cons (o := ⟨_, _, _, _, _, _⟩) rfl (fun K hK => ?_) AllReadyH.nil)
        · obtain ⟨v9, y4, f9, RS9, p9⟩ := RS.app R7 (by omega)
          rw [HT.out] at RS9
          refine step_append_run rfl _ _ 24 rfl rfl rfl (f9 _) ?_
          replace hU := hW.trans RS9.up
          refine hK.out _ _ (MK.out _ hU) (fun hHeld => ?_)
          clear hK K
          (try simp only [Act.put, tz1, tz2, tz3])
          obtain ⟨A9, c9, rfl, R9⟩ := Rd.of_own RS9.own
          clear RS RS9 p9 f9 R7 hW
          refine wpAnyH_ready (rs := [7, 11]) (by kernel_rfl) (by simp) ?_
          refine AllReadyH.cons (o := ⟨_, _, _, _, _, _⟩) rfl (fun K hK => ?_) (AllReadyH.cons (o := ⟨_, _, _, _, _, _⟩) rfl (fun K hK => ?_) AllReadyH.nil)
          · go_simp
            go_at_call 32
            with_reducible refine (OF _ _ _ R9).out.mono ?_
            rintro e y5 ⟨rfl, hu⟩
            refine hK.out _ _ (MK.out _ (hU.trans hu)) (fun hHeld => ?_)
            clear hK K
            (try simp only [Act.put, tz1, tz2, tz3])
            replace hU := hU.trans hu
            clear hu R9
            first | refine tku 8 rfl ?_ | refine tkv 8 rfl ?_
            (try simp only [Act.put, tz1, tz2, tz3])
            first | refine tku 9 rfl ?_ | refine tkv 9 rfl ?_
            (try simp only [Act.put, tz1, tz2, tz3])
            first | refine tku 10 rfl ?_ | refine tkv 10 rfl ?_
            (try simp only [Act.put, tz1, tz2, tz3])
            refine wpAnyH_ready (rs := [11]) (by kernel_rfl) (by simp) ?_
            refine AllReadyH.cons (o := ⟨_, _, _, _, _, _⟩) rfl (fun K hK => ?_) AllReadyH.nil
            go_simp
            refine hK.out _ _ (MK.out _ (hU.alloc _)) (fun hHeld => ?_)
            clear hK K
            (try simp only [Act.put, tz1, tz2, tz3])
            have hB := heap_alloc_new y5 (.cells #[.slice none 0 0] 26)
            have ha := (Up.refl y5).alloc (.cells #[.slice none 0 0] 26)
            have hq := hU.le
            replace hU := hU.trans ha
            generalize y5.alloc (.cells #[.slice none 0 0] 26) = z5 at *
            generalize y5.heap.size = q at *
            clear ha
            refine wpAnyH_ready (rs := [12]) (by kernel_rfl) (by simp) ?_
            refine AllReadyH.cons (o := ⟨_, _, _, _, _, _⟩) rfl (fun K hK => ?_) AllReadyH.nil
            obtain ⟨k9, z9⟩ := blk_one hB
            go_simp
            refine hK.out _ _ (MK.out _ (hU.set (p := ⟨q, 0, none⟩) hq _)) (fun hHeld => ?_)
            clear hK K
            (try simp only [Act.put, tz1, tz2, tz3])
            first | refine tku 13 rfl ?_ | refine tkv 13 rfl ?_
            (try simp only [Act.put, tz1, tz2, tz3])
            refine wpAnyH_done (by kernel_rfl) ?_ _
            replace hU := hU.set (p := ⟨q, 0, none⟩) hq (.slice none 0 0)
            have HB := Lib.hid (heap_setCell_same _ q 0 _ 26 (.slice none 0 0) hB)
            have d6 := (blk_one HB.out).1
            generalize World.setCell _ ⟨q, 0, none⟩ (.slice none 0 0) = Z at *
            have HRS := Lib.hid (hU.obj HRES.out)
            have HUZ := Lib.hid (HX.out.trans hU)
            have i0 := hHeld.1
            obtain ⟨k2, z2⟩ := blk_one HRS.out
            clear k9 z9 hB hU MK hHeld ONL IT1 IT2 OF
            go_wp2_with fail
            have HB5 := heap_setCell_same Z (w.heap.size + 1 + 1) 0 _ 26 (.slice A1 L.length c1) HRS.out
            have d7 := (blk_one HB5).1
            refine bodyPost_ret (v := .tuple #[.agg #[.slice A1 L.length c1], .int .i64 7]) (by simp [results, Tryz.results21, go_sem, d7]) rfl ⟨rfl, HUZ.out.set (p := ⟨w.heap.size + 1 + 1, 0, none⟩) (by simp; omega) _⟩
          · go_simp
            refine hK.out _ _ (MK.out _ (hU.alloc _)) (fun hHeld => ?_)
            clear hK K
            (try simp only [Act.put, tz1, tz2, tz3])
            have hB := heap_alloc_new y4 (.cells #[.slice none 0 0] 26)
            have ha := (Up.refl y4).alloc (.cells #[.slice none 0 0] 26)
            have hq := hU.le
            replace hU := hU.trans ha
            replace R9 := R9.up ha
            generalize y4.alloc (.cells #[.slice none 0 0] 26) = z4 at *
            generalize y4.heap.size = q at *
            clear ha
            refine wpAnyH_ready (rs := [7]) (by kernel_rfl) (by simp) ?_
            refine AllReadyH.cons (o := ⟨_, _, _, _, _, _⟩) rfl (fun K hK => ?_) AllReadyH.nil
            go_simp
            go_at_call 32
            with_reducible refine (OF _ _ _ R9).out.mono ?_
            rintro e y5 ⟨rfl, hu⟩
            refine hK.out _ _ (MK.out _ (hU.trans hu)) (fun hHeld => ?_)
            clear hK K
            (try simp only [Act.put, tz1, tz2, tz3])
            replace hU := hU.trans hu
            replace hB := hu.obj hB
            clear hu R9
            first | refine tku 8 rfl ?_ | refine tkv 8 rfl ?_
            (try simp only [Act.put, tz1, tz2, tz3])
            first | refine tku 9 rfl ?_ | refine tkv 9 rfl ?_
            (try simp only [Act.put, tz1, tz2, tz3])
            first | refine tku 10 rfl ?_ | refine tkv 10 rfl ?_
            (try simp only [Act.put, tz1, tz2, tz3])
            refine wpAnyH_ready (rs := [12]) (by kernel_rfl) (by simp) ?_
            refine AllReadyH.cons (o := ⟨_, _, _, _, _, _⟩) rfl (fun K hK => ?_) AllReadyH.nil
            obtain ⟨k9, z9⟩ := blk_one hB
            go_simp
            refine hK.out _ _ (MK.out _ (hU.set (p := ⟨q, 0, none⟩) hq _)) (fun hHeld => ?_)
            clear hK K
            (try simp only [Act.put, tz1, tz2, tz3])
            first | refine tku 13 rfl ?_ | refine tkv 13 rfl ?_
            (try simp only [Act.put, tz1, tz2, tz3])
            refine wpAnyH_done (by kernel_rfl) ?_ _
            replace hU := hU.set (p := ⟨q, 0, none⟩) hq (.slice none 0 0)
            have HB := Lib.hid (heap_setCell_same _ q 0 _ 26 (.slice none 0 0) hB)
            have d6 := (blk_one HB.out).1
            generalize World.setCell _ ⟨q, 0, none⟩ (.slice none 0 0) = Z at *
            have HRS := Lib.hid (hU.obj HRES.out)
            have HUZ := Lib.hid (HX.out.trans hU)
            have i0 := hHeld.1
            obtain ⟨k2, z2⟩ := blk_one HRS.out
            clear k9 z9 hB hU MK hHeld ONL IT1 IT2 OF
            go_wp2_with fail
            have HB5 := heap_setCell_same Z (w.heap.size + 1 + 1) 0 _ 26 (.slice A1 L.length c1) HRS.out
            have d7 := (blk_one HB5).1
            refine bodyPost_ret (v := .tuple #[.agg #[.slice A1 L.length c1], .int .i64 7]) (by simp [results, Tryz.results21, go_sem, d7]) rfl ⟨rfl, HUZ.out.set (p := ⟨w.heap.size + 1 + 1, 0, none⟩) (by simp; omega) _⟩
        · go_simp
          refine hK.out _ _ (MK.out _ (hU.alloc _)) (fun hHeld => ?_)
          clear hK K
          (try simp only [Act.put, tz1, tz2, tz3])
          have hB := heap_alloc_new y3 (.cells #[.slice none 0 0] 26)
          have ha := (Up.refl y3).alloc (.cells #[.slice none 0 0] 26)
          have hq := hU.le
          replace hU := hU.trans ha
          replace RS := RowS.mk (own_up RS.own ha) (RS.up.trans ha)
          replace R7 := R7.up ha
          generalize y3.alloc (.cells #[.slice none 0 0] 26) = z3 at *
          generalize y3.heap.size = q at *
          clear ha
          refine wpAnyH_ready (rs := [6]) (by kernel_rfl) (by simp) ?_
          refine AllReadyH.cons (o := ⟨_, _, _, _, _, _⟩) rfl (fun K hK => ?_) AllReadyH.nil
          obtain ⟨v9, y4, f9, RS9, p9⟩ := RS.app R7 (by omega)
          rw [HT.out] at RS9
          refine step_append_run rfl _ _ 24 rfl rfl rfl (f9 _) ?_
          replace hU := hW.trans RS9.up
          refine hK.out _ _ (MK.out _ hU) (fun hHeld => ?_)
          clear hK K
          (try simp only [Act.put, tz1, tz2, tz3])
          replace hB := p9 _ _ hB (by intro cs fz e; injection e with _ e; exact absurd e (by decide))
          obtain ⟨A9, c9, rfl, R9⟩ := Rd.of_own RS9.own
          clear RS RS9 p9 f9 R7 hW
          refine wpAnyH_ready (rs := [7]) (by kernel_rfl) (by simp) ?_
          refine AllReadyH.cons (o := ⟨_, _, _, _, _, _⟩) rfl (fun K hK => ?_) AllReadyH.nil
          go_simp
          go_at_call 32
          with_reducible refine (OF _ _ _ R9).out.mono ?_
          rintro e y5 ⟨rfl, hu⟩
          refine hK.out _ _ (MK.out _ (hU.trans hu)) (fun hHeld => ?_)
          clear hK K
          (try simp only [Act.put, tz1, tz2, tz3])
          replace hU := hU.trans hu
          replace hB := hu.obj hB
          clear hu R9
          first | refine tku 8 rfl ?_ | refine tkv 8 rfl ?_
          (try simp only [Act.put, tz1, tz2, tz3])
          first | refine tku 9 rfl ?_ | refine tkv 9 rfl ?_
          (try simp only [Act.put, tz1, tz2, tz3])
          first | refine tku 10 rfl ?_ | refine tkv 10 rfl ?_
          (try simp only [Act.put, tz1, tz2, tz3])
          refine wpAnyH_ready (rs := [12]) (by kernel_rfl) (by simp) ?_
          refine AllReadyH.cons (o := ⟨_, _, _, _, _, _⟩) rfl (fun K hK => ?_) AllReadyH.nil
          obtain ⟨k9, z9⟩ := blk_one hB
          go_simp
          refine hK.out _ _ (MK.out _ (hU.set (p := ⟨q, 0, none⟩) hq _)) (fun hHeld => ?_)
          clear hK K
          (try simp only [Act.put, tz1, tz2, tz3])
          first | refine tku 13 rfl ?_ | refine tkv 13 rfl ?_
          (try simp only [Act.put, tz1, tz2, tz3])
          refine wpAnyH_done (by kernel_rfl) ?_ _
          replace hU := hU.set (p := ⟨q, 0, none⟩) hq (.slice none 0 0)
          have HB := Lib.hid (heap_setCell_same _ q 0 _ 26 (.slice none 0 0) hB)
          have d6 := (blk_one HB.out).1
          generalize World.setCell _ ⟨q, 0, none⟩ (.slice none 0 0) = Z at *
          have HRS := Lib.hid (hU.obj HRES.out)
          have HUZ := Lib.hid (HX.out.trans hU)
          have i0 := hHeld.1
          obtain ⟨k2, z2⟩ := blk_one HRS.out
          clear k9 z9 hB hU MK hHeld ONL IT1 IT2 OF
          go_wp2_with fail
          have HB5 := heap_setCell_same Z (w.heap.size + 1 + 1) 0 _ 26 (.slice A1 L.length c1) HRS.out
          have d7 := (blk_one HB5).1
          refine bodyPost_ret (v := .tuple #[.agg #[.slice A1 L.length c1], .int .i64 7]) (by simp [results, Tryz.results21, go_sem, d7]) rfl ⟨rfl, HUZ.out.set (p := ⟨w.heap.size + 1 + 1, 0, none⟩) (by simp; omega) _⟩
      · go_simp
        refine hK.out _ _ (MK.out _ (hU.alloc _)) (fun hHeld => ?_)
        clear hK K
        (try simp only [Act.put, tz1, tz2, tz3])
        have hB := heap_alloc_new y2 (.cells #[.slice none 0 0] 26)
        have ha := (Up.refl y2).alloc (.cells #[.slice none 0 0] 26)
        have hq := hU.le
        replace hU := hU.trans ha
        replace RS := RowS.mk (own_up RS.own ha) (RS.up.trans ha)
        generalize y2.alloc (.cells #[.slice none 0 0] 26) = z2 at *
        generalize y2.heap.size = q at *
        clear ha
        refine wpAnyH_ready (rs := [5]) (by kernel_rfl) (by simp) ?_
        refine AllReadyH.cons (o := ⟨_, _, _, _, _, _⟩) rfl (fun K hK => ?_) AllReadyH.nil
        go_simp
        go_at_call 17
        with_reducible refine (IT2 _ (HR2.out.up hU)).out.mono ?_
        rintro e y3 ⟨v2, rfl, ho, hu⟩
        refine hK.out _ _ (MK.out _ (hU.trans hu)) (fun hHeld => ?_)
        clear hK K
        (try simp only [Act.put, tz1, tz2, tz3])
        replace hU := hU.trans hu
        replace hB := hu.obj hB
        replace RS := RowS.mk (own_up RS.own hu) (RS.up.trans hu)
        obtain ⟨A7, c7, rfl, R7⟩ := Rd.of_own ho
        clear hu ho
        refine wpAnyH_ready (rs := [6]) (by kernel_rfl) (by simp) ?_
        refine AllReadyH.cons (o := ⟨_, _, _, _, _, _⟩) rfl (fun K hK => ?_) AllReadyH.nil
        obtain ⟨v9, y4, f9, RS9, p9⟩ := RS.app R7 (by omega)
        rw [HT.out] at RS9
        refine step_append_run rfl _ _ 24 rfl rfl rfl (f9 _) ?_
        replace hU := hW.trans RS9.up
        refine hK.out _ _ (MK.out _ hU) (fun hHeld => ?_)
        clear hK K
        (try simp only [Act.put, tz1, tz2, tz3])
        replace hB := p9 _ _ hB (by intro cs fz e; injection e with _ e; exact absurd e (by decide))
        obtain ⟨A9, c9, rfl, R9⟩ := Rd.of_own RS9.own
        clear RS RS9 p9 f9 R7 hW
        refine wpAnyH_ready (rs := [7]) (by kernel_rfl) (by simp) ?_
        refine AllReadyH.cons (o := ⟨_, _, _, _, _, _⟩) rfl (fun K hK => ?_) AllReadyH.nil
        go_simp
        go_at_call 32
        with_reducible refine (OF _ _ _ R9).out.mono ?_
        rintro e y5 ⟨rfl, hu⟩
        refine hK.out _ _ (MK.out _ (hU.trans hu)) (fun hHeld => ?_)
        clear hK K
        (try simp only [Act.put, tz1, tz2, tz3])
        replace hU := hU.trans hu
        replace hB := hu.obj hB
        clear hu R9
        first | refine tku 8 rfl ?_ | refine tkv 8 rfl ?_
        (try simp only [Act.put, tz1, tz2, tz3])
        first | refine tku 9 rfl ?_ | refine tkv 9 rfl ?_
        (try simp only [Act.put, tz1, tz2, tz3])
        first | refine tku 10 rfl ?_ | refine tkv 10 rfl ?_
        (try simp only [Act.put, tz1, tz2, tz3])
        refine wpAnyH_ready (rs := [12]) (by kernel_rfl) (by simp) ?_
        refine AllReadyH.cons (o := ⟨_, _, _, _, _, _⟩) rfl (fun K hK => ?_) AllReadyH.nil
        obtain ⟨k9, z9⟩ := blk_one hB
        go_simp
        refine hK.out _ _ (MK.out _ (hU.set (p := ⟨q, 0, none⟩) hq _)) (fun hHeld => ?_)
        clear hK K
        (try simp only [Act.put, tz1, tz2, tz3])
        first | refine tku 13 rfl ?_ | refine tkv 13 rfl ?_
        (try simp only [Act.put, tz1, tz2, tz3])
        refine wpAnyH_done (by kernel_rfl) ?_ _
        replace hU := hU.set (p := ⟨q, 0, none⟩) hq (.slice none 0 0)
        have HB := Lib.hid (heap_setCell_same _ q 0 _ 26 (.slice none 0 0) hB)
        have d6 := (blk_one HB.out).1
        generalize World.setCell _ ⟨q, 0, none⟩ (.slice none 0 0) = Z at *
        have HRS := Lib.hid (hU.obj HRES.out)
        have HUZ := Lib.hid (HX.out.trans hU)
        have i0 := hHeld.1
        obtain ⟨k2, z2⟩ := blk_one HRS.out
        clear k9 z9 hB hU MK hHeld ONL IT1 IT2 OF
        go_wp2_with fail
        have HB5 := heap_setCell_same Z (w.heap.size + 1 + 1) 0 _ 26 (.slice A1 L.length c1) HRS.out
        have d7 := (blk_one HB5).1
        refine bodyPost_ret (v := .tuple #[.agg #[.slice A1 L.length c1], .int .i64 7]) (by simp [results, Tryz.results21, go_sem, d7]) rfl ⟨rfl, HUZ.out.set (p := ⟨w.heap.size + 1 + 1, 0, none⟩) (by simp; omega) _⟩
    · go_simp
      refine hK.out _ _ (MK.out _ (hU.alloc _)) (fun hHeld => ?_)
      clear hK K
      (try simp only [Act.put, tz1, tz2, tz3])
      have hB := heap_alloc_new y1 (.cells #[.slice none 0 0] 26)
      have ha := (Up.refl y1).alloc (.cells #[.slice none 0 0] 26)
      have hq := hU.le
      replace hU := hU.trans ha
      replace R5 := R5.up ha
      generalize y1.alloc (.cells #[.slice none 0 0] 26) = z1 at *
      generalize y1.heap.size = q at *
      clear ha
      refine wpAnyH_ready (rs := [3]) (by kernel_rfl) (by simp) ?_
      refine AllReadyH.cons (o := ⟨_, _, _, _, _, _⟩) rfl (fun K hK => ?_) AllReadyH.nil
      go_simp
      go_at_call 17
      have hW := hU
      with_reducible refine (IT1 _ _ _ R5).out.mono ?_
      rintro e y2 ⟨v1, rfl, ho, hu⟩
      refine hK.out _ _ (MK.out _ (hU.trans hu)) (fun hHeld => ?_)
      clear hK K
      (try simp only [Act.put, tz1, tz2, tz3])
      replace hU := hU.trans hu
      replace hB := hu.obj hB
      have RS := RowS.mk ho hu
      clear hu ho R5
      refine wpAnyH_ready (rs := [5]) (by kernel_rfl) (by simp) ?_
      refine AllReadyH.cons (o := ⟨_, _, _, _, _, _⟩) rfl (fun K hK => ?_) AllReadyH.nil
      go_simp
      go_at_call 17
      with_reducible refine (IT2 _ (HR2.out.up hU)).out.mono ?_
      rintro e y3 ⟨v2, rfl, ho, hu⟩
      refine hK.out _ _ (MK.out _ (hU.trans hu)) (fun hHeld => ?_)
      clear hK K
      (try simp only [Act.put, tz1, tz2, tz3])
      replace hU := hU.trans hu
      replace hB := hu.obj hB
      replace RS := RowS.mk (own_up RS.own hu) (RS.up.trans hu)
      obtain ⟨A7, c7, rfl, R7⟩ := Rd.of_own ho
      clear hu ho
      refine wpAnyH_ready (rs := [6]) (by kernel_rfl) (by simp) ?_
      refine AllReadyH.cons (o := ⟨_, _, _, _, _, _⟩) rfl (fun K hK => ?_) AllReadyH.nil
      obtain ⟨v9, y4, f9, RS9, p9⟩ := RS.app R7 (by omega)
      rw [HT.out] at RS9
      refine step_append_run rfl _ _ 24 rfl rfl rfl (f9 _) ?_
      replace hU := hW.trans RS9.up
      refine hK.out _ _ (MK.out _ hU) (fun hHeld => ?_)
      clear hK K
      (try simp only [Act.put, tz1, tz2, tz3])
      replace hB := p9 _ _ hB (by intro cs fz e; injection e with _ e; exact absurd e (by decide))
      obtain ⟨A9, c9, rfl, R9⟩ := Rd.of_own RS9.own
      clear RS RS9 p9 f9 R7 hW
      refine wpAnyH_ready (rs := [7]) (by kernel_rfl) (by simp) ?_
      refine AllReadyH.cons (o := ⟨_, _, _, _, _, _⟩) rfl (fun K hK => ?_) AllReadyH.nil
      go_simp
      go_at_call 32
      with_reducible refine (OF _ _ _ R9).out.mono ?_
      rintro e y5 ⟨rfl, hu⟩
      refine hK.out _ _ (MK.out _ (hU.trans hu)) (fun hHeld => ?_)
      clear hK K
      (try simp only [Act.put, tz1, tz2, tz3])
      replace hU := hU.trans hu
      replace hB := hu.obj hB
      clear hu R9
      first | refine tku 8 rfl ?_ | refine tkv 8 rfl ?_
      (try simp only [Act.put, tz1, tz2, tz3])
      first | refine tku 9 rfl ?_ | refine tkv 9 rfl ?_
      (try simp only [Act.put, tz1, tz2, tz3])
      first | refine tku 10 rfl ?_ | refine tkv 10 rfl ?_
      (try simp only [Act.put, tz1, tz2, tz3])
      refine wpAnyH_ready (rs := [12]) (by kernel_rfl) (by simp) ?_
      refine AllReadyH.cons (o := ⟨_, _, _, _, _, _⟩) rfl (fun K hK => ?_) AllReadyH.nil
      obtain ⟨k9, z9⟩ := blk_one hB
      go_simp
      refine hK.out _ _ (MK.out _ (hU.set (p := ⟨q, 0, none⟩) hq _)) (fun hHeld => ?_)
      clear hK K
      (try simp only [Act.put, tz1, tz2, tz3])
      first | refine tku 13 rfl ?_ | refine tkv 13 rfl ?_
      (try simp only [Act.put, tz1, tz2, tz3])
      refine wpAnyH_done (by kernel_rfl) ?_ _
      replace hU := hU.set (p := ⟨q, 0, none⟩) hq (.slice none 0 0)
      have HB := Lib.hid (heap_setCell_same _ q 0 _ 26 (.slice none 0 0) hB)
      have d6 := (blk_one HB.out).1
      generalize World.setCell _ ⟨q, 0, none⟩ (.slice none 0 0) = Z at *
      have HRS := Lib.hid (hU.obj HRES.out)
      have HUZ := Lib.hid (HX.out.trans hU)
      have i0 := hHeld.1
      obtain ⟨k2, z2⟩ := blk_one HRS.out
      clear k9 z9 hB hU MK hHeld ONL IT1 IT2 OF
      go_wp2_with fail
      have HB5 := heap_setCell_same Z (w.heap.size + 1 + 1) 0 _ 26 (.slice A1 L.length c1) HRS.out
      have d7 := (blk_one HB5).1
      refine bodyPost_ret (v := .tuple #[.agg #[.slice A1 L.length c1], .int .i64 7]) (by simp [results, Tryz.results21, go_sem, d7]) rfl ⟨rfl, HUZ.out.set (p := ⟨w.heap.size + 1 + 1, 0, none⟩) (by simp; omega) _⟩
  · go_simp
    refine hK.out _ _ (MK.out _ (hU.alloc _)) (fun hHeld => ?_)
    clear hK K
    (try simp only [Act.put, tz1, tz2, tz3])
    have hB := heap_alloc_new y0 (.cells #[.slice none 0 0] 26)
    have ha := (Up.refl y0).alloc (.cells #[.slice none 0 0] 26)
    have hq := hU.le
    replace hU := hU.trans ha
    generalize y0.alloc (.cells #[.slice none 0 0] 26) = z0 at *
    generalize y0.heap.size = q at *
    clear ha
    refine wpAnyH_ready (rs := [2]) (by kernel_rfl) (by simp) ?_
    refine AllReadyH.cons (o := ⟨_, _, _, _, _, _⟩) rfl (fun K hK => ?_) AllReadyH.nil
    go_simp
    go_at_call 25
    with_reducible refine (ONL _ (HR1.out.up hU) (HR2.out.up hU)).out.mono ?_
    rintro e y1 ⟨A5, c5, rfl, R5, hu⟩
    refine hK.out _ _ (MK.out _ (hU.trans hu)) (fun hHeld => ?_)
    clear hK K
    (try simp only [Act.put, tz1, tz2, tz3])
    replace hU := hU.trans hu
    replace hB := hu.obj hB
    clear hu
    refine wpAnyH_ready (rs := [3]) (by kernel_rfl) (by simp) ?_
    refine AllReadyH.cons (o := ⟨_, _, _, _, _, _⟩) rfl (fun K hK => ?_) AllReadyH.nil
    go_simp
    go_at_call 17
    have hW := hU
    with_reducible refine (IT1 _ _ _ R5).out.mono ?_
    rintro e y2 ⟨v1, rfl, ho, hu⟩
    refine hK.out _ _ (MK.out _ (hU.trans hu)) (fun hHeld => ?_)
    clear hK K
    (try simp only [Act.put, tz1, tz2, tz3])
    replace hU := hU.trans hu
    replace hB := hu.obj hB
    have RS := RowS.mk ho hu
    clear hu ho R5
    refine wpAnyH_ready (rs := [5]) (by kernel_rfl) (by simp) ?_
    refine AllReadyH.cons (o := ⟨_, _, _, _, _, _⟩) rfl (fun K hK => ?_) AllReadyH.nil
    go_simp
    go_at_call 17
    with_reducible refine (IT2 _ (HR2.out.up hU)).out.mono ?_
    rintro e y3 ⟨v2, rfl, ho, hu⟩
    refine hK.out _ _ (MK.out _ (hU.trans hu)) (fun hHeld => ?_)
    clear hK K
    (try simp only [Act.put, tz1, tz2, tz3])
    replace hU := hU.trans hu
    replace hB := hu.obj hB
    replace RS := RowS.mk (own_up RS.own hu) (RS.up.trans hu)
    obtain ⟨A7, c7, rfl, R7⟩ := Rd.of_own ho
    clear hu ho
    refine wpAnyH_ready (rs := [6]) (by kernel_rfl) (by simp) ?_
    refine AllReadyH.cons (o := ⟨_, _, _, _, _, _⟩) rfl (fun K hK => ?_) AllReadyH.nil
    obtain ⟨v9, y4, f9, RS9, p9⟩ := RS.app R7 (by omega)
    rw [HT.out] at RS9
    refine step_append_run rfl _ _ 24 rfl rfl rfl (f9 _) ?_
    replace hU := hW.trans RS9.up
    refine hK.out _ _ (MK.out _ hU) (fun hHeld => ?_)
    clear hK K
    (try simp only [Act.put, tz1, tz2, tz3])
    replace hB := p9 _ _ hB (by intro cs fz e; injection e with _ e; exact absurd e (by decide))
    obtain ⟨A9, c9, rfl, R9⟩ := Rd.of_own RS9.own
    clear RS RS9 p9 f9 R7 hW
    refine wpAnyH_ready (rs := [7]) (by kernel_rfl) (by simp) ?_
    refine AllReadyH.cons (o := ⟨_, _, _, _, _, _⟩) rfl (fun K hK => ?_) AllReadyH.nil
    go_simp
    go_at_call 32
    with_reducible refine (OF _ _ _ R9).out.mono ?_
    rintro e y5 ⟨rfl, hu⟩
    refine hK.out _ _ (MK.out _ (hU.trans hu)) (fun hHeld => ?_)
    clear hK K
    (try simp only [Act.put, tz1, tz2, tz3])
    replace hU := hU.trans hu
    replace hB := hu.obj hB
    clear hu R9
    first | refine tku 8 rfl ?_ | refine tkv 8 rfl ?_
    (try simp only [Act.put, tz1, tz2, tz3])
    first | refine tku 9 rfl ?_ | refine tkv 9 rfl ?_
    (try simp only [Act.put, tz1, tz2, tz3])
    first | refine tku 10 rfl ?_ | refine tkv 10 rfl ?_
    (try simp only [Act.put, tz1, tz2, tz3])
    refine wpAnyH_ready (rs := [12]) (by kernel_rfl) (by simp) ?_
    refine AllReadyH.cons (o := ⟨_, _, _, _, _, _⟩) rfl (fun K hK => ?_) AllReadyH.nil
    obtain ⟨k9, z9⟩ := blk_one hB
    go_simp
    refine hK.out _ _ (MK.out _ (hU.set (p := ⟨q, 0, none⟩) hq _)) (fun hHeld => ?_)
    clear hK K
    (try simp only [Act.put, tz1, tz2, tz3])
    first | refine tku 13 rfl ?_ | refine tkv 13 rfl ?_
    (try simp only [Act.put, tz1, tz2, tz3])
    refine wpAnyH_done (by kernel_rfl) ?_ _
    replace hU := hU.set (p := ⟨q, 0, none⟩) hq (.slice none 0 0)
    have HB := Lib.hid (heap_setCell_same _ q 0 _ 26 (.slice none 0 0) hB)
    have d6 := (blk_one HB.out).1
    generalize World.setCell _ ⟨q, 0, none⟩ (.slice none 0 0) = Z at *
    have HRS := Lib.hid (hU.obj HRES.out)
    have HUZ := Lib.hid (HX.out.trans hU)
    have i0 := hHeld.1
    obtain ⟨k2, z2⟩ := blk_one HRS.out
    clear k9 z9 hB hU MK hHeld ONL IT1 IT2 OF
    go_wp2_with fail
    have HB5 := heap_setCell_same Z (w.heap.size + 1 + 1) 0 _ 26 (.slice A1 L.length c1) HRS.out
    have d7 := (blk_one HB5).1
    refine bodyPost_ret (v := .tuple #[.agg #[.slice A1 L.length c1], .int .i64 7]) (by simp [results, Tryz.results21, go_sem, d7]) rfl ⟨rfl, HUZ.out.set (p := ⟨w.heap.size + 1 + 1, 0, none⟩) (by simp; omega) _⟩
end Go.Proofs.YtkfococpanailaaGreatDoor
