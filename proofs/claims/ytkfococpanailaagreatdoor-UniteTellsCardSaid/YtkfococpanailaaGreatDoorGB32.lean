/- Walks: gazetteerlaw12.Back, gazetteerref12.Same, gazetteerref48.Over, some, Only, Both. -/
import Derived.Test.YtkfococpanailaaGreatDoorGB06
import Derived.Test.YtkfococpanailaaGreatDoorGB12
namespace Go.Proofs.YtkfococpanailaaGreatDoor
open Go.RowKit Go.Gz Go.Shelf

set_option maxRecDepth 100000
set_option maxHeartbeats 1000000 in
theorem back12_any (L : Items) (hl : L.length ≤ 100000) (A : Option Addr) (c : Nat) (w : World) (hr : Rd w 2 A L.length c (itV L)) :
    Calls Tryz.prog 24 #[.slice A L.length c] w (DelEnd w L) := by
  obtain ⟨i0, hi, hz0, hz1, hz2⟩ := info_parts infoIt
  have HR := Lib.hid hr
  clear hr
  go_enter Tryz.func24, Tryz.ntmps24
  go_wp2_with fail
  go_loopg [3, 4] L.length (fun gk v i wr => ∃ k : Nat, k + gk = L.length ∧ i = .int .i64 k ∧ OwnR wr w.heap.size v (L.take k) ∧ Up w wr)
  case atStart => exact ⟨0, by omega, rfl, World.ownsRow_nil _ _ _ _, Up.refl w⟩
  case round =>
    obtain ⟨k, hk, rfl, ho, hu⟩ := hrel
    have HO := Lib.hid ho
    have HU := Lib.hid hu
    clear ho
    by_cases hlt : k < L.length
    · obtain ⟨m, rfl⟩ : ∃ m, gk = m + 1 := ⟨gk - 1, by omega⟩
      have hd : L.take (k + 1) = L.take k ++ [L[k]] := List.take_succ_eq_append_getElem hlt
      obtain ⟨B, o, rfl, hc1, hc2⟩ := (HR.out.up hu).item hlt
      obtain ⟨⟨xid, xt⟩, hx⟩ : ∃ x, L[k]'hlt = x := ⟨_, rfl⟩
      rw [hx] at hc1 hc2 hd
      simp only at hc1 hc2
      have hltI : (k : Int) < (L.length : Int) := by omega
      have hml : (L.take k).length ≤ k := by rw [List.length_take]; omega
      have HD := Lib.hid hd
      clear hx hu hd
      go_wp2_with (at_builtin; refine app_one wr rfl _ _ 39 rfl w.heap.size 99 i0 _ 2 24 Tryz.underlying39 hi hz0 hz1 hz2 rfl (by decide) _ _ _ HO.out rfl #[.int .u64 xid, .string ⟨xt.toArray⟩] rfl rfl (by simp [Value.oneCell']) (by omega) (by omega) (by have := HU.out.le; omega) ?_; intro v3 w3 ho3 hg3 hb3)
      go_roundg m
      case measure => omega
      case rel =>
        refine ⟨k + 1, by omega, by go_num, ?_, Up.of (Below.trans HU.out.below hb3)⟩
        rw [HD.out]
        unfold OwnR
        rw [itV_app, List.length_append]
        exact ho3
    · obtain rfl : k = L.length := by omega
      have hO := HO.out
      rw [List.take_length] at hO
      have HO2 := Lib.hid hO
      clear hO hu hlt
      go_wp2_with fail
      go_ret
      exact ⟨_, rfl, HO2.out, HU.out⟩
set_option maxHeartbeats 4000000 in
theorem rsame12_any (M : Items) (hl : M.length ≤ 1000000) (A1 : Option Addr) (c1 : Nat) (A2 : Option Addr) (c2 : Nat) (w : World) (h1 : Rd w 2 A1 M.length c1 (itV M)) (h2 : Rd w 2 A2 M.length c2 (itV M)) :
    Calls Tryz.prog 23 #[.slice A1 M.length c1, .slice A2 M.length c2] w fun e w' => e = .returned (.bool true) ∧ Up w w' := by
  have HR1 := Lib.hid h1
  have HR2 := Lib.hid h2
  clear h1 h2
  go_enter Tryz.func23, Tryz.ntmps23
  go_wp2_with fail
  go_loopg [5] M.length (fun gk i wr => ∃ k : Nat, k + gk = M.length ∧ i = .int .i64 (k : Int) ∧ Up w wr)
  case atStart => exact ⟨0, by omega, rfl, Up.refl w⟩
  case round =>
    obtain ⟨k, hk, rfl, hu⟩ := hrel
    by_cases hlt : k < M.length
    · obtain ⟨m, rfl⟩ : ∃ x, gk = x + 1 := ⟨gk - 1, by omega⟩
      obtain ⟨b1, o1, rfl, p0, p1⟩ := (HR1.out.up hu).item hlt
      obtain ⟨b2, o2, rfl, q0, q1⟩ := (HR2.out.up hu).item hlt
      obtain ⟨⟨n, t⟩, hx⟩ : ∃ x, M[k] = x := ⟨_, rfl⟩
      rw [hx] at p0 p1 q0 q1
      simp only at p0 p1 q0 q1
      have HU := Lib.hid hu
      have kI : (k : Int) < (M.length : Int) := by omega
      clear hx hu
      go_wp2_with fail
      refine wp_region_held_drew (S := fun w' => (w'.cell? ⟨b1, o1 + k * 2, none⟩ = some (.int .u64 (n : Int)) ∧ w'.cell? ⟨b1, o1 + k * 2 + 1, none⟩ = some (.string ⟨t.toArray⟩) ∧ w'.cell? ⟨b2, o2 + k * 2, none⟩ = some (.int .u64 (n : Int)) ∧ w'.cell? ⟨b2, o2 + k * 2 + 1, none⟩ = some (.string ⟨t.toArray⟩))) (by kernel_rfl) ⟨p0, p1, q0, q1⟩ (fun hHeld => ?_)
      first | refine tku 0 rfl ?_ | refine tkv 0 rfl ?_
      (try simp only [Act.put, tz1, tz2, tz3])
      first | refine tku 1 rfl ?_ | refine tkv 1 rfl ?_
      (try simp only [Act.put, tz1, tz2, tz3])
      first | refine tku 2 rfl ?_ | refine tkv 2 rfl ?_
      (try simp only [Act.put, tz1, tz2, tz3])
      first | refine tku 3 rfl ?_ | refine tkv 3 rfl ?_
      (try simp only [Act.put, tz1, tz2, tz3])
      first | refine tku 4 rfl ?_ | refine tkv 4 rfl ?_
      (try simp only [Act.put, tz1, tz2, tz3])
      first | refine tku 5 rfl ?_ | refine tkv 5 rfl ?_
      (try simp only [Act.put, tz1, tz2, tz3])
      first | refine tku 6 rfl ?_ | refine tkv 6 rfl ?_
      (try simp only [Act.put, tz1, tz2, tz3])
      first | refine tku 7 rfl ?_ | refine tkv 7 rfl ?_
      (try simp only [Act.put, tz1, tz2, tz3])
      first | refine tku 8 rfl ?_ | refine tkv 8 rfl ?_
      (try simp only [Act.put, tz1, tz2, tz3])
      refine wpAnyH_done (by kernel_rfl) ?_ _
      clear hHeld
      go_wp2_with fail
      go_roundg m
      case measure => omega
      case rel => exact ⟨k + 1, by omega, by go_num, HU.out.drew⟩
    · obtain rfl : k = M.length := by omega
      obtain rfl : gk = 0 := by omega
      have kI : ¬ (M.length : Int) < (M.length : Int) := by omega
      go_wp2_with fail
      go_ret
      exact ⟨rfl, hu⟩
set_option maxHeartbeats 4000000 in
theorem rover48_any (L M : Items) (hM : ∀ x ∈ M, wrongE x.1 x.2 false = 0) (hl : L.length + M.length ≤ 2048) (A : Option Addr) (c : Nat) (A1 : Option Addr) (c1 : Nat) (w : World) (h0 : Rd w 2 A L.length c (itV L)) (h1 : Rd w 2 A1 M.length c1 (itV M)) :
    Calls Tryz.prog 22 #[.slice A L.length c, .slice A1 M.length c1] w (PutEnd w (overL L M) 0) := by
  have HR0 := Lib.hid h0
  have HR1 := Lib.hid h1
  have HM := Lib.hid hM
  clear h0 h1 hM
  go_enter Tryz.func22, Tryz.ntmps22
  go_wp2_with fail
  go_loopg [6, 7, 8, 9] M.length (fun gk v i _x _y wr => ∃ (k : Nat) (A2 : Option Addr) (c2 : Nat), k + gk = M.length ∧ i = .int .i64 (k : Int) ∧ v = .slice A2 (overL L (M.take k)).length c2 ∧ Rd wr 2 A2 (overL L (M.take k)).length c2 (itV (overL L (M.take k))) ∧ Up w wr)
  case atStart => exact ⟨0, A, c, by omega, rfl, rfl, HR0.out, Up.refl w⟩
  case round =>
    obtain ⟨k, A2, c2, hk, rfl, rfl, hr2, hu⟩ := hrel
    by_cases hlt : k < M.length
    · obtain ⟨m, rfl⟩ : ∃ x, gk = x + 1 := ⟨gk - 1, by omega⟩
      obtain ⟨B, o, rfl, d0, d1⟩ := (HR1.out.up hu).item hlt
      have hw := HM.out _ (List.getElem_mem hlt)
      have hst : overL L (M.take (k + 1)) = insL (overL L (M.take k)) M[k].1 M[k].2 := by
        unfold overL; rw [List.take_succ_eq_append_getElem hlt, List.foldl_append]; rfl
      have hle := over_len_le L (M.take k)
      rw [List.length_take] at hle
      obtain ⟨⟨xid, xt⟩, hx⟩ : ∃ x, M[k] = x := ⟨_, rfl⟩
      rw [hx] at d0 d1 hw hst
      simp only at d0 d1 hw hst
      have hp := putL_ins (L := overL L (M.take k)) (x := (xid, xt)) hw (by omega)
      simp only at hp
      rw [← hp.2] at hst
      have HST := Lib.hid hst
      have PU := fun w hr => Lib.hid (rput12_any (overL L (M.take k)) (by omega) xid xt A2 c2 w hr)
      rw [hp.1] at PU
      generalize overL L (M.take k) = N at *
      have HRN := Lib.hid hr2
      have HU := Lib.hid hu
      have kI : (k : Int) < (M.length : Int) := by omega
      clear hx hu hr2 hst hp hw
      go_wp2_with fail
      refine wp_region_held_drew (S := fun w' => (w'.cell? ⟨B, o + k * 2, none⟩ = some (.int .u64 (xid : Int)) ∧ w'.cell? ⟨B, o + k * 2 + 1, none⟩ = some (.string ⟨xt.toArray⟩))) (by kernel_rfl) ⟨d0, d1⟩ (fun hHeld => ?_)
      first | refine tku 0 rfl ?_ | refine tkv 0 rfl ?_
      (try simp only [Act.put, tz1, tz2, tz3])
      first | refine tku 1 rfl ?_ | refine tkv 1 rfl ?_
      (try simp only [Act.put, tz1, tz2, tz3])
      first | refine tku 2 rfl ?_ | refine tkv 2 rfl ?_
      (try simp only [Act.put, tz1, tz2, tz3])
      first | refine tku 3 rfl ?_ | refine tkv 3 rfl ?_
      (try simp only [Act.put, tz1, tz2, tz3])
      first | refine tku 4 rfl ?_ | refine tkv 4 rfl ?_
      (try simp only [Act.put, tz1, tz2, tz3])
      first | refine tku 5 rfl ?_ | refine tkv 5 rfl ?_
      (try simp only [Act.put, tz1, tz2, tz3])
      first | refine tku 6 rfl ?_ | refine tkv 6 rfl ?_
      (try simp only [Act.put, tz1, tz2, tz3])
      first | refine tku 7 rfl ?_ | refine tkv 7 rfl ?_
      (try simp only [Act.put, tz1, tz2, tz3])
      first | refine tku 8 rfl ?_ | refine tkv 8 rfl ?_
      (try simp only [Act.put, tz1, tz2, tz3])
      first | refine tku 9 rfl ?_ | refine tkv 9 rfl ?_
      (try simp only [Act.put, tz1, tz2, tz3])
      first | refine tku 10 rfl ?_ | refine tkv 10 rfl ?_
      (try simp only [Act.put, tz1, tz2, tz3])
      refine wpAnyH_ready (rs := [11]) (by kernel_rfl) (by simp) ?_
      refine AllReadyH.cons (o := ⟨_, _, _, _, _, _⟩) rfl (fun K hK => ?_) AllReadyH.nil
      clear hHeld
      go_simp
      go_at_call 52
      with_reducible refine (PU _ (HRN.out.up (Up.refl _).drew)).out.mono ?_
      rintro e q1 ⟨A2, c2, rfl, r2, huq⟩
      refine hK.out _ _ ⟨huq.cell d0, huq.cell d1⟩ (fun hHeld => ?_)
      clear hK K
      (try simp only [Act.put, tz1, tz2, tz3])
      first | refine tku 12 rfl ?_ | refine tkv 12 rfl ?_
      (try simp only [Act.put, tz1, tz2, tz3])
      first | refine tku 13 rfl ?_ | refine tkv 13 rfl ?_
      (try simp only [Act.put, tz1, tz2, tz3])
      first | refine tku 14 rfl ?_ | refine tkv 14 rfl ?_
      (try simp only [Act.put, tz1, tz2, tz3])
      first | refine tku 15 rfl ?_ | refine tkv 15 rfl ?_
      (try simp only [Act.put, tz1, tz2, tz3])
      first | refine tku 16 rfl ?_ | refine tkv 16 rfl ?_
      (try simp only [Act.put, tz1, tz2, tz3])
      refine wpAnyH_done (by kernel_rfl) ?_ _
      clear hHeld
      go_wp2_with fail
      go_roundg m
      case measure => omega
      case rel =>
        refine ⟨k + 1, A2, c2, by omega, by go_num, ?_, ?_, HU.out.trans ((Up.refl _).drew.trans huq)⟩
        · rw [HST.out]
        · rw [HST.out]; exact r2
    · obtain rfl : k = M.length := by omega
      obtain rfl : gk = 0 := by omega
      have kI : ¬ (M.length : Int) < (M.length : Int) := by omega
      rw [List.take_length] at hr2
      have HR2 := Lib.hid hr2
      clear hr2
      go_wp2_with fail
      go_ret2
      exact ⟨_, _, rfl, HR2.out, hu⟩
theorem some_succ (L M : Items) (t : Bool) {k : Nat} (hk : k < L.length) : someL (L.take (k + 1)) M t = someL (L.take k) M t ++ (if memL M L[k].1 = t then [L[k]] else []) := by
  unfold someL
  rw [List.take_succ_eq_append_getElem hk, List.filter_append]
  by_cases h : memL M L[k].1 = t
  · simp [h]
  · simp [h]
set_option maxHeartbeats 2000000 in
theorem rsome48_any (L M : Items) (hl : L.length ≤ 100000) (hlM : M.length ≤ 100000) (t : Bool) (A : Option Addr) (c : Nat) (A1 : Option Addr) (c1 : Nat) (w : World) (h0 : Rd w 2 A L.length c (itV L)) (h1 : Rd w 2 A1 M.length c1 (itV M)) :
    Calls Tryz.prog 54 #[.slice A L.length c, .slice A1 M.length c1, .bool t] w (DelEnd w (someL L M t)) := by
  obtain ⟨i0, hi, hz0, hz1, hz2⟩ := info_parts infoIt
  have HR := Lib.hid h0
  have HR1 := Lib.hid h1
  have GT := fun id w hr => Lib.hid (rget12_any M (by omega) id A1 c1 w hr)
  clear h0 h1
  go_enter Tryz.func54, Tryz.ntmps54
  go_wp2_with fail
  go_loopg [7, 8, 9, 10] L.length (fun gk v i _x _y wr => ∃ k : Nat, k + gk = L.length ∧ i = .int .i64 k ∧ OwnR wr w.heap.size v (someL (L.take k) M t) ∧ Up w wr)
  case atStart => exact ⟨0, by omega, rfl, World.ownsRow_nil _ _ _ _, Up.refl w⟩
  case round =>
    obtain ⟨k, hk, rfl, ho, hu⟩ := hrel
    have HO := Lib.hid ho
    have HU := Lib.hid hu
    clear ho
    by_cases hlt : k < L.length
    · obtain ⟨m, rfl⟩ : ∃ m, gk = m + 1 := ⟨gk - 1, by omega⟩
      have hd := some_succ L M t hlt
      obtain ⟨B, o, rfl, hc1, hc2⟩ := (HR.out.up hu).item hlt
      obtain ⟨⟨xid, xt⟩, hx⟩ : ∃ x, L[k]'hlt = x := ⟨_, rfl⟩
      rw [hx] at hc1 hc2 hd
      simp only at hc1 hc2 hd
      have G := fun w hr => GT xid w hr
      rw [mem_get] at hd
      generalize (getL M xid).getD [] = gs at G
      generalize (getL M xid).isSome = gi at G hd
      have hltI : (k : Int) < (L.length : Int) := by omega
      have hml : (someL (L.take k) M t).length ≤ k := by have := some_len (L.take k) M t; rw [List.length_take] at this; omega
      have HRU := Lib.hid (HR1.out.up hu)
      clear hx hu GT
      by_cases he : gi = t
      · rw [if_pos he] at hd
        have HD := Lib.hid hd
        have hb : (gi == t) = true := by rw [he]; simp
        clear hd he
        go_wp2_with fail
        with_reducible refine (G _ HRU.out).out.mono ?_
        rintro e w2 ⟨rfl, rfl⟩
        go_wp2_with (at_builtin; refine app_one wr rfl _ _ 39 rfl w.heap.size 99 i0 _ 2 24 Tryz.underlying39 hi hz0 hz1 hz2 rfl (by decide) _ _ _ HO.out rfl #[.int .u64 xid, .string ⟨xt.toArray⟩] rfl rfl (by simp [Value.oneCell']) (by omega) (by omega) (by have := HU.out.le; omega) ?_; intro v3 w3 ho3 hg3 hb3)
        go_roundg m
        case measure => omega
        case rel =>
          refine ⟨k + 1, by omega, by go_num, ?_, Up.of (Below.trans HU.out.below hb3)⟩
          rw [HD.out]
          unfold OwnR
          rw [itV_app, List.length_append]
          exact ho3
      · rw [if_neg he] at hd
        have HD := Lib.hid hd
        have hb : (gi == t) = false := by rw [beq_eq_false_iff_ne]; exact he
        clear hd he
        go_wp2_with fail
        with_reducible refine (G _ HRU.out).out.mono ?_
        rintro e w2 ⟨rfl, rfl⟩
        go_wp2_with fail
        go_roundg m
        case measure => omega
        case rel => exact ⟨k + 1, by omega, by go_num, by rw [HD.out, List.append_nil]; exact HO.out, HU.out⟩
    · obtain rfl : k = L.length := by omega
      have hO := HO.out
      rw [List.take_length] at hO
      have HO2 := Lib.hid hO
      clear hO hu hlt
      go_wp2_with fail
      go_ret
      exact ⟨_, rfl, HO2.out, HU.out⟩
theorem ronly48_any (L M : Items) (hl : L.length ≤ 100000) (hlM : M.length ≤ 100000) (A : Option Addr) (c : Nat) (A1 : Option Addr) (c1 : Nat) (w : World) (h0 : Rd w 2 A L.length c (itV L)) (h1 : Rd w 2 A1 M.length c1 (itV M)) :
    Calls Tryz.prog 26 #[.slice A L.length c, .slice A1 M.length c1] w (DelEnd w (someL L M false)) := by
  have S := Lib.hid (rsome48_any L M hl hlM false A c A1 c1 w h0 h1)
  clear h0 h1
  go_enter Tryz.func26, Tryz.ntmps26
  go_wp2_with fail
  with_reducible refine S.out.mono ?_
  rintro e w2 ⟨v, rfl, ho, hu⟩
  go_wp2_with fail
  go_ret
  exact ⟨v, rfl, ho, hu⟩
theorem rboth48_any (L M : Items) (hl : L.length ≤ 100000) (hlM : M.length ≤ 100000) (A : Option Addr) (c : Nat) (A1 : Option Addr) (c1 : Nat) (w : World) (h0 : Rd w 2 A L.length c (itV L)) (h1 : Rd w 2 A1 M.length c1 (itV M)) :
    Calls Tryz.prog 28 #[.slice A L.length c, .slice A1 M.length c1] w (DelEnd w (someL L M true)) := by
  have S := Lib.hid (rsome48_any L M hl hlM true A c A1 c1 w h0 h1)
  clear h0 h1
  go_enter Tryz.func28, Tryz.ntmps28
  go_wp2_with fail
  with_reducible refine S.out.mono ?_
  rintro e w2 ⟨v, rfl, ho, hu⟩
  go_wp2_with fail
  go_ret
  exact ⟨v, rfl, ho, hu⟩
end Go.Proofs.YtkfococpanailaaGreatDoor
