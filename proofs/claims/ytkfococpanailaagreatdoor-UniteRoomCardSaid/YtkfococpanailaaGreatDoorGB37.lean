/- Walk: gazetteerlaw48.UniteRoom. -/
import Derived.Test.YtkfococpanailaaGreatDoorGB31
import Derived.Test.YtkfococpanailaaGreatDoorGB35
import Derived.Test.YtkfococpanailaaGreatDoorGB12
namespace Go.Proofs.YtkfococpanailaaGreatDoor
open Go.RowKit Go.Gz Go.Shelf

set_option maxRecDepth 100000
/-- what stands in the round: first one list grows, then the other one -/
def RoomR (w : World) (k gk : Nat) (va vb i : Value) (wr : World) : Prop := ∃ j : Nat, j + gk = 2048 ∧ i = .int .i64 (j : Int) ∧ Up w wr ∧
  ((j ≤ k ∧ vb = .slice none 0 0 ∧ wr.ownsRow w.heap.size 37 2 va (roomL 0 j).length (itV (roomL 0 j))) ∨
   (k ≤ j ∧ ∃ (A : Option Addr) (c : Nat) (wB : World), va = .slice A (roomL 0 k).length c ∧ Rd wB 2 A (roomL 0 k).length c (itV (roomL 0 k)) ∧ Up w wB ∧ Up wB wr ∧ wr.ownsRow wB.heap.size 37 2 vb (roomL k (j - k)).length (itV (roomL k (j - k)))))
set_option maxHeartbeats 16000000 in
theorem uroom48 (n m : Nat) (hn : n < 65536) (hm : m < 256) (w : World) :
    Calls Tryz.prog 7 #[.int .u16 (n : Int), .int .u8 (m : Int)] w fun e w' => e = .returned (.bool true) ∧ Up w w' := by
  obtain ⟨i0, hi, hz0, hz1, hz2⟩ := info_parts infoCI
  obtain ⟨k, hk⟩ : ∃ k, 1 + n % 2047 = k := ⟨_, rfl⟩
  have hk1 : 1 ≤ k := by omega
  have hk2 : k ≤ 2047 := by omega
  have e1 : IntKind.i64.wrap (n : Int) = (n : Int) := IntWalk.i64_in _ (by omega)
  have e2 : (n : Int).tmod 2047 = ((n % 2047 : Nat) : Int) := by rw [IntWalk.rem_in _ _ (by omega)]; omega
  have e3 : IntKind.i64.wrap (1 + ((n % 2047 : Nat) : Int)) = (k : Int) := by rw [IntWalk.i64_in _ (by omega)]; omega
  have e4 : IntKind.i64.wrap (((n % 2047 : Nat) : Int)) = ((n % 2047 : Nat) : Int) := IntWalk.i64_in _ (by omega)
  have AW := fun w => Lib.hid (awake48 w)
  have ga := good_room (a := 0) (n := k) (by omega)
  have gb := good_room (a := k) (n := 2048 - k) (by omega)
  have LA := Lib.hid (room_len 0 k)
  have LB := Lib.hid (room_len k (2048 - k))
  go_enter Tryz.func7, Tryz.ntmps7
  go_wp2_with fail
  go_loopg [5, 6, 8, 9] 2048 (fun gk va vb i _x wr => RoomR w k gk va vb i wr)
  case atStart => exact ⟨0, by omega, rfl, Up.refl w, .inl ⟨by omega, rfl, World.ownsRow_nil _ _ _ _⟩⟩
  case round =>
    obtain ⟨j, hj, rfl, hu, hor⟩ := hrel
    by_cases hlt : j < 2048
    · obtain ⟨g, rfl⟩ : ∃ g, gk = g + 1 := ⟨gk - 1, by omega⟩
      have f0 : (j : Int) < 2048 := by omega
      have f1 : IntKind.i64.wrap (2 * (j : Int)) = 2 * (j : Int) := IntWalk.i64_in _ (by omega)
      have f2 : IntKind.u64.wrap (2 * (j : Int)) = 2 * (j : Int) := IntWalk.u64_in _ (by omega)
      have HU := Lib.hid hu
      have x0 := newT2 wr 37 (.int .u64 (2 * (j : Int))) (.string ⟨#[116]⟩)
      have d0 := x0.2.1
      have d1 := x0.2.2
      have HX := Lib.hid x0.1
      clear x0 hu
      by_cases hjk : j < k
      · have f3 : (j : Int) < (k : Int) := by omega
        obtain ⟨rfl, ho⟩ : u6 = .slice none 0 0 ∧ wr.ownsRow w.heap.size 37 2 u5 (roomL 0 j).length (itV (roomL 0 j)) := by
          rcases hor with ⟨_, a, b⟩ | ⟨a, _⟩
          · exact ⟨a, b⟩
          · omega
        have HO := Lib.hid (own_up ho HX.out)
        have hst := room_succ 0 j
        rw [Nat.zero_add] at hst
        have HST := Lib.hid hst
        have hl := room_len 0 j
        have hsz := Nat.le_trans HU.out.le HX.out.le
        clear ho hor hst
        go_wp2_with (at_builtin; refine app_one (wr.alloc (.cells #[.int .u64 (2 * (j : Int)), .string ⟨#[116]⟩] 37)) rfl _ _ 24 rfl w.heap.size 37 i0 _ 2 24 Tryz.underlying24 hi hz0 hz1 hz2 rfl (by decide) _ _ _ HO.out rfl #[.int .u64 (2 * (j : Int)), .string ⟨#[116]⟩] (by show Value.slice (some ⟨wr.heap.size + 1, 0, none⟩) 1 1 = _; rw [World.size_alloc]) rfl (by simp [Value.oneCell']) (by omega) (by omega) hsz ?_; intro v3 w3 ho3 hg3 hb3)
        go_roundg g
        case measure => omega
        case rel =>
          refine ⟨j + 1, by omega, by go_num, Up.of (Below.trans (HU.out.trans HX.out).below hb3), .inl ⟨by omega, rfl, ?_⟩⟩
          rw [HST.out, List.length_append, itV_app]
          simpa [itV] using ho3
      · have f3 : ¬ (j : Int) < (k : Int) := by omega
        obtain ⟨A, c, wB, rfl, hr, hwB, hBr, ho⟩ : ∃ (A : Option Addr) (c : Nat) (wB : World), u5 = .slice A (roomL 0 k).length c ∧ Rd wB 2 A (roomL 0 k).length c (itV (roomL 0 k)) ∧ Up w wB ∧ Up wB wr ∧ wr.ownsRow wB.heap.size 37 2 u6 (roomL k (j - k)).length (itV (roomL k (j - k))) := by
          rcases hor with ⟨a, rfl, b⟩ | ⟨_, h⟩
          · obtain rfl : j = k := by omega
            obtain ⟨A, c, rfl, r⟩ := Rd.of_own b
            exact ⟨A, c, wr, rfl, r, HU.out, Up.refl _, by rw [Nat.sub_self]; exact World.ownsRow_nil _ _ _ _⟩
          · exact h
        have HO := Lib.hid (own_up ho HX.out)
        have hst := room_succ k (j - k)
        rw [show k + (j - k) = j by omega, show j - k + 1 = j + 1 - k by omega] at hst
        have HST := Lib.hid hst
        have hl := room_len k (j - k)
        have HR := Lib.hid hr
        have HW := Lib.hid hwB
        have HB := Lib.hid hBr
        have hsz := Nat.le_trans HB.out.le HX.out.le
        clear ho hor hst hr hwB hBr
        go_wp2_with (at_builtin; refine app_one (wr.alloc (.cells #[.int .u64 (2 * (j : Int)), .string ⟨#[116]⟩] 37)) rfl _ _ 24 rfl wB.heap.size 37 i0 _ 2 24 Tryz.underlying24 hi hz0 hz1 hz2 rfl (by decide) _ _ _ HO.out rfl #[.int .u64 (2 * (j : Int)), .string ⟨#[116]⟩] (by show Value.slice (some ⟨wr.heap.size + 1, 0, none⟩) 1 1 = _; rw [World.size_alloc]) rfl (by simp [Value.oneCell']) (by omega) (by omega) hsz ?_; intro v3 w3 ho3 hg3 hb3)
        go_roundg g
        case measure => omega
        case rel =>
          have hB3 := Up.of (Below.trans (HB.out.trans HX.out).below hb3)
          refine ⟨j + 1, by omega, by go_num, HW.out.trans hB3, .inr ⟨by omega, A, c, wB, rfl, HR.out, HW.out, hB3, ?_⟩⟩
          rw [HST.out, List.length_append, itV_app]
          simpa [itV] using ho3
    · obtain rfl : j = 2048 := by omega
      have f0 : ¬ ((2048 : Nat) : Int) < 2048 := by omega
      obtain ⟨A1, c1, wB, rfl, hr, hwB, hBr, ho⟩ : ∃ (A : Option Addr) (c : Nat) (wB : World), u5 = .slice A (roomL 0 k).length c ∧ Rd wB 2 A (roomL 0 k).length c (itV (roomL 0 k)) ∧ Up w wB ∧ Up wB wr ∧ wr.ownsRow wB.heap.size 37 2 u6 (roomL k (2048 - k)).length (itV (roomL k (2048 - k))) := by
        rcases hor with ⟨a, _⟩ | ⟨_, h⟩
        · omega
        · exact h
      obtain ⟨A2, c2, rfl, r2⟩ := Rd.of_own ho
      have HA := Lib.hid (hr.up hBr)
      have HB := Lib.hid r2
      have la := LA.out
      have lb := LB.out
      have HU := Lib.hid hu
      have hp := putL_ins (L := roomL k (2048 - k)) (x := (2 * m + 1, [117])) (by
        unfold wrongE
        rw [if_neg (by simp only; omega), if_neg (by simp), if_neg (by simp)]
        rfl) (by omega)
      simp only at hp
      have gx := good_put gb (by omega) (2 * m + 1) [117]
      have OFa : ∀ A c w, Rd w 2 A (roomL 0 k).length c (itV (roomL 0 k)) → Hid (Calls Tryz.prog 32 #[.slice A (roomL 0 k).length c] w (OfEnd w (roomL 0 k))) := by
        intro A c w hr
        refine Lib.hid ((of_any (roomL 0 k) (good_fit ga) (by omega) A c w hr).mono ?_)
        rintro e w' ⟨M', hp, hs, he⟩
        obtain rfl := srt_perm ga.srt hs hp
        exact he
      have OFb : ∀ A c w, Rd w 2 A (roomL k (2048 - k)).length c (itV (roomL k (2048 - k))) → Hid (Calls Tryz.prog 32 #[.slice A (roomL k (2048 - k)).length c] w (OfEnd w (roomL k (2048 - k)))) := by
        intro A c w hr
        refine Lib.hid ((of_any (roomL k (2048 - k)) (good_fit gb) (by omega) A c w hr).mono ?_)
        rintro e w' ⟨M', hp, hs, he⟩
        obtain rfl := srt_perm gb.srt hs hp
        exact he
      have V1 := fun A1 c1 A2 c2 w h1 h2 => Lib.hid (over48_ok (roomL 0 k) (roomL k (2048 - k)) ga gb (by rw [room_apart]; omega) A1 c1 A2 c2 w h1 h2)
      have hVl : (overL (roomL 0 k) (roomL k (2048 - k))).length = 2048 := by rw [over_len ga.srt gb.srt, room_apart]; omega
      have PU := fun A c w hr => Lib.hid (cput12_any (roomL k (2048 - k)) (by omega) (2 * m + 1) [117] A c gb.srt w hr)
      unfold CPutEnd at PU
      rw [hp.2] at gx PU
      rw [hp.1] at PU
      have hxl := room_ins k (2048 - k) m [117]
      have V2 := fun A1 c1 A2 c2 w h1 h2 => Lib.hid (over48_full (roomL 0 k) (insL (roomL k (2048 - k)) (2 * m + 1) [117]) ga gx (by rw [room_extra, hxl]; omega) A1 c1 A2 c2 w h1 h2)
      have SM := fun A1 c1 A2 c2 w h1 h2 => Lib.hid (same_any (roomL 0 k) (by omega) A1 c1 A2 c2 w h1 h2)
      have LN := fun A (n : Nat) c w => Lib.hid (len_any A n c w)
      unfold OfEnd at OFa OFb V1
      rw [hVl] at V1
      have g1 : IntKind.u64.wrap (m : Int) = (m : Int) := IntWalk.u64_in _ (by omega)
      have g2 : IntKind.u64.wrap (2 * (m : Int)) = 2 * (m : Int) := IntWalk.u64_in _ (by omega)
      have g3 : IntKind.u64.wrap (2 * (m : Int) + 1) = 2 * (m : Int) + 1 := IntWalk.u64_in _ (by omega)
      have g4 : ((2 * m + 1 : Nat) : Int) = 2 * (m : Int) + 1 := by omega
      rw [g4] at PU
      clear hr hwB hBr ho r2 hu hor hp ga gb gx hxl hVl g4 e1 e2 e3 e4 hi hz0 hz1 hz2 la lb LA LB
      generalize insL (roomL k (2048 - k)) (2 * m + 1) [117] = E at *
      generalize overL (roomL 0 k) (roomL k (2048 - k)) = V at *
      generalize roomL 0 k = La at *
      generalize roomL k (2048 - k) = Lb at *
      go_wp2_with fail
      with_reducible refine (OFa _ _ _ HA.out).out.mono ?_
      rintro e y1 ⟨A3, c3, rfl, r3, hu⟩
      have hn := new1 y1 26 (.slice A3 La.length c3)
      have hv := hu.trans hn.1
      replace HA := Lib.hid (HA.out.up hv)
      replace HB := Lib.hid (HB.out.up hv)
      replace HU := Lib.hid (HU.out.trans hv)
      have kc := hn.2.1
      have HC := Lib.hid (r3.up hn.1)
      clear hu hn hv r3 OFa
      go_wp2_with fail
      with_reducible refine (OFb _ _ _ HB.out).out.mono ?_
      rintro e y2 ⟨A4, c4, rfl, r4, hu⟩
      have hn := new1 y2 26 (.slice A4 Lb.length c4)
      have hv := hu.trans hn.1
      replace kc := hv.cell kc
      replace HA := Lib.hid (HA.out.up hv)
      replace HB := Lib.hid (HB.out.up hv)
      replace HC := Lib.hid (HC.out.up hv)
      replace HU := Lib.hid (HU.out.trans hv)
      have kd := hn.2.1
      have HD := Lib.hid (r4.up hn.1)
      clear hu hn hv r4 OFb
      clear HA HB
      go_wp2_with fail
      with_reducible refine (V1 _ _ _ _ _ HC.out HD.out).out.mono ?_
      rintro e y3 ⟨A5, c5, rfl, r5, hu⟩
      have hn := new1 y3 26 (.slice A5 2048 c5)
      have hv := hu.trans hn.1
      replace kc := hv.cell kc
      replace kd := hv.cell kd
      replace HC := Lib.hid (HC.out.up hv)
      replace HD := Lib.hid (HD.out.up hv)
      replace HU := Lib.hid (HU.out.trans hv)
      have kx := hn.2.1
      clear hu hn hv V1 r5
      go_wp2_with fail
      with_reducible refine (PU _ _ _ HD.out).out.mono ?_
      rintro e y4 ⟨A6, c6, rfl, r6, hu⟩
      have hn := new1 y4 26 (.slice A6 E.length c6)
      have hv := hu.trans hn.1
      replace kc := hv.cell kc
      replace kd := hv.cell kd
      replace kx := hv.cell kx
      replace HC := Lib.hid (HC.out.up hv)
      replace HD := Lib.hid (HD.out.up hv)
      replace HU := Lib.hid (HU.out.trans hv)
      have ke := hn.2.1
      have HE := Lib.hid (r6.up hn.1)
      clear hu hn hv r6 PU
      go_wp2_with fail
      with_reducible refine (V2 _ _ _ _ _ HC.out HE.out).out.mono ?_
      rintro e y5 ⟨rfl, hu⟩
      have hn := new1 y5 26 (.slice A3 La.length c3)
      have hv := hu.trans hn.1
      replace kc := hv.cell kc
      replace kd := hv.cell kd
      replace kx := hv.cell kx
      replace ke := hv.cell ke
      replace HC := Lib.hid (HC.out.up hv)
      replace HD := Lib.hid (HD.out.up hv)
      replace HE := Lib.hid (HE.out.up hv)
      replace HU := Lib.hid (HU.out.trans hv)
      have ky := hn.2.1
      clear hu hn hv V2
      go_wp2_with fail
      with_reducible refine (LN _ _ _ _).out.mono ?_
      rintro e y6 ⟨rfl, hu⟩
      replace kc := hu.cell kc
      replace kd := hu.cell kd
      replace kx := hu.cell kx
      replace ke := hu.cell ke
      replace ky := hu.cell ky
      replace HC := Lib.hid (HC.out.up hu)
      replace HD := Lib.hid (HD.out.up hu)
      replace HE := Lib.hid (HE.out.up hu)
      replace HU := Lib.hid (HU.out.trans hu)
      clear hu
      go_wp2_with fail
      with_reducible refine (SM _ _ _ _ _ HC.out HC.out).out.mono ?_
      rintro e y7 ⟨rfl, hu⟩
      replace kc := hu.cell kc
      replace kd := hu.cell kd
      replace kx := hu.cell kx
      replace ke := hu.cell ke
      replace ky := hu.cell ky
      replace HC := Lib.hid (HC.out.up hu)
      replace HD := Lib.hid (HD.out.up hu)
      replace HE := Lib.hid (HE.out.up hu)
      replace HU := Lib.hid (HU.out.trans hu)
      clear hu
      go_wp2_with fail
      with_reducible refine (AW _).out.mono ?_
      rintro e w2 ⟨rfl, hu2⟩
      go_wp2_with fail
      go_ret
      exact ⟨rfl, HU.out.trans hu2⟩
end Go.Proofs.YtkfococpanailaaGreatDoor
