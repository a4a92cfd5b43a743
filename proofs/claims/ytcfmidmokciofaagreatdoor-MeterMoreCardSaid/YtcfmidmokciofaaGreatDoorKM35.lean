/- Walk: the notes' reader: value, given mark, word and number. -/
import Derived.Test.YtcfmidmokciofaaGreatDoorKM34
namespace Go.Proofs.YtcfmidmokciofaaGreatDoor
open Go.RowKit Go.Gz Go.Shelf

set_option maxRecDepth 100000
theorem digB_ix (b : UInt8) : decide (0 ≤ Lib.indexByte [48, 49, 50, 51, 52, 53, 54, 55, 56, 57] b) = digB b := by
  have key : ∀ n : Fin 256, decide (0 ≤ Lib.indexByte [48, 49, 50, 51, 52, 53, 54, 55, 56, 57] (UInt8.ofNat n.val)) = digB (UInt8.ofNat n.val) := by decide +kernel
  have := key ⟨b.toNat, b.toNat_lt⟩
  simpa using this
theorem ixd_any (b : UInt8) (w : World) : Calls Tryz.prog 157 #[.string ⟨#[48, 49, 50, 51, 52, 53, 54, 55, 56, 57]⟩, .int .u8 (b.toNat : Int)] w fun e w' => e = .returned (.int .i64 (Lib.indexByte [48, 49, 50, 51, 52, 53, 54, 55, 56, 57] b)) ∧ w' = w := by
  refine (Tryz.strings_IndexByte ⟨#[48, 49, 50, 51, 52, 53, 54, 55, 56, 57]⟩ (b.toNat : Int) w).mono ?_
  rintro e w' ⟨rfl, rfl⟩
  exact ⟨by simp, rfl⟩
theorem valN_at {s : Bs} {d a : Nat} {b : UInt8} (h : s[a]? = some b) : valN s d a = if b = 110 then wordN s a [110, 117, 108, 108] else if b = 102 then wordN s a [102, 97, 108, 115, 101] else if b = 116 then wordN s a [116, 114, 117, 101] else if b = 34 then (takeN s a).2
    else if b = 91 then (if d = 0 then (a, 20) else contN s 93 (listOne (valN s (d - 1))) a ()) else if b = 123 then (if d = 0 then (a, 20) else contN s 125 (objOne s (valN s (d - 1))) a []) else if b = 45 ∨ digB b = true then numberN s a else (a, 4) := by
  cases d with
  | zero => unfold valN; rw [h]; simp only [if_true]
  | succ d => unfold valN; rw [h]; simp only [Nat.succ_ne_zero, if_false, Nat.add_sub_cancel]
set_option maxHeartbeats 8000000 in
theorem rval_step (s : Bs) (hs : s.length ≤ 1000000) (MK : MarkOK s) (WO : WordOK s) (NO : NumOK s) (d : Nat) (VO : d ≠ 0 → ValOK s (d - 1)) : ValOK s d := by
  intro R a deep w hdd ha h hg
  refine Lib.hid ?_
  have HRB := Lib.hid h
  have HRG := Lib.hid hg
  have HD : Hid (RK R w w.drew.drew ∧ RB w.drew.drew R s a 0 ∧ RG w.drew.drew R) := Lib.hid ⟨(RK.drew R w).trans (RK.drew R _), h, hg.keep ((RK.drew R w).trans (RK.drew R _))⟩
  have HD1 : Hid (RK R w w.drew ∧ RB w.drew R s a 0) := Lib.hid ⟨RK.drew R w, h⟩
  obtain ⟨c0, c1, c2, z1, z2⟩ := h.cells
  have d0 : w.drew.cell? ⟨R, 0, none⟩ = some (.string ⟨s.toArray⟩) := c0
  have d1 : w.drew.cell? ⟨R, 1, none⟩ = some (.int .i64 (a : Int)) := c1
  unfold ValE
  by_cases hlt : a < s.length
  · obtain ⟨b, hb⟩ : ∃ b, (⟨s.toArray⟩ : ByteArray)[a]'(by rw [size_mk]; exact hlt) = b := ⟨_, rfl⟩
    have hbk : s[a]? = some b := by rw [List.getElem?_eq_getElem hlt, ← hb]; rfl
    have hv := valN_at (d := d) hbk
    obtain ⟨r, hr⟩ : ∃ r, valN s d a = r := ⟨_, rfl⟩
    rw [hr] at hv ⊢
    obtain ⟨kk, hkk⟩ : ∃ kk, decide (s[a]? = some 123) = kk := ⟨_, rfl⟩
    rw [hkk]
    rw [hbk] at hkk
    have b1 : (0 : Int) ≤ (a : Int) := by omega
    have b2 : (a : Int) < (s.length : Int) := by omega
    have b4 : ((a : Int) == (s.length : Int)) = false := by rw [beq_eq_false_iff_ne]; omega
    clear h hg hr
    by_cases h110 : b = 110
    · subst h110
      obtain rfl : false = kk := hkk
      rw [if_pos rfl] at hv
      subst hv
      have CL := fun W h => (WO a _ _ (.inl ⟨hbk, rfl, rfl⟩) R W h).out
      unfold ValE at CL
      have CLH := Lib.hid CL
      clear CL
      clear hbk VO MK WO NO
      go_enter Tryz.func103, Tryz.ntmps103
      go_wp2_with fail
      go_region_held3 (fun w' => w'.cell? ⟨R, 0, none⟩ = some (.string ⟨s.toArray⟩) ∧ w'.cell? ⟨R, 1, none⟩ = some (.int .i64 (a : Int))) (first | assumption | exact ⟨c0, c1⟩) (fail)
      go_wp2_with fail
      go_region_held3 (fun w' => w'.cell? ⟨R, 0, none⟩ = some (.string ⟨s.toArray⟩) ∧ w'.cell? ⟨R, 1, none⟩ = some (.int .i64 (a : Int))) (first | assumption | exact ⟨d0, d1⟩) (fail)
      go_wp2_with fail
      with_reducible refine (CLH.out _ HD.out.2.1).mono ?_
      rintro e w9 ⟨⟨v9, rfl, hv9⟩, hk9, hr9⟩
      have HR9 := Lib.hid hr9
      clear hr9
      go_wp2_with fail
      go_ret
      exact ⟨⟨_, rfl, hv9⟩, HD.out.1.trans hk9, HR9.out⟩
    rw [if_neg h110] at hv
    by_cases h102 : b = 102
    · subst h102
      obtain rfl : false = kk := hkk
      rw [if_pos rfl] at hv
      subst hv
      have CL := fun W h => (WO a _ _ (.inr (.inl ⟨hbk, rfl, rfl⟩)) R W h).out
      unfold ValE at CL
      have CLH := Lib.hid CL
      clear CL
      clear hbk VO MK WO NO
      go_enter Tryz.func103, Tryz.ntmps103
      go_wp2_with fail
      go_region_held3 (fun w' => w'.cell? ⟨R, 0, none⟩ = some (.string ⟨s.toArray⟩) ∧ w'.cell? ⟨R, 1, none⟩ = some (.int .i64 (a : Int))) (first | assumption | exact ⟨c0, c1⟩) (fail)
      go_wp2_with fail
      go_region_held3 (fun w' => w'.cell? ⟨R, 0, none⟩ = some (.string ⟨s.toArray⟩) ∧ w'.cell? ⟨R, 1, none⟩ = some (.int .i64 (a : Int))) (first | assumption | exact ⟨d0, d1⟩) (fail)
      go_wp2_with fail
      with_reducible refine (CLH.out _ HD.out.2.1).mono ?_
      rintro e w9 ⟨⟨v9, rfl, hv9⟩, hk9, hr9⟩
      have HR9 := Lib.hid hr9
      clear hr9
      go_wp2_with fail
      go_ret
      exact ⟨⟨_, rfl, hv9⟩, HD.out.1.trans hk9, HR9.out⟩
    rw [if_neg h102] at hv
    by_cases h116 : b = 116
    · subst h116
      obtain rfl : false = kk := hkk
      rw [if_pos rfl] at hv
      subst hv
      have CL := fun W h => (WO a _ _ (.inr (.inr ⟨hbk, rfl, rfl⟩)) R W h).out
      unfold ValE at CL
      have CLH := Lib.hid CL
      clear CL
      clear hbk VO MK WO NO
      go_enter Tryz.func103, Tryz.ntmps103
      go_wp2_with fail
      go_region_held3 (fun w' => w'.cell? ⟨R, 0, none⟩ = some (.string ⟨s.toArray⟩) ∧ w'.cell? ⟨R, 1, none⟩ = some (.int .i64 (a : Int))) (first | assumption | exact ⟨c0, c1⟩) (fail)
      go_wp2_with fail
      go_region_held3 (fun w' => w'.cell? ⟨R, 0, none⟩ = some (.string ⟨s.toArray⟩) ∧ w'.cell? ⟨R, 1, none⟩ = some (.int .i64 (a : Int))) (first | assumption | exact ⟨d0, d1⟩) (fail)
      go_wp2_with fail
      with_reducible refine (CLH.out _ HD.out.2.1).mono ?_
      rintro e w9 ⟨⟨v9, rfl, hv9⟩, hk9, hr9⟩
      have HR9 := Lib.hid hr9
      clear hr9
      go_wp2_with fail
      go_ret
      exact ⟨⟨_, rfl, hv9⟩, HD.out.1.trans hk9, HR9.out⟩
    rw [if_neg h116] at hv
    by_cases h34 : b = 34
    · subst h34
      obtain rfl : false = kk := hkk
      rw [if_pos rfl] at hv
      subst hv
      have CL := fun W h hg => rtext_any R s hs MK a ha W h hg
      unfold TextE at CL
      have CLH := Lib.hid CL
      clear CL
      clear hbk VO MK WO NO
      go_enter Tryz.func103, Tryz.ntmps103
      go_wp2_with fail
      go_region_held3 (fun w' => w'.cell? ⟨R, 0, none⟩ = some (.string ⟨s.toArray⟩) ∧ w'.cell? ⟨R, 1, none⟩ = some (.int .i64 (a : Int))) (first | assumption | exact ⟨c0, c1⟩) (fail)
      go_wp2_with fail
      go_region_held3 (fun w' => w'.cell? ⟨R, 0, none⟩ = some (.string ⟨s.toArray⟩) ∧ w'.cell? ⟨R, 1, none⟩ = some (.int .i64 (a : Int))) (first | assumption | exact ⟨d0, d1⟩) (fail)
      go_wp2_with fail
      with_reducible refine (CLH.out _ HD.out.2.1 HD.out.2.2).mono ?_
      rintro e w9 ⟨rfl, hk9, hr9⟩
      have HR9 := Lib.hid hr9
      clear hr9
      go_wp2_with fail
      go_ret
      exact ⟨⟨_, rfl, .inr (.inr (.inl ⟨_, rfl⟩))⟩, HD.out.1.trans hk9, HR9.out⟩
    rw [if_neg h34] at hv
    by_cases h91 : b = 91
    · subst h91
      obtain rfl : false = kk := hkk
      rw [if_pos rfl] at hv

      have CL := fun W h hg => rlist_any s hs d VO R a deep hdd hbk W h hg
      rw [← hv] at CL
      clear hv
      unfold ValE at CL
      have CLH := Lib.hid CL
      clear CL
      clear hbk VO MK WO NO
      go_enter Tryz.func103, Tryz.ntmps103
      go_wp2_with fail
      go_region_held3 (fun w' => w'.cell? ⟨R, 0, none⟩ = some (.string ⟨s.toArray⟩) ∧ w'.cell? ⟨R, 1, none⟩ = some (.int .i64 (a : Int))) (first | assumption | exact ⟨c0, c1⟩) (fail)
      go_wp2_with fail
      go_region_held3 (fun w' => w'.cell? ⟨R, 0, none⟩ = some (.string ⟨s.toArray⟩) ∧ w'.cell? ⟨R, 1, none⟩ = some (.int .i64 (a : Int))) (first | assumption | exact ⟨d0, d1⟩) (fail)
      go_wp2_with fail
      with_reducible refine (CLH.out _ HD.out.2.1 HD.out.2.2).mono ?_
      rintro e w9 ⟨⟨v9, rfl, hv9⟩, hk9, hr9⟩
      have HR9 := Lib.hid hr9
      clear hr9
      go_wp2_with fail
      go_ret
      exact ⟨⟨_, rfl, hv9⟩, HD.out.1.trans hk9, HR9.out⟩
    rw [if_neg h91] at hv
    by_cases h123 : b = 123
    · subst h123
      obtain rfl : true = kk := hkk
      rw [if_pos rfl] at hv

      have CL := fun W h hg => robj_any s hs MK d VO R a deep hdd hbk W h hg
      rw [← hv] at CL
      clear hv
      unfold ValE at CL
      have CLH := Lib.hid CL
      clear CL
      clear hbk VO MK WO NO
      go_enter Tryz.func103, Tryz.ntmps103
      go_wp2_with fail
      go_region_held3 (fun w' => w'.cell? ⟨R, 0, none⟩ = some (.string ⟨s.toArray⟩) ∧ w'.cell? ⟨R, 1, none⟩ = some (.int .i64 (a : Int))) (first | assumption | exact ⟨c0, c1⟩) (fail)
      go_wp2_with fail
      go_region_held3 (fun w' => w'.cell? ⟨R, 0, none⟩ = some (.string ⟨s.toArray⟩) ∧ w'.cell? ⟨R, 1, none⟩ = some (.int .i64 (a : Int))) (first | assumption | exact ⟨d0, d1⟩) (fail)
      go_wp2_with fail
      with_reducible refine (CLH.out _ HD.out.2.1 HD.out.2.2).mono ?_
      rintro e w9 ⟨⟨v9, rfl, hv9⟩, hk9, hr9⟩
      have HR9 := Lib.hid hr9
      clear hr9
      go_wp2_with fail
      go_ret
      exact ⟨⟨_, rfl, hv9⟩, HD.out.1.trans hk9, HR9.out⟩
    rw [if_neg h123] at hv
    obtain rfl : false = kk := by rw [← hkk]; symm; exact decide_eq_false (by intro e; injection e with e; exact h123 e)
    have t110 : ((b.toNat : Int) == 110) = false := by rw [beq_eq_false_iff_ne]; intro e; exact h110 (UInt8.toNat.inj (by simpa using (by omega : b.toNat = 110)))
    have t102 : ((b.toNat : Int) == 102) = false := by rw [beq_eq_false_iff_ne]; intro e; exact h102 (UInt8.toNat.inj (by simpa using (by omega : b.toNat = 102)))
    have t116 : ((b.toNat : Int) == 116) = false := by rw [beq_eq_false_iff_ne]; intro e; exact h116 (UInt8.toNat.inj (by simpa using (by omega : b.toNat = 116)))
    have t34 : ((b.toNat : Int) == 34) = false := by rw [beq_eq_false_iff_ne]; intro e; exact h34 (UInt8.toNat.inj (by simpa using (by omega : b.toNat = 34)))
    have t91 : ((b.toNat : Int) == 91) = false := by rw [beq_eq_false_iff_ne]; intro e; exact h91 (UInt8.toNat.inj (by simpa using (by omega : b.toNat = 91)))
    have t123 : ((b.toNat : Int) == 123) = false := by rw [beq_eq_false_iff_ne]; intro e; exact h123 (UInt8.toNat.inj (by simpa using (by omega : b.toNat = 123)))
    by_cases h45 : b = 45
    · subst h45
      rw [if_pos (.inl rfl)] at hv
      subst hv
      have CL := fun W h hg => (NO a _ hbk (.inl rfl) R W h hg).out
      unfold ValE at CL
      have CLH := Lib.hid CL
      clear CL hbk VO MK WO NO
      go_enter Tryz.func103, Tryz.ntmps103
      go_wp2_with fail
      go_region_held3 (fun w' => w'.cell? ⟨R, 0, none⟩ = some (.string ⟨s.toArray⟩) ∧ w'.cell? ⟨R, 1, none⟩ = some (.int .i64 (a : Int))) (first | assumption | exact ⟨c0, c1⟩) (fail)
      go_wp2_with fail
      go_region_held3 (fun w' => w'.cell? ⟨R, 0, none⟩ = some (.string ⟨s.toArray⟩) ∧ w'.cell? ⟨R, 1, none⟩ = some (.int .i64 (a : Int))) (first | assumption | exact ⟨d0, d1⟩) (fail)
      go_wp2_with fail
      with_reducible refine (CLH.out _ HD.out.2.1 HD.out.2.2).mono ?_
      rintro e w9 ⟨⟨v9, rfl, hv9⟩, hk9, hr9⟩
      have HR9 := Lib.hid hr9
      clear hr9
      go_wp2_with fail
      go_ret
      exact ⟨⟨_, rfl, hv9⟩, HD.out.1.trans hk9, HR9.out⟩
    have t45 : ((b.toNat : Int) == 45) = false := by rw [beq_eq_false_iff_ne]; intro e; exact h45 (UInt8.toNat.inj (by simpa using (by omega : b.toNat = 45)))
    have IX := fun w => Lib.hid (ixd_any b w)
    have hix := digB_ix b
    generalize Lib.indexByte [48, 49, 50, 51, 52, 53, 54, 55, 56, 57] b = ix at *
    by_cases hdg : digB b = true
    · rw [if_pos (.inr hdg)] at hv
      subst hv
      rw [hdg, decide_eq_true_iff] at hix
      have CL := fun W h hg => (NO a _ hbk (.inr hdg) R W h hg).out
      unfold ValE at CL
      have CLH := Lib.hid CL
      clear CL hbk VO MK WO NO
      go_enter Tryz.func103, Tryz.ntmps103
      go_wp2_with fail
      go_region_held3 (fun w' => w'.cell? ⟨R, 0, none⟩ = some (.string ⟨s.toArray⟩) ∧ w'.cell? ⟨R, 1, none⟩ = some (.int .i64 (a : Int))) (first | assumption | exact ⟨c0, c1⟩) (fail)
      go_wp2_with fail
      go_region_held3 (fun w' => w'.cell? ⟨R, 0, none⟩ = some (.string ⟨s.toArray⟩) ∧ w'.cell? ⟨R, 1, none⟩ = some (.int .i64 (a : Int))) (first | assumption | exact ⟨d0, d1⟩) (fail)
      go_wp2_with fail
      with_reducible refine (IX _).out.mono ?_
      rintro e w8 ⟨rfl, rfl⟩
      go_wp2_with fail
      with_reducible refine (CLH.out _ HD.out.2.1 HD.out.2.2).mono ?_
      rintro e w9 ⟨⟨v9, rfl, hv9⟩, hk9, hr9⟩
      have HR9 := Lib.hid hr9
      clear hr9
      go_wp2_with fail
      go_ret
      exact ⟨⟨_, rfl, hv9⟩, HD.out.1.trans hk9, HR9.out⟩
    · rw [if_neg (fun e => e.elim h45 hdg)] at hv
      subst hv
      have hdg' : digB b = false := by simpa using hdg
      rw [hdg', decide_eq_false_iff_not] at hix
      have CL := fun W h => rwrong_any R s a ha 0 W h
      unfold FailE at CL
      rw [if_neg (by omega : ¬ a = s.length)] at CL
      simp only [if_true] at CL
      have CLH := Lib.hid CL
      clear CL hbk VO MK WO NO hdg'
      go_enter Tryz.func103, Tryz.ntmps103
      go_wp2_with fail
      go_region_held3 (fun w' => w'.cell? ⟨R, 0, none⟩ = some (.string ⟨s.toArray⟩) ∧ w'.cell? ⟨R, 1, none⟩ = some (.int .i64 (a : Int))) (first | assumption | exact ⟨c0, c1⟩) (fail)
      go_wp2_with fail
      go_region_held3 (fun w' => w'.cell? ⟨R, 0, none⟩ = some (.string ⟨s.toArray⟩) ∧ w'.cell? ⟨R, 1, none⟩ = some (.int .i64 (a : Int))) (first | assumption | exact ⟨d0, d1⟩) (fail)
      go_wp2_with fail
      with_reducible refine (IX _).out.mono ?_
      rintro e w8 ⟨rfl, rfl⟩
      go_wp2_with fail
      with_reducible refine (CLH.out _ HD.out.2.1).mono ?_
      rintro e w9 ⟨rfl, hk9, hr9⟩
      have HR9 := Lib.hid hr9
      clear hr9
      go_wp2_with fail
      go_ret
      exact ⟨⟨_, rfl, .inl rfl⟩, HD.out.1.trans hk9, HR9.out⟩
  · obtain rfl : a = s.length := by omega
    have hn : s[s.length]? = none := List.getElem?_eq_none (Nat.le_refl _)
    have hv : valN s d s.length = (s.length, 3) := by cases d <;> (unfold valN; rw [hn])
    rw [hv, hn, decide_eq_false (by simp)]
    have b4 : ((s.length : Int) == (s.length : Int)) = true := by rw [beq_iff_eq]
    have CL := fun W h => rwrong_any R s s.length ha 0 W h
    unfold FailE at CL
    simp only [if_true] at CL
    have CLH := Lib.hid CL
    clear h hg hlt hn hv CL d0 d1 VO MK WO NO
    go_enter Tryz.func103, Tryz.ntmps103
    go_wp2_with fail
    go_region_held3 (fun w' => w'.cell? ⟨R, 0, none⟩ = some (.string ⟨s.toArray⟩) ∧ w'.cell? ⟨R, 1, none⟩ = some (.int .i64 (s.length : Int))) (first | assumption | exact ⟨c0, c1⟩) (fail)
    go_wp2_with fail
    with_reducible refine (CLH.out _ HD1.out.2).mono ?_
    rintro e w9 ⟨rfl, hk9, hr9⟩
    have HR9 := Lib.hid hr9
    clear hr9
    go_wp2_with fail
    go_ret
    exact ⟨⟨_, rfl, .inl rfl⟩, HD1.out.1.trans hk9, HR9.out⟩
theorem rval_any (s : Bs) (hs : s.length ≤ 1000000) (MK : MarkOK s) (WO : WordOK s) (NO : NumOK s) : ∀ d, ValOK s d := by
  intro d
  induction d with
  | zero => exact rval_step s hs MK WO NO 0 (fun h => absurd rfl h)
  | succ d ih => exact rval_step s hs MK WO NO (d + 1) (fun _ => ih)
end Go.Proofs.YtcfmidmokciofaaGreatDoor
/- Walks: notes.Take, press.Check at every text, given mark, word and number. -/
namespace Go.Proofs.YtcfmidmokciofaaGreatDoor
open Go.RowKit Go.Gz Go.Shelf

set_option maxRecDepth 100000
def NTakeE (w : World) (s : Bs) (e : Ending) (w' : World) : Prop := (∃ v n, e = .returned (.tuple #[v, .int .i64 n, .int .i64 (noteN s)]) ∧ (noteN s = 0 → KV (decide (s[blkA s 0]? = some 123)) v)) ∧ Up w w'
set_option maxHeartbeats 2000000 in
theorem ntake_any (s : Bs) (hs : s.length ≤ 1000000) (VO : ValOK s 4) (w : World) (hg : Gl w) :
    Calls Tryz.prog 48 #[.string ⟨s.toArray⟩] w (NTakeE w s) := by
  unfold NTakeE
  by_cases hbig : 4096 < s.length
  · have hn : noteN s = 5 := by unfold noteN; rw [if_pos hbig]
    rw [hn]
    have b1 : (4096 : Int) < (s.length : Int) := by omega
    clear hn VO
    go_enter Tryz.func48, Tryz.ntmps48
    go_wp2_with fail
    go_ret3
    first
      | exact ⟨⟨_, _, rfl, fun h => absurd h (by decide)⟩, Up.refl w⟩
      | exact ⟨⟨_, _, rfl⟩, Up.refl w⟩
  obtain ⟨X, hX⟩ : ∃ x, w.alloc (.cells #[.string ⟨s.toArray⟩, .int .i64 0, .int .i64 0] 202) = x := ⟨_, rfl⟩
  have hu : Up w X := by rw [← hX]; exact (Up.refl w).alloc _
  have hr0 : RB X w.heap.size s 0 0 := by rw [← hX]; exact heap_alloc_new w _
  have hrg : RG X w.heap.size := by rw [← hX]; exact RG.of hg _
  have BL := fun k hk w1 h => Lib.hid (rblank_any w.heap.size s (by omega) k hk 0 w1 h)
  have FL := fun a b F w1 h => Lib.hid (rfail0 w.heap.size s a b F w1 h)
  have b1 : ¬ (4096 : Int) < (s.length : Int) := by omega
  have b2 : ¬ 4096 < s.length := by omega
  have hq0 : blkA s 0 ≤ s.length := blkA_le (by omega)
  have hup : ∀ {w' : World}, RK w.heap.size w w' → Up w w' := fun hk => Up.of (Below.grown (Below.refl _ w) hk (Nat.le_refl _) (fun k hk => by injection hk with hk; omega))
  have HUP := Lib.hid (fun (w' : World) (hk : RK w.heap.size w w') => hup hk)
  have hn : noteN s = if (valN s 4 (blkA s 0)).2 ≠ 0 then (valN s 4 (blkA s 0)).2 else if blkA s (valN s 4 (blkA s 0)).1 < s.length then 4 else 0 := by unfold noteN; rw [if_neg hbig]
  have hle := valN_le s 4 (blkA s 0) hq0
  obtain ⟨N, hN⟩ : ∃ N, noteN s = N := ⟨_, rfl⟩
  rw [hN] at hn ⊢
  clear hN
  have VC : ∀ w1, RB w1 w.heap.size s (blkA s 0) 0 → RG w1 w.heap.size → Hid (Calls Tryz.prog 103 #[.pointer (some ⟨w.heap.size, 0, none⟩), .int .i64 1] w1 (ValE w1 w.heap.size s (decide (s[blkA s 0]? = some 123)) (valN s 4 (blkA s 0)))) := fun w1 h1 h2 => VO w.heap.size (blkA s 0) 1 w1 rfl hq0 h1 h2
  unfold ValE at VC
  obtain ⟨q, hqq⟩ : ∃ q, blkA s 0 = q := ⟨_, rfl⟩
  rw [hqq] at VC hn hle hq0 ⊢
  generalize decide (s[q]? = some 123) = kk at *
  obtain ⟨⟨p, E⟩, hr⟩ : ∃ r, valN s 4 q = r := ⟨_, rfl⟩
  rw [hr] at VC hn hle
  simp only at VC hn hle
  have BL0 := fun w1 h => (BL 0 (by omega) w1 h).out
  rw [hqq] at BL0
  have BLH := Lib.hid BL0
  have HU := Lib.hid hu
  have HX := Lib.hid hX
  clear hr hqq BL0 VO hbig hX hup
  go_enter Tryz.func48, Tryz.ntmps48
  go_wp2_with fail
  rw [HX.out]
  with_reducible refine (BLH.out _ hr0).mono ?_
  rintro e w1 ⟨rfl, hk1, hr1⟩
  have hg1 := hrg.keep hk1
  go_wp2_with fail
  with_reducible refine (VC _ hr1 hg1).out.mono ?_
  rintro e w2 ⟨⟨v, rfl, hv⟩, hk2, hr2⟩
  have HK2 := Lib.hid ((RK.up HU.out).trans (hk1.trans hk2))
  have HR2 := Lib.hid hr2
  have HV := Lib.hid hv
  obtain ⟨c0, c1, c2, z1, z2⟩ := hr2.cells
  clear hr2 hr1 hr0 hk1 hk2 hg1 hrg hv hu
  by_cases hE : E = 0
  · subst hE
    rw [if_neg (by simp)] at hn
    have hp := hle rfl
    have BLP := Lib.hid (BL p hp w2 HR2.out)
    have hpp : blkA s p ≤ s.length := blkA_le hp
    generalize blkA s p = y at *
    go_wp2_with fail
    with_reducible refine BLP.out.out.mono ?_
    rintro e w3 ⟨rfl, hk3, hr3⟩
    have HR3 := Lib.hid hr3
    have HK3 := Lib.hid (HK2.out.trans hk3)
    obtain ⟨e0, e1, e2, y1, y2⟩ := hr3.cells
    clear c0 c1 c2 z1 z2 hr3 hk3 hle
    by_cases hlt : y < s.length
    · rw [if_pos hlt] at hn
      subst hn
      have b3 : (y : Int) < (s.length : Int) := by omega
      go_wp2_with fail
      with_reducible refine (FL y y 4 _ HR3.out).out.mono ?_
      rintro e w4 ⟨rfl, hk4, hr4⟩
      obtain ⟨f0, f1, f2, x1, x2⟩ := hr4.cells
      have HK4 := Lib.hid (HK3.out.trans hk4)
      clear hr4 hk4 e0 e1 e2 y1 y2
      go_wp2_with fail
      go_region_held3 (fun w' => w'.cell? ⟨w.heap.size, 1, none⟩ = some (.int .i64 (y : Int)) ∧ w'.cell? ⟨w.heap.size, 2, none⟩ = some (.int .i64 4)) (first | assumption | exact ⟨f1, f2⟩) (fail)
      go_wp2_with fail
      go_ret3
      first
        | exact ⟨⟨_, _, rfl, fun h => absurd h (by decide)⟩, HUP.out _ (HK4.out.trans (RK.drew _ _))⟩
        | exact ⟨⟨_, _, rfl⟩, HUP.out _ (HK4.out.trans (RK.drew _ _))⟩
    · rw [if_neg hlt] at hn
      subst hn
      have b3 : ¬ (y : Int) < (s.length : Int) := by omega
      go_wp2_with fail
      go_ret3
      first
        | exact ⟨⟨v, _, rfl, fun _ => HV.out⟩, HUP.out _ HK3.out⟩
        | exact ⟨⟨v, ⟨_, rfl⟩, HV.out⟩, HUP.out _ HK3.out⟩
  · rw [if_pos hE] at hn
    have hn' := hn.symm
    subst hn'
    clear hn
    have e0b : (E == 0) = false := by rw [beq_eq_false_iff_ne]; exact hE
    have e1b : (E != 0) = true := by rw [bne_iff_ne]; exact hE
    clear hle
    go_wp2_with fail
    go_region_held3 (fun w' => w'.cell? ⟨w.heap.size, 1, none⟩ = some (.int .i64 (p : Int)) ∧ w'.cell? ⟨w.heap.size, 2, none⟩ = some (.int .i64 E)) (first | assumption | exact ⟨c1, c2⟩) (fail)
    go_wp2_with fail
    go_ret3
    first
      | exact ⟨⟨_, _, rfl, fun h => absurd h hE⟩, HUP.out _ (HK2.out.trans (RK.drew _ _))⟩
      | exact ⟨⟨_, _, rfl⟩, HUP.out _ (HK2.out.trans (RK.drew _ _))⟩
end Go.Proofs.YtcfmidmokciofaaGreatDoor
/- Walk: press.Check at every text, given mark, word and number. -/
namespace Go.Proofs.YtcfmidmokciofaaGreatDoor
open Go.RowKit Go.Gz Go.Shelf

set_option maxRecDepth 100000
set_option maxHeartbeats 2000000 in
theorem pcheck_any (b : Int) (kind : Nat) (s : Bs) (hs : s.length ≤ 1000000) (VO : ValOK s 4) (w : World) (hg : Gl w) :
    Calls Tryz.prog 22 #[.agg #[.int .i64 b, .int .u8 (kind : Int), .string ⟨s.toArray⟩]] w fun e w' => e = .returned (.int .i64 (planN b kind s)) ∧ Up w w' := by
  have h0 := heap_alloc_new w (.cells #[.int .i64 b, .int .u8 (kind : Int), .string ⟨s.toArray⟩] 51)
  have hu := (Up.refl w).alloc (.cells #[.int .i64 b, .int .u8 (kind : Int), .string ⟨s.toArray⟩] 51)
  have c0 := blkc h0 0 _ rfl
  have c1 := blkc h0 1 _ rfl
  have c2 := blkc h0 2 _ rfl
  have hg1 := hg.up hu
  have HU := Lib.hid hu
  clear h0 hu
  by_cases t0 : b < 512
  · have hn : planN b kind s = 15 := by unfold planN; rw [if_pos (.inl t0)]
    rw [hn]
    clear hn VO hg1
    go_enter Tryz.func22, Tryz.ntmps22
    go_wp2_with fail
    go_ret
    exact ⟨rfl, HU.out⟩
  by_cases t1 : 16257 < b
  · have hn : planN b kind s = 15 := by unfold planN; rw [if_pos (.inr t1)]
    rw [hn]
    clear hn VO hg1
    go_enter Tryz.func22, Tryz.ntmps22
    go_wp2_with fail
    go_ret
    exact ⟨rfl, HU.out⟩
  by_cases t3 : 5 < kind
  · have hn : planN b kind s = 14 := by unfold planN; rw [if_neg (fun e => e.elim t0 t1), if_pos t3]
    rw [hn]
    have t2 : 5 < (kind : Int) := by omega
    clear hn VO hg1
    go_enter Tryz.func22, Tryz.ntmps22
    go_wp2_with fail
    go_ret
    exact ⟨rfl, HU.out⟩
  have t2 : ¬ 5 < (kind : Int) := by omega
  have NT := Lib.hid (fun w1 h => ntake_any s hs VO w1 h)
  have hn : planN b kind s = if noteN s ≠ 0 then noteN s else if s[blkA s 0]? = some 123 then 0 else 4 := by unfold planN; rw [if_neg (fun e => e.elim t0 t1), if_neg t3]
  unfold NTakeE at NT
  generalize noteN s = E at *
  clear VO
  by_cases hE : E = 0
  · subst hE
    rw [if_neg (by simp)] at hn
    by_cases hk : s[blkA s 0]? = some 123
    · rw [if_pos hk] at hn
      rw [decide_eq_true hk] at NT
      rw [hn]
      clear hn hk
      go_enter Tryz.func22, Tryz.ntmps22
      go_wp2_with fail
      with_reducible refine (NT.out _ hg1).mono ?_
      rintro e w1 ⟨⟨v, n, rfl, hv⟩, hu1⟩
      obtain ⟨V, rfl⟩ := (by simpa [KV] using hv (by trivial) : ∃ V, v = .iface 112 V)
      have hta : ∀ w, (Instr.typeAssert (.iface 112 V) 20 112 true).run Tryz.prog w = .ok (.tuple #[V, .bool true]) w := fun w => by kernel_rfl
      clear hv
      go_wp2_with fail
      go_ret
      exact ⟨rfl, HU.out.trans hu1⟩
    · rw [if_neg hk] at hn
      rw [decide_eq_false hk] at NT
      rw [hn]
      clear hn hk
      go_enter Tryz.func22, Tryz.ntmps22
      go_wp2_with fail
      with_reducible refine (NT.out _ hg1).mono ?_
      rintro e w1 ⟨⟨v, n, rfl, hv⟩, hu1⟩
      have hv2 := hv (by trivial)
      unfold KV at hv2
      rw [if_neg (by simp)] at hv2
      clear hv
      rcases hv2 with rfl | ⟨V, rfl⟩ | ⟨V, rfl⟩ | ⟨V, rfl⟩ | ⟨V, rfl⟩
      · have hta : ∀ w, (Instr.typeAssert .nilIface 20 112 true).run Tryz.prog w = .ok (.tuple #[.slice none 0 0, .bool false]) w := fun w => by kernel_rfl
        go_wp2_with fail
        go_ret
        exact ⟨rfl, HU.out.trans hu1⟩
      · have hta : ∀ w, (Instr.typeAssert (.iface 3 V) 20 112 true).run Tryz.prog w = .ok (.tuple #[.slice none 0 0, .bool false]) w := fun w => by kernel_rfl
        go_wp2_with fail
        go_ret
        exact ⟨rfl, HU.out.trans hu1⟩
      · have hta : ∀ w, (Instr.typeAssert (.iface 9 V) 20 112 true).run Tryz.prog w = .ok (.tuple #[.slice none 0 0, .bool false]) w := fun w => by kernel_rfl
        go_wp2_with fail
        go_ret
        exact ⟨rfl, HU.out.trans hu1⟩
      · have hta : ∀ w, (Instr.typeAssert (.iface 4 V) 20 112 true).run Tryz.prog w = .ok (.tuple #[.slice none 0 0, .bool false]) w := fun w => by kernel_rfl
        go_wp2_with fail
        go_ret
        exact ⟨rfl, HU.out.trans hu1⟩
      · have hta : ∀ w, (Instr.typeAssert (.iface 313 V) 20 112 true).run Tryz.prog w = .ok (.tuple #[.slice none 0 0, .bool false]) w := fun w => by kernel_rfl
        go_wp2_with fail
        go_ret
        exact ⟨rfl, HU.out.trans hu1⟩
  · rw [if_pos hE] at hn
    rw [hn]
    have e1b : (E != 0) = true := by rw [bne_iff_ne]; exact hE
    clear hn
    go_enter Tryz.func22, Tryz.ntmps22
    go_wp2_with fail
    with_reducible refine (NT.out _ hg1).mono ?_
    rintro e w1 ⟨⟨v, n, rfl, hv⟩, hu1⟩
    clear hv
    go_wp2_with fail
    go_ret
    exact ⟨rfl, HU.out.trans hu1⟩
end Go.Proofs.YtcfmidmokciofaaGreatDoor
