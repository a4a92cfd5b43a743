/- Walks: cmp.Compare, slices.BinarySearchFunc, chart.place, chart.wrong. -/
import Derived.Test.YteeenbhmdacdiaaDoorItems
import Derived.Test.YteeenbhmdacdiaaDoorWplace
namespace Go.Gz
def cmpV (a b : Nat) : Int := if a < b then -1 else if b < a then 1 else 0
def Srt (L : Items) : Prop := ∀ i j (hi : i < L.length) (hj : j < L.length), i < j → L[i].1 < L[j].1
def posL (L : Items) (id : Nat) : Nat := (L.takeWhile fun x => decide (x.1 < id)).length
def memL (L : Items) (id : Nat) : Bool := L.any fun x => x.1 == id
theorem posL_eq (L : Items) (id : Nat) : ∀ k, k ≤ L.length → (∀ j (h : j < L.length), j < k → L[j].1 < id) → (∀ (h : k < L.length), id ≤ L[k].1) → posL L id = k := by
  induction L with
  | nil => intro k hk _ _; simp at hk; subst hk; rfl
  | cons x r ih =>
    intro k hk h1 h2
    unfold posL
    cases k with
    | zero =>
      have := h2 (by simp)
      rw [List.takeWhile_cons, if_neg (by simp at this ⊢; omega)]; rfl
    | succ k =>
      have h0 := h1 0 (by simp) (by omega)
      rw [List.takeWhile_cons, if_pos (by simpa using h0)]
      have := ih k (by simpa using hk) (fun j h hj => by have := h1 (j + 1) (by simp; omega) (by omega); simpa using this) (fun h => by have := h2 (by simp; omega); simpa using this)
      unfold posL at this
      simp [this]
theorem memL_at {L : Items} {id : Nat} (hs : Srt L) {k : Nat} (h1 : ∀ j (h : j < L.length), j < k → L[j].1 < id) (h2 : ∀ j (h : j < L.length), k ≤ j → id ≤ L[j].1) :
    memL L id = decide (∃ h : k < L.length, L[k].1 = id) := by
  rw [Bool.eq_iff_iff]
  unfold memL
  simp only [List.any_eq_true, beq_iff_eq, decide_eq_true_eq]
  constructor
  · rintro ⟨x, hx, he⟩
    obtain ⟨j, hj, rfl⟩ := List.getElem_of_mem hx
    rcases Nat.lt_or_ge j k with g | g
    · have := h1 j hj g; omega
    · rcases Nat.lt_or_ge k j with g2 | g2
      · have hk : k < L.length := by omega
        have := hs k j hk hj g2
        have := h2 k hk (Nat.le_refl _)
        omega
      · obtain rfl : j = k := by omega
        exact ⟨hj, he⟩
  · rintro ⟨h, he⟩
    exact ⟨_, List.getElem_mem h, he⟩
def wrongE (id : Nat) (s : Bs) (full : Bool) : Int := if 6004799503160661 ≤ id then 8 else if s = [] then 2 else if 65536 < s.length then 5 else if full then 7 else 0
end Go.Gz
namespace Go.Proofs.YteeenbhmdacdiaaDoor
open Go.RowKit Go.Gz

set_option maxRecDepth 100000
theorem isnan_any (a : Nat) (w : World) : Calls Tryd.prog 101 #[.int .u64 a] w fun e w' => e = .returned (.bool false) ∧ w = w' := by
  go_enter Tryd.func101, Tryd.ntmps101
  go_wp2_with fail
  go_ret
  exact ⟨rfl, rfl⟩
theorem cmp_any (a b : Nat) (w : World) : Calls Tryd.prog 81 #[.int .u64 a, .int .u64 b] w fun e w' => e = .returned (.int .i64 (cmpV a b)) ∧ w = w' := by
  have h0 : cmpV a b = if a < b then -1 else if b < a then 1 else 0 := rfl
  generalize cmpV a b = v at *
  have H0 := Lib.hid h0
  clear h0
  go_enter Tryd.func81, Tryd.ntmps81
  go_wp2_with (go_at_call 101; refine (isnan_any _ _).mono ?_; rintro e w' ⟨rfl, rfl⟩)
  all_goals
    go_ret
    refine ⟨ret_int ?_, rfl⟩
    rw [H0.out]
    first
      | (rw [if_pos (by omega)])
      | (rw [if_neg (by omega), if_pos (by omega)])
      | (rw [if_neg (by omega), if_neg (by omega)])
theorem pl1_any (a b : Nat) (t : Bs) (w : World) : Calls Tryd.prog 88 #[.agg #[.int .u64 a, .string ⟨t.toArray⟩], .int .u64 b] w fun e w' => e = .returned (.int .i64 (cmpV a b)) ∧ Up w w' := by
  have C := fun w => Lib.hid (cmp_any a b w)
  generalize cmpV a b = v at *
  go_enter Tryd.func88, Tryd.ntmps88
  go_wp2_with fail
  refine (C _).out.mono ?_
  rintro e w' ⟨rfl, rfl⟩
  go_wp2_with fail
  go_ret
  exact ⟨rfl, (Up.refl w).alloc _⟩
def BsRel (w : World) (L : Items) (id gk : Nat) (i j : Value) (wr : World) : Prop := ∃ a b : Nat, i = .int .i64 a ∧ j = .int .i64 b ∧ a ≤ b ∧ b ≤ L.length ∧ b - a ≤ gk ∧
  (∀ k (h : k < L.length), k < a → L[k].1 < id) ∧ (∀ k (h : k < L.length), b ≤ k → id ≤ L[k].1) ∧ Up w wr
set_option maxHeartbeats 2000000 in
theorem bs_any (L : Items) (hl : L.length ≤ 1000000) (id : Nat) (A : Option Addr) (c : Nat) (hs : Srt L) (w : World) (hr : Rd w 2 A L.length c (itV L)) :
    Calls Tryd.prog 87 #[.slice A L.length c, .int .u64 id, .func (.func 88) #[] #[]] w fun e w' => e = .returned (.tuple #[.int .i64 (posL L id), .bool (memL L id)]) ∧ Up w w' := by
  have HR := Lib.hid hr
  have HS := Lib.hid hs
  clear hr hs
  go_enter Tryd.func87, Tryd.ntmps87
  go_wp2_with fail
  go_loopg [9, 10] L.length (fun gk i j wr => BsRel w L id gk i j wr)
  case atStart => exact ⟨0, L.length, rfl, rfl, by omega, by omega, by omega, fun k _ h => absurd h (by omega), fun k h h2 => absurd h2 (by omega), Up.refl w⟩
  case round =>
    obtain ⟨a, b, rfl, rfl, hab, hbn, hg, hlo, hhi, hu⟩ := hrel
    have LO := Lib.hid hlo
    have HI := Lib.hid hhi
    have HU := Lib.hid hu
    clear hlo hhi
    by_cases hlt : a < b
    · obtain ⟨m, rfl⟩ : ∃ m, gk = m + 1 := ⟨gk - 1, by omega⟩
      obtain ⟨h, hh⟩ : ∃ h : Nat, h = (a + b) / 2 := ⟨_, rfl⟩
      have h1 : a ≤ h := by omega
      have h2 : h < b := by omega
      have hltI : (a : Int) < (b : Int) := by omega
      have e1 : IntKind.i64.wrap ((a : Int) + (b : Int)) = (a : Int) + (b : Int) := IntWalk.i64_in _ (by omega)
      have e2 : IntKind.u64.wrap ((a : Int) + (b : Int)) = (a : Int) + (b : Int) := IntWalk.u64_in _ (by omega)
      have e3 : ((a : Int) + (b : Int)) / 2 = (h : Int) := by omega
      have e4 : IntKind.i64.wrap (h : Int) = (h : Int) := IntWalk.i64_in _ (by omega)
      obtain ⟨B, o, rfl, hc1, hc2⟩ := (HR.out.up hu).item (k := h) (by omega)
      obtain ⟨⟨xid, xt⟩, hx⟩ : ∃ x, L[h]'(Nat.lt_of_lt_of_le h2 hbn) = x := ⟨_, rfl⟩
      rw [hx] at hc1 hc2
      have HX := Lib.hid hx
      clear hx hu
      have hh2 : 2 * h ≤ a + b ∧ a + b ≤ 2 * h + 1 := by omega
      clear hh
      simp only at hc1 hc2
      have PL := fun w => Lib.hid (pl1_any xid id xt w)
      by_cases hc : xid < id
      · have PL := fun w => Lib.hid (pl1_any xid id xt w)
        rw [show cmpV xid id = -1 by unfold cmpV; rw [if_pos hc]] at PL
        go_wp2_with fail
        refine (PL _).out.mono ?_
        rintro e w1 ⟨rfl, hu1⟩
        go_wp2_with fail
        go_roundg m
        case measure => omega
        case rel =>
          refine ⟨h + 1, b, by go_num, rfl, by omega, hbn, by omega, fun k hk hkh => ?_, HI.out, HU.out.trans hu1⟩
          rcases Nat.lt_or_ge k h with g | g
          · have := HS.out k h hk (by omega) g
            rw [HX.out] at this; simp only at this; omega
          · obtain rfl : k = h := by omega
            rw [HX.out]; exact hc
      · have PL := fun w => Lib.hid (pl1_any xid id xt w)
        have hv : 0 ≤ cmpV xid id := by unfold cmpV; rw [if_neg hc]; split <;> omega
        generalize cmpV xid id = v at *
        have hvd : decide (v < 0) = false := by simp; omega
        go_wp2_with fail
        refine (PL _).out.mono ?_
        rintro e w1 ⟨rfl, hu1⟩
        go_wp2_with fail
        go_roundg m
        case measure => omega
        case rel =>
          refine ⟨a, h, rfl, rfl, h1, by omega, by omega, LO.out, fun k hk hkh => ?_, HU.out.trans hu1⟩
          rcases Nat.lt_or_ge h k with g | g
          · have := HS.out h k (by omega) hk g
            rw [HX.out] at this; simp only at this; omega
          · obtain rfl : k = h := by omega
            rw [HX.out]; show id ≤ xid; omega
    · obtain rfl : a = b := by omega
      have HP := Lib.hid (posL_eq L id a hbn LO.out (fun h => HI.out a h (Nat.le_refl _)))
      have HM := Lib.hid (memL_at HS.out LO.out HI.out)
      have hltI : ¬ (a : Int) < (a : Int) := by omega
      clear hlt hltI
      by_cases hn : a < L.length
      · obtain ⟨B, o, rfl, hc1, hc2⟩ := (HR.out.up hu).item (k := a) hn
        obtain ⟨⟨xid, xt⟩, hx⟩ : ∃ x, L[a]'hn = x := ⟨_, rfl⟩
        rw [hx] at hc1 hc2
        simp only at hc1 hc2
        have PL := fun w => Lib.hid (pl1_any xid id xt w)
        have hv : (cmpV xid id == 0) = memL L id := by
          rw [HM.out]
          by_cases e : xid = id
          · rw [decide_eq_true (p := ∃ h : a < L.length, L[a].1 = id) ⟨hn, by rw [hx]; exact e⟩]
            unfold cmpV; rw [if_neg (by omega), if_neg (by omega)]; rfl
          · rw [decide_eq_false (p := ∃ h : a < L.length, L[a].1 = id) (by rintro ⟨_, h⟩; rw [hx] at h; exact e h)]
            unfold cmpV; split
            · rfl
            · rw [if_pos (by omega)]; rfl
        have HV := Lib.hid hv
        clear hx hv hu
        have hnI : (a : Int) < (L.length : Int) := by omega
        go_wp2_with fail
        refine (PL _).out.mono ?_
        rintro e w1 ⟨rfl, hu1⟩
        go_wp2_with fail
        go_ret2
        exact ⟨ret_two (int_eq (by rw [HP.out])) (bool_eq HV.out), HU.out.trans hu1⟩
      · obtain rfl : a = L.length := by omega
        have HM2 := Lib.hid (show memL L id = false by rw [HM.out]; exact decide_eq_false (by rintro ⟨h, _⟩; omega))
        clear hn
        go_wp2_with fail
        go_ret2
        exact ⟨ret_two (int_eq (by rw [HP.out])) (bool_eq HM2.out.symm), HU.out⟩
theorem place12_any (L : Items) (hl : L.length ≤ 1000000) (id : Nat) (A : Option Addr) (c : Nat) (hs : Srt L) (w : World) (hr : Rd w 2 A L.length c (itV L)) :
    Calls Tryd.prog 67 #[.agg #[.slice A L.length c], .int .u64 id] w fun e w' => e = .returned (.tuple #[.int .i64 (posL L id), .bool (memL L id)]) ∧ Up w w' := by
  have BS := fun w hr => Lib.hid (bs_any L hl id A c hs w hr)
  have HR := Lib.hid hr
  clear hr hs
  generalize memL L id = mv at *
  generalize posL L id = pv at *
  go_enter Tryd.func67, Tryd.ntmps67
  have n0 := (Up.refl w).alloc (.cells #[.slice A L.length c] 69)
  go_wp2_with fail
  refine (BS _ (HR.out.up n0)).out.mono ?_
  rintro e w1 ⟨rfl, hu1⟩
  go_wp2_with fail
  go_ret2
  exact ⟨rfl, n0.trans hu1⟩
theorem wrong12_any (id : Nat) (s : Bs) (full : Bool) (w : World) :
    Calls Tryd.prog 68 #[.int .u64 id, .string ⟨s.toArray⟩, .bool full] w fun e w' => e = .returned (.int .i64 (wrongE id s full)) ∧ w = w' := by
  have h0 : wrongE id s full = if 6004799503160661 ≤ id then 8 else if s = [] then 2 else if 65536 < s.length then 5 else if full then 7 else 0 := rfl
  generalize wrongE id s full = v at *
  have H0 := Lib.hid h0
  clear h0
  by_cases h1 : 6004799503160661 ≤ id
  · have e := H0.out; rw [if_pos h1] at e
    have E := Lib.hid e; clear e
    have h1' : (6004799503160661 : Int) ≤ (id : Int) := by omega
    go_enter Tryd.func68, Tryd.ntmps68
    go_wp2_with fail
    go_ret
    exact ⟨ret_int E.out.symm, rfl⟩
  have h1' : ¬ (6004799503160661 : Int) ≤ (id : Int) := by omega
  by_cases h2 : s = []
  · have e := H0.out; rw [if_neg h1, if_pos h2] at e
    have E := Lib.hid e; clear e
    subst h2
    go_enter Tryd.func68, Tryd.ntmps68
    go_wp2_with fail
    go_ret
    exact ⟨ret_int E.out.symm, rfl⟩
  have hb2 : (s == []) = false := by rw [beq_eq_false_iff_ne]; exact h2
  by_cases h3 : 65536 < s.length
  · have e := H0.out; rw [if_neg h1, if_neg h2, if_pos h3] at e
    have E := Lib.hid e; clear e
    have h3' : (65536 : Int) < (s.length : Int) := by omega
    go_enter Tryd.func68, Tryd.ntmps68
    go_wp2_with fail
    go_ret
    exact ⟨ret_int E.out.symm, rfl⟩
  have h3' : ¬ (65536 : Int) < (s.length : Int) := by omega
  have e := H0.out; rw [if_neg h1, if_neg h2, if_neg h3] at e
  have E := Lib.hid e; clear e
  cases full
  all_goals
    go_enter Tryd.func68, Tryd.ntmps68
    go_wp2_with fail
    go_ret
    exact ⟨ret_int E.out.symm, rfl⟩
end Go.Proofs.YteeenbhmdacdiaaDoor
