/- Walks: cmp.Compare, slices.BinarySearchFunc, chart.place, chart.wrong. -/
import Derived.Test.YtkfococpanailaaGreatDoorGX04
namespace Go.Gz
def cmpV (a b : Nat) : Int := if a < b then -1 else if b < a then 1 else 0
def Srt (L : Items) : Prop := ∀ i j (hi : i < L.length) (hj : j < L.length), i < j → L[i].1 < L[j].1
def posL (L : Items) (id : Nat) : Nat := (L.takeWhile fun x => decide (x.1 < id)).length
def memL (L : Items) (id : Nat) : Bool := L.any fun x => x.1 == id
theorem posL_eq (L : Items) (id : Nat) : ∀ k, k ≤ L.length → (∀ j (h : j < L.length), j < k → L[j].1 < id) → (∀ (h : k < L.length), id ≤ L[k].1) → posL L id = k := by
  induction L with
  | nil => intro k hk _ _; simp at hk; subst hk; rfl
  | cons x r ih =>
    intro k hk h1 h2
    unfold posL
    cases k with
    | zero =>
      have := h2 (by simp)
      rw [List.takeWhile_cons, if_neg (by simp at this ⊢; omega)]; rfl
    | succ k =>
      have h0 := h1 0 (by simp) (by omega)
      rw [List.takeWhile_cons, if_pos (by simpa using h0)]
      have := ih k (by simpa using hk) (fun j h hj => by have := h1 (j + 1) (by simp; omega) (by omega); simpa using this) (fun h => by have := h2 (by simp; omega); simpa using this)
      unfold posL at this
      simp [this]
theorem memL_at {L : Items} {id : Nat} (hs : Srt L) {k : Nat} (h1 : ∀ j (h : j < L.length), j < k → L[j].1 < id) (h2 : ∀ j (h : j < L.length), k ≤ j → id ≤ L[j].1) :
    memL L id = decide (∃ h : k < L.length, L[k].1 = id) := by
  rw [Bool.eq_iff_iff]
  unfold memL
  simp only [List.any_eq_true, beq_iff_eq, decide_eq_true_eq]
  constructor
  · rintro ⟨x, hx, he⟩
    obtain ⟨j, hj, rfl⟩ := List.getElem_of_mem hx
    rcases Nat.lt_or_ge j k with g | g
    · have := h1 j hj g; omega
    · rcases Nat.lt_or_ge k j with g2 | g2
      · have hk : k < L.length := by omega
        have := hs k j hk hj g2
        have := h2 k hk (Nat.le_refl _)
        omega
      · obtain rfl : j = k := by omega
        exact ⟨hj, he⟩
  · rintro ⟨h, he⟩
    exact ⟨_, List.getElem_mem h, he⟩
def wrongE (id : Nat) (s : Bs) (full : Bool) : Int := if 6004799503160661 ≤ id then 8 else if s = [] then 2 else if 65536 < s.length then 5 else if full then 7 else 0
end Go.Gz
namespace Go.Proofs.YtkfococpanailaaGreatDoor
open Go.RowKit Go.Gz

set_option maxRecDepth 100000
theorem isnan_any (a : Nat) (w : World) : Calls Tryz.prog 118 #[.int .u64 a] w fun e w' => e = .returned (.bool false) ∧ w = w' := by
  go_enter Tryz.func118, Tryz.ntmps118
  go_wp2_with fail
  go_ret
  exact ⟨rfl, rfl⟩
theorem cmp_any (a b : Nat) (w : World) : Calls Tryz.prog 69 #[.int .u64 a, .int .u64 b] w fun e w' => e = .returned (.int .i64 (cmpV a b)) ∧ w = w' := by
  have h0 : cmpV a b = if a < b then -1 else if b < a then 1 else 0 := rfl
  generalize cmpV a b = v at *
  have H0 := Lib.hid h0
  clear h0
  go_enter Tryz.func69, Tryz.ntmps69
  go_wp2_with (go_at_call 118; refine (isnan_any _ _).mono ?_; rintro e w' ⟨rfl, rfl⟩)
  all_goals
    go_ret
    refine ⟨ret_int ?_, rfl⟩
    rw [H0.out]
    first
      | (rw [if_pos (by omega)])
      | (rw [if_neg (by omega), if_pos (by omega)])
      | (rw [if_neg (by omega), if_neg (by omega)])
theorem pl1_any (a b : Nat) (t : Bs) (w : World) : Calls Tryz.prog 94 #[.agg #[.int .u64 a, .string ⟨t.toArray⟩], .int .u64 b] w fun e w' => e = .returned (.int .i64 (cmpV a b)) ∧ Up w w' := by
  have C := fun w => Lib.hid (cmp_any a b w)
  generalize cmpV a b = v at *
  go_enter Tryz.func94, Tryz.ntmps94
  go_wp2_with fail
  refine (C _).out.mono ?_
  rintro e w' ⟨rfl, rfl⟩
  go_wp2_with fail
  go_ret
  exact ⟨rfl, (Up.refl w).alloc _⟩
def BsRel (w : World) (L : Items) (id gk : Nat) (i j : Value) (wr : World) : Prop := ∃ a b : Nat, i = .int .i64 a ∧ j = .int .i64 b ∧ a ≤ b ∧ b ≤ L.length ∧ b - a ≤ gk ∧
  (∀ k (h : k < L.length), k < a → L[k].1 < id) ∧ (∀ k (h : k < L.length), b ≤ k → id ≤ L[k].1) ∧ Up w wr
set_option maxHeartbeats 2000000 in
theorem bs_any (L : Items) (hl : L.length ≤ 1000000) (id : Nat) (A : Option Addr) (c : Nat) (hs : Srt L) (w : World) (hr : Rd w 2 A L.length c (itV L)) :
    Calls Tryz.prog 93 #[.slice A L.length c, .int .u64 id, .func (.func 94) #[] #[]] w fun e w' => e = .returned (.tuple #[.int .i64 (posL L id), .bool (memL L id)]) ∧ Up w w' := by
  have HR := Lib.hid hr
  have HS := Lib.hid hs
  clear hr hs
  go_enter Tryz.func93, Tryz.ntmps93
  go_wp2_with fail
  go_loopg [9, 10] L.length (fun gk i j wr => BsRel w L id gk i j wr)
  case atStart => exact ⟨0, L.length, rfl, rfl, by omega, by omega, by omega, fun k _ h => absurd h (by omega), fun k h h2 => absurd h2 (by omega), Up.refl w⟩
  case round =>
    obtain ⟨a, b, rfl, rfl, hab, hbn, hg, hlo, hhi, hu⟩ := hrel
    have LO := Lib.hid hlo
    have HI := Lib.hid hhi
    have HU := Lib.hid hu
    clear hlo hhi
    by_cases hlt : a < b
    · obtain ⟨m, rfl⟩ : ∃ m, gk = m + 1 := ⟨gk - 1, by omega⟩
      obtain ⟨h, hh⟩ : ∃ h : Nat, h = (a + b) / 2 := ⟨_, rfl⟩
      have h1 : a ≤ h := by omega
      have h2 : h < b := by omega
      have hltI : (a : Int) < (b : Int) := by omega
      have e1 : IntKind.i64.wrap ((a : Int) + (b : Int)) = (a : Int) + (b : Int) := IntWalk.i64_in _ (by omega)
      have e2 : IntKind.u64.wrap ((a : Int) + (b : Int)) = (a : Int) + (b : Int) := IntWalk.u64_in _ (by omega)
      have e3 : ((a : Int) + (b : Int)) / 2 = (h : Int) := by omega
      have e4 : IntKind.i64.wrap (h : Int) = (h : Int) := IntWalk.i64_in _ (by omega)
      obtain ⟨B, o, rfl, hc1, hc2⟩ := (HR.out.up hu).item (k := h) (by omega)
      obtain ⟨⟨xid, xt⟩, hx⟩ : ∃ x, L[h]'(Nat.lt_of_lt_of_le h2 hbn) = x := ⟨_, rfl⟩
      rw [hx] at hc1 hc2
      have HX := Lib.hid hx
      clear hx hu
      have hh2 : 2 * h ≤ a + b ∧ a + b ≤ 2 * h + 1 := by omega
      clear hh
      simp only at hc1 hc2
      have PL := fun w => Lib.hid (pl1_any xid id xt w)
      by_cases hc : xid < id
      · have PL := fun w => Lib.hid (pl1_any xid id xt w)
        rw [show cmpV xid id = -1 by unfold cmpV; rw [if_pos hc]] at PL
        go_wp2_with fail
        refine (PL _).out.mono ?_
        rintro e w1 ⟨rfl, hu1⟩
        go_wp2_with fail
        go_roundg m
        case measure => omega
        case rel =>
          refine ⟨h + 1, b, by go_num, rfl, by omega, hbn, by omega, fun k hk hkh => ?_, HI.out, HU.out.trans hu1⟩
          rcases Nat.lt_or_ge k h with g | g
          · have := HS.out k h hk (by omega) g
            rw [HX.out] at this; simp only at this; omega
          · obtain rfl : k = h := by omega
            rw [HX.out]; exact hc
      · have PL := fun w => Lib.hid (pl1_any xid id xt w)
        have hv : 0 ≤ cmpV xid id := by unfold cmpV; rw [if_neg hc]; split <;> omega
        generalize cmpV xid id = v at *
        have hvd : decide (v < 0) = false := by simp; omega
        go_wp2_with fail
        refine (PL _).out.mono ?_
        rintro e w1 ⟨rfl, hu1⟩
        go_wp2_with fail
        go_roundg m
        case measure => omega
        case rel =>
          refine ⟨a, h, rfl, rfl, h1, by omega, by omega, LO.out, fun k hk hkh => ?_, HU.out.trans hu1⟩
          rcases Nat.lt_or_ge h k with g | g
          · have := HS.out h k (by omega) hk g
            rw [HX.out] at this; simp only at this; omega
          · obtain rfl : k = h := by omega
            rw [HX.out]; show id ≤ xid; omega
    · obtain rfl : a = b := by omega
      have HP := Lib.hid (posL_eq L id a hbn LO.out (fun h => HI.out a h (Nat.le_refl _)))
      have HM := Lib.hid (memL_at HS.out LO.out HI.out)
      have hltI : ¬ (a : Int) < (a : Int) := by omega
      clear hlt hltI
      by_cases hn : a < L.length
      · obtain ⟨B, o, rfl, hc1, hc2⟩ := (HR.out.up hu).item (k := a) hn
        obtain ⟨⟨xid, xt⟩, hx⟩ : ∃ x, L[a]'hn = x := ⟨_, rfl⟩
        rw [hx] at hc1 hc2
        simp only at hc1 hc2
        have PL := fun w => Lib.hid (pl1_any xid id xt w)
        have hv : (cmpV xid id == 0) = memL L id := by
          rw [HM.out]
          by_cases e : xid = id
          · rw [decide_eq_true (p := ∃ h : a < L.length, L[a].1 = id) ⟨hn, by rw [hx]; exact e⟩]
            unfold cmpV; rw [if_neg (by omega), if_neg (by omega)]; rfl
          · rw [decide_eq_false (p := ∃ h : a < L.length, L[a].1 = id) (by rintro ⟨_, h⟩; rw [hx] at h; exact e h)]
            unfold cmpV; split
            · rfl
            · rw [if_pos (by omega)]; rfl
        have HV := Lib.hid hv
        clear hx hv hu
        have hnI : (a : Int) < (L.length : Int) := by omega
        go_wp2_with fail
        refine (PL _).out.mono ?_
        rintro e w1 ⟨rfl, hu1⟩
        go_wp2_with fail
        go_ret2
        exact ⟨ret_two (int_eq (by rw [HP.out])) (bool_eq HV.out), HU.out.trans hu1⟩
      · obtain rfl : a = L.length := by omega
        have HM2 := Lib.hid (show memL L id = false by rw [HM.out]; exact decide_eq_false (by rintro ⟨h, _⟩; omega))
        clear hn
        go_wp2_with fail
        go_ret2
        exact ⟨ret_two (int_eq (by rw [HP.out])) (bool_eq HM2.out.symm), HU.out⟩
theorem place12_any (L : Items) (hl : L.length ≤ 1000000) (id : Nat) (A : Option Addr) (c : Nat) (hs : Srt L) (w : World) (hr : Rd w 2 A L.length c (itV L)) :
    Calls Tryz.prog 50 #[.agg #[.slice A L.length c], .int .u64 id] w fun e w' => e = .returned (.tuple #[.int .i64 (posL L id), .bool (memL L id)]) ∧ Up w w' := by
  have BS := fun w hr => Lib.hid (bs_any L hl id A c hs w hr)
  have HR := Lib.hid hr
  clear hr hs
  generalize memL L id = mv at *
  generalize posL L id = pv at *
  go_enter Tryz.func50, Tryz.ntmps50
  have n0 := (Up.refl w).alloc (.cells #[.slice A L.length c] 26)
  go_wp2_with fail
  refine (BS _ (HR.out.up n0)).out.mono ?_
  rintro e w1 ⟨rfl, hu1⟩
  go_wp2_with fail
  go_ret2
  exact ⟨rfl, n0.trans hu1⟩
theorem wrong12_any (id : Nat) (s : Bs) (full : Bool) (w : World) :
    Calls Tryz.prog 66 #[.int .u64 id, .string ⟨s.toArray⟩, .bool full] w fun e w' => e = .returned (.int .i64 (wrongE id s full)) ∧ w = w' := by
  have h0 : wrongE id s full = if 6004799503160661 ≤ id then 8 else if s = [] then 2 else if 65536 < s.length then 5 else if full then 7 else 0 := rfl
  generalize wrongE id s full = v at *
  have H0 := Lib.hid h0
  clear h0
  by_cases h1 : 6004799503160661 ≤ id
  · have e := H0.out; rw [if_pos h1] at e
    have E := Lib.hid e; clear e
    have h1' : (6004799503160661 : Int) ≤ (id : Int) := by omega
    go_enter Tryz.func66, Tryz.ntmps66
    go_wp2_with fail
    go_ret
    exact ⟨ret_int E.out.symm, rfl⟩
  have h1' : ¬ (6004799503160661 : Int) ≤ (id : Int) := by omega
  by_cases h2 : s = []
  · have e := H0.out; rw [if_neg h1, if_pos h2] at e
    have E := Lib.hid e; clear e
    subst h2
    go_enter Tryz.func66, Tryz.ntmps66
    go_wp2_with fail
    go_ret
    exact ⟨ret_int E.out.symm, rfl⟩
  have hb2 : (s == []) = false := by rw [beq_eq_false_iff_ne]; exact h2
  by_cases h3 : 65536 < s.length
  · have e := H0.out; rw [if_neg h1, if_neg h2, if_pos h3] at e
    have E := Lib.hid e; clear e
    have h3' : (65536 : Int) < (s.length : Int) := by omega
    go_enter Tryz.func66, Tryz.ntmps66
    go_wp2_with fail
    go_ret
    exact ⟨ret_int E.out.symm, rfl⟩
  have h3' : ¬ (65536 : Int) < (s.length : Int) := by omega
  have e := H0.out; rw [if_neg h1, if_neg h2, if_neg h3] at e
  have E := Lib.hid e; clear e
  cases full
  all_goals
    go_enter Tryz.func66, Tryz.ntmps66
    go_wp2_with fail
    go_ret
    exact ⟨ret_int E.out.symm, rfl⟩
end Go.Proofs.YtkfococpanailaaGreatDoor
/- Plain laws: charts as lists of items. -/
namespace Go.Gz
def getL : Items → Nat → Option Bs
  | [], _ => none
  | x :: r, id => if x.1 = id then some x.2 else getL r id
def delL (L : Items) (id : Nat) : Items := L.filter fun x => !(x.1 == id)
def insL (L : Items) (id : Nat) (s : Bs) : Items := ((delL L id).takeWhile fun x => decide (x.1 < id)) ++ (id, s) :: ((delL L id).dropWhile fun x => decide (x.1 < id))
def putE (L : Items) (id : Nat) (s : Bs) : Int := wrongE id s (!(getL L id).isSome && decide (2048 ≤ L.length))
def putL (L : Items) (id : Nat) (s : Bs) : Items := if putE L id s = 0 then insL L id s else L
theorem srt_iff (L : Items) : Srt L ↔ L.Pairwise (fun a b => a.1 < b.1) := (List.pairwise_iff_getElem (R := fun a b : Item => a.1 < b.1) (l := L)).symm
theorem mem_get (L : Items) (id : Nat) : memL L id = (getL L id).isSome := by
  induction L with
  | nil => rfl
  | cons x r ih =>
    unfold memL at ih ⊢
    unfold getL
    rw [List.any_cons, ih]
    by_cases h : x.1 = id
    · simp [h]
    · simp [h]
theorem get_drop {L : Items} {id : Nat} {k : Nat} (hk : k < L.length) (h : getL L id = getL (L.drop k) id) : (L[k].1 = id → getL L id = some L[k].2) ∧ (L[k].1 ≠ id → getL L id = getL (L.drop (k + 1)) id) := by
  rw [List.drop_eq_getElem_cons hk] at h
  rw [h]
  refine ⟨fun e => ?_, fun e => ?_⟩
  · show (if L[k].1 = id then some L[k].2 else _) = _
    rw [if_pos e]
  · show (if L[k].1 = id then some L[k].2 else _) = _
    rw [if_neg e]
theorem del_take_succ {L : Items} {id : Nat} {k : Nat} (hk : k < L.length) : delL (L.take (k + 1)) id = delL (L.take k) id ++ (if L[k].1 = id then [] else [L[k]]) := by
  unfold delL
  rw [List.take_succ_eq_append_getElem hk, List.filter_append]
  by_cases h : L[k].1 = id
  · simp [h]
  · simp [h]
theorem del_len (L : Items) (id : Nat) : (delL L id).length ≤ L.length := List.length_filter_le _ _
theorem tw_pos (M : Items) (id : Nat) : (M.takeWhile fun x => decide (x.1 < id)) = M.take (posL M id) ∧ (M.dropWhile fun x => decide (x.1 < id)) = M.drop (posL M id) := by
  have h := List.takeWhile_append_dropWhile (p := fun x : Item => decide (x.1 < id)) (l := M)
  have h1 : M.take (posL M id) ++ M.drop (posL M id) = M := List.take_append_drop _ _
  have hl : (M.takeWhile fun x => decide (x.1 < id)).length = (M.take (posL M id)).length := by
    rw [List.length_take]; show posL M id = _
    have : posL M id ≤ M.length := (List.takeWhile_sublist (p := fun x : Item => decide (x.1 < id)) (l := M)).length_le
    omega
  exact List.append_inj (h.trans h1.symm) hl
theorem pos_le (M : Items) (id : Nat) : posL M id ≤ M.length := (List.takeWhile_sublist (p := fun x : Item => decide (x.1 < id)) (l := M)).length_le
theorem pos_below (M : Items) (id : Nat) : ∀ j (h : j < M.length), j < posL M id → M[j].1 < id := by
  induction M with
  | nil => intro j h; simp at h
  | cons x r ih =>
    intro j h hj
    by_cases hx : x.1 < id
    · have e : posL (x :: r) id = posL r id + 1 := by unfold posL; rw [List.takeWhile_cons, if_pos (by simpa using hx)]; simp
      cases j with
      | zero => exact hx
      | succ j => rw [e] at hj; exact ih j (by simpa using h) (by omega)
    · have e : posL (x :: r) id = 0 := by unfold posL; rw [List.takeWhile_cons, if_neg (by simpa using hx)]; rfl
      omega
theorem pos_at (M : Items) (id : Nat) (h : posL M id < M.length) : id ≤ M[posL M id].1 := by
  induction M with
  | nil => simp at h
  | cons x r ih =>
    by_cases hx : x.1 < id
    · have e : posL (x :: r) id = posL r id + 1 := by unfold posL; rw [List.takeWhile_cons, if_pos (by simpa using hx)]; simp
      have := ih (by rw [e] at h; simpa using h)
      simp only [e, List.getElem_cons_succ]
      exact this
    · have e : posL (x :: r) id = 0 := by unfold posL; rw [List.takeWhile_cons, if_neg (by simpa using hx)]; rfl
      simp only [e, List.getElem_cons_zero]; omega
theorem all_gt {x : Item} {r : Items} {id : Nat} (h : (x :: r).Pairwise (fun a b => a.1 < b.1)) (hx : id ≤ x.1) : ∀ y ∈ r, id < y.1 := by
  intro y hy
  have := (List.pairwise_cons.1 h).1 y hy
  omega
theorem del_all {r : Items} {id : Nat} (h : ∀ y ∈ r, id < y.1) : delL r id = r := by
  unfold delL
  rw [List.filter_eq_self]
  intro y hy
  have := h y hy
  simp; omega
theorem tw_none {r : Items} {id : Nat} (h : ∀ y ∈ r, id < y.1) : (r.takeWhile fun x => decide (x.1 < id)) = [] ∧ (r.dropWhile fun x => decide (x.1 < id)) = r := by
  cases r with
  | nil => exact ⟨rfl, rfl⟩
  | cons y t =>
    have := h y (by simp)
    constructor
    · rw [List.takeWhile_cons, if_neg (by simp; omega)]
    · rw [List.dropWhile_cons, if_neg (by simp; omega)]
theorem mem_none {r : Items} {id : Nat} (h : ∀ y ∈ r, id < y.1) : memL r id = false := by
  unfold memL
  rw [List.any_eq_false]
  intro y hy
  have := h y hy
  simp; omega
theorem ins_lt {x : Item} {r : Items} {id : Nat} {s : Bs} (h : x.1 < id) : insL (x :: r) id s = x :: insL r id s := by
  unfold insL delL
  rw [List.filter_cons, if_pos (by simp; omega), List.takeWhile_cons, if_pos (by simpa using h), List.dropWhile_cons, if_pos (by simpa using h)]
  rfl
theorem ins_same {x : Item} {r : Items} {id : Nat} {s : Bs} (h : x.1 = id) (hr : ∀ y ∈ r, id < y.1) : insL (x :: r) id s = (id, s) :: r := by
  have e : delL (x :: r) id = r := by
    have := del_all hr
    unfold delL at this ⊢
    rw [List.filter_cons, if_neg (by simp [h]), this]
  unfold insL
  rw [e, (tw_none hr).1, (tw_none hr).2]; rfl
theorem ins_gt {x : Item} {r : Items} {id : Nat} {s : Bs} (h : id < x.1) (hr : ∀ y ∈ r, id < y.1) : insL (x :: r) id s = (id, s) :: x :: r := by
  have hx : ∀ y ∈ x :: r, id < y.1 := by
    intro y hy
    rcases List.mem_cons.1 hy with rfl | hy
    · exact h
    · exact hr y hy
  unfold insL
  rw [del_all hx, (tw_none hx).1, (tw_none hx).2]; rfl
theorem ins_eq (id : Nat) (s : Bs) : ∀ L : Items, Srt L → insL L id s = L.take (posL L id) ++ (id, s) :: L.drop (posL L id + (memL L id).toNat) := by
  intro L
  rw [srt_iff]
  induction L with
  | nil => intro _; rfl
  | cons x r ih =>
    intro h
    have hr := (List.pairwise_cons.1 h).2
    rcases Nat.lt_trichotomy x.1 id with g | g | g
    · rw [ins_lt g, ih hr]
      have e : posL (x :: r) id = posL r id + 1 := by unfold posL; rw [List.takeWhile_cons, if_pos (by simpa using g)]; simp
      have e2 : memL (x :: r) id = memL r id := by
        unfold memL; rw [List.any_cons]
        have : (x.1 == id) = false := by rw [beq_eq_false_iff_ne]; omega
        rw [this]; rfl
      rw [e, e2, show posL r id + 1 + (memL r id).toNat = posL r id + (memL r id).toNat + 1 by omega]
      simp
    · have ha := all_gt h (by omega : id ≤ x.1)
      rw [ins_same g ha]
      have e : posL (x :: r) id = 0 := by unfold posL; rw [List.takeWhile_cons, if_neg (by simp; omega)]; rfl
      have e2 : memL (x :: r) id = true := by unfold memL; rw [List.any_cons]; simp [g]
      rw [e, e2]; rfl
    · have ha := all_gt h (by omega : id ≤ x.1)
      rw [ins_gt g ha]
      have e : posL (x :: r) id = 0 := by unfold posL; rw [List.takeWhile_cons, if_neg (by simp; omega)]; rfl
      have e2 : memL (x :: r) id = false := mem_none (by
        intro y hy
        rcases List.mem_cons.1 hy with rfl | hy
        · exact g
        · exact ha y hy)
      rw [e, e2]; rfl
theorem mem_ins {L : Items} {id : Nat} {s : Bs} {y : Item} (h : y ∈ insL L id s) : y = (id, s) ∨ y ∈ L := by
  unfold insL at h
  rcases List.mem_append.1 h with h | h
  · exact .inr (List.mem_filter.1 ((List.takeWhile_sublist _).subset h)).1
  · rcases List.mem_cons.1 h with h | h
    · exact .inl h
    · exact .inr (List.mem_filter.1 ((List.dropWhile_sublist _).subset h)).1
theorem srt_ins (id : Nat) (s : Bs) : ∀ L : Items, Srt L → Srt (insL L id s) := by
  intro L
  rw [srt_iff, srt_iff]
  induction L with
  | nil => intro _; exact List.pairwise_singleton _ _
  | cons x r ih =>
    intro h
    have hr := (List.pairwise_cons.1 h).2
    rcases Nat.lt_trichotomy x.1 id with g | g | g
    · rw [ins_lt g]
      refine List.pairwise_cons.2 ⟨fun y hy => ?_, ih hr⟩
      rcases mem_ins hy with rfl | hy
      · exact g
      · exact (List.pairwise_cons.1 h).1 y hy
    · have ha := all_gt h (by omega : id ≤ x.1)
      rw [ins_same g ha]
      exact List.pairwise_cons.2 ⟨ha, hr⟩
    · have ha := all_gt h (by omega : id ≤ x.1)
      rw [ins_gt g ha]
      refine List.pairwise_cons.2 ⟨fun y hy => ?_, h⟩
      rcases List.mem_cons.1 hy with rfl | hy
      · exact g
      · exact ha y hy
theorem get_pos (id : Nat) (L : Items) (hs : Srt L) (hm : memL L id = true) : ∃ h : posL L id < L.length, L[posL L id] = (id, (getL L id).getD []) := by
  rw [srt_iff] at hs
  induction L with
  | nil => simp [memL] at hm
  | cons x r ih =>
    have hr := (List.pairwise_cons.1 hs).2
    rcases Nat.lt_trichotomy x.1 id with g | g | g
    · have e : posL (x :: r) id = posL r id + 1 := by unfold posL; rw [List.takeWhile_cons, if_pos (by simpa using g)]; simp
      have e2 : memL (x :: r) id = memL r id := by
        unfold memL; rw [List.any_cons]
        have : (x.1 == id) = false := by rw [beq_eq_false_iff_ne]; omega
        rw [this]; rfl
      rw [e2] at hm
      obtain ⟨h, h2⟩ := ih hr hm
      refine ⟨by rw [e]; simp; omega, ?_⟩
      simp only [e, List.getElem_cons_succ]
      rw [h2]
      show _ = (id, (if x.1 = id then some x.2 else getL r id).getD [])
      rw [if_neg (by omega)]
    · have e : posL (x :: r) id = 0 := by unfold posL; rw [List.takeWhile_cons, if_neg (by simp; omega)]; rfl
      refine ⟨by rw [e]; simp, ?_⟩
      simp only [e, List.getElem_cons_zero]
      show x = (id, (if x.1 = id then some x.2 else getL r id).getD [])
      rw [if_pos g]
      subst g; rfl
    · have ha := all_gt hs (by omega : id ≤ x.1)
      have : memL (x :: r) id = false := mem_none (by
        intro y hy
        rcases List.mem_cons.1 hy with rfl | hy
        · exact g
        · exact ha y hy)
      rw [this] at hm; cases hm
theorem ins_len (L : Items) (id : Nat) (s : Bs) : (insL L id s).length = (delL L id).length + 1 := by
  unfold insL
  rw [(tw_pos _ id).1, (tw_pos _ id).2]
  have := pos_le (delL L id) id
  rw [List.length_append, List.length_cons, List.length_take, List.length_drop]
  omega
theorem put_len (L : Items) (id : Nat) (s : Bs) : (putL L id s).length ≤ L.length + 1 := by
  unfold putL; split
  · rw [ins_len]; have := del_len L id; omega
  · omega
theorem srt_put {L : Items} {id : Nat} {s : Bs} (h : Srt L) : Srt (putL L id s) := by
  unfold putL; split
  · exact srt_ins id s L h
  · exact h
end Go.Gz
