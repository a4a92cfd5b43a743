/- Walks: digits; the reference's list of extensions. -/
import Derived.Test.YteeenbhmdacdiaaDoorWnum
namespace Go.Proofs.YteeenbhmdacdiaaDoor
open Go.RowKit Go.Gz

set_option maxHeartbeats 400000 in
theorem digits_any (n : Int) (h0 : -9223372036854775808 ≤ n) (h1 : n ≤ 9223372036854775807) (w : World) (hg : Gl w) :
    Calls Tryd.prog 52 #[.int .i64 n] w fun e w' => e = .returned (.string ⟨(digs n).toArray⟩) ∧ Up w w' := by
  by_cases hn : n < 0
  · rw [digs_neg hn]
    go_enter Tryd.func52, Tryd.ntmps52
    go_wp2_with fail
    go_ret
    exact ⟨rfl, Up.refl _⟩
  · have A := fun w hg => Lib.hid (Tryd.strconv_Itoa n h0 h1 w hg)
    have hd : Lib.itoa n = digs n := by rw [digs_nonneg (by omega)]; unfold Lib.itoa; rw [if_neg hn]
    have HD := Lib.hid hd
    clear hd
    go_enter Tryd.func52, Tryd.ntmps52
    go_wp2_with (go_at_call 76; refine (A _ hg.pow10).out.mono ?_; rintro e w1 ⟨rfl, k, os, rfl⟩)
    go_ret
    exact ⟨ret_str HD.out, (Up.refl _).grow _ _⟩

set_option maxHeartbeats 400000 in
theorem rdigits_any (k : Nat) : ∀ (n : Int) (w : World), n ≤ k → -9223372036854775808 ≤ n → n ≤ 9223372036854775807 →
    Calls Tryd.prog 53 #[.int .i64 n] w fun e w' => e = .returned (.string ⟨(digs n).toArray⟩) ∧ w = w' := by
  induction k with
  | zero =>
    intro n w hk h0 h1
    by_cases hn : n < 0
    · rw [digs_neg hn]
      go_enter Tryd.func53, Tryd.ntmps53
      go_wp2_with fail
      go_ret
      exact ⟨rfl, rfl⟩
    · obtain rfl : n = 0 := by omega
      have e := digs_small 0 (by omega)
      have E := Lib.hid e
      clear e
      go_enter Tryd.func53, Tryd.ntmps53
      go_wp2_with fail
      go_ret
      exact ⟨ret_str E.out.symm, rfl⟩
  | succ k ih =>
    intro n w hk h0 h1
    by_cases hn : n < 0
    · rw [digs_neg hn]
      go_enter Tryd.func53, Tryd.ntmps53
      go_wp2_with fail
      go_ret
      exact ⟨rfl, rfl⟩
    obtain ⟨m, rfl⟩ : ∃ m : Nat, n = m := ⟨n.toNat, by omega⟩
    by_cases h10 : m < 10
    · have hm : m = 0 ∨ m = 1 ∨ m = 2 ∨ m = 3 ∨ m = 4 ∨ m = 5 ∨ m = 6 ∨ m = 7 ∨ m = 8 ∨ m = 9 := by omega
      have E := Lib.hid (digs_small m h10)
      clear h10 hk h0 h1 hn ih
      rcases hm with rfl | rfl | rfl | rfl | rfl | rfl | rfl | rfl | rfl | rfl
      all_goals
        go_enter Tryd.func53, Tryd.ntmps53
        go_wp2_with fail
        go_ret
        exact ⟨ret_str E.out.symm, rfl⟩
    · have E := Lib.hid (digs_big (n := (m : Int)) (by omega))
      have IH := Lib.hid ih
      clear ih
      go_enter Tryd.func53, Tryd.ntmps53
      go_wp2_with fail
      refine (IH.out ((m : Int) / 10) _ (by omega) (by omega) (by omega)).mono ?_
      rintro e w1 ⟨rfl, rfl⟩
      go_wp2_with fail
      refine (IH.out ((m : Int) % 10) _ (by omega) (by omega) (by omega)).mono ?_
      rintro e w1 ⟨rfl, rfl⟩
      have l1 := digs_len (n := (m : Int) / 10) (by omega)
      have l2 := digs_len (n := (m : Int) % 10) (by omega)
      go_wp2_with fail
      go_ret
      refine ⟨ret_str ?_, rfl⟩
      rw [E.out]
theorem known_at (l : Bs) (k : Nat) (hk : k < 7) (h : ([[97, 118, 105, 102], [106, 112, 101, 103], [106, 112, 103], [109, 118, 116], [112, 98, 102], [112, 110, 103], [119, 101, 98, 112]] : List Bs).getD k [] = l) : knownB l = true := by
  subst h
  match k, hk with
  | 0, _ => decide
  | 1, _ => decide
  | 2, _ => decide
  | 3, _ => decide
  | 4, _ => decide
  | 5, _ => decide
  | 6, _ => decide
theorem known_not (l : Bs) (h : ∀ j : Nat, j < 7 → (l == ([[97, 118, 105, 102], [106, 112, 101, 103], [106, 112, 103], [109, 118, 116], [112, 98, 102], [112, 110, 103], [119, 101, 98, 112]] : List Bs).getD j []) = false) : knownB l = false := by
  have h0 := h 0 (by omega)
  have h1 := h 1 (by omega)
  have h2 := h 2 (by omega)
  have h3 := h 3 (by omega)
  have h4 := h 4 (by omega)
  have h5 := h 5 (by omega)
  have h6 := h 6 (by omega)
  simp only [List.getD_cons_zero, List.getD_cons_succ] at h0 h1 h2 h3 h4 h5 h6
  simp only [knownB, h0, h1, h2, h3, h4, h5, h6, Bool.or_self]
def KRel (l : Bs) (i : Value) : Prop := ∃ k : Nat, k ≤ 7 ∧ i = .int .i64 k ∧ ∀ j : Nat, j < k → (l == ([[97, 118, 105, 102], [106, 112, 101, 103], [106, 112, 103], [109, 118, 116], [112, 98, 102], [112, 110, 103], [119, 101, 98, 112]] : List Bs).getD j []) = false
set_option maxHeartbeats 1000000 in
theorem rknown_any (l : Bs) (w : World) :
    Calls Tryd.prog 20 #[.string ⟨l.toArray⟩] w fun e w' => e = .returned (.bool (knownB l)) ∧ Up w w' := by
  go_enter Tryd.func20, Tryd.ntmps20
  go_wp2
  generalize hw1 : w.alloc _ = w1
  have hu : Up w w1 := by subst hw1; exact (Up.refl w).alloc _
  have hc : ∀ j : Nat, j < 7 → w1.cell? ⟨w.heap.size, j, none⟩ = some (.string ⟨(([[97, 118, 105, 102], [106, 112, 101, 103], [106, 112, 103], [109, 118, 116], [112, 98, 102], [112, 110, 103], [119, 101, 98, 112]] : List Bs).getD j []).toArray⟩) := by
    subst hw1
    intro j hj
    match j, hj with
    | 0, _ => simp
    | 1, _ => simp
    | 2, _ => simp
    | 3, _ => simp
    | 4, _ => simp
    | 5, _ => simp
    | 6, _ => simp
  have HC := Lib.hid hc
  clear hc hw1
  go_loop [4] (fun i => KRel l i) (fun i => 7 - (intOf i).toNat)
  case atStart => exact ⟨0, by omega, rfl, fun j hj => absurd hj (by omega)⟩
  case round =>
    obtain ⟨k, hk, rfl, hall⟩ := hrel
    have ALL := Lib.hid hall
    clear hall
    by_cases hlt : k < 7
    · obtain ⟨x, hx⟩ : ∃ x : Bs, ([[97, 118, 105, 102], [106, 112, 101, 103], [106, 112, 103], [109, 118, 116], [112, 98, 102], [112, 110, 103], [119, 101, 98, 112]] : List Bs).getD k [] = x := ⟨_, rfl⟩
      have hcell := HC.out k hlt
      rw [hx] at hcell
      have HX := Lib.hid hx
      clear hx
      by_cases he : (x == l) = true
      · go_wp2
        go_ret
        refine ⟨ret_bool ?_, hu⟩
        have e : x = l := by simpa using he
        exact (known_at l k hlt (HX.out.trans e)).symm
      · have he' : (x == l) = false := by simpa using he
        clear he
        go_wp2
        go_round
        case rel =>
          refine ⟨k + 1, by omega, by go_num, fun j hj => ?_⟩
          by_cases e : j < k
          · exact ALL.out j e
          · obtain rfl : j = k := by omega
            rw [HX.out]
            rw [beq_eq_false_iff_ne] at he' ⊢
            exact fun e => he' e.symm
        case measure => simp [intOf]; omega
    · go_wp2
      go_ret
      refine ⟨ret_bool ?_, hu⟩
      obtain rfl : k = 7 := by omega
      exact (known_not l ALL.out).symm
end Go.Proofs.YteeenbhmdacdiaaDoor
