/- Plain laws on numerals and texts: no program in sight. -/
import Derived.Lib.ItoaMem
import Derived.Lib.ItoaLen
import Derived.Lib.AtoiAll
import Derived.Lib.DecodeN
import Derived.Laws.RangeString
import Derived.Shelf.GgClosure.StringsIndexFunc
namespace Go.Gz
abbrev Bs := List UInt8

theorem snoc_ind {α : Type} {P : List α → Prop} (h0 : P []) (h1 : ∀ l a, P l → P (l ++ [a])) (l : List α) : P l := by
  have h : ∀ r : List α, P r.reverse := by
    intro r
    induction r with
    | nil => exact h0
    | cons a r ih => rw [List.reverse_cons]; exact h1 _ _ ih
  have := h l.reverse
  rwa [List.reverse_reverse] at this

def dig (c : UInt8) : Bool := decide (48 ≤ c.toNat) && decide (c.toNat ≤ 57)
def stepv (a : Nat) (c : UInt8) : Nat := 10 * a + (c.toNat - 48)
def numv (l : Bs) : Nat := l.foldl stepv 0
def numOk (l : Bs) : Bool := !l.isEmpty && l.all dig && !(decide (1 < l.length) && (l.headD 0 == 48))
def BIG : Nat := 9007199254740991
def numE (l : Bs) : Int := if numOk l = false then 4 else if BIG < numv l then 11 else 0
def numV (l : Bs) : Int := if numOk l = false then 0 else if BIG < numv l then 0 else (numv l : Int)
def digs (n : Int) : Bs := if n < 0 then [] else Lib.decDigits n.toNat

theorem dig_iff (c : UInt8) : dig c = true ↔ 48 ≤ c.toNat ∧ c.toNat ≤ 57 := by simp [dig]
theorem numv_snoc (l : Bs) (c : UInt8) : numv (l ++ [c]) = 10 * numv l + (c.toNat - 48) := by simp [numv, stepv]
theorem foldl_ge (l : Bs) : ∀ a, a ≤ l.foldl stepv a := by
  induction l with
  | nil => intro a; simp
  | cons c r ih => intro a; simp only [List.foldl_cons]; have := ih (stepv a c); unfold stepv at this ⊢; omega
theorem decDigits_big {u : Nat} (h : ¬ u < 10) : Lib.decDigits u = Lib.decDigits (u / 10) ++ [UInt8.ofNat (48 + u % 10)] := by rw [Lib.decDigits, dif_neg h]
theorem ofNat_dig (d : Nat) (h : d < 10) : (UInt8.ofNat (48 + d)).toNat = 48 + d := by simp [UInt8.toNat_ofNat]; omega
theorem numv_decDigits (u : Nat) : numv (Lib.decDigits u) = u := by
  induction u using Nat.strongRecOn with
  | _ u ih =>
    by_cases h : u < 10
    · rw [Lib.decDigits_one h]; simp [numv, stepv]; omega
    · rw [decDigits_big h, numv_snoc, ih (u / 10) (by omega), ofNat_dig _ (by omega)]; omega
theorem decDigits_ne (u : Nat) : Lib.decDigits u ≠ [] := by
  intro h; have := Lib.decDigits_length u; rw [h] at this; have := Lib.nDigits_pos u; simp at *; omega
theorem decDigits_all (u : Nat) : (Lib.decDigits u).all dig = true := by
  induction u using Nat.strongRecOn with
  | _ u ih =>
    by_cases h : u < 10
    · rw [Lib.decDigits_one h]; simp only [List.all_cons, List.all_nil, Bool.and_true, dig_iff, ofNat_dig _ h]; omega
    · rw [decDigits_big h, List.all_append, ih (u / 10) (by omega)]
      simp only [List.all_cons, List.all_nil, Bool.and_true, Bool.true_and, dig_iff, ofNat_dig (u % 10) (by omega)]; omega
theorem decDigits_head (u : Nat) (h0 : 0 < u) : (Lib.decDigits u).headD 0 ≠ 48 := by
  induction u using Nat.strongRecOn with
  | _ u ih =>
    by_cases h : u < 10
    · rw [Lib.decDigits_one h]; simp only [List.headD_cons]
      intro e; have := congrArg UInt8.toNat e; rw [ofNat_dig _ h] at this; simp at this; omega
    · rw [decDigits_big h]
      have := ih (u / 10) (by omega) (by omega)
      cases e : Lib.decDigits (u / 10) with
      | nil => exact absurd e (decDigits_ne _)
      | cons a r => rw [e] at this; simpa using this
theorem numOk_decDigits (u : Nat) : numOk (Lib.decDigits u) = true := by
  unfold numOk
  have h1 : (Lib.decDigits u).isEmpty = false := by cases e : Lib.decDigits u with
    | nil => exact absurd e (decDigits_ne _)
    | cons => rfl
  rw [h1, decDigits_all]
  by_cases h0 : 0 < u
  · have := decDigits_head u h0
    simp only [Bool.not_false, Bool.and_self, Bool.true_and, Bool.not_eq_true', Bool.and_eq_false_iff, beq_eq_false_iff_ne]
    exact .inr this
  · have : u = 0 := by omega
    subst this; simp [Lib.decDigits_one (show 0 < 10 by omega)]
theorem numOk_parts {l : Bs} (h : numOk l = true) : l ≠ [] ∧ l.all dig = true ∧ (1 < l.length → l.headD 0 ≠ 48) := by
  unfold numOk at h
  simp only [Bool.and_eq_true, Bool.not_eq_true', Bool.and_eq_false_iff, decide_eq_false_iff_not, beq_eq_false_iff_ne] at h
  refine ⟨by intro e; simp [e] at h, h.1.2, fun hl => ?_⟩
  rcases h.2 with g | g
  · exact absurd hl g
  · exact g
theorem numv_pos {l : Bs} (hd : l.all dig = true) (hn : l ≠ []) (hh : l.headD 0 ≠ 48) : 1 ≤ numv l := by
  cases l with
  | nil => exact absurd rfl hn
  | cons c r =>
    have h1 := foldl_ge r (stepv 0 c)
    have h2 : c.toNat ≠ 48 := by intro e; apply hh; simp only [List.headD_cons]; exact UInt8.toNat.inj e
    simp only [List.all_cons, Bool.and_eq_true, dig_iff] at hd
    simp only [numv, List.foldl_cons]
    unfold stepv at h1 ⊢; omega
theorem decDigits_numv (l : Bs) : l ≠ [] → l.all dig = true → (1 < l.length → l.headD 0 ≠ 48) → Lib.decDigits (numv l) = l := by
  induction l using snoc_ind with
  | h0 => intro h; exact absurd rfl h
  | h1 l c ih =>
    intro _ hd hh
    rw [List.all_append, Bool.and_eq_true] at hd
    have hc : 48 ≤ c.toNat ∧ c.toNat ≤ 57 := by simpa [dig_iff] using hd.2
    have he : UInt8.ofNat (48 + (c.toNat - 48)) = c := by rw [show 48 + (c.toNat - 48) = c.toNat by omega]; simp
    by_cases hl : l = []
    · subst hl
      rw [show numv ([] ++ [c]) = c.toNat - 48 by simp [numv, stepv], Lib.decDigits_one (by omega), he]; rfl
    · have h48 : l.headD 0 ≠ 48 := by
        have := hh (by have := List.length_pos_iff.2 hl; simp; omega)
        cases l with
        | nil => exact absurd rfl hl
        | cons a r => simpa using this
      have hp := numv_pos hd.1 hl h48
      rw [numv_snoc, decDigits_big (by omega)]
      rw [show (10 * numv l + (c.toNat - 48)) / 10 = numv l by omega, show (10 * numv l + (c.toNat - 48)) % 10 = c.toNat - 48 by omega]
      rw [ih hl hd.1 (fun _ => h48), he]
theorem decDigits_of_numOk {l : Bs} (h : numOk l = true) : Lib.decDigits (numv l) = l :=
  let ⟨a, b, c⟩ := numOk_parts h; decDigits_numv l a b c

theorem num_bad {l : Bs} (h : numOk l = false) : numE l = 4 ∧ numV l = 0 := by simp [numE, numV, h]
theorem num_over {l : Bs} (h : numOk l = true) (hv : BIG < numv l) : numE l = 11 ∧ numV l = 0 := by simp [numE, numV, h, hv]
theorem num_ok {l : Bs} (h : numOk l = true) (hv : ¬ BIG < numv l) : numE l = 0 ∧ numV l = (numv l : Int) := by simp [numE, numV, h, hv]
theorem numOk_nodig {l : Bs} (h : l.all dig = false) : numOk l = false := by simp [numOk, h]
theorem numOk_lead {l : Bs} (h : 1 < l.length) (h2 : l.headD 0 = 48) : numOk l = false := by unfold numOk; rw [h2]; simp [h]
theorem numOk_mk {l : Bs} (hn : l ≠ []) (hd : l.all dig = true) (h : ¬ (1 < l.length ∧ l.headD 0 = 48)) : numOk l = true := by
  unfold numOk
  have h1 : l.isEmpty = false := by cases l with
    | nil => exact absurd rfl hn
    | cons => rfl
  rw [h1, hd]
  simp only [Bool.not_false, Bool.and_self, Bool.true_and, Bool.not_eq_true', Bool.and_eq_false_iff, beq_eq_false_iff_ne, decide_eq_false_iff_not]
  by_cases h2 : 1 < l.length
  · exact .inr fun e => h ⟨h2, e⟩
  · exact .inl h2

theorem take_succ_get (l : Bs) (k : Nat) (h : k < l.length) : l.take (k + 1) = l.take k ++ [l[k]] := List.take_succ_eq_append_getElem h
theorem numv_take_succ (l : Bs) (k : Nat) (h : k < l.length) : numv (l.take (k + 1)) = 10 * numv (l.take k) + (l[k].toNat - 48) := by rw [take_succ_get l k h, numv_snoc]
theorem all_take_succ (l : Bs) (k : Nat) (h : k < l.length) : (l.take (k + 1)).all dig = ((l.take k).all dig && dig l[k]) := by rw [take_succ_get l k h, List.all_append]; simp only [List.all_cons, List.all_nil, Bool.and_true]
theorem all_not {l : Bs} {k : Nat} (h : k < l.length) (hd : dig l[k] = false) : l.all dig = false := by
  rw [List.all_eq_false]; exact ⟨l[k], List.getElem_mem h, by simp [hd]⟩

theorem digs_neg {n : Int} (h : n < 0) : digs n = [] := by simp [digs, h]
theorem digs_nonneg {n : Int} (h : 0 ≤ n) : digs n = Lib.decDigits n.toNat := by unfold digs; rw [if_neg (by omega)]
theorem digs_big {n : Int} (h : 10 ≤ n) : digs n = digs (n / 10) ++ digs (n % 10) := by
  rw [digs_nonneg (by omega), digs_nonneg (by omega), digs_nonneg (by omega), decDigits_big (by omega), Lib.decDigits_one (i := (n % 10).toNat) (by omega)]
  rw [show (n / 10).toNat = n.toNat / 10 by omega, show (n % 10).toNat = n.toNat % 10 by omega]
theorem digs_small_fin : ∀ i : Fin 10, (([48, 49, 50, 51, 52, 53, 54, 55, 56, 57] : Bs).drop i.val).take 1 = [UInt8.ofNat (48 + i.val)] := by decide
theorem digs_small (n : Nat) (h : n < 10) : digs n = (([48, 49, 50, 51, 52, 53, 54, 55, 56, 57] : Bs).drop n).take 1 := by
  rw [digs_nonneg (by omega), digs_small_fin ⟨n, h⟩, Lib.decDigits_one (by omega)]; simp
theorem digs_len {n : Int} (h : n ≤ 9223372036854775807) : (digs n).length ≤ 20 := by
  by_cases h0 : n < 0
  · rw [digs_neg h0]; simp
  · rw [digs_nonneg (by omega), Lib.decDigits_length]; exact Lib.nDigits_le20 _ (by omega)
theorem numOk_digs {n : Int} (h : 0 ≤ n) : numOk (digs n) = true := by rw [digs_nonneg h]; exact numOk_decDigits _
theorem numv_digs {n : Int} (h : 0 ≤ n) : (numv (digs n) : Int) = n := by rw [digs_nonneg h, numv_decDigits]; omega
theorem digs_numv {l : Bs} (h : numOk l = true) : digs (numv l) = l := by rw [digs_nonneg (by omega)]; exact decDigits_of_numOk h

/-! ### strconv.Atoi at digits -/
theorem parseUint_ok (l : Bs) : ∀ acc, l.all dig = true → l.foldl stepv acc < 18446744073709551616 → Lib.parseUint10 acc l = .ok (l.foldl stepv acc) := by
  induction l with
  | nil => intro acc _ _; rfl
  | cons c r ih =>
    intro acc hd hv
    simp only [List.all_cons, Bool.and_eq_true, dig_iff] at hd
    have hm := foldl_ge r (stepv acc c)
    have hs : acc * 10 + (c.toNat - 48) = stepv acc c := by unfold stepv; omega
    have hv' : r.foldl stepv (stepv acc c) < 18446744073709551616 := hv
    simp only [Lib.parseUint10, hs]
    rw [if_pos hd.1, if_neg (by omega), if_neg (by omega), ih _ hd.2 hv']
    rfl
theorem parseUint_range (l : Bs) : ∀ acc, l.all dig = true → acc < 18446744073709551616 → ¬ l.foldl stepv acc < 18446744073709551616 → Lib.parseUint10 acc l = .range := by
  induction l with
  | nil => intro acc _ h1 h2; exact absurd h1 h2
  | cons c r ih =>
    intro acc hd ha hv
    simp only [List.all_cons, Bool.and_eq_true, dig_iff] at hd
    have hs : acc * 10 + (c.toNat - 48) = stepv acc c := by unfold stepv; omega
    have hv' : ¬ r.foldl stepv (stepv acc c) < 18446744073709551616 := hv
    simp only [Lib.parseUint10, hs]
    rw [if_pos hd.1]
    by_cases h1 : 1844674407370955162 ≤ acc
    · rw [if_pos h1]
    · rw [if_neg h1]
      by_cases h2 : 18446744073709551616 ≤ stepv acc c
      · rw [if_pos h2]
      · rw [if_neg h2]; exact ih _ hd.2 (by omega) hv'
theorem atoi_cons_ok (c : UInt8) (r : Bs) (h : 48 ≤ c.toNat ∧ c.toNat ≤ 57) (u : Nat) (hp : Lib.parseUint10 0 (c :: r) = .ok u) : Lib.atoiAll (c :: r) = if 9223372036854775808 ≤ u then .range else .ok (u : Int) := by
  have h1 : ¬ c.toNat = 43 := by omega
  have h2 : ¬ c.toNat = 45 := by omega
  simp only [Lib.atoiAll, Lib.parseMag, h1, h2, or_self, if_false, not_false_eq_true, true_and, false_and, reduceCtorEq]
  rw [hp]
theorem atoi_cons_range (c : UInt8) (r : Bs) (h : 48 ≤ c.toNat ∧ c.toNat ≤ 57) (hp : Lib.parseUint10 0 (c :: r) = .range) : Lib.atoiAll (c :: r) = .range := by
  have h1 : ¬ c.toNat = 43 := by omega
  have h2 : ¬ c.toNat = 45 := by omega
  simp only [Lib.atoiAll, Lib.parseMag, h1, h2, or_self, if_false, not_false_eq_true, true_and, false_and, reduceCtorEq]
  rw [hp]
theorem atoi_dig {l : Bs} (hn : l ≠ []) (hd : l.all dig = true) : Lib.atoiAll l = if numv l < 9223372036854775808 then .ok (numv l : Int) else .range := by
  cases l with
  | nil => exact absurd rfl hn
  | cons c r =>
    have hc := hd
    simp only [List.all_cons, Bool.and_eq_true, dig_iff] at hc
    by_cases h : numv (c :: r) < 18446744073709551616
    · rw [atoi_cons_ok c r hc.1 _ (parseUint_ok _ _ hd h)]
      by_cases h2 : numv (c :: r) < 9223372036854775808
      · simp only [if_pos h2]
        rw [if_neg (show ¬ 9223372036854775808 ≤ (c :: r).foldl stepv 0 from by unfold numv at h2; omega)]; rfl
      · simp only [if_neg h2]
        rw [if_pos (show 9223372036854775808 ≤ (c :: r).foldl stepv 0 from by unfold numv at h2; omega)]
    · rw [atoi_cons_range c r hc.1 (parseUint_range _ _ hd (by omega) h), if_neg (by omega)]

/-! ### a text rune by rune -/
theorem decode_high (s : ByteArray) (pos : Nat) (h : 128 ≤ (s.get! pos).toNat) : 128 ≤ (Utf8.decode s pos).1 := by
  rw [Lib.decode_at]
  generalize (s.get! pos).toNat = b0 at *
  generalize (s.get! (pos + 1)).toNat = b1
  generalize (s.get! (pos + 2)).toNat = b2
  generalize (s.get! (pos + 3)).toNat = b3
  unfold Lib.decodeN
  rw [if_neg (by omega)]
  repeat' split
  all_goals (simp only; omega)
theorem size_mk (l : Bs) : (⟨l.toArray⟩ : ByteArray).size = l.length := by simp [ByteArray.size]
theorem get_mk (l : Bs) (i : Nat) (h : i < l.length) : (⟨l.toArray⟩ : ByteArray).get! i = l[i] := by
  show (l.toArray)[i]! = _
  simp [h]
theorem decode_low (l : Bs) (i : Nat) (h : i < l.length) (ha : l[i].toNat < 128) : Utf8.decode ⟨l.toArray⟩ i = (l[i].toNat, 1) := by
  exact decode_ascii ⟨l.toArray⟩ i (by rw [size_mk]; exact h) ha

def digR (r : Nat) : Bool := decide (48 ≤ r) && decide (r ≤ 57)
theorem idx_dig (l : Bs) : ∀ (f pos : Nat), l.length - pos ≤ f → (Lib.idxFuncFrom (fun r => !digR r) true ⟨l.toArray⟩ f pos < 0 ↔ (l.drop pos).all dig = true) := by
  intro f
  induction f with
  | zero => intro pos h; simp [Lib.idxFuncFrom, List.drop_eq_nil_of_le (show l.length ≤ pos by omega)]
  | succ f ih =>
    intro pos h
    unfold Lib.idxFuncFrom
    rw [size_mk]
    by_cases hp : pos < l.length
    · rw [if_pos hp, List.drop_eq_getElem_cons hp, List.all_cons]
      by_cases ha : l[pos].toNat < 128
      · rw [decode_low l pos hp ha]
        by_cases hd : dig l[pos] = true
        · have : digR l[pos].toNat = true := hd
          simp only [this, hd, Bool.not_true, Bool.false_eq_true, ↓reduceIte, Bool.true_and]
          exact ih _ (by omega)
        · have hd' : dig l[pos] = false := by simpa using hd
          have : digR l[pos].toNat = false := hd'
          simp only [this, hd', Bool.not_false, ↓reduceIte, Bool.false_and]
          simp
      · have h1 := decode_high ⟨l.toArray⟩ pos (by rw [get_mk l pos hp]; omega)
        have h2 : digR (Utf8.decode ⟨l.toArray⟩ pos).1 = false := by simp [digR]; omega
        have h3 : dig l[pos] = false := by simp [dig]; omega
        simp only [h2, h3, Bool.not_false, ↓reduceIte, Bool.false_and]
        simp
    · rw [if_neg hp, List.drop_eq_nil_of_le (by omega)]; simp
theorem idx_all (l : Bs) : (Lib.idxFunc (fun r => !digR r) true ⟨l.toArray⟩ < 0 ↔ l.all dig = true) := by
  unfold Lib.idxFunc
  rw [size_mk]
  simpa using idx_dig l l.length 0 (by omega)
end Go.Gz
