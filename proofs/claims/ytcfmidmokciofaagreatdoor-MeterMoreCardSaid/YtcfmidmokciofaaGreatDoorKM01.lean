/- Plain laws on numerals and texts: no program in sight. -/
import Derived.Lib.ItoaMem
import Derived.Lib.ItoaLen
import Derived.Lib.AtoiAll
import Derived.Lib.DecodeN
import Derived.Laws.RangeString
import Derived.Shelf.GgClosure.StringsIndexFunc
import Derived.Laws.BitsAllLaws
import Derived.Laws.BitsLemmas
import Derived.Laws.Bits64b
namespace Go.Gz
abbrev Bs := List UInt8

theorem snoc_ind {α : Type} {P : List α → Prop} (h0 : P []) (h1 : ∀ l a, P l → P (l ++ [a])) (l : List α) : P l := by
  have h : ∀ r : List α, P r.reverse := by
    intro r
    induction r with
    | nil => exact h0
    | cons a r ih => rw [List.reverse_cons]; exact h1 _ _ ih
  have := h l.reverse
  rwa [List.reverse_reverse] at this

def dig (c : UInt8) : Bool := decide (48 ≤ c.toNat) && decide (c.toNat ≤ 57)
def stepv (a : Nat) (c : UInt8) : Nat := 10 * a + (c.toNat - 48)
def numv (l : Bs) : Nat := l.foldl stepv 0
def numOk (l : Bs) : Bool := !l.isEmpty && l.all dig && !(decide (1 < l.length) && (l.headD 0 == 48))
def BIG : Nat := 9007199254740991
def numE (l : Bs) : Int := if numOk l = false then 4 else if BIG < numv l then 11 else 0
def numV (l : Bs) : Int := if numOk l = false then 0 else if BIG < numv l then 0 else (numv l : Int)
def digs (n : Int) : Bs := if n < 0 then [] else Lib.decDigits n.toNat

theorem dig_iff (c : UInt8) : dig c = true ↔ 48 ≤ c.toNat ∧ c.toNat ≤ 57 := by simp [dig]
theorem numv_snoc (l : Bs) (c : UInt8) : numv (l ++ [c]) = 10 * numv l + (c.toNat - 48) := by simp [numv, stepv]
theorem foldl_ge (l : Bs) : ∀ a, a ≤ l.foldl stepv a := by
  induction l with
  | nil => intro a; simp
  | cons c r ih => intro a; simp only [List.foldl_cons]; have := ih (stepv a c); unfold stepv at this ⊢; omega
theorem decDigits_big {u : Nat} (h : ¬ u < 10) : Lib.decDigits u = Lib.decDigits (u / 10) ++ [UInt8.ofNat (48 + u % 10)] := by rw [Lib.decDigits, dif_neg h]
theorem ofNat_dig (d : Nat) (h : d < 10) : (UInt8.ofNat (48 + d)).toNat = 48 + d := by simp [UInt8.toNat_ofNat]; omega
theorem numv_decDigits (u : Nat) : numv (Lib.decDigits u) = u := by
  induction u using Nat.strongRecOn with
  | _ u ih =>
    by_cases h : u < 10
    · rw [Lib.decDigits_one h]; simp [numv, stepv]; omega
    · rw [decDigits_big h, numv_snoc, ih (u / 10) (by omega), ofNat_dig _ (by omega)]; omega
theorem decDigits_ne (u : Nat) : Lib.decDigits u ≠ [] := by
  intro h; have := Lib.decDigits_length u; rw [h] at this; have := Lib.nDigits_pos u; simp at *; omega
theorem decDigits_all (u : Nat) : (Lib.decDigits u).all dig = true := by
  induction u using Nat.strongRecOn with
  | _ u ih =>
    by_cases h : u < 10
    · rw [Lib.decDigits_one h]; simp only [List.all_cons, List.all_nil, Bool.and_true, dig_iff, ofNat_dig _ h]; omega
    · rw [decDigits_big h, List.all_append, ih (u / 10) (by omega)]
      simp only [List.all_cons, List.all_nil, Bool.and_true, Bool.true_and, dig_iff, ofNat_dig (u % 10) (by omega)]; omega
theorem decDigits_head (u : Nat) (h0 : 0 < u) : (Lib.decDigits u).headD 0 ≠ 48 := by
  induction u using Nat.strongRecOn with
  | _ u ih =>
    by_cases h : u < 10
    · rw [Lib.decDigits_one h]; simp only [List.headD_cons]
      intro e; have := congrArg UInt8.toNat e; rw [ofNat_dig _ h] at this; simp at this; omega
    · rw [decDigits_big h]
      have := ih (u / 10) (by omega) (by omega)
      cases e : Lib.decDigits (u / 10) with
      | nil => exact absurd e (decDigits_ne _)
      | cons a r => rw [e] at this; simpa using this
theorem numOk_decDigits (u : Nat) : numOk (Lib.decDigits u) = true := by
  unfold numOk
  have h1 : (Lib.decDigits u).isEmpty = false := by cases e : Lib.decDigits u with
    | nil => exact absurd e (decDigits_ne _)
    | cons => rfl
  rw [h1, decDigits_all]
  by_cases h0 : 0 < u
  · have := decDigits_head u h0
    simp only [Bool.not_false, Bool.and_self, Bool.true_and, Bool.not_eq_true', Bool.and_eq_false_iff, beq_eq_false_iff_ne]
    exact .inr this
  · have : u = 0 := by omega
    subst this; simp [Lib.decDigits_one (show 0 < 10 by omega)]
theorem numOk_parts {l : Bs} (h : numOk l = true) : l ≠ [] ∧ l.all dig = true ∧ (1 < l.length → l.headD 0 ≠ 48) := by
  unfold numOk at h
  simp only [Bool.and_eq_true, Bool.not_eq_true', Bool.and_eq_false_iff, decide_eq_false_iff_not, beq_eq_false_iff_ne] at h
  refine ⟨by intro e; simp [e] at h, h.1.2, fun hl => ?_⟩
  rcases h.2 with g | g
  · exact absurd hl g
  · exact g
theorem numv_pos {l : Bs} (hd : l.all dig = true) (hn : l ≠ []) (hh : l.headD 0 ≠ 48) : 1 ≤ numv l := by
  cases l with
  | nil => exact absurd rfl hn
  | cons c r =>
    have h1 := foldl_ge r (stepv 0 c)
    have h2 : c.toNat ≠ 48 := by intro e; apply hh; simp only [List.headD_cons]; exact UInt8.toNat.inj e
    simp only [List.all_cons, Bool.and_eq_true, dig_iff] at hd
    simp only [numv, List.foldl_cons]
    unfold stepv at h1 ⊢; omega
theorem decDigits_numv (l : Bs) : l ≠ [] → l.all dig = true → (1 < l.length → l.headD 0 ≠ 48) → Lib.decDigits (numv l) = l := by
  induction l using snoc_ind with
  | h0 => intro h; exact absurd rfl h
  | h1 l c ih =>
    intro _ hd hh
    rw [List.all_append, Bool.and_eq_true] at hd
    have hc : 48 ≤ c.toNat ∧ c.toNat ≤ 57 := by simpa [dig_iff] using hd.2
    have he : UInt8.ofNat (48 + (c.toNat - 48)) = c := by rw [show 48 + (c.toNat - 48) = c.toNat by omega]; simp
    by_cases hl : l = []
    · subst hl
      rw [show numv ([] ++ [c]) = c.toNat - 48 by simp [numv, stepv], Lib.decDigits_one (by omega), he]; rfl
    · have h48 : l.headD 0 ≠ 48 := by
        have := hh (by have := List.length_pos_iff.2 hl; simp; omega)
        cases l with
        | nil => exact absurd rfl hl
        | cons a r => simpa using this
      have hp := numv_pos hd.1 hl h48
      rw [numv_snoc, decDigits_big (by omega)]
      rw [show (10 * numv l + (c.toNat - 48)) / 10 = numv l by omega, show (10 * numv l + (c.toNat - 48)) % 10 = c.toNat - 48 by omega]
      rw [ih hl hd.1 (fun _ => h48), he]
theorem decDigits_of_numOk {l : Bs} (h : numOk l = true) : Lib.decDigits (numv l) = l :=
  let ⟨a, b, c⟩ := numOk_parts h; decDigits_numv l a b c

theorem num_bad {l : Bs} (h : numOk l = false) : numE l = 4 ∧ numV l = 0 := by simp [numE, numV, h]
theorem num_over {l : Bs} (h : numOk l = true) (hv : BIG < numv l) : numE l = 11 ∧ numV l = 0 := by simp [numE, numV, h, hv]
theorem num_ok {l : Bs} (h : numOk l = true) (hv : ¬ BIG < numv l) : numE l = 0 ∧ numV l = (numv l : Int) := by simp [numE, numV, h, hv]
theorem numOk_nodig {l : Bs} (h : l.all dig = false) : numOk l = false := by simp [numOk, h]
theorem numOk_lead {l : Bs} (h : 1 < l.length) (h2 : l.headD 0 = 48) : numOk l = false := by unfold numOk; rw [h2]; simp [h]
theorem numOk_mk {l : Bs} (hn : l ≠ []) (hd : l.all dig = true) (h : ¬ (1 < l.length ∧ l.headD 0 = 48)) : numOk l = true := by
  unfold numOk
  have h1 : l.isEmpty = false := by cases l with
    | nil => exact absurd rfl hn
    | cons => rfl
  rw [h1, hd]
  simp only [Bool.not_false, Bool.and_self, Bool.true_and, Bool.not_eq_true', Bool.and_eq_false_iff, beq_eq_false_iff_ne, decide_eq_false_iff_not]
  by_cases h2 : 1 < l.length
  · exact .inr fun e => h ⟨h2, e⟩
  · exact .inl h2

theorem take_succ_get (l : Bs) (k : Nat) (h : k < l.length) : l.take (k + 1) = l.take k ++ [l[k]] := List.take_succ_eq_append_getElem h
theorem numv_take_succ (l : Bs) (k : Nat) (h : k < l.length) : numv (l.take (k + 1)) = 10 * numv (l.take k) + (l[k].toNat - 48) := by rw [take_succ_get l k h, numv_snoc]
theorem all_take_succ (l : Bs) (k : Nat) (h : k < l.length) : (l.take (k + 1)).all dig = ((l.take k).all dig && dig l[k]) := by rw [take_succ_get l k h, List.all_append]; simp only [List.all_cons, List.all_nil, Bool.and_true]
theorem all_not {l : Bs} {k : Nat} (h : k < l.length) (hd : dig l[k] = false) : l.all dig = false := by
  rw [List.all_eq_false]; exact ⟨l[k], List.getElem_mem h, by simp [hd]⟩

theorem digs_neg {n : Int} (h : n < 0) : digs n = [] := by simp [digs, h]
theorem digs_nonneg {n : Int} (h : 0 ≤ n) : digs n = Lib.decDigits n.toNat := by unfold digs; rw [if_neg (by omega)]
theorem digs_big {n : Int} (h : 10 ≤ n) : digs n = digs (n / 10) ++ digs (n % 10) := by
  rw [digs_nonneg (by omega), digs_nonneg (by omega), digs_nonneg (by omega), decDigits_big (by omega), Lib.decDigits_one (i := (n % 10).toNat) (by omega)]
  rw [show (n / 10).toNat = n.toNat / 10 by omega, show (n % 10).toNat = n.toNat % 10 by omega]
theorem digs_small_fin : ∀ i : Fin 10, (([48, 49, 50, 51, 52, 53, 54, 55, 56, 57] : Bs).drop i.val).take 1 = [UInt8.ofNat (48 + i.val)] := by decide
theorem digs_small (n : Nat) (h : n < 10) : digs n = (([48, 49, 50, 51, 52, 53, 54, 55, 56, 57] : Bs).drop n).take 1 := by
  rw [digs_nonneg (by omega), digs_small_fin ⟨n, h⟩, Lib.decDigits_one (by omega)]; simp
theorem digs_len {n : Int} (h : n ≤ 9223372036854775807) : (digs n).length ≤ 20 := by
  by_cases h0 : n < 0
  · rw [digs_neg h0]; simp
  · rw [digs_nonneg (by omega), Lib.decDigits_length]; exact Lib.nDigits_le20 _ (by omega)
theorem numOk_digs {n : Int} (h : 0 ≤ n) : numOk (digs n) = true := by rw [digs_nonneg h]; exact numOk_decDigits _
theorem numv_digs {n : Int} (h : 0 ≤ n) : (numv (digs n) : Int) = n := by rw [digs_nonneg h, numv_decDigits]; omega
theorem digs_numv {l : Bs} (h : numOk l = true) : digs (numv l) = l := by rw [digs_nonneg (by omega)]; exact decDigits_of_numOk h

/-! ### strconv.Atoi at digits -/
theorem parseUint_ok (l : Bs) : ∀ acc, l.all dig = true → l.foldl stepv acc < 18446744073709551616 → Lib.parseUint10 acc l = .ok (l.foldl stepv acc) := by
  induction l with
  | nil => intro acc _ _; rfl
  | cons c r ih =>
    intro acc hd hv
    simp only [List.all_cons, Bool.and_eq_true, dig_iff] at hd
    have hm := foldl_ge r (stepv acc c)
    have hs : acc * 10 + (c.toNat - 48) = stepv acc c := by unfold stepv; omega
    have hv' : r.foldl stepv (stepv acc c) < 18446744073709551616 := hv
    simp only [Lib.parseUint10, hs]
    rw [if_pos hd.1, if_neg (by omega), if_neg (by omega), ih _ hd.2 hv']
    rfl
theorem parseUint_range (l : Bs) : ∀ acc, l.all dig = true → acc < 18446744073709551616 → ¬ l.foldl stepv acc < 18446744073709551616 → Lib.parseUint10 acc l = .range := by
  induction l with
  | nil => intro acc _ h1 h2; exact absurd h1 h2
  | cons c r ih =>
    intro acc hd ha hv
    simp only [List.all_cons, Bool.and_eq_true, dig_iff] at hd
    have hs : acc * 10 + (c.toNat - 48) = stepv acc c := by unfold stepv; omega
    have hv' : ¬ r.foldl stepv (stepv acc c) < 18446744073709551616 := hv
    simp only [Lib.parseUint10, hs]
    rw [if_pos hd.1]
    by_cases h1 : 1844674407370955162 ≤ acc
    · rw [if_pos h1]
    · rw [if_neg h1]
      by_cases h2 : 18446744073709551616 ≤ stepv acc c
      · rw [if_pos h2]
      · rw [if_neg h2]; exact ih _ hd.2 (by omega) hv'
theorem atoi_cons_ok (c : UInt8) (r : Bs) (h : 48 ≤ c.toNat ∧ c.toNat ≤ 57) (u : Nat) (hp : Lib.parseUint10 0 (c :: r) = .ok u) : Lib.atoiAll (c :: r) = if 9223372036854775808 ≤ u then .range else .ok (u : Int) := by
  have h1 : ¬ c.toNat = 43 := by omega
  have h2 : ¬ c.toNat = 45 := by omega
  simp only [Lib.atoiAll, Lib.parseMag, h1, h2, or_self, if_false, not_false_eq_true, true_and, false_and, reduceCtorEq]
  rw [hp]
theorem atoi_cons_range (c : UInt8) (r : Bs) (h : 48 ≤ c.toNat ∧ c.toNat ≤ 57) (hp : Lib.parseUint10 0 (c :: r) = .range) : Lib.atoiAll (c :: r) = .range := by
  have h1 : ¬ c.toNat = 43 := by omega
  have h2 : ¬ c.toNat = 45 := by omega
  simp only [Lib.atoiAll, Lib.parseMag, h1, h2, or_self, if_false, not_false_eq_true, true_and, false_and, reduceCtorEq]
  rw [hp]
theorem atoi_dig {l : Bs} (hn : l ≠ []) (hd : l.all dig = true) : Lib.atoiAll l = if numv l < 9223372036854775808 then .ok (numv l : Int) else .range := by
  cases l with
  | nil => exact absurd rfl hn
  | cons c r =>
    have hc := hd
    simp only [List.all_cons, Bool.and_eq_true, dig_iff] at hc
    by_cases h : numv (c :: r) < 18446744073709551616
    · rw [atoi_cons_ok c r hc.1 _ (parseUint_ok _ _ hd h)]
      by_cases h2 : numv (c :: r) < 9223372036854775808
      · simp only [if_pos h2]
        rw [if_neg (show ¬ 9223372036854775808 ≤ (c :: r).foldl stepv 0 from by unfold numv at h2; omega)]; rfl
      · simp only [if_neg h2]
        rw [if_pos (show 9223372036854775808 ≤ (c :: r).foldl stepv 0 from by unfold numv at h2; omega)]
    · rw [atoi_cons_range c r hc.1 (parseUint_range _ _ hd (by omega) h), if_neg (by omega)]

/-! ### a text rune by rune -/
theorem decode_high (s : ByteArray) (pos : Nat) (h : 128 ≤ (s.get! pos).toNat) : 128 ≤ (Utf8.decode s pos).1 := by
  rw [Lib.decode_at]
  generalize (s.get! pos).toNat = b0 at *
  generalize (s.get! (pos + 1)).toNat = b1
  generalize (s.get! (pos + 2)).toNat = b2
  generalize (s.get! (pos + 3)).toNat = b3
  unfold Lib.decodeN
  rw [if_neg (by omega)]
  repeat' split
  all_goals (simp only; omega)
theorem size_mk (l : Bs) : (⟨l.toArray⟩ : ByteArray).size = l.length := by simp [ByteArray.size]
theorem get_mk (l : Bs) (i : Nat) (h : i < l.length) : (⟨l.toArray⟩ : ByteArray).get! i = l[i] := by
  show (l.toArray)[i]! = _
  simp [h]
theorem decode_low (l : Bs) (i : Nat) (h : i < l.length) (ha : l[i].toNat < 128) : Utf8.decode ⟨l.toArray⟩ i = (l[i].toNat, 1) := by
  exact decode_ascii ⟨l.toArray⟩ i (by rw [size_mk]; exact h) ha

def digR (r : Nat) : Bool := decide (48 ≤ r) && decide (r ≤ 57)
theorem idx_dig (l : Bs) : ∀ (f pos : Nat), l.length - pos ≤ f → (Lib.idxFuncFrom (fun r => !digR r) true ⟨l.toArray⟩ f pos < 0 ↔ (l.drop pos).all dig = true) := by
  intro f
  induction f with
  | zero => intro pos h; simp [Lib.idxFuncFrom, List.drop_eq_nil_of_le (show l.length ≤ pos by omega)]
  | succ f ih =>
    intro pos h
    unfold Lib.idxFuncFrom
    rw [size_mk]
    by_cases hp : pos < l.length
    · rw [if_pos hp, List.drop_eq_getElem_cons hp, List.all_cons]
      by_cases ha : l[pos].toNat < 128
      · rw [decode_low l pos hp ha]
        by_cases hd : dig l[pos] = true
        · have : digR l[pos].toNat = true := hd
          simp only [this, hd, Bool.not_true, Bool.false_eq_true, ↓reduceIte, Bool.true_and]
          exact ih _ (by omega)
        · have hd' : dig l[pos] = false := by simpa using hd
          have : digR l[pos].toNat = false := hd'
          simp only [this, hd', Bool.not_false, ↓reduceIte, Bool.false_and]
          simp
      · have h1 := decode_high ⟨l.toArray⟩ pos (by rw [get_mk l pos hp]; omega)
        have h2 : digR (Utf8.decode ⟨l.toArray⟩ pos).1 = false := by simp [digR]; omega
        have h3 : dig l[pos] = false := by simp [dig]; omega
        simp only [h2, h3, Bool.not_false, ↓reduceIte, Bool.false_and]
        simp
    · rw [if_neg hp, List.drop_eq_nil_of_le (by omega)]; simp
theorem idx_all (l : Bs) : (Lib.idxFunc (fun r => !digR r) true ⟨l.toArray⟩ < 0 ↔ l.all dig = true) := by
  unfold Lib.idxFunc
  rw [size_mk]
  simpa using idx_dig l l.length 0 (by omega)
end Go.Gz
/- Plain laws: Hilbert's curve. -/
namespace Go.Gz

/-- the place of (x, y) on the way through a square that is 2^z wide -/
def hil : Nat → Nat → Nat → Nat
  | 0, _, _ => 0
  | z + 1, x, y =>
    if x < 2 ^ z then (if y < 2 ^ z then hil z y x else 4 ^ z + hil z x (y - 2 ^ z))
    else (if 2 ^ z ≤ y then 2 * 4 ^ z + hil z (x - 2 ^ z) (y - 2 ^ z) else 3 * 4 ^ z + hil z (2 ^ z - 1 - y) (2 ^ z - 1 - (x - 2 ^ z)))

theorem hil_a {m x y : Nat} (h1 : x < 2 ^ m) (h2 : y < 2 ^ m) : hil (m + 1) x y = hil m y x := by
  show (if x < 2 ^ m then _ else _) = _
  rw [if_pos h1, if_pos h2]
theorem hil_b {m x y : Nat} (h1 : x < 2 ^ m) (h2 : ¬ y < 2 ^ m) : hil (m + 1) x y = 4 ^ m + hil m x (y - 2 ^ m) := by
  show (if x < 2 ^ m then _ else _) = _
  rw [if_pos h1, if_neg h2]
theorem hil_c {m x y : Nat} (h1 : ¬ x < 2 ^ m) (h2 : ¬ y < 2 ^ m) : hil (m + 1) x y = 2 * 4 ^ m + hil m (x - 2 ^ m) (y - 2 ^ m) := by
  show (if x < 2 ^ m then _ else _) = _
  rw [if_neg h1, if_pos (by omega)]
theorem hil_d {m x y : Nat} (h1 : ¬ x < 2 ^ m) (h2 : y < 2 ^ m) : hil (m + 1) x y = 3 * 4 ^ m + hil m (2 ^ m - 1 - y) (2 ^ m - 1 - (x - 2 ^ m)) := by
  show (if x < 2 ^ m then _ else _) = _
  rw [if_neg h1, if_neg (by omega)]
theorem pow4 (z : Nat) : 4 ^ z = 2 ^ z * 2 ^ z := by rw [← Nat.mul_pow]
theorem hil_lt : ∀ (z x y : Nat), x < 2 ^ z → y < 2 ^ z → hil z x y < 4 ^ z := by
  intro z
  induction z with
  | zero => intro x y _ _; simp [hil]
  | succ z ih =>
    intro x y hx hy
    have hp : 0 < 2 ^ z := Nat.two_pow_pos z
    have h4 : 4 ^ (z + 1) = 4 * 4 ^ z := by rw [Nat.pow_succ]; omega
    have h2 : 2 ^ (z + 1) = 2 * 2 ^ z := by rw [Nat.pow_succ]; omega
    unfold hil
    split
    · split
      · have := ih y x (by omega) (by omega); omega
      · have := ih x (y - 2 ^ z) (by omega) (by omega); omega
    · split
      · have := ih (x - 2 ^ z) (y - 2 ^ z) (by omega) (by omega); omega
      · have := ih (2 ^ z - 1 - y) (2 ^ z - 1 - (x - 2 ^ z)) (by omega) (by omega); omega

def placeE (z x y : Int) : Int := if z < 0 ∨ 26 < z then 2 else if x < 0 ∨ y < 0 ∨ (2 ^ z.toNat : Nat) ≤ x ∨ (2 ^ z.toNat : Nat) ≤ y then 8 else 0
def placeV (z x y : Int) : Nat := if placeE z x y = 0 then hil z.toNat x.toNat y.toNat else 0
def sideV (z : Int) : Int := if 0 ≤ z ∧ z ≤ 26 then ((2 ^ z.toNat : Nat) : Int) else 0
/-- how many tiles the zooms ahead have -/
def baseN : Nat → Nat
  | 0 => 0
  | z + 1 => baseN z + 4 ^ z
theorem baseN_eq (z : Nat) : 3 * baseN z + 1 = 4 ^ z := by
  induction z with
  | zero => simp [baseN]
  | succ z ih => unfold baseN; rw [Nat.pow_succ]; omega
def idV (z x y : Int) : Nat := if placeE z x y = 0 then baseN z.toNat + hil z.toNat x.toNat y.toNat else 0

theorem two_pow_le26 {z : Nat} (h : z ≤ 26) : 2 ^ z ≤ 67108864 := by
  have := Nat.pow_le_pow_right (n := 2) (by omega) h
  simpa using this
theorem four_pow_le27 {z : Nat} (h : z ≤ 27) : 4 ^ z ≤ 18014398509481984 := by
  have := Nat.pow_le_pow_right (n := 4) (by omega) h
  simpa using this

/-! ### bits -/
theorem and_low (x m : Nat) (hx : x < 18446744073709551616) (hm : m ≤ 26) : bits BinOp.and IntKind.u64 (x : Int) (((2 ^ m : Nat) : Int) - 1) = ((x % 2 ^ m : Nat) : Int) := by
  have h1 : ((2 ^ m : Nat) : Int) - 1 = ((2 ^ m - 1 : Nat) : Int) := by
    have := Nat.two_pow_pos m; omega
  have h2 := two_pow_le26 hm
  rw [h1, bits_and_u64_nat x (2 ^ m - 1) (by omega) (by omega), Nat.and_two_pow_sub_one_eq_mod]
theorem bit_at (x m : Nat) (hx : x < 2 * 2 ^ m) (hm : m ≤ 26) : bits BinOp.and IntKind.u64 ((x : Int) / 2 ^ m) 1 = if 2 ^ m ≤ x then 1 else 0 := by
  have hp := two_pow_le26 hm
  have hp0 := Nat.two_pow_pos m
  have e : ((x : Int) / 2 ^ m) = ((x / 2 ^ m : Nat) : Int) := by simp
  rw [e, show (1 : Int) = ((1 : Nat) : Int) from rfl, bits_and_u64_nat _ 1 (Nat.lt_of_le_of_lt (Nat.div_le_self _ _) (by omega)) (by omega), Nat.and_one_is_mod]
  by_cases h : 2 ^ m ≤ x
  · rw [if_pos h, Nat.div_eq_of_lt_le (k := 1) (by omega) (by omega)]
  · rw [if_neg h, Nat.div_eq_of_lt (by omega)]; rfl
theorem or_two (d k : Nat) (hk : k < 4) (hd : 4 * d + 3 < 18446744073709551616) : bits BinOp.or IntKind.u64 ((4 * d : Nat) : Int) (k : Int) = ((4 * d + k : Nat) : Int) := by
  rw [bits_or_u64_nat (4 * d) k (by omega) (by omega)]
  have : 4 * d ||| k = 4 * d + k := by
    have := Nat.shiftLeft_add_eq_or_of_lt (i := 2) (b := k) (by omega) d
    rw [Nat.shiftLeft_eq] at this
    rw [show 4 * d = d * 2 ^ 2 by omega]
    exact this.symm
  rw [this]
theorem or_two' (d k : Nat) (hk : k < 4) (hd : 4 * d + 3 < 18446744073709551616) : bits BinOp.or IntKind.u64 ((d : Int) * 4) (k : Int) = ((4 * d + k : Nat) : Int) := by
  rw [← or_two d k hk hd]; congr 1; omega
/-- what is within a quarter, turned -/
def turnX (sw mi : Bool) (m x y : Nat) : Nat := if mi then 2 ^ m - 1 - (if sw then y % 2 ^ m else x % 2 ^ m) else (if sw then y % 2 ^ m else x % 2 ^ m)
def turnY (sw mi : Bool) (m x y : Nat) : Nat := if mi then 2 ^ m - 1 - (if sw then x % 2 ^ m else y % 2 ^ m) else (if sw then x % 2 ^ m else y % 2 ^ m)
theorem mod_low {x p : Nat} (h : x < p) : x % p = x := Nat.mod_eq_of_lt h
theorem mod_high {x p : Nat} (h : p ≤ x) (h2 : x < 2 * p) : x % p = x - p := by rw [Nat.mod_eq_sub_mod h, Nat.mod_eq_of_lt (by omega)]
theorem step00 {m x y : Nat} (hx : ¬ 2 ^ m ≤ x) (hy : ¬ 2 ^ m ≤ y) : hil (m + 1) x y = 0 * 4 ^ m + hil m (turnX true false m x y) (turnY true false m x y) := by
  simp only [hil, turnX, turnY, if_true, if_false, Bool.false_eq_true, mod_low (show x < 2 ^ m by omega), mod_low (show y < 2 ^ m by omega)]
  rw [if_pos (by omega), if_pos (by omega)]; omega
theorem step01 {m x y : Nat} (hx : ¬ 2 ^ m ≤ x) (hy : 2 ^ m ≤ y) (hy2 : y < 2 * 2 ^ m) : hil (m + 1) x y = 1 * 4 ^ m + hil m (turnX false false m x y) (turnY false false m x y) := by
  simp only [hil, turnX, turnY, if_false, Bool.false_eq_true, mod_low (show x < 2 ^ m by omega), mod_high hy hy2]
  rw [if_pos (by omega), if_neg (by omega)]; omega
theorem step11 {m x y : Nat} (hx : 2 ^ m ≤ x) (hx2 : x < 2 * 2 ^ m) (hy : 2 ^ m ≤ y) (hy2 : y < 2 * 2 ^ m) : hil (m + 1) x y = 2 * 4 ^ m + hil m (turnX false false m x y) (turnY false false m x y) := by
  simp only [hil, turnX, turnY, if_false, Bool.false_eq_true, mod_high hx hx2, mod_high hy hy2]
  rw [if_neg (by omega), if_pos (by omega)]
theorem step10 {m x y : Nat} (hx : 2 ^ m ≤ x) (hx2 : x < 2 * 2 ^ m) (hy : ¬ 2 ^ m ≤ y) : hil (m + 1) x y = 3 * 4 ^ m + hil m (turnX true true m x y) (turnY true true m x y) := by
  simp only [hil, turnX, turnY, if_true, mod_high hx hx2, mod_low (show y < 2 ^ m by omega)]
  rw [if_neg (by omega), if_neg (by omega)]
theorem turnX_lt (sw mi : Bool) (m x y : Nat) : turnX sw mi m x y < 2 ^ m := by
  have hp := Nat.two_pow_pos m
  have h1 := Nat.mod_lt x hp
  have h2 := Nat.mod_lt y hp
  unfold turnX
  cases sw <;> cases mi <;> simp <;> omega
theorem turnY_lt (sw mi : Bool) (m x y : Nat) : turnY sw mi m x y < 2 ^ m := by
  have hp := Nat.two_pow_pos m
  have h1 := Nat.mod_lt x hp
  have h2 := Nat.mod_lt y hp
  unfold turnY
  cases sw <;> cases mi <;> simp <;> omega
theorem acc_step {dd m k r H : Nat} (h : dd * 4 ^ (m + 1) + (k * 4 ^ m + r) = H) : (4 * dd + k) * 4 ^ m + r = H := by
  rw [← h, Nat.pow_succ, Nat.add_mul, Nat.mul_comm (4 ^ m) 4, ← Nat.mul_assoc, Nat.mul_comm dd 4]; omega
end Go.Gz
/- Plain laws: paths of tiles. -/
namespace Go.Gz

def pieces : Bs → List Bs → Option (List Bs × Bs × Bool)
  | [], l => if l.length = 3 then some (l, [], false) else none
  | c :: r, l =>
    if c = 47 ∧ l.length < 3 then pieces r (l ++ [[]])
    else if l = [] then none
    else if dig c = true then pieces r (l.dropLast ++ [l.getLastD [] ++ [c]])
    else if c = 46 ∧ l.length = 3 then some (l, r, true)
    else none

theorem pieces_slash {r : Bs} {l : List Bs} (hl : l.length < 3) : pieces (47 :: r) l = pieces r (l ++ [[]]) := by
  show (if (47 : UInt8) = 47 ∧ l.length < 3 then _ else _) = _
  rw [if_pos ⟨rfl, hl⟩]
theorem pieces_nil {c : UInt8} {r : Bs} (h : ¬ c = 47) : pieces (c :: r) [] = none := by
  show (if c = 47 ∧ _ then _ else _) = _
  rw [if_neg (by simp [h]), if_pos rfl]
theorem pieces_num {c : UInt8} {r : Bs} {l : List Bs} (hn : l ≠ []) (hd : dig c = true) : pieces (c :: r) l = pieces r (l.dropLast ++ [l.getLastD [] ++ [c]]) := by
  have h47 : ¬ c = 47 := by intro e; subst e; simp [dig] at hd
  show (if c = 47 ∧ l.length < 3 then _ else _) = _
  rw [if_neg (by simp [h47]), if_neg hn, if_pos hd]
theorem pieces_dot {r : Bs} {l : List Bs} (hl : l.length = 3) : pieces (46 :: r) l = some (l, r, true) := by
  have hn : ¬ l = [] := by intro e; subst e; simp at hl
  show (if (46 : UInt8) = 47 ∧ l.length < 3 then _ else _) = _
  rw [if_neg (by simp), if_neg hn, if_neg (by decide), if_pos ⟨rfl, hl⟩]
theorem pieces_bad {c : UInt8} {r : Bs} {l : List Bs} (h1 : ¬ (c = 47 ∧ l.length < 3)) (h2 : dig c = false) (h3 : ¬ (c = 46 ∧ l.length = 3)) : pieces (c :: r) l = none := by
  show (if c = 47 ∧ l.length < 3 then _ else _) = _
  rw [if_neg h1]
  split
  · rfl
  · simp only [h2, Bool.false_eq_true, if_false]
theorem set_last (l : List Bs) (u : Bs) (hn : l ≠ []) : l.dropLast ++ [u] = l.set (l.length - 1) u := by
  induction l with
  | nil => exact absurd rfl hn
  | cons a r ih =>
    cases r with
    | nil => rfl
    | cons b t =>
      have := ih (by simp)
      simp only [List.dropLast_cons_cons, List.cons_append, List.length_cons, Nat.add_sub_cancel, List.set_cons_succ] at this ⊢
      rw [this]
theorem getLastD_at (l : List Bs) (hn : l ≠ []) : l.getLastD [] = l.getD (l.length - 1) [] := by
  cases l with
  | nil => exact absurd rfl hn
  | cons a r => simp [List.getLastD, List.getLast_eq_getElem, List.getD]
theorem pieces_dig (r : Bs) : ∀ (l : List Bs) (u : Bs), pieces r (l ++ [u]) = pieces (r.dropWhile dig) (l ++ [u ++ r.takeWhile dig]) := by
  induction r with
  | nil => intro l u; simp
  | cons c r ih =>
    intro l u
    by_cases hd : dig c = true
    · have h47 : ¬ c = 47 := by intro e; subst e; simp [dig] at hd
      rw [List.dropWhile_cons_of_pos hd, List.takeWhile_cons_of_pos hd]
      show (if c = 47 ∧ (l ++ [u]).length < 3 then _ else _) = _
      rw [if_neg (by simp [h47]), if_neg (by simp), if_pos hd]
      have e1 : (l ++ [u]).dropLast = l := by simp
      have e2 : (l ++ [u]).getLastD [] = u := by simp
      rw [e1, e2, ih l (u ++ [c])]
      simp
    · rw [List.dropWhile_cons_of_neg hd, List.takeWhile_cons_of_neg hd]; simp

/-- a slash, and what stands behind it: its digits, and the rest -/
def rpart (r : Bs) : Option (Bs × Bs) := match r with
  | 47 :: r => some (r.takeWhile dig, r.dropWhile dig)
  | _ => none
/-- what stands behind a path's numbers -/
def tail3 (r : Bs) : Option (Bs × Bool) := match r with
  | [] => some ([], false)
  | 46 :: e => some (e, true)
  | _ => none
/-- a path cut at its slashes and its dot -/
def spl (path : Bs) : Option (Bs × Bs × Bs × Bs × Bool) :=
  (rpart path).bind fun (a, r) => (rpart r).bind fun (b, r) => (rpart r).bind fun (c, r) => (tail3 r).map fun (e, d) => (a, b, c, e, d)
theorem dropWhile_head {r : Bs} {c : UInt8} {t : Bs} (h : r.dropWhile dig = c :: t) : dig c = false := by
  induction r with
  | nil => simp at h
  | cons a r ih =>
    by_cases hd : dig a = true
    · rw [List.dropWhile_cons_of_pos hd] at h; exact ih h
    · rw [List.dropWhile_cons_of_neg hd] at h; injection h with h1 h2; subst h1; simpa using hd
theorem pieces_next (l : List Bs) (r : Bs) (hl : l.length < 3) (hd : ∀ c t, r = c :: t → dig c = false) :
    pieces r l = match rpart r with
      | some (a, r') => pieces r' (l ++ [a])
      | none => none := by
  cases r with
  | nil => simp [pieces, rpart]; omega
  | cons c t =>
    have hc := hd c t rfl
    by_cases h : c = 47
    · subst h
      show (if (47 : UInt8) = 47 ∧ l.length < 3 then _ else _) = _
      rw [if_pos ⟨rfl, hl⟩, pieces_dig]
      simp [rpart]
    · have hp : rpart (c :: t) = none := by
        unfold rpart
        split
        · rename_i heq; injection heq with h1; exact absurd h1 h
        · rfl
      rw [hp]
      show (if c = 47 ∧ l.length < 3 then _ else _) = _
      rw [if_neg (by simp [h])]
      split
      · rfl
      · rw [if_neg (by simp [hc]), if_neg (by omega)]
theorem pieces_last (l : List Bs) (r : Bs) (hl : l.length = 3) (hd : ∀ c t, r = c :: t → dig c = false) :
    pieces r l = (tail3 r).map fun (e, d) => (l, e, d) := by
  have hne : ¬ l = [] := by intro e; subst e; simp at hl
  cases r with
  | nil => simp [pieces, hl, tail3]
  | cons c t =>
    have hc := hd c t rfl
    show (if c = 47 ∧ l.length < 3 then _ else _) = _
    rw [if_neg (by omega), if_neg hne, if_neg (by simp [hc])]
    by_cases h : c = 46
    · subst h; rw [if_pos ⟨rfl, hl⟩]; rfl
    · have ht : tail3 (c :: t) = none := by
        unfold tail3
        split
        · rename_i heq; cases heq
        · rename_i heq; injection heq with h1; exact absurd h1 h
        · rfl
      rw [if_neg (by simp [h]), ht]; rfl
theorem part_head {r a r' : Bs} (h : rpart r = some (a, r')) : ∀ c t, r' = c :: t → dig c = false := by
  unfold rpart at h
  split at h
  · injection h with h; injection h with h1 h2
    intro c t e
    subst e
    exact dropWhile_head h2
  · cases h
theorem pieces_spl (path : Bs) (hd : ∀ c t, path = c :: t → dig c = false) : pieces path [] = (spl path).map fun (a, b, c, e, d) => ([a, b, c], e, d) := by
  unfold spl
  rw [pieces_next [] path (by simp) hd]
  cases h1 : rpart path with
  | none => rfl
  | some x =>
    obtain ⟨a, r⟩ := x
    simp only [Option.bind_some, List.nil_append]
    rw [pieces_next [a] r (by simp) (part_head h1)]
    cases h2 : rpart r with
    | none => rfl
    | some x =>
      obtain ⟨b, r2⟩ := x
      simp only [Option.bind_some, List.cons_append, List.nil_append]
      rw [pieces_next [a, b] r2 (by simp) (part_head h2)]
      cases h3 : rpart r2 with
      | none => rfl
      | some x =>
        obtain ⟨c, r3⟩ := x
        simp only [Option.bind_some, List.cons_append, List.nil_append]
        rw [pieces_last [a, b, c] r3 (by simp) (part_head h3)]
        cases tail3 r3 <;> rfl
/-- a path that does not begin with a slash is none, in both ways of cutting -/
theorem pieces_eq (path : Bs) : pieces path [] = (spl path).map fun (a, b, c, e, d) => ([a, b, c], e, d) := by
  by_cases hd : ∀ c t, path = c :: t → dig c = false
  · exact pieces_spl path hd
  · cases path with
    | nil => exact absurd (fun c t e => by cases e) hd
    | cons c t =>
      have hc : dig c = true := by
        cases h : dig c with
        | true => rfl
        | false => exact absurd (fun c' t' e => by injection e with e1; subst e1; exact h) hd
      have h47 : ¬ c = 47 := by intro e; subst e; simp [dig] at hc
      have hp : rpart (c :: t) = none := by
        unfold rpart
        split
        · rename_i heq; injection heq with h1; exact absurd h1 h47
        · rfl
      unfold spl
      rw [hp]
      show (if c = 47 ∧ _ then _ else _) = _
      rw [if_neg (by simp [h47]), if_pos rfl]; rfl
theorem extract_mk (l : Bs) (a : Nat) : (⟨l.toArray⟩ : ByteArray).extract a l.length = ⟨(l.drop a).toArray⟩ := by
  apply ByteArray.ext
  rw [ByteArray.data_extract]
  apply Array.ext'
  simp only [Array.toList_extract, List.extract_eq_take_drop]
  rw [List.take_of_length_le (by simp)]
theorem extract_take (l : Bs) (a : Nat) : (⟨l.toArray⟩ : ByteArray).extract 0 a = ⟨(l.take a).toArray⟩ := by
  apply ByteArray.ext
  rw [ByteArray.data_extract]
  apply Array.ext'
  simp
theorem extract_cons (c : UInt8) (t : Bs) : (⟨(c :: t).toArray⟩ : ByteArray).extract 1 (t.length + 1) = ⟨t.toArray⟩ := by
  have := extract_mk (c :: t) 1
  simpa using this
theorem enc_ascii (c : UInt8) (h : c.toNat < 128) : Utf8.encode (c.toNat : Int) = ⟨[c].toArray⟩ := by
  have hv : Utf8.valid (c.toNat : Int) = true := by simp [Utf8.valid]; omega
  unfold Utf8.encode
  simp [hv, h]
end Go.Gz
/- Plain laws: what a path means. -/
namespace Go.Gz
def knownB (l : Bs) : Bool := l == [97, 118, 105, 102] || l == [106, 112, 101, 103] || l == [106, 112, 103] || l == [109, 118, 116] || l == [112, 98, 102] || l == [112, 110, 103] || l == [119, 101, 98, 112]
/-- a number as a path has it -/
def ovr (l : Bs) : Int := if numE l = 11 then 1099511627776 else numV l
def rtAt (a b c ext : Bs) (dot : Bool) : (Int × Int × Int) × Bs × Int :=
  if numE a = 4 ∨ numE b = 4 ∨ numE c = 4 then ((0, 0, 0), [], 4)
  else if dot = true ∧ knownB ext = false then ((0, 0, 0), [], 14)
  else if placeE (ovr a) (ovr b) (ovr c) ≠ 0 then ((0, 0, 0), [], 8)
  else ((ovr a, ovr b, ovr c), ext, 0)
/-- the tile of a path, its extension, the error -/
def rt (path : Bs) : (Int × Int × Int) × Bs × Int :=
  if 64 < path.length then ((0, 0, 0), [], 5)
  else match spl path with
    | none => ((0, 0, 0), [], 4)
    | some (a, b, c, ext, dot) => rtAt a b c ext dot
/-- the path of a tile, the error -/
def pathB (z x y : Int) (ext : Bs) : Bs := 47 :: digs z ++ 47 :: digs x ++ 47 :: digs y ++ (if ext = [] then [] else 46 :: ext)
def prT (z x y : Int) (ext : Bs) : Bs × Int :=
  if placeE z x y ≠ 0 then ([], placeE z x y) else if ext ≠ [] ∧ knownB ext = false then ([], 14) else (pathB z x y ext, 0)
theorem place_cases (z x y : Int) : placeE z x y = 0 ∨ placeE z x y = 2 ∨ placeE z x y = 8 := by
  unfold placeE; split
  · exact .inr (.inl rfl)
  · split
    · exact .inr (.inr rfl)
    · exact .inl rfl
def bad (e : Int) : (Int × Int × Int) × Bs × Int := ((0, 0, 0), [], e)
/-- what is left to tell of three numbers and what stands behind them -/
def rfin (vs : List Int) (rest : Bs) : (Int × Int × Int) × Bs × Int :=
  match tail3 rest with
  | none => bad 4
  | some (e, dot) => if dot = true ∧ knownB e = false then bad 14
    else if placeE (vs.getD 0 0) (vs.getD 1 0) (vs.getD 2 0) ≠ 0 then bad 8 else ((vs.getD 0 0, vs.getD 1 0, vs.getD 2 0), e, 0)
/-- the reference's way -/
def rgo : Nat → List Int → Bs → (Int × Int × Int) × Bs × Int
  | 0, vs, rest => rfin vs rest
  | n + 1, vs, rest => match rpart rest with
    | none => bad 4
    | some (d, r) => if numE d = 4 then bad 4 else rgo n (vs ++ [ovr d]) r
theorem rt_rgo (l : Bs) (h : ¬ 64 < l.length) : rt l = rgo 3 [] l := by
  unfold rt spl rgo
  rw [if_neg h]
  cases h1 : rpart l with
  | none => rfl
  | some x =>
    obtain ⟨a, r1⟩ := x
    simp only [Option.bind_some, List.nil_append]
    cases h2 : rpart r1 with
    | none =>
      simp only [Option.bind_none]
      unfold rgo
      rw [h2]
      by_cases e : numE a = 4
      · rw [if_pos e]; rfl
      · rw [if_neg e]; rfl
    | some x =>
      obtain ⟨b, r2⟩ := x
      simp only [Option.bind_some]
      unfold rgo
      rw [h2]
      simp only [List.cons_append, List.nil_append]
      cases h3 : rpart r2 with
      | none =>
        simp only [Option.bind_none]
        unfold rgo
        rw [h3]
        by_cases e : numE a = 4
        · rw [if_pos e]; rfl
        · rw [if_neg e]
          by_cases e : numE b = 4
          · rw [if_pos e]; rfl
          · rw [if_neg e]; rfl
      | some x =>
        obtain ⟨c, r3⟩ := x
        simp only [Option.bind_some]
        unfold rgo
        rw [h3]
        simp only [List.cons_append, List.nil_append, rgo]
        unfold rfin
        cases h4 : tail3 r3 with
        | none =>
          simp only [Option.map_none]
          by_cases ea : numE a = 4
          · rw [if_pos ea]; rfl
          · rw [if_neg ea]
            by_cases eb : numE b = 4
            · rw [if_pos eb]; rfl
            · rw [if_neg eb]
              by_cases ec : numE c = 4
              · rw [if_pos ec]; rfl
              · rw [if_neg ec]; rfl
        | some x =>
          obtain ⟨e, dot⟩ := x
          simp only [Option.map_some]
          unfold rtAt
          by_cases ea : numE a = 4
          · rw [if_pos (.inl ea), if_pos ea]; rfl
          · rw [if_neg ea]
            by_cases eb : numE b = 4
            · rw [if_pos (.inr (.inl eb)), if_pos eb]; rfl
            · rw [if_neg eb]
              by_cases ec : numE c = 4
              · rw [if_pos (.inr (.inr ec)), if_pos ec]; rfl
              · rw [if_neg ec, if_neg (by simp [ea, eb, ec])]; rfl
/-! ### the digits that a text begins with -/
theorem rtw_take (l : Bs) : l.take (l.takeWhile dig).length = l.takeWhile dig ∧ l.drop (l.takeWhile dig).length = l.dropWhile dig := by
  induction l with
  | nil => simp
  | cons c r ih =>
    by_cases h : dig c = true
    · rw [List.takeWhile_cons_of_pos h, List.dropWhile_cons_of_pos h]
      simp only [List.length_cons, List.take_succ_cons, List.drop_succ_cons, ih, and_self]
    · rw [List.takeWhile_cons_of_neg h, List.dropWhile_cons_of_neg h]; simp
theorem tw_all (l : Bs) : (l.takeWhile dig).all dig = true := by
  induction l with
  | nil => rfl
  | cons c r ih =>
    by_cases h : dig c = true
    · rw [List.takeWhile_cons_of_pos h, List.all_cons, h, ih]; rfl
    · rw [List.takeWhile_cons_of_neg h]; rfl
theorem tw_len (l : Bs) : (l.takeWhile dig).length ≤ l.length := (List.takeWhile_sublist (p := dig) (l := l)).length_le
theorem tw_at (l : Bs) (k : Nat) (h : k < (l.takeWhile dig).length) (h2 : k < l.length) : dig l[k] = true := by
  have e : l[k] = (l.takeWhile dig)[k] := by
    have := (rtw_take l).1
    have h3 : (l.take (l.takeWhile dig).length)[k]'(by rw [this]; exact h) = l[k] := by simp
    rw [← h3]; congr 1
  rw [e]
  exact List.all_eq_true.1 (tw_all l) _ (List.getElem_mem _)
theorem tw_end (l : Bs) (h2 : (l.takeWhile dig).length < l.length) : dig l[(l.takeWhile dig).length] = false := by
  have h := (rtw_take l).2
  rw [List.drop_eq_getElem_cons h2] at h
  exact dropWhile_head h.symm
theorem numE_cases (l : Bs) : numE l = 4 ∨ numE l = 11 ∨ numE l = 0 := by
  unfold numE; split
  · exact .inl rfl
  · split
    · exact .inr (.inl rfl)
    · exact .inr (.inr rfl)
theorem numV_le (l : Bs) : 0 ≤ numV l ∧ numV l ≤ 9007199254740991 := by
  unfold numV BIG; split
  · omega
  · split
    · omega
    · omega
theorem spl_len {path a b c e : Bs} {d : Bool} (h : spl path = some (a, b, c, e, d)) : a.length ≤ path.length ∧ b.length ≤ path.length ∧ c.length ≤ path.length ∧ e.length ≤ path.length := by
  have hp : ∀ {r a r' : Bs}, rpart r = some (a, r') → a.length ≤ r.length ∧ r'.length ≤ r.length := by
    intro r a r' h
    unfold rpart at h
    split at h
    · injection h with h; injection h with h1 h2
      subst h1 h2
      rename_i t
      have h1 := (List.takeWhile_sublist (p := dig) (l := t)).length_le
      have h2 := (List.dropWhile_sublist (p := dig) (l := t)).length_le
      simp only [List.length_cons]; omega
    · cases h
  unfold spl at h
  simp only [Option.bind_eq_some_iff, Option.map_eq_some_iff, Prod.exists, Prod.mk.injEq] at h
  obtain ⟨a1, r1, h1, b1, r2, h2, c1, r3, h3, e1, d1, h4, e2⟩ := h
  have := hp h1
  have := hp h2
  have := hp h3
  have h5 : e1.length ≤ r3.length := by
    unfold tail3 at h4
    split at h4
    · injection h4 with h4; injection h4 with h4 _; subst h4; simp
    · injection h4 with h4; injection h4 with h4 _; subst h4; simp
    · cases h4
  obtain ⟨rfl, rfl, rfl, rfl, rfl⟩ := e2
  omega
end Go.Gz
