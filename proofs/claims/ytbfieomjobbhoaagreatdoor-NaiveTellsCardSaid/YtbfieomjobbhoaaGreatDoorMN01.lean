/- Plain laws on numerals and texts: no program in sight. -/
import Derived.Lib.ItoaMem
import Derived.Lib.ItoaLen
import Derived.Lib.AtoiAll
import Derived.Lib.DecodeN
import Derived.Laws.RangeString
import Derived.Shelf.GgClosure.StringsIndexFunc
import Derived.Lib.BitFns
import Derived.Lib.ItoaNum
namespace Go.Gz
abbrev Bs := List UInt8

theorem snoc_ind {α : Type} {P : List α → Prop} (h0 : P []) (h1 : ∀ l a, P l → P (l ++ [a])) (l : List α) : P l := by
  have h : ∀ r : List α, P r.reverse := by
    intro r;induction r with
    | nil => exact h0
    | cons a r ih => rw [List.reverse_cons]; exact h1 _ _ ih
  have := h l.reverse;rwa [List.reverse_reverse] at this

def dig (c : UInt8) : Bool := decide (48 ≤ c.toNat) && decide (c.toNat ≤ 57)
def stepv (a : Nat) (c : UInt8) : Nat := 10 * a + (c.toNat - 48)
def numv (l : Bs) : Nat := l.foldl stepv 0
def numOk (l : Bs) : Bool := !l.isEmpty && l.all dig && !(decide (1 < l.length) && (l.headD 0 == 48))
def BIG : Nat := 9007199254740991
def numE (l : Bs) : Int := if numOk l = false then 4 else if BIG < numv l then 11 else 0
def numV (l : Bs) : Int := if numOk l = false then 0 else if BIG < numv l then 0 else (numv l : Int)
def digs (n : Int) : Bs := if n < 0 then [] else Lib.decDigits n.toNat

theorem dig_iff (c : UInt8) : dig c = true ↔ 48 ≤ c.toNat ∧ c.toNat ≤ 57 := by simp [dig]
theorem foldl_ge (l : Bs) : ∀ a, a ≤ l.foldl stepv a := by
  induction l with
  | nil => intro a; simp
  | cons c r ih => intro a; simp only [List.foldl_cons]; have := ih (stepv a c); unfold stepv at this ⊢; omega
/-! ### strconv.Atoi at digits -/
theorem parseUint_ok (l : Bs) : ∀ acc, l.all dig = true → l.foldl stepv acc < 18446744073709551616 → Lib.parseUint10 acc l = .ok (l.foldl stepv acc) := by
  induction l with
  | nil => intro acc _ _; rfl
  | cons c r ih =>
    intro acc hd hv;simp only [List.all_cons, Bool.and_eq_true, dig_iff] at hd;have hm := foldl_ge r (stepv acc c);have hs : acc * 10 + (c.toNat - 48) = stepv acc c := by unfold stepv; omega
    have hv' : r.foldl stepv (stepv acc c) < 18446744073709551616 := hv;simp only [Lib.parseUint10, hs];rw [if_pos hd.1, if_neg (by omega), if_neg (by omega), ih _ hd.2 hv'];rfl
theorem parseUint_range (l : Bs) : ∀ acc, l.all dig = true → acc < 18446744073709551616 → ¬ l.foldl stepv acc < 18446744073709551616 → Lib.parseUint10 acc l = .range := by
  induction l with
  | nil => intro acc _ h1 h2; exact absurd h1 h2
  | cons c r ih =>
    intro acc hd ha hv;simp only [List.all_cons, Bool.and_eq_true, dig_iff] at hd;have hs : acc * 10 + (c.toNat - 48) = stepv acc c := by unfold stepv; omega
    have hv' : ¬ r.foldl stepv (stepv acc c) < 18446744073709551616 := hv;simp only [Lib.parseUint10, hs];rw [if_pos hd.1];by_cases h1 : 1844674407370955162 ≤ acc
    · rw [if_pos h1]
    · rw [if_neg h1];by_cases h2 : 18446744073709551616 ≤ stepv acc c
      · rw [if_pos h2]
      · rw [if_neg h2]; exact ih _ hd.2 (by omega) hv'
theorem atoi_cons_ok (c : UInt8) (r : Bs) (h : 48 ≤ c.toNat ∧ c.toNat ≤ 57) (u : Nat) (hp : Lib.parseUint10 0 (c :: r) = .ok u) : Lib.atoiAll (c :: r) = if 9223372036854775808 ≤ u then .range else .ok (u : Int) := by
  have h1 : ¬ c.toNat = 43 := by omega
  have h2 : ¬ c.toNat = 45 := by omega
  simp only [Lib.atoiAll, Lib.parseMag, h1, h2, or_self, if_false, not_false_eq_true, true_and, false_and, reduceCtorEq];rw [hp]
theorem atoi_cons_range (c : UInt8) (r : Bs) (h : 48 ≤ c.toNat ∧ c.toNat ≤ 57) (hp : Lib.parseUint10 0 (c :: r) = .range) : Lib.atoiAll (c :: r) = .range := by
  have h1 : ¬ c.toNat = 43 := by omega
  have h2 : ¬ c.toNat = 45 := by omega
  simp only [Lib.atoiAll, Lib.parseMag, h1, h2, or_self, if_false, not_false_eq_true, true_and, false_and, reduceCtorEq];rw [hp]
theorem atoi_dig {l : Bs} (hn : l ≠ []) (hd : l.all dig = true) : Lib.atoiAll l = if numv l < 9223372036854775808 then .ok (numv l : Int) else .range := by
  cases l with
  | nil => exact absurd rfl hn
  | cons c r =>
    have hc := hd;simp only [List.all_cons, Bool.and_eq_true, dig_iff] at hc;by_cases h : numv (c :: r) < 18446744073709551616
    · rw [atoi_cons_ok c r hc.1 _ (parseUint_ok _ _ hd h)];by_cases h2 : numv (c :: r) < 9223372036854775808
      · simp only [if_pos h2];rw [if_neg (show ¬ 9223372036854775808 ≤ (c :: r).foldl stepv 0 from by unfold numv at h2; omega)]; rfl
      · simp only [if_neg h2];rw [if_pos (show 9223372036854775808 ≤ (c :: r).foldl stepv 0 from by unfold numv at h2; omega)]
    · rw [atoi_cons_range c r hc.1 (parseUint_range _ _ hd (by omega) h), if_neg (by omega)]
/-! ### a text rune by rune -/
theorem size_mk (l : Bs) : (⟨l.toArray⟩ : ByteArray).size = l.length := by simp [ByteArray.size]
def digR (r : Nat) : Bool := decide (48 ≤ r) && decide (r ≤ 57)
end Go.Gz
/- Plain laws: numbers as bytes (little, varint). -/
namespace Go.Gz
/-- n bytes of x, the least one first -/
def leB : Nat → Nat → Bs
  | 0, _ => []
  | n + 1, x => UInt8.ofNat (x % 256) :: leB n (x / 256)
def leV : Bs → Nat
  | [] => 0
  | b :: r => b.toNat + 256 * leV r
theorem leB_len : ∀ n x, (leB n x).length = n := by
  intro n;induction n with
  | zero => intro x; rfl
  | succ n ih => intro x; unfold leB; rw [List.length_cons, ih]
theorem u8_ofNat (x : Nat) : (UInt8.ofNat (x % 256)).toNat = x % 256 := by simp
theorem leV_leB : ∀ n x, x < 256 ^ n → leV (leB n x) = x := by
  intro n;induction n with
  | zero => intro x h; simp at h; subst h; rfl
  | succ n ih =>
    intro x h;unfold leB leV;rw [u8_ofNat, ih (x / 256) (by rw [Nat.pow_succ] at h; exact Nat.div_lt_of_lt_mul (by rw [Nat.mul_comm]; exact h))];omega
theorem leV_lt : ∀ l : Bs, leV l < 256 ^ l.length := by
  intro l;induction l with
  | nil => simp [leV]
  | cons b r ih =>
    unfold leV;rw [List.length_cons, Nat.pow_succ];have := UInt8.toNat_lt b;omega
theorem leV_snoc (l : Bs) (b : UInt8) : leV (l ++ [b]) = leV l + 256 ^ l.length * b.toNat := by
  induction l with
  | nil => simp [leV]
  | cons a r ih =>
    rw [List.cons_append];unfold leV;rw [ih, List.length_cons, Nat.pow_succ, Nat.mul_add, Nat.mul_comm (256 ^ r.length) 256, Nat.mul_assoc]; omega
/-- a number by seven binary digits a byte -/
def vB (x : Nat) : Bs := if x < 128 then [UInt8.ofNat x] else UInt8.ofNat (x % 128 + 128) :: vB (x / 128)
termination_by x
decreasing_by omega
theorem vB_small {x : Nat} (h : x < 128) : vB x = [UInt8.ofNat x] := by rw [vB, if_pos h]
theorem vB_big {x : Nat} (h : ¬ x < 128) : vB x = UInt8.ofNat (x % 128 + 128) :: vB (x / 128) := by rw [vB, if_neg h]
/-- how many bytes a number has -/
theorem vB_len (k : Nat) : ∀ x, x < 128 ^ (k + 1) → (vB x).length ≤ k + 1 := by
  induction k with
  | zero => intro x h; rw [vB_small (by simpa using h)]; simp
  | succ k ih =>
    intro x h;by_cases h1 : x < 128
    · rw [vB_small h1]; simp
    · rw [vB_big h1, List.length_cons];have := ih (x / 128) (by rw [Nat.pow_succ] at h; exact Nat.div_lt_of_lt_mul (by rw [Nat.mul_comm]; exact h));omega
theorem vB_len10 {x : Nat} (h : x < 18446744073709551616) : (vB x).length ≤ 10 := vB_len 9 x (by omega)
theorem vB_pos (x : Nat) : 0 < (vB x).length := by
  by_cases h : x < 128
  · rw [vB_small h]; simp
  · rw [vB_big h]; simp
theorem bitLen_pos {x : Nat} (h0 : x ≠ 0) (h : x < 2 ^ 64) : 1 ≤ Lib.bitLen x := (Lib.bitLenAux_bounds 64 x h h0).1
theorem vB_size (x : Nat) (h : x < 2 ^ 64) : (vB x).length = max 1 ((Lib.bitLen x + 6) / 7) := by
  induction x using Nat.strongRecOn with
  | _ x ih =>
    by_cases h1 : x < 128
    · rw [vB_small h1];have := Lib.bitLen_le x 7 (by omega) (by omega);simp; omega
    · rw [vB_big h1, List.length_cons, ih (x / 128) (by omega) (by omega)];have e := Lib.bitLen_shift 7 x (by omega) h;have e2 : x / 2 ^ 7 = x / 128 := rfl;rw [e2] at e;have := bitLen_pos (x := x / 128) (by omega) (by omega);omega
/-- taking a number off: the error, the number, how many bytes -/
def vGo : Nat → Nat → Bs → Int × Nat × Nat
  | i, _, [] => (if i = 10 then 11 else 3, 0, 0)
  | i, x, b :: r =>
    if i = 10 then (11, 0, 0)
    else if b.toNat < 128 then (if i = 9 ∧ 1 < b.toNat then (11, 0, 0) else if 0 < i ∧ b.toNat = 0 then (4, 0, 0) else (0, x + b.toNat * 128 ^ i, i + 1))
    else vGo (i + 1) (x + (b.toNat - 128) * 128 ^ i) r
def getV (t : Bs) : Int × Nat × Nat := vGo 0 0 t
theorem vGo_ok (i : Nat) (x : Nat) (t : Bs) (hx : x < 128 ^ i) (hi : i ≤ 10) (h : (vGo i x t).1 = 0) : (vGo i x t).2.1 < 18446744073709551616 ∧ i < (vGo i x t).2.2 ∧ (vGo i x t).2.2 ≤ i + t.length ∧ (vGo i x t).2.2 ≤ 10 := by
  induction t generalizing i x with
  | nil => unfold vGo at h; split at h <;> simp at h
  | cons b r ih =>
    unfold vGo at h ⊢;split at h
    · simp at h
    · rename_i h10;split at h
      · rename_i hb;split at h
        · simp at h
        · rename_i h9;split at h
          · simp at h
          · rename_i h0;rw [if_neg h10, if_pos hb, if_neg h9, if_neg h0];refine ⟨?_, by simp, by simp, by simp; omega⟩;simp only;have hk : ∀ k, k ≤ 8 → (x < 128 ^ k → x + b.toNat * 128 ^ k < 18446744073709551616) := by
              intro k hk hx;have h1 : b.toNat * 128 ^ k ≤ 127 * 128 ^ k := Nat.mul_le_mul_right _ (by omega);have h2 : 128 ^ k ≤ 128 ^ 8 := Nat.pow_le_pow_right (by omega) hk;have h3 : (128 : Nat) ^ 8 = 72057594037927936 := by decide
              omega
            by_cases e : i = 9
            · subst e;have h1 : b.toNat ≤ 1 := by omega
              have h3 : (128 : Nat) ^ 9 = 9223372036854775808 := by decide
              rw [h3] at hx ⊢;have h2 : b.toNat * 9223372036854775808 ≤ 1 * 9223372036854775808 := Nat.mul_le_mul_right _ h1;omega
            · exact hk i (by omega) hx
      · rename_i hb;rw [if_neg h10, if_neg hb];have hlt := UInt8.toNat_lt b;have hx' : x + (b.toNat - 128) * 128 ^ i < 128 ^ (i + 1) := by
          have h1 : (b.toNat - 128) * 128 ^ i ≤ 127 * 128 ^ i := Nat.mul_le_mul_right _ (by omega);rw [Nat.pow_succ]; omega
        have := ih (i + 1) _ hx' (by omega) h;simp only [List.length_cons];omega
theorem getV_ok {t : Bs} (h : (getV t).1 = 0) : (getV t).2.1 < 18446744073709551616 ∧ 0 < (getV t).2.2 ∧ (getV t).2.2 ≤ t.length := by
  have := vGo_ok 0 0 t (by simp) (by omega) h;unfold getV; omega
theorem vGo_vB (x : Nat) : ∀ (i a : Nat) (t : Bs), x * 128 ^ i < 18446744073709551616 → (0 < i → x ≠ 0) → vGo i a (vB x ++ t) = (0, a + x * 128 ^ i, i + (vB x).length) := by
  induction x using Nat.strongRecOn with
  | _ x ih =>
    intro i a t h h0;have hi : i ≠ 10 := by
      intro e; subst e;have h1 : 1 ≤ x := by have := h0 (by omega); omega
      have h3 : (128 : Nat) ^ 10 = 1180591620717411303424 := by decide
      rw [h3] at h; omega
    by_cases h1 : x < 128
    · rw [vB_small h1];have e : (UInt8.ofNat x).toNat = x := by simp; omega
      rw [List.cons_append, List.nil_append];unfold vGo;rw [if_neg hi, e, if_pos h1, if_neg, if_neg (by intro ⟨g, g2⟩; exact h0 g g2)]
      · simp
      · rintro ⟨rfl, g⟩;have h3 : (128 : Nat) ^ 9 = 9223372036854775808 := by decide
        rw [h3] at h; omega
    · rw [vB_big h1];have e : (UInt8.ofNat (x % 128 + 128)).toNat = x % 128 + 128 := by simp; omega
      rw [List.cons_append];unfold vGo;have hm : x / 128 * 128 ^ (i + 1) + x % 128 * 128 ^ i = x * 128 ^ i := by
        rw [Nat.pow_succ, Nat.mul_comm (128 ^ i) 128, ← Nat.mul_assoc, ← Nat.add_mul];congr 1; omega
      rw [if_neg hi, e, if_neg (by omega), ih (x / 128) (by omega) (i + 1) _ t (by omega) (by omega), show x % 128 + 128 - 128 = x % 128 by omega, List.length_cons];rw [Prod.mk.injEq, Prod.mk.injEq];exact ⟨rfl, by omega, by omega⟩
theorem getV_vB {x : Nat} (h : x < 18446744073709551616) (t : Bs) : getV (vB x ++ t) = (0, x, (vB x).length) := by
  unfold getV;rw [vGo_vB x 0 0 t (by simpa using h) (by omega)];simp
end Go.Gz
/- Plain laws: headers, the parts of an archive. -/
namespace Go.Gz
structure Hdr where
  r0 : Nat
  r1 : Nat
  m0 : Nat
  m1 : Nat
  l0 : Nat
  l1 : Nat
  d0 : Nat
  d1 : Nat
  adr : Nat
  ent : Nat
  con : Nat
  clu : Bool
  inn : Nat
  out : Nat
  kind : Nat
  minz : Int
  maxz : Int
  minlon : Int
  minlat : Int
  maxlon : Int
  maxlat : Int
  zoom : Int
  lon : Int
  lat : Int
deriving DecidableEq
abbrev TOT : Nat := 1099511627776
def hdrE (h : Hdr) : Int :=
  if TOT < h.r0 + h.r1 ∨ TOT < h.m0 + h.m1 ∨ TOT < h.l0 + h.l1 ∨ TOT < h.d0 + h.d1 then 8
  else if 4 < h.inn ∨ 4 < h.out ∨ 5 < h.kind then 14
  else if h.minz < 0 ∨ 26 < h.minz ∨ h.maxz < 0 ∨ 26 < h.maxz ∨ h.zoom < 0 ∨ 26 < h.zoom ∨ h.maxz < h.minz then 8
  else if h.minlon < -1800000000 ∨ 1800000000 < h.minlon ∨ h.maxlon < -1800000000 ∨ 1800000000 < h.maxlon ∨ h.lon < -1800000000 ∨ 1800000000 < h.lon ∨ h.maxlon < h.minlon then 8
  else if h.minlat < -900000000 ∨ 900000000 < h.minlat ∨ h.maxlat < -900000000 ∨ 900000000 < h.maxlat ∨ h.lat < -900000000 ∨ 900000000 < h.lat ∨ h.maxlat < h.minlat then 8
  else 0
def uns4 (v : Int) : Nat := (v % 4294967296).toNat
def sgn4 (x : Nat) : Int := if x < 2147483648 then (x : Int) else (x : Int) - 4294967296
/-- the numbers of a header, each with how many bytes it has -/
def pcs (h : Hdr) : List (Nat × Nat) := [(8, h.r0), (8, h.r1), (8, h.m0), (8, h.m1), (8, h.l0), (8, h.l1), (8, h.d0), (8, h.d1), (8, h.adr), (8, h.ent), (8, h.con),
  (1, h.clu.toNat), (1, h.inn), (1, h.out), (1, h.kind), (1, h.minz.toNat), (1, h.maxz.toNat), (4, uns4 h.minlon), (4, uns4 h.minlat), (4, uns4 h.maxlon), (4, uns4 h.maxlat), (1, h.zoom.toNat), (4, uns4 h.lon), (4, uns4 h.lat)]
def layP (ps : List (Nat × Nat)) : Bs := ps.flatMap fun p => leB p.1 p.2
def wideP (ps : List (Nat × Nat)) : Nat := (ps.map Prod.fst).sum
theorem layP_len (ps : List (Nat × Nat)) : (layP ps).length = wideP ps := by
  induction ps with
  | nil => rfl
  | cons p r ih => unfold layP wideP at *; simp [List.flatMap_cons, leB_len, ih]
abbrev magic : Bs := [80, 77, 84, 105, 108, 101, 115, 3]
def hdrB (h : Hdr) : Bs := magic ++ layP (pcs h)
theorem hdrB_len (h : Hdr) : (hdrB h).length = 127 := by unfold hdrB; rw [List.length_append, layP_len]; simp [wideP, pcs]
/-- a number of n bytes at a place -/
def nAt (s : Bs) (p n : Nat) : Nat := leV ((s.drop p).take n)
def hdrD (s : Bs) : Hdr where
  r0 := nAt s 8 8
  r1 := nAt s 16 8
  m0 := nAt s 24 8
  m1 := nAt s 32 8
  l0 := nAt s 40 8
  l1 := nAt s 48 8
  d0 := nAt s 56 8
  d1 := nAt s 64 8
  adr := nAt s 72 8
  ent := nAt s 80 8
  con := nAt s 88 8
  clu := nAt s 96 1 == 1
  inn := nAt s 97 1
  out := nAt s 98 1
  kind := nAt s 99 1
  minz := nAt s 100 1
  maxz := nAt s 101 1
  minlon := sgn4 (nAt s 102 4)
  minlat := sgn4 (nAt s 106 4)
  maxlon := sgn4 (nAt s 110 4)
  maxlat := sgn4 (nAt s 114 4)
  zoom := nAt s 118 1
  lon := sgn4 (nAt s 119 4)
  lat := sgn4 (nAt s 123 4)
def zH : Hdr := ⟨0, 0, 0, 0, 0, 0, 0, 0, 0, 0, 0, false, 0, 0, 0, 0, 0, 0, 0, 0, 0, 0, 0, 0⟩
/-- why a text's header is none -/
def hdrDE (s : Bs) : Int :=
  if s.length < 127 then 3 else if s.take 7 ≠ [80, 77, 84, 105, 108, 101, 115] then 12 else if (s.drop 7).take 1 ≠ [3] then 13 else if 1 < nAt s 96 1 then 4 else hdrE (hdrD s)
/-- the parts -/
def sect (n0 n1 n2 n3 : Nat) : Int := if TOT < 127 + n0 ∨ TOT < 127 + n0 + n1 ∨ TOT < 127 + n0 + n1 + n2 ∨ TOT < 127 + n0 + n1 + n2 + n3 then 8 else 0
def withH (h : Hdr) (n0 n1 n2 n3 : Nat) : Hdr := { h with r0 := 127, r1 := n0, m0 := 127 + n0, m1 := n1, l0 := 127 + n0 + n1, l1 := n2, d0 := 127 + n0 + n1 + n2, d1 := n3 }
def glueE (h : Hdr) (a b c d : Bs) : Int := if sect a.length b.length c.length d.length ≠ 0 then 8 else hdrE (withH h a.length b.length c.length d.length)
def glueB (h : Hdr) (a b c d : Bs) : Bs := if glueE h a b c d = 0 then hdrB (withH h a.length b.length c.length d.length) ++ (a ++ (b ++ (c ++ d))) else []
def cutE (s : Bs) : Int := if hdrDE s ≠ 0 then hdrDE s else
  let h := hdrD s
  if s.length < h.r0 + h.r1 ∨ s.length < h.m0 + h.m1 ∨ s.length < h.l0 + h.l1 ∨ s.length < h.d0 + h.d1 then 8 else 0
def part (s : Bs) (p n : Nat) : Bs := (s.drop p).take n
/-- a header whose numbers are numbers of their kinds -/
structure OkH (h : Hdr) : Prop where
  adr : h.adr < 18446744073709551616
  ent : h.ent < 18446744073709551616
  con : h.con < 18446744073709551616
theorem nAt_here (a b c : Bs) (x n : Nat) (hb : b = leB n x) (hx : x < 256 ^ n) : nAt (a ++ (b ++ c)) a.length n = x := by
  unfold nAt;rw [List.drop_left, List.take_left' (by rw [hb, leB_len]), hb, leV_leB n x hx]
theorem uns_lt (v : Int) : uns4 v < 256 ^ 4 := by
  unfold uns4;have : (256 : Nat) ^ 4 = 4294967296 := by decide
  omega
theorem hdr_ok {h : Hdr} (e : hdrE h = 0) : (h.r0 + h.r1 ≤ TOT ∧ h.m0 + h.m1 ≤ TOT ∧ h.l0 + h.l1 ≤ TOT ∧ h.d0 + h.d1 ≤ TOT) ∧ (h.inn ≤ 4 ∧ h.out ≤ 4 ∧ h.kind ≤ 5) ∧ (0 ≤ h.minz ∧ h.minz ≤ 26 ∧ 0 ≤ h.maxz ∧ h.maxz ≤ 26 ∧ 0 ≤ h.zoom ∧ h.zoom ≤ 26 ∧ h.minz ≤ h.maxz) ∧
    (-1800000000 ≤ h.minlon ∧ h.minlon ≤ 1800000000 ∧ -1800000000 ≤ h.maxlon ∧ h.maxlon ≤ 1800000000 ∧ -1800000000 ≤ h.lon ∧ h.lon ≤ 1800000000 ∧ h.minlon ≤ h.maxlon) ∧
    (-900000000 ≤ h.minlat ∧ h.minlat ≤ 900000000 ∧ -900000000 ≤ h.maxlat ∧ h.maxlat ≤ 900000000 ∧ -900000000 ≤ h.lat ∧ h.lat ≤ 900000000 ∧ h.minlat ≤ h.maxlat) := by
  unfold hdrE at e;split at e
  · simp at e
  · split at e
    · simp at e
    · split at e
      · simp at e
      · split at e
        · simp at e
        · split at e
          · simp at e
          · omega
theorem hdr_mk {h : Hdr} (e1 : h.r0 + h.r1 ≤ TOT ∧ h.m0 + h.m1 ≤ TOT ∧ h.l0 + h.l1 ≤ TOT ∧ h.d0 + h.d1 ≤ TOT) (e2 : h.inn ≤ 4 ∧ h.out ≤ 4 ∧ h.kind ≤ 5) (e3 : 0 ≤ h.minz ∧ h.minz ≤ 26 ∧ 0 ≤ h.maxz ∧ h.maxz ≤ 26 ∧ 0 ≤ h.zoom ∧ h.zoom ≤ 26 ∧ h.minz ≤ h.maxz)
    (e4 : -1800000000 ≤ h.minlon ∧ h.minlon ≤ 1800000000 ∧ -1800000000 ≤ h.maxlon ∧ h.maxlon ≤ 1800000000 ∧ -1800000000 ≤ h.lon ∧ h.lon ≤ 1800000000 ∧ h.minlon ≤ h.maxlon)
    (e5 : -900000000 ≤ h.minlat ∧ h.minlat ≤ 900000000 ∧ -900000000 ≤ h.maxlat ∧ h.maxlat ≤ 900000000 ∧ -900000000 ≤ h.lat ∧ h.lat ≤ 900000000 ∧ h.minlat ≤ h.maxlat) : hdrE h = 0 := by
  unfold hdrE;rw [if_neg (by omega), if_neg (by omega), if_neg (by omega), if_neg (by omega), if_neg (by omega)]
theorem nAt_piece (m : Bs) (ps : List (Nat × Nat)) (t : Bs) (k : Nat) (hk : k < ps.length) (hx : ps[k].2 < 256 ^ ps[k].1) : nAt (m ++ layP ps ++ t) (m.length + wideP (ps.take k)) ps[k].1 = ps[k].2 := by
  have e : m ++ layP ps ++ t = (m ++ layP (ps.take k)) ++ (leB ps[k].1 ps[k].2 ++ (layP (ps.drop (k + 1)) ++ t)) := by
    have h1 : ps = ps.take k ++ ps[k] :: ps.drop (k + 1) := by
      rw [← List.drop_eq_getElem_cons hk, List.take_append_drop]
    have h2 : layP ps = layP (ps.take k) ++ (leB ps[k].1 ps[k].2 ++ layP (ps.drop (k + 1))) := by
      conv => lhs; rw [h1]
      unfold layP;rw [List.flatMap_append, List.flatMap_cons]
    rw [h2]; simp
  rw [e, ← layP_len, ← List.length_append];exact nAt_here _ _ _ _ _ rfl hx
theorem rd_pc (h : Hdr) (t : Bs) (k p n x : Nat) (hk : (pcs h)[k]? = some (n, x)) (hp : 8 + wideP ((pcs h).take k) = p) (hx : x < 256 ^ n) : nAt (hdrB h ++ t) p n = x := by
  obtain ⟨h1, h2⟩ := List.getElem?_eq_some_iff.1 hk;have := nAt_piece magic (pcs h) t k h1 (by rw [h2]; exact hx);rw [h2] at this;unfold hdrB;rw [← hp];exact this
end Go.Gz
/- Plain laws: entries of directories, and directories as bytes. -/
namespace Go.Gz
/-- an entry of a directory -/
structure Ent where
  id : Nat
  off : Nat
  len : Nat
  run : Nat
deriving DecidableEq
abbrev Ents := List Ent
def zE : Ent := ⟨0, 0, 0, 0⟩
def wideE (e : Ent) : Nat := max 1 e.run
def chkE (e : Ent) : Int := if e.len = 0 then 2 else if 6004799503160661 < e.id + wideE e then 8 else if 1099511627776 < e.off + e.len then 8 else 0
def lastE (e : Ent) : Nat := if chkE e = 0 then e.id + wideE e - 1 else 0
def hasE (e : Ent) (id : Nat) : Bool := decide (chkE e = 0) && decide (0 < e.run) && decide (e.id ≤ id) && decide (id ≤ lastE e)
/-- whether entries rise, from a first identifier that is free -/
def rowGo : Nat → Ents → Int
  | _, [] => 0
  | free, e :: r => if chkE e ≠ 0 then chkE e else if e.id < free then 10 else rowGo (lastE e + 1) r
def rowE (l : Ents) : Int := if 4096 < l.length then 21 else rowGo 0 l
/-- an entry whose numbers are numbers of their kinds -/
def okE (e : Ent) : Prop := e.id < 18446744073709551616 ∧ e.off < 18446744073709551616 ∧ e.len < 4294967296 ∧ e.run < 4294967296
theorem chk_ok {e : Ent} (h : chkE e = 0) : 0 < e.len ∧ e.id + wideE e ≤ 6004799503160661 ∧ e.off + e.len ≤ 1099511627776 := by
  unfold chkE at h;split at h
  · simp at h
  · split at h
    · simp at h
    · split at h
      · simp at h
      · omega
theorem chk_mk {e : Ent} (h1 : 0 < e.len) (h2 : e.id + wideE e ≤ 6004799503160661) (h3 : e.off + e.len ≤ 1099511627776) : chkE e = 0 := by
  unfold chkE;rw [if_neg (by omega), if_neg (by omega), if_neg (by omega)]
theorem wide_pos (e : Ent) : 1 ≤ wideE e ∧ e.run ≤ wideE e := by unfold wideE; omega
theorem last_ok {e : Ent} (h : chkE e = 0) : lastE e = e.id + wideE e - 1 := by unfold lastE; rw [if_pos h]
theorem has_iff {e : Ent} {id : Nat} : hasE e id = true ↔ chkE e = 0 ∧ 0 < e.run ∧ e.id ≤ id ∧ id < e.id + e.run := by
  unfold hasE;simp only [Bool.and_eq_true, decide_eq_true_eq];constructor
  · rintro ⟨⟨⟨h1, h2⟩, h3⟩, h4⟩;rw [last_ok h1] at h4;refine ⟨h1, h2, h3, ?_⟩;have : wideE e = e.run := by unfold wideE; omega
    omega
  · rintro ⟨h1, h2, h3, h4⟩;refine ⟨⟨⟨h1, h2⟩, h3⟩, ?_⟩;rw [last_ok h1];have : wideE e = e.run := by unfold wideE; omega
    omega
theorem rowGo_cons {f : Nat} {e : Ent} {r : Ents} (h : rowGo f (e :: r) = 0) : chkE e = 0 ∧ f ≤ e.id ∧ rowGo (e.id + wideE e) r = 0 := by
  unfold rowGo at h;split at h
  · contradiction
  · rename_i h1;have h1 : chkE e = 0 := by omega
    split at h
    · simp at h
    · refine ⟨h1, by omega, ?_⟩;rw [last_ok h1] at h;have := wide_pos e;rwa [show e.id + wideE e - 1 + 1 = e.id + wideE e by omega] at h
theorem rowGo_mk {f : Nat} {e : Ent} {r : Ents} (h1 : chkE e = 0) (h2 : f ≤ e.id) (h3 : rowGo (e.id + wideE e) r = 0) : rowGo f (e :: r) = 0 := by
  unfold rowGo;have := wide_pos e;rw [if_neg (by omega), if_neg (by omega), last_ok h1, show e.id + wideE e - 1 + 1 = e.id + wideE e by omega, h3]
theorem rowGo_iff (l : Ents) : ∀ f, rowGo f l = 0 ↔ (∀ e ∈ l, chkE e = 0 ∧ f ≤ e.id) ∧ l.Pairwise (fun a b => a.id + wideE a ≤ b.id) := by
  induction l with
  | nil => intro f; simp [rowGo]
  | cons e r ih =>
    intro f;constructor
    · intro h;obtain ⟨h1, h2, h3⟩ := rowGo_cons h;obtain ⟨g1, g2⟩ := (ih _).1 h3;refine ⟨fun x hx => ?_, List.pairwise_cons.2 ⟨fun x hx => (g1 x hx).2, g2⟩⟩;rcases List.mem_cons.1 hx with rfl | hx
      · exact ⟨h1, h2⟩
      · have := g1 x hx; exact ⟨this.1, by omega⟩
    · rintro ⟨h1, h2⟩;obtain ⟨g1, g2⟩ := List.pairwise_cons.1 h2;have h0 := h1 e (by simp);exact rowGo_mk h0.1 h0.2 ((ih _).2 ⟨fun x hx => ⟨(h1 x (by simp [hx])).1, g1 x hx⟩, g2⟩)
theorem row_len {l : Ents} (h : rowE l = 0) : l.length ≤ 4096 := by
  unfold rowE at h;split at h
  · simp at h
  · omega
theorem row_go {l : Ents} (h : rowE l = 0) : rowGo 0 l = 0 := by
  unfold rowE at h;split at h
  · simp at h
  · exact h
theorem row_mk {l : Ents} (h1 : l.length ≤ 4096) (h2 : rowGo 0 l = 0) : rowE l = 0 := by
  unfold rowE; rw [if_neg (by omega), h2]
theorem row_iff (l : Ents) : rowE l = 0 ↔ l.length ≤ 4096 ∧ (∀ e ∈ l, chkE e = 0) ∧ l.Pairwise (fun a b => a.id + wideE a ≤ b.id) := by
  constructor
  · intro h;have := (rowGo_iff l 0).1 (row_go h);exact ⟨row_len h, fun e he => (this.1 e he).1, this.2⟩
  · rintro ⟨h1, h2, h3⟩;exact row_mk h1 ((rowGo_iff l 0).2 ⟨fun e he => ⟨h2 e he, Nat.zero_le _⟩, h3⟩)
theorem row_chk {l : Ents} (h : rowE l = 0) {e : Ent} (he : e ∈ l) : chkE e = 0 := ((row_iff l).1 h).2.1 e he
/-- the cells of entries -/
def entC (e : Ent) : List Value := [.int .u64 (e.id : Int), .int .u64 (e.off : Int), .int .u32 (e.len : Int), .int .u32 (e.run : Int)]
def entV (l : Ents) : List Value := l.flatMap entC
theorem entV_nil : entV [] = [] := rfl
theorem entV_cons (e : Ent) (l : Ents) : entV (e :: l) = .int .u64 (e.id : Int) :: .int .u64 (e.off : Int) :: .int .u32 (e.len : Int) :: .int .u32 (e.run : Int) :: entV l := rfl
theorem entV_app (l m : Ents) : entV (l ++ m) = entV l ++ entV m := by simp [entV]
theorem entV_len (l : Ents) : (entV l).length = l.length * 4 := by
  induction l with
  | nil => rfl
  | cons e r ih => rw [entV_cons]; simp [ih]; omega
theorem entV_get (l : Ents) : ∀ k (h : k < l.length), (entV l)[k * 4]? = some (.int .u64 (l[k].id : Int)) ∧ (entV l)[k * 4 + 1]? = some (.int .u64 (l[k].off : Int)) ∧ (entV l)[k * 4 + 2]? = some (.int .u32 (l[k].len : Int)) ∧ (entV l)[k * 4 + 3]? = some (.int .u32 (l[k].run : Int)) := by
  induction l with
  | nil => intro k h; simp at h
  | cons x r ih =>
    intro k h;rw [entV_cons];cases k with
    | zero => exact ⟨rfl, rfl, rfl, rfl⟩
    | succ k =>
      have := ih k (by simp at h; omega);rw [show (k + 1) * 4 = k * 4 + 1 + 1 + 1 + 1 by omega];simpa using this
theorem entV_one (l : Ents) : ∀ u ∈ entV l, u.oneCell' = true := by
  intro u hu;simp only [entV, entC, List.mem_flatMap] at hu;obtain ⟨x, _, hx⟩ := hu;simp at hx;rcases hx with rfl | rfl | rfl | rfl <;> rfl
theorem entV_take (l : Ents) (k : Nat) : entV (l.take k) = (entV l).take (k * 4) := by
  induction l generalizing k with
  | nil => simp [entV]
  | cons x r ih =>
    cases k with
    | zero => simp [entV]
    | succ k => rw [List.take_succ_cons, entV_cons, entV_cons, ih, show (k + 1) * 4 = k * 4 + 1 + 1 + 1 + 1 by omega]; rfl
theorem entV_drop (l : Ents) (k : Nat) : entV (l.drop k) = (entV l).drop (k * 4) := by
  induction l generalizing k with
  | nil => simp [entV]
  | cons x r ih =>
    cases k with
    | zero => simp
    | succ k => rw [List.drop_succ_cons, entV_cons, ih, show (k + 1) * 4 = k * 4 + 1 + 1 + 1 + 1 by omega]; rfl
/-- the number of an entry in a column -/
def numC (c i : Nat) (a e : Ent) : Nat :=
  if c = 0 then e.id - a.id else if c = 1 then e.run else if c = 2 then e.len else if 0 < i ∧ e.off = a.off + a.len then 0 else e.off + 1
def colN (c : Nat) : Nat → Ent → Ents → List Nat
  | _, _, [] => []
  | i, a, e :: r => numC c i a e :: colN c (i + 1) e r
def nums (l : Ents) : List Nat := l.length :: (colN 0 0 zE l ++ (colN 1 0 zE l ++ (colN 2 0 zE l ++ colN 3 0 zE l)))
def dirB (l : Ents) : Bs := (nums l).flatMap vB
def sizeL (xs : List Nat) : Nat := (xs.map fun x => (vB x).length).sum
theorem size_flat (xs : List Nat) : (xs.flatMap vB).length = sizeL xs := by
  induction xs with
  | nil => rfl
  | cons x r ih => unfold sizeL at *; simp [List.flatMap_cons, ih]
theorem dirB_len (l : Ents) : (dirB l).length = sizeL (nums l) := size_flat _
theorem sizeL_app (a b : List Nat) : sizeL (a ++ b) = sizeL a + sizeL b := by simp [sizeL]
theorem colN_len (c : Nat) (l : Ents) : ∀ i a, (colN c i a l).length = l.length := by
  induction l with
  | nil => intro i a; rfl
  | cons e r ih => intro i a; unfold colN; simp [ih]
theorem nums_len (l : Ents) : (nums l).length = 1 + 4 * l.length := by unfold nums; simp [colN_len]; omega
theorem colN_lt (c : Nat) (l : Ents) : ∀ i a, (∀ e ∈ l, chkE e = 0) → (∀ e ∈ l, okE e) → ∀ x ∈ colN c i a l, x < 18446744073709551616 := by
  induction l with
  | nil => intro i a _ _ x hx; simp [colN] at hx
  | cons e r ih =>
    intro i a h1 h2 x hx;unfold colN at hx;rcases List.mem_cons.1 hx with rfl | hx
    · have g1 := chk_ok (h1 e (by simp));have g2 := h2 e (by simp);unfold okE at g2;unfold numC;split
      · omega
      · split
        · omega
        · split
          · omega
          · split <;> omega
    · exact ih _ _ (fun e he => h1 e (by simp [he])) (fun e he => h2 e (by simp [he])) x hx
theorem nums_lt {l : Ents} (h : rowE l = 0) (h2 : ∀ e ∈ l, okE e) : ∀ x ∈ nums l, x < 18446744073709551616 := by
  intro x hx;have h1 : ∀ e ∈ l, chkE e = 0 := fun e he => row_chk h he;have hl := row_len h;unfold nums at hx;simp only [List.mem_cons, List.mem_append] at hx;rcases hx with rfl | hx | hx | hx | hx
  · omega
  all_goals exact colN_lt _ l _ _ h1 h2 x hx
theorem size_le (xs : List Nat) (h : ∀ x ∈ xs, x < 18446744073709551616) : sizeL xs ≤ 10 * xs.length := by
  induction xs with
  | nil => simp [sizeL]
  | cons x r ih =>
    have h1 := vB_len10 (h x (by simp));have h2 := ih (fun y hy => h y (by simp [hy]));unfold sizeL at *;simp; omega
/-- what a directory's bytes are, or why there are none -/
def encE (l : Ents) : Int := if rowE l ≠ 0 then rowE l else if 65536 < (dirB l).length then 5 else 0
def encB (l : Ents) : Bs := if encE l = 0 then dirB l else []
def sizeD (l : Ents) : Nat := if rowE l ≠ 0 then 0 else (dirB l).length
/-- setting a field by its number in a column -/
def nextE (e : Ent) : Nat := (e.off + e.len) % 18446744073709551616
def setE (c i : Nat) (a e : Ent) (x : Nat) : Int × Ent :=
  if c = 0 then (if (a.id + x) % 18446744073709551616 < x then 11 else 0, { e with id := (a.id + x) % 18446744073709551616 })
  else if c = 1 then (if 4294967296 ≤ x then (11, e) else (0, { e with run := x }))
  else if c = 2 then (if 4294967296 ≤ x then (11, e) else (0, { e with len := x }))
  else if i = 0 ∧ x = 0 ∨ 0 < i ∧ 0 < x ∧ (x + 18446744073709551615) % 18446744073709551616 = nextE a then (4, e)
  else (0, { e with off := if x = 0 then nextE a else (x + 18446744073709551615) % 18446744073709551616 })
def colD (c : Nat) : Nat → Ent → Ents → Bs → Int × Ents × Bs
  | _, _, [], t => (0, [], t)
  | i, a, e :: r, t =>
    if (getV t).1 ≠ 0 then ((getV t).1, [], [])
    else if (setE c i a e (getV t).2.1).1 ≠ 0 then ((setE c i a e (getV t).2.1).1, [], [])
    else
      let q := colD c (i + 1) (setE c i a e (getV t).2.1).2 r (t.drop (getV t).2.2)
      (q.1, (setE c i a e (getV t).2.1).2 :: q.2.1, q.2.2)
def colsD : Nat → Nat → Ents → Bs → Int × Ents × Bs
  | _, 0, l, t => (0, l, t)
  | c, k + 1, l, t =>
    let q := colD c 0 zE l t
    if q.1 ≠ 0 then (q.1, [], []) else colsD (c + 1) k q.2.1 q.2.2
def endD (q : Int × Ents × Bs) : Int × Ents :=
  if q.1 ≠ 0 then (q.1, []) else if q.2.2 ≠ [] then (4, []) else if rowE q.2.1 ≠ 0 then (rowE q.2.1, []) else (0, q.2.1)
def decD (s : Bs) : Int × Ents :=
  if 65536 < s.length then (5, []) else if (getV s).1 ≠ 0 then ((getV s).1, []) else if 4096 < (getV s).2.1 then (21, [])
  else endD (colsD 0 4 (List.replicate (getV s).2.1 zE) (s.drop (getV s).2.2))
theorem decD_row {s : Bs} (h : (decD s).1 = 0) : rowE (decD s).2 = 0 := by
  unfold decD at h ⊢;split at h
  · simp at h
  · rename_i g1;split at h
    · contradiction
    · rename_i g2;split at h
      · simp at h
      · rename_i g3;rw [if_neg g1, if_neg g2, if_neg g3];unfold endD at h ⊢;split at h
        · contradiction
        · rename_i g4;split at h
          · simp at h
          · rename_i g5;split at h
            · contradiction
            · rename_i g6;rw [if_neg g4, if_neg g5, if_neg g6]; simp at g6; exact g6
end Go.Gz
/- Plain laws: a row of entries cut into a root and leaves, and put together again. -/
namespace Go.Gz
def cutF : Nat → Nat → Ents → List Ents
  | 0, _, _ => []
  | f + 1, n, l => if l = [] then [] else l.take n :: cutF f n (l.drop n)
/-- pieces of so many entries -/
def cutL (n : Nat) (l : Ents) : List Ents := cutF l.length n l
theorem cutF_flat : ∀ f n (l : Ents), 0 < n → l.length ≤ f → (cutF f n l).flatten = l := by
  intro f;induction f with
  | zero => intro n l _ h; have : l = [] := List.eq_nil_of_length_eq_zero (by omega); subst this; rfl
  | succ f ih =>
    intro n l hn h;unfold cutF;split
    · rename_i e; rw [e]; rfl
    · rename_i e;have hp := List.length_pos_iff.2 e;rw [List.flatten_cons, ih n _ hn (by rw [List.length_drop]; omega), List.take_append_drop]
theorem cutF_ne : ∀ f n (l : Ents), 0 < n → ∀ c ∈ cutF f n l, c ≠ [] := by
  intro f;induction f with
  | zero => intro n l _ c hc; simp [cutF] at hc
  | succ f ih =>
    intro n l hn c hc;unfold cutF at hc;split at hc
    · simp at hc
    · rename_i e;rcases List.mem_cons.1 hc with rfl | hc
      · have hp := List.length_pos_iff.2 e;exact List.length_pos_iff.1 (by rw [List.length_take]; omega)
      · exact ih n _ hn c hc
theorem cut_flat {n : Nat} (l : Ents) (hn : 0 < n) : (cutL n l).flatten = l := cutF_flat _ n l hn (Nat.le_refl _)
theorem cut_ne {n : Nat} (l : Ents) (hn : 0 < n) : ∀ c ∈ cutL n l, c ≠ [] := cutF_ne _ n l hn
theorem cutF_get : ∀ f n (l : Ents), 0 < n → l.length ≤ f → ∀ k, (k * n < l.length → (cutF f n l)[k]? = some ((l.drop (k * n)).take n)) ∧ (¬ k * n < l.length → (cutF f n l)[k]? = none) := by
  intro f;induction f with
  | zero =>
    intro n l hn hl k;have : l = [] := List.eq_nil_of_length_eq_zero (by omega);subst this;simp [cutF]
  | succ f ih =>
    intro n l hn hl k;unfold cutF;split
    · rename_i e; subst e; simp
    · rename_i e;have hp := List.length_pos_iff.2 e;cases k with
      | zero => simp; omega
      | succ k =>
        have h := ih n (l.drop n) hn (by rw [List.length_drop]; omega) k;rw [List.length_drop, List.drop_drop] at h;have e1 : (k + 1) * n = n + k * n := by rw [Nat.add_mul]; omega
        rw [List.getElem?_cons_succ, e1];exact ⟨fun hk => h.1 (by omega), fun hk => h.2 (by omega)⟩
theorem cut_get {n : Nat} (l : Ents) (hn : 0 < n) (k : Nat) : (k * n < l.length ↔ k < (cutL n l).length) ∧ ∀ (h : k < (cutL n l).length), (cutL n l)[k] = (l.drop (k * n)).take n := by
  have h := cutF_get l.length n l hn (Nat.le_refl _) k;have h1 : k * n < l.length ↔ k < (cutL n l).length := by
    constructor
    · intro hk;have := h.1 hk;exact (List.getElem?_eq_some_iff.1 this).1
    · intro hk;rcases Nat.lt_or_ge (k * n) l.length with g | g
      · exact g
      · have := h.2 (by omega);rw [List.getElem?_eq_none_iff] at this;unfold cutL at hk;omega
  refine ⟨h1, fun hk => ?_⟩;have := h.1 (h1.2 hk);exact (List.getElem?_eq_some_iff.1 this).2
theorem cut_one {n : Nat} {l : Ents} (h0 : l ≠ []) (h : l.length ≤ n) : cutL n l = [l] := by
  unfold cutL;have hp := List.length_pos_iff.2 h0;obtain ⟨f, hf⟩ : ∃ f, l.length = f + 1 := ⟨l.length - 1, by omega⟩;rw [hf];unfold cutF;rw [if_neg h0, List.take_of_length_le h, List.drop_eq_nil_of_le h];cases f <;> simp [cutF]
theorem flat_len {cs : List Ents} (h : ∀ c ∈ cs, c ≠ []) : cs.length ≤ cs.flatten.length := by
  induction cs with
  | nil => simp
  | cons c r ih =>
    have := ih (fun d hd => h d (by simp [hd]));have := List.length_pos_iff.2 (h c (by simp));rw [List.flatten_cons, List.length_append, List.length_cons]; omega
/-- the pointers to the pieces' bytes -/
def roots : Nat → List Ents → Ents
  | _, [] => []
  | o, c :: r => ⟨(c.headD zE).id, o, (dirB c).length, 0⟩ :: roots (o + (dirB c).length) r
theorem roots_len (cs : List Ents) : ∀ o, (roots o cs).length = cs.length := by
  induction cs with
  | nil => intro o; rfl
  | cons c r ih => intro o; unfold roots; simp [ih]
theorem roots_snoc (cs : List Ents) (c : Ents) : ∀ o, roots o (cs ++ [c]) = roots o cs ++ [⟨(c.headD zE).id, o + (cs.flatMap dirB).length, (dirB c).length, 0⟩] := by
  induction cs with
  | nil => intro o; simp [roots]
  | cons d r ih =>
    intro o;rw [List.cons_append];unfold roots;rw [ih, List.flatMap_cons, List.length_append, Nat.add_assoc]; rfl
theorem dirB_pos (l : Ents) : 0 < (dirB l).length := by
  unfold dirB nums;rw [List.flatMap_cons, List.length_append];have := vB_pos l.length;omega
theorem enc_ok {l : Ents} (h : encE l = 0) : rowE l = 0 ∧ (dirB l).length ≤ 65536 := by
  unfold encE at h;split at h
  · contradiction
  · rename_i h1;split at h
    · simp at h
    · exact ⟨by simpa using h1, by omega⟩
theorem enc_mk {l : Ents} (h1 : rowE l = 0) (h2 : (dirB l).length ≤ 65536) : encE l = 0 := by
  unfold encE;rw [if_neg (by omega), if_neg (by omega)]
theorem dirs_len {cs : List Ents} (h : ∀ c ∈ cs, encE c = 0) : (cs.flatMap dirB).length ≤ 65536 * cs.length := by
  induction cs with
  | nil => simp
  | cons c r ih =>
    have h1 := (enc_ok (h c (by simp))).2;have := ih (fun d hd => h d (by simp [hd]));rw [List.flatMap_cons, List.length_append, List.length_cons];omega
theorem roots_row (cs : List Ents) : ∀ o f, (∀ c ∈ cs, encE c = 0) → (∀ c ∈ cs, c ≠ []) → rowGo f cs.flatten = 0 → o + 65536 * cs.length ≤ 1099511627776 → rowGo f (roots o cs) = 0 := by
  induction cs with
  | nil => intro o f _ _ _ _; rfl
  | cons c r ih =>
    intro o f h1 h2 h3 h4;have e1 := enc_ok (h1 c (by simp));have e2 := dirB_pos c;rw [List.length_cons] at h4;obtain ⟨x, t, rfl⟩ : ∃ x t, c = x :: t := by
      cases c with
      | nil => exact absurd rfl (h2 [] (by simp))
      | cons x t => exact ⟨x, t, rfl⟩
    rw [List.flatten_cons, List.cons_append] at h3;have hgo := (rowGo_iff _ _).1 h3;obtain ⟨g1, g2, g3⟩ := rowGo_cons h3;have hw := wide_pos x;have hc := chk_ok g1;unfold roots;refine rowGo_mk (chk_mk e2 (by simp [wideE]; omega) (by simp; omega)) g2 ?_;refine ih _ _ (fun d hd => h1 d (by simp [hd])) (fun d hd => h2 d (by simp [hd])) ?_ (by omega);refine (rowGo_iff _ _).2 ⟨fun e he => ?_, ?_⟩
    · have := (rowGo_iff _ _).1 g3;have h5 := this.1 e (by simp [he]);refine ⟨h5.1, ?_⟩;simp [wideE]; omega
    · have := ((rowGo_iff _ _).1 g3).2;rw [List.pairwise_append] at this;exact this.2.1
def splitAt (n : Nat) (l : Ents) (b : Nat) : Option (Ents × Bs) :=
  if (cutL n l).all (fun c => encE c == 0) = false then none
  else if b < sizeD (roots 0 (cutL n l)) then none else some (roots 0 (cutL n l), (cutL n l).flatMap dirB)
def splitS : List Nat → Ents → Nat → Int × Ents × Bs × Nat
  | [], _, _ => (15, [], [], 0)
  | n :: r, l, b => match splitAt n l b with
    | some st => (0, st.1, st.2, n)
    | none => splitS r l b
def sizesL : List Nat := [1, 2, 4, 8, 16, 32, 64, 128, 256, 512, 1024, 2048, 4096]
def splitV (l : Ents) (b : Nat) : Int × Ents × Bs × Nat :=
  if b < 1 ∨ 16257 < b then (2, [], [], 0) else if rowE l ≠ 0 then (rowE l, [], [], 0) else if l.any (fun e => e.run == 0) then (14, [], [], 0)
  else if sizeD l ≤ b then (0, l, [], 0) else splitS sizesL l b
theorem splitS_ok (ns : List Nat) (l : Ents) (b n : Nat) (hn : n ∈ ns) (h : (splitAt n l b).isSome) : (splitS ns l b).1 = 0 := by
  induction ns with
  | nil => simp at hn
  | cons m r ih =>
    unfold splitS;cases e : splitAt m l b with
    | some st => rfl
    | none =>
      rcases List.mem_cons.1 hn with rfl | hn
      · rw [e] at h; simp at h
      · exact ih hn
theorem splitS_at (ns : List Nat) (l : Ents) (b : Nat) (h : (splitS ns l b).1 = 0) : ∃ n ∈ ns, splitAt n l b = some ((splitS ns l b).2.1, (splitS ns l b).2.2.1) ∧ (splitS ns l b).2.2.2 = n := by
  induction ns with
  | nil => simp [splitS] at h
  | cons m r ih =>
    unfold splitS at h ⊢;cases e : splitAt m l b with
    | some st => exact ⟨m, by simp, by simpa using e, rfl⟩
    | none =>
      rw [e] at h;obtain ⟨n, h1, h2⟩ := ih h;exact ⟨n, by simp [h1], h2⟩
theorem split_at {n : Nat} {l : Ents} {b : Nat} {st : Ents × Bs} (hn : 0 < n) (hr : rowE l = 0) (h : splitAt n l b = some st) :
    st = (roots 0 (cutL n l), (cutL n l).flatMap dirB) ∧ (∀ c ∈ cutL n l, encE c = 0) ∧ rowE st.1 = 0 ∧ (dirB st.1).length ≤ b := by
  unfold splitAt at h;split at h
  · simp at h
  · rename_i h1;have h1 : ∀ c ∈ cutL n l, encE c = 0 := by
      intro c hc;simp only [Bool.not_eq_false, List.all_eq_true, beq_iff_eq] at h1;exact h1 c hc
    split at h
    · simp at h
    · rename_i h2;simp only [Option.some.injEq] at h;subst h;have hl : (cutL n l).length ≤ 4096 := by
        have a := flat_len (cut_ne l hn);rw [cut_flat l hn] at a;have := row_len hr;omega
      have hrow : rowE (roots 0 (cutL n l)) = 0 := row_mk (by rw [roots_len]; exact hl) (roots_row _ 0 0 h1 (cut_ne l hn) (by rw [cut_flat l hn]; exact row_go hr) (by omega));refine ⟨rfl, h1, hrow, ?_⟩;unfold sizeD at h2;rw [if_neg (by omega)] at h2;show (dirB (roots 0 (cutL n l))).length ≤ b
      omega
theorem dir_le {l : Ents} (h : rowE l = 0) (h2 : ∀ e ∈ l, okE e) : (dirB l).length ≤ 10 + 40 * l.length := by
  rw [dirB_len];have := size_le _ (nums_lt h h2);rw [nums_len] at this;omega
/-- a row that is not too long is cut -/
theorem split_ok {l : Ents} {b : Nat} (hb : 512 ≤ b) (hb2 : b ≤ 16257) (hr : rowE l = 0) (hok : ∀ e ∈ l, okE e) (hl : l.length ≤ 1024) (hrun : ∀ e ∈ l, 1 ≤ e.run) :
    (splitV l b).1 = 0 ∧ rowE (splitV l b).2.1 = 0 ∧ (dirB (splitV l b).2.1).length ≤ b ∧ ((splitV l b).2.2.1 = [] ∧ (splitV l b).2.1 = l ∨ ∃ n, 0 < n ∧ (splitV l b).2.1 = roots 0 (cutL n l) ∧ (splitV l b).2.2.1 = (cutL n l).flatMap dirB ∧ ∀ c ∈ cutL n l, encE c = 0) := by
  have hp : l.any (fun e => e.run == 0) = false := by
    rw [List.any_eq_false];intro e he;have := hrun e he;simp; omega
  unfold splitV;rw [if_neg (by omega), if_neg (by omega), if_neg (by rw [hp]; simp)];by_cases hs : sizeD l ≤ b
  · rw [if_pos hs];unfold sizeD at hs;rw [if_neg (by omega)] at hs;exact ⟨rfl, hr, hs, .inl ⟨rfl, rfl⟩⟩
  · rw [if_neg hs];have h0 : l ≠ [] := by
      intro e;subst e;have : sizeD ([] : Ents) = 1 := by unfold sizeD dirB nums colN; simp [rowE, rowGo, vB_small]
      omega
    have hd := dir_le hr hok;have hcut := cut_one (n := 1024) h0 hl;have henc : encE l = 0 := enc_mk hr (by omega);have hsome : (splitAt 1024 l b).isSome := by
      unfold splitAt;rw [hcut, if_neg (by simp [henc])];have hroot : sizeD (roots 0 [l]) ≤ 50 := by
        unfold sizeD;split
        · omega
        · rename_i hh;have hh : rowE (roots 0 [l]) = 0 := by omega
          have := dir_le hh (by
            intro e he;simp [roots] at he;subst he;obtain ⟨x, t, rfl⟩ : ∃ x t, l = x :: t := by
              cases l with
              | nil => exact absurd rfl h0
              | cons x t => exact ⟨x, t, rfl⟩
            have hx := hok x (by simp);unfold okE at hx ⊢;simp;omega)
          rw [roots_len] at this;simp at this; exact this
      rw [if_neg (by omega)];rfl
    have h1 := splitS_ok sizesL l b 1024 (by decide) hsome;obtain ⟨n, hn, hat, _⟩ := splitS_at _ _ _ h1;have hn0 : 0 < n := by
      have : ∀ m ∈ sizesL, 0 < m := by decide
      exact this n hn
    obtain ⟨k1, k2, k3, k4⟩ := split_at hn0 hr hat
    refine ⟨h1, k3, k4, .inr ⟨n, hn0, ?_, ?_, k2⟩⟩
    · exact (Prod.mk.inj k1).1
    · exact (Prod.mk.inj k1).2
end Go.Gz
/- Plain laws: the pieces of a row that is not long are directories. -/
namespace Go.Gz
theorem cut_sub {n : Nat} {l : Ents} (hn : 0 < n) {c : Ents} (hc : c ∈ cutL n l) : List.Sublist c l := by
  obtain ⟨k, hk, rfl⟩ := List.getElem_of_mem hc;rw [(cut_get l hn k).2 hk];exact (List.take_sublist _ _).trans (List.drop_sublist _ _)
theorem cut_ok {n : Nat} {l : Ents} (hn : 0 < n) (hr : rowE l = 0) (hok : ∀ e ∈ l, okE e) (hl : l.length ≤ 1024) {c : Ents} (hc : c ∈ cutL n l) : encE c = 0 ∧ c.length ≤ 1024 ∧ (∀ e ∈ c, okE e) ∧ c ≠ [] := by
  have hs := cut_sub hn hc;have hlen := hs.length_le;obtain ⟨h1, h2, h3⟩ := (row_iff l).1 hr;have hrow : rowE c = 0 := (row_iff c).2 ⟨by omega, fun e he => h2 e (hs.subset he), h3.sublist hs⟩;have hokc : ∀ e ∈ c, okE e := fun e he => hok e (hs.subset he);exact ⟨enc_mk hrow (by have := dir_le hrow hokc; omega), by omega, hokc, cut_ne l hn c hc⟩
theorem cut_dirs {n : Nat} {l : Ents} (hn : 0 < n) (hr : rowE l = 0) (hok : ∀ e ∈ l, okE e) (hl : l.length ≤ 1024) (cs : List Ents) (hs : ∀ c ∈ cs, c ∈ cutL n l) : (cs.flatMap dirB).length ≤ 50 * cs.flatten.length ∧ ∀ c ∈ cs, (dirB c).length ≤ 65536 := by
  refine ⟨?_, fun c hc => (enc_ok (cut_ok hn hr hok hl (hs c hc)).1).2⟩;induction cs with
  | nil => simp
  | cons c r ih =>
    have h1 := ih (fun d hd => hs d (by simp [hd]));obtain ⟨k1, k2, k3, k4⟩ := cut_ok hn hr hok hl (hs c (by simp));have h2 := dir_le (enc_ok k1).1 k3;have h3 := List.length_pos_iff.2 k4;rw [List.flatMap_cons, List.length_append, List.flatten_cons, List.length_append];omega
theorem split_step {n : Nat} {l : Ents} {b : Nat} (hn : 0 < n) (hr : rowE l = 0) (hok : ∀ e ∈ l, okE e) (hl : l.length ≤ 1024) : splitAt n l b = if b < sizeD (roots 0 (cutL n l)) then none else some (roots 0 (cutL n l), (cutL n l).flatMap dirB) := by
  unfold splitAt;rw [if_neg];simp only [Bool.not_eq_false, List.all_eq_true, beq_iff_eq];exact fun c hc => (cut_ok hn hr hok hl hc).1
theorem root_okE {n : Nat} {l : Ents} (hn : 0 < n) (hr : rowE l = 0) (hok : ∀ e ∈ l, okE e) (hl : l.length ≤ 1024) : ∀ e ∈ roots 0 (cutL n l), okE e := by
  have key : ∀ (cs : List Ents) (o : Nat), (∀ c ∈ cs, c ∈ cutL n l) → o + 65536 * cs.length ≤ 1099511627776 → ∀ e ∈ roots o cs, okE e := by
    intro cs;induction cs with
    | nil => intro o _ _ e he; simp [roots] at he
    | cons c r ih =>
      intro o h1 h2 e he;obtain ⟨k1, k2, k3, k4⟩ := cut_ok hn hr hok hl (h1 c (by simp));have hd := (enc_ok k1).2;rw [List.length_cons] at h2;unfold roots at he;rcases List.mem_cons.1 he with rfl | he
      · obtain ⟨x, t, rfl⟩ : ∃ x t, c = x :: t := by
          cases c with
          | nil => exact absurd rfl k4
          | cons x t => exact ⟨x, t, rfl⟩
        have := k3 x (by simp);unfold okE at this ⊢;simp;omega
      · exact ih _ (fun d hd => h1 d (by simp [hd])) (by omega) e he
  have hl2 := flat_len (cut_ne l hn);rw [cut_flat l hn] at hl2;exact key _ 0 (fun c hc => hc) (by omega)
end Go.Gz
