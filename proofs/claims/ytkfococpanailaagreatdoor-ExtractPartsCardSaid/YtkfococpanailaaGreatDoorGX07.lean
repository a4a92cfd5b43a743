/- Plain laws: numbers as bytes (little, varint). -/
import Derived.Test.YtkfococpanailaaGreatDoorGX01
import Derived.Lib.BitFns
import Derived.Lib.ItoaNum
namespace Go.Gz
/-- n bytes of x, the least one first -/
def leB : Nat → Nat → Bs
  | 0, _ => []
  | n + 1, x => UInt8.ofNat (x % 256) :: leB n (x / 256)
def leV : Bs → Nat
  | [] => 0
  | b :: r => b.toNat + 256 * leV r
theorem leB_len : ∀ n x, (leB n x).length = n := by
  intro n
  induction n with
  | zero => intro x; rfl
  | succ n ih => intro x; unfold leB; rw [List.length_cons, ih]
theorem u8_ofNat (x : Nat) : (UInt8.ofNat (x % 256)).toNat = x % 256 := by simp
theorem leV_leB : ∀ n x, x < 256 ^ n → leV (leB n x) = x := by
  intro n
  induction n with
  | zero => intro x h; simp at h; subst h; rfl
  | succ n ih =>
    intro x h
    unfold leB leV
    rw [u8_ofNat, ih (x / 256) (by rw [Nat.pow_succ] at h; exact Nat.div_lt_of_lt_mul (by rw [Nat.mul_comm]; exact h))]
    omega
theorem leV_lt : ∀ l : Bs, leV l < 256 ^ l.length := by
  intro l
  induction l with
  | nil => simp [leV]
  | cons b r ih =>
    unfold leV
    rw [List.length_cons, Nat.pow_succ]
    have := UInt8.toNat_lt b
    omega
theorem leV_snoc (l : Bs) (b : UInt8) : leV (l ++ [b]) = leV l + 256 ^ l.length * b.toNat := by
  induction l with
  | nil => simp [leV]
  | cons a r ih =>
    rw [List.cons_append]
    unfold leV
    rw [ih, List.length_cons, Nat.pow_succ, Nat.mul_add, Nat.mul_comm (256 ^ r.length) 256, Nat.mul_assoc]; omega
/-- a number by seven binary digits a byte -/
def vB (x : Nat) : Bs := if x < 128 then [UInt8.ofNat x] else UInt8.ofNat (x % 128 + 128) :: vB (x / 128)
termination_by x
decreasing_by omega
theorem vB_small {x : Nat} (h : x < 128) : vB x = [UInt8.ofNat x] := by rw [vB, if_pos h]
theorem vB_big {x : Nat} (h : ¬ x < 128) : vB x = UInt8.ofNat (x % 128 + 128) :: vB (x / 128) := by rw [vB, if_neg h]
/-- how many bytes a number has -/
theorem vB_len (k : Nat) : ∀ x, x < 128 ^ (k + 1) → (vB x).length ≤ k + 1 := by
  induction k with
  | zero => intro x h; rw [vB_small (by simpa using h)]; simp
  | succ k ih =>
    intro x h
    by_cases h1 : x < 128
    · rw [vB_small h1]; simp
    · rw [vB_big h1, List.length_cons]
      have := ih (x / 128) (by rw [Nat.pow_succ] at h; exact Nat.div_lt_of_lt_mul (by rw [Nat.mul_comm]; exact h))
      omega
theorem vB_len10 {x : Nat} (h : x < 18446744073709551616) : (vB x).length ≤ 10 := vB_len 9 x (by omega)
theorem vB_pos (x : Nat) : 0 < (vB x).length := by
  by_cases h : x < 128
  · rw [vB_small h]; simp
  · rw [vB_big h]; simp
theorem bitLen_pos {x : Nat} (h0 : x ≠ 0) (h : x < 2 ^ 64) : 1 ≤ Lib.bitLen x := (Lib.bitLenAux_bounds 64 x h h0).1
theorem vB_size (x : Nat) (h : x < 2 ^ 64) : (vB x).length = max 1 ((Lib.bitLen x + 6) / 7) := by
  induction x using Nat.strongRecOn with
  | _ x ih =>
    by_cases h1 : x < 128
    · rw [vB_small h1]
      have := Lib.bitLen_le x 7 (by omega) (by omega)
      simp; omega
    · rw [vB_big h1, List.length_cons, ih (x / 128) (by omega) (by omega)]
      have e := Lib.bitLen_shift 7 x (by omega) h
      have e2 : x / 2 ^ 7 = x / 128 := rfl
      rw [e2] at e
      have := bitLen_pos (x := x / 128) (by omega) (by omega)
      omega
/-- taking a number off: the error, the number, how many bytes -/
def vGo : Nat → Nat → Bs → Int × Nat × Nat
  | i, _, [] => (if i = 10 then 11 else 3, 0, 0)
  | i, x, b :: r =>
    if i = 10 then (11, 0, 0)
    else if b.toNat < 128 then (if i = 9 ∧ 1 < b.toNat then (11, 0, 0) else if 0 < i ∧ b.toNat = 0 then (4, 0, 0) else (0, x + b.toNat * 128 ^ i, i + 1))
    else vGo (i + 1) (x + (b.toNat - 128) * 128 ^ i) r
def getV (t : Bs) : Int × Nat × Nat := vGo 0 0 t
theorem vGo_ok (i : Nat) (x : Nat) (t : Bs) (hx : x < 128 ^ i) (hi : i ≤ 10) (h : (vGo i x t).1 = 0) : (vGo i x t).2.1 < 18446744073709551616 ∧ i < (vGo i x t).2.2 ∧ (vGo i x t).2.2 ≤ i + t.length ∧ (vGo i x t).2.2 ≤ 10 := by
  induction t generalizing i x with
  | nil => unfold vGo at h; split at h <;> simp at h
  | cons b r ih =>
    unfold vGo at h ⊢
    split at h
    · simp at h
    · rename_i h10
      split at h
      · rename_i hb
        split at h
        · simp at h
        · rename_i h9
          split at h
          · simp at h
          · rename_i h0
            rw [if_neg h10, if_pos hb, if_neg h9, if_neg h0]
            refine ⟨?_, by simp, by simp, by simp; omega⟩
            simp only
            have hk : ∀ k, k ≤ 8 → (x < 128 ^ k → x + b.toNat * 128 ^ k < 18446744073709551616) := by
              intro k hk hx
              have h1 : b.toNat * 128 ^ k ≤ 127 * 128 ^ k := Nat.mul_le_mul_right _ (by omega)
              have h2 : 128 ^ k ≤ 128 ^ 8 := Nat.pow_le_pow_right (by omega) hk
              have h3 : (128 : Nat) ^ 8 = 72057594037927936 := by decide
              omega
            by_cases e : i = 9
            · subst e
              have h1 : b.toNat ≤ 1 := by omega
              have h3 : (128 : Nat) ^ 9 = 9223372036854775808 := by decide
              rw [h3] at hx ⊢
              have h2 : b.toNat * 9223372036854775808 ≤ 1 * 9223372036854775808 := Nat.mul_le_mul_right _ h1
              omega
            · exact hk i (by omega) hx
      · rename_i hb
        rw [if_neg h10, if_neg hb]
        have hlt := UInt8.toNat_lt b
        have hx' : x + (b.toNat - 128) * 128 ^ i < 128 ^ (i + 1) := by
          have h1 : (b.toNat - 128) * 128 ^ i ≤ 127 * 128 ^ i := Nat.mul_le_mul_right _ (by omega)
          rw [Nat.pow_succ]; omega
        have := ih (i + 1) _ hx' (by omega) h
        simp only [List.length_cons]
        omega
theorem getV_ok {t : Bs} (h : (getV t).1 = 0) : (getV t).2.1 < 18446744073709551616 ∧ 0 < (getV t).2.2 ∧ (getV t).2.2 ≤ t.length := by
  have := vGo_ok 0 0 t (by simp) (by omega) h
  unfold getV; omega
theorem vGo_vB (x : Nat) : ∀ (i a : Nat) (t : Bs), x * 128 ^ i < 18446744073709551616 → (0 < i → x ≠ 0) → vGo i a (vB x ++ t) = (0, a + x * 128 ^ i, i + (vB x).length) := by
  induction x using Nat.strongRecOn with
  | _ x ih =>
    intro i a t h h0
    have hi : i ≠ 10 := by
      intro e; subst e
      have h1 : 1 ≤ x := by have := h0 (by omega); omega
      have h3 : (128 : Nat) ^ 10 = 1180591620717411303424 := by decide
      rw [h3] at h; omega
    by_cases h1 : x < 128
    · rw [vB_small h1]
      have e : (UInt8.ofNat x).toNat = x := by simp; omega
      rw [List.cons_append, List.nil_append]
      unfold vGo
      rw [if_neg hi, e, if_pos h1, if_neg, if_neg (by intro ⟨g, g2⟩; exact h0 g g2)]
      · simp
      · rintro ⟨rfl, g⟩
        have h3 : (128 : Nat) ^ 9 = 9223372036854775808 := by decide
        rw [h3] at h; omega
    · rw [vB_big h1]
      have e : (UInt8.ofNat (x % 128 + 128)).toNat = x % 128 + 128 := by simp; omega
      rw [List.cons_append]
      unfold vGo
      have hm : x / 128 * 128 ^ (i + 1) + x % 128 * 128 ^ i = x * 128 ^ i := by
        rw [Nat.pow_succ, Nat.mul_comm (128 ^ i) 128, ← Nat.mul_assoc, ← Nat.add_mul]
        congr 1; omega
      rw [if_neg hi, e, if_neg (by omega), ih (x / 128) (by omega) (i + 1) _ t (by omega) (by omega), show x % 128 + 128 - 128 = x % 128 by omega, List.length_cons]
      rw [Prod.mk.injEq, Prod.mk.injEq]
      exact ⟨rfl, by omega, by omega⟩
theorem getV_vB {x : Nat} (h : x < 18446744073709551616) (t : Bs) : getV (vB x ++ t) = (0, x, (vB x).length) := by
  unfold getV
  rw [vGo_vB x 0 0 t (by simpa using h) (by omega)]
  simp
end Go.Gz
/- Plain laws: headers, the parts of an archive. -/
namespace Go.Gz
structure Hdr where
  r0 : Nat
  r1 : Nat
  m0 : Nat
  m1 : Nat
  l0 : Nat
  l1 : Nat
  d0 : Nat
  d1 : Nat
  adr : Nat
  ent : Nat
  con : Nat
  clu : Bool
  inn : Nat
  out : Nat
  kind : Nat
  minz : Int
  maxz : Int
  minlon : Int
  minlat : Int
  maxlon : Int
  maxlat : Int
  zoom : Int
  lon : Int
  lat : Int
deriving DecidableEq
abbrev TOT : Nat := 1099511627776
def hdrE (h : Hdr) : Int :=
  if TOT < h.r0 + h.r1 ∨ TOT < h.m0 + h.m1 ∨ TOT < h.l0 + h.l1 ∨ TOT < h.d0 + h.d1 then 8
  else if 4 < h.inn ∨ 4 < h.out ∨ 5 < h.kind then 14
  else if h.minz < 0 ∨ 26 < h.minz ∨ h.maxz < 0 ∨ 26 < h.maxz ∨ h.zoom < 0 ∨ 26 < h.zoom ∨ h.maxz < h.minz then 8
  else if h.minlon < -1800000000 ∨ 1800000000 < h.minlon ∨ h.maxlon < -1800000000 ∨ 1800000000 < h.maxlon ∨ h.lon < -1800000000 ∨ 1800000000 < h.lon ∨ h.maxlon < h.minlon then 8
  else if h.minlat < -900000000 ∨ 900000000 < h.minlat ∨ h.maxlat < -900000000 ∨ 900000000 < h.maxlat ∨ h.lat < -900000000 ∨ 900000000 < h.lat ∨ h.maxlat < h.minlat then 8
  else 0
def uns4 (v : Int) : Nat := (v % 4294967296).toNat
def sgn4 (x : Nat) : Int := if x < 2147483648 then (x : Int) else (x : Int) - 4294967296
/-- the numbers of a header, each with how many bytes it has -/
def pcs (h : Hdr) : List (Nat × Nat) := [(8, h.r0), (8, h.r1), (8, h.m0), (8, h.m1), (8, h.l0), (8, h.l1), (8, h.d0), (8, h.d1), (8, h.adr), (8, h.ent), (8, h.con),
  (1, h.clu.toNat), (1, h.inn), (1, h.out), (1, h.kind), (1, h.minz.toNat), (1, h.maxz.toNat), (4, uns4 h.minlon), (4, uns4 h.minlat), (4, uns4 h.maxlon), (4, uns4 h.maxlat), (1, h.zoom.toNat), (4, uns4 h.lon), (4, uns4 h.lat)]
def layP (ps : List (Nat × Nat)) : Bs := ps.flatMap fun p => leB p.1 p.2
def wideP (ps : List (Nat × Nat)) : Nat := (ps.map Prod.fst).sum
theorem layP_len (ps : List (Nat × Nat)) : (layP ps).length = wideP ps := by
  induction ps with
  | nil => rfl
  | cons p r ih => unfold layP wideP at *; simp [List.flatMap_cons, leB_len, ih]
abbrev magic : Bs := [80, 77, 84, 105, 108, 101, 115, 3]
def hdrB (h : Hdr) : Bs := magic ++ layP (pcs h)
theorem pcs_len (h : Hdr) : (pcs h).length = 24 := rfl
theorem hdrB_len (h : Hdr) : (hdrB h).length = 127 := by unfold hdrB; rw [List.length_append, layP_len]; simp [wideP, pcs]
/-- a number of n bytes at a place -/
def nAt (s : Bs) (p n : Nat) : Nat := leV ((s.drop p).take n)
def hdrD (s : Bs) : Hdr where
  r0 := nAt s 8 8
  r1 := nAt s 16 8
  m0 := nAt s 24 8
  m1 := nAt s 32 8
  l0 := nAt s 40 8
  l1 := nAt s 48 8
  d0 := nAt s 56 8
  d1 := nAt s 64 8
  adr := nAt s 72 8
  ent := nAt s 80 8
  con := nAt s 88 8
  clu := nAt s 96 1 == 1
  inn := nAt s 97 1
  out := nAt s 98 1
  kind := nAt s 99 1
  minz := nAt s 100 1
  maxz := nAt s 101 1
  minlon := sgn4 (nAt s 102 4)
  minlat := sgn4 (nAt s 106 4)
  maxlon := sgn4 (nAt s 110 4)
  maxlat := sgn4 (nAt s 114 4)
  zoom := nAt s 118 1
  lon := sgn4 (nAt s 119 4)
  lat := sgn4 (nAt s 123 4)
def zH : Hdr := ⟨0, 0, 0, 0, 0, 0, 0, 0, 0, 0, 0, false, 0, 0, 0, 0, 0, 0, 0, 0, 0, 0, 0, 0⟩
/-- why a text's header is none -/
def hdrDE (s : Bs) : Int :=
  if s.length < 127 then 3 else if s.take 7 ≠ [80, 77, 84, 105, 108, 101, 115] then 12 else if (s.drop 7).take 1 ≠ [3] then 13 else if 1 < nAt s 96 1 then 4 else hdrE (hdrD s)
/-- the parts -/
def sect (n0 n1 n2 n3 : Nat) : Int := if TOT < 127 + n0 ∨ TOT < 127 + n0 + n1 ∨ TOT < 127 + n0 + n1 + n2 ∨ TOT < 127 + n0 + n1 + n2 + n3 then 8 else 0
def withH (h : Hdr) (n0 n1 n2 n3 : Nat) : Hdr := { h with r0 := 127, r1 := n0, m0 := 127 + n0, m1 := n1, l0 := 127 + n0 + n1, l1 := n2, d0 := 127 + n0 + n1 + n2, d1 := n3 }
def glueE (h : Hdr) (a b c d : Bs) : Int := if sect a.length b.length c.length d.length ≠ 0 then 8 else hdrE (withH h a.length b.length c.length d.length)
def glueB (h : Hdr) (a b c d : Bs) : Bs := if glueE h a b c d = 0 then hdrB (withH h a.length b.length c.length d.length) ++ (a ++ (b ++ (c ++ d))) else []
def cutE (s : Bs) : Int := if hdrDE s ≠ 0 then hdrDE s else
  let h := hdrD s
  if s.length < h.r0 + h.r1 ∨ s.length < h.m0 + h.m1 ∨ s.length < h.l0 + h.l1 ∨ s.length < h.d0 + h.d1 then 8 else 0
def part (s : Bs) (p n : Nat) : Bs := (s.drop p).take n
/-- a header whose numbers are numbers of their kinds -/
structure OkH (h : Hdr) : Prop where
  adr : h.adr < 18446744073709551616
  ent : h.ent < 18446744073709551616
  con : h.con < 18446744073709551616
theorem nAt_here (a b c : Bs) (x n : Nat) (hb : b = leB n x) (hx : x < 256 ^ n) : nAt (a ++ (b ++ c)) a.length n = x := by
  unfold nAt
  rw [List.drop_left, List.take_left' (by rw [hb, leB_len]), hb, leV_leB n x hx]
theorem sgn_uns {v : Int} (h1 : -2147483648 ≤ v) (h2 : v < 2147483648) : sgn4 (uns4 v) = v := by
  unfold sgn4 uns4
  omega
theorem uns_lt (v : Int) : uns4 v < 256 ^ 4 := by
  unfold uns4
  have : (256 : Nat) ^ 4 = 4294967296 := by decide
  omega
theorem nAt_next (a c : Bs) (p n : Nat) (h : a.length ≤ p) : nAt (a ++ c) p n = nAt c (p - a.length) n := by
  unfold nAt
  rw [List.drop_append, List.drop_eq_nil_of_le h, List.nil_append]
theorem nAt_zero (c : Bs) (x n : Nat) (hx : x < 256 ^ n) : nAt (leB n x ++ c) 0 n = x := by
  unfold nAt
  rw [List.drop_zero, List.take_left' (leB_len n x), leV_leB n x hx]
theorem hdr_ok {h : Hdr} (e : hdrE h = 0) : (h.r0 + h.r1 ≤ TOT ∧ h.m0 + h.m1 ≤ TOT ∧ h.l0 + h.l1 ≤ TOT ∧ h.d0 + h.d1 ≤ TOT) ∧ (h.inn ≤ 4 ∧ h.out ≤ 4 ∧ h.kind ≤ 5) ∧ (0 ≤ h.minz ∧ h.minz ≤ 26 ∧ 0 ≤ h.maxz ∧ h.maxz ≤ 26 ∧ 0 ≤ h.zoom ∧ h.zoom ≤ 26 ∧ h.minz ≤ h.maxz) ∧
    (-1800000000 ≤ h.minlon ∧ h.minlon ≤ 1800000000 ∧ -1800000000 ≤ h.maxlon ∧ h.maxlon ≤ 1800000000 ∧ -1800000000 ≤ h.lon ∧ h.lon ≤ 1800000000 ∧ h.minlon ≤ h.maxlon) ∧
    (-900000000 ≤ h.minlat ∧ h.minlat ≤ 900000000 ∧ -900000000 ≤ h.maxlat ∧ h.maxlat ≤ 900000000 ∧ -900000000 ≤ h.lat ∧ h.lat ≤ 900000000 ∧ h.minlat ≤ h.maxlat) := by
  unfold hdrE at e
  split at e
  · simp at e
  · split at e
    · simp at e
    · split at e
      · simp at e
      · split at e
        · simp at e
        · split at e
          · simp at e
          · omega
theorem hdr_mk {h : Hdr} (e1 : h.r0 + h.r1 ≤ TOT ∧ h.m0 + h.m1 ≤ TOT ∧ h.l0 + h.l1 ≤ TOT ∧ h.d0 + h.d1 ≤ TOT) (e2 : h.inn ≤ 4 ∧ h.out ≤ 4 ∧ h.kind ≤ 5) (e3 : 0 ≤ h.minz ∧ h.minz ≤ 26 ∧ 0 ≤ h.maxz ∧ h.maxz ≤ 26 ∧ 0 ≤ h.zoom ∧ h.zoom ≤ 26 ∧ h.minz ≤ h.maxz)
    (e4 : -1800000000 ≤ h.minlon ∧ h.minlon ≤ 1800000000 ∧ -1800000000 ≤ h.maxlon ∧ h.maxlon ≤ 1800000000 ∧ -1800000000 ≤ h.lon ∧ h.lon ≤ 1800000000 ∧ h.minlon ≤ h.maxlon)
    (e5 : -900000000 ≤ h.minlat ∧ h.minlat ≤ 900000000 ∧ -900000000 ≤ h.maxlat ∧ h.maxlat ≤ 900000000 ∧ -900000000 ≤ h.lat ∧ h.lat ≤ 900000000 ∧ h.minlat ≤ h.maxlat) : hdrE h = 0 := by
  unfold hdrE
  rw [if_neg (by omega), if_neg (by omega), if_neg (by omega), if_neg (by omega), if_neg (by omega)]
theorem nAt_piece (m : Bs) (ps : List (Nat × Nat)) (t : Bs) (k : Nat) (hk : k < ps.length) (hx : ps[k].2 < 256 ^ ps[k].1) : nAt (m ++ layP ps ++ t) (m.length + wideP (ps.take k)) ps[k].1 = ps[k].2 := by
  have e : m ++ layP ps ++ t = (m ++ layP (ps.take k)) ++ (leB ps[k].1 ps[k].2 ++ (layP (ps.drop (k + 1)) ++ t)) := by
    have h1 : ps = ps.take k ++ ps[k] :: ps.drop (k + 1) := by
      rw [← List.drop_eq_getElem_cons hk, List.take_append_drop]
    have h2 : layP ps = layP (ps.take k) ++ (leB ps[k].1 ps[k].2 ++ layP (ps.drop (k + 1))) := by
      conv => lhs; rw [h1]
      unfold layP
      rw [List.flatMap_append, List.flatMap_cons]
    rw [h2]; simp
  rw [e, ← layP_len, ← List.length_append]
  exact nAt_here _ _ _ _ _ rfl hx
theorem rd_pc (h : Hdr) (t : Bs) (k p n x : Nat) (hk : (pcs h)[k]? = some (n, x)) (hp : 8 + wideP ((pcs h).take k) = p) (hx : x < 256 ^ n) : nAt (hdrB h ++ t) p n = x := by
  obtain ⟨h1, h2⟩ := List.getElem?_eq_some_iff.1 hk
  have := nAt_piece magic (pcs h) t k h1 (by rw [h2]; exact hx)
  rw [h2] at this
  unfold hdrB
  rw [← hp]
  exact this
theorem hdrD_hdrB {h : Hdr} (e : hdrE h = 0) (ok : OkH h) (t : Bs) : hdrD (hdrB h ++ t) = h ∧ nAt (hdrB h ++ t) 96 1 = h.clu.toNat := by
  obtain ⟨e1, e2, e3, e4, e5⟩ := hdr_ok e
  obtain ⟨o1, o2, o3⟩ := ok
  unfold TOT at e1
  have p8 : (256 : Nat) ^ 8 = 18446744073709551616 := by decide
  have p1 : (256 : Nat) ^ 1 = 256 := by decide
  have hcl : h.clu.toNat < 256 := by cases h.clu <;> decide
  have R := rd_pc h t
  have q0 := R 0 8 8 h.r0 rfl (by simp [pcs, wideP]) (by omega)
  have q1 := R 1 16 8 h.r1 rfl (by simp [pcs, wideP]) (by omega)
  have q2 := R 2 24 8 h.m0 rfl (by simp [pcs, wideP]) (by omega)
  have q3 := R 3 32 8 h.m1 rfl (by simp [pcs, wideP]) (by omega)
  have q4 := R 4 40 8 h.l0 rfl (by simp [pcs, wideP]) (by omega)
  have q5 := R 5 48 8 h.l1 rfl (by simp [pcs, wideP]) (by omega)
  have q6 := R 6 56 8 h.d0 rfl (by simp [pcs, wideP]) (by omega)
  have q7 := R 7 64 8 h.d1 rfl (by simp [pcs, wideP]) (by omega)
  have q8 := R 8 72 8 h.adr rfl (by simp [pcs, wideP]) (by omega)
  have q9 := R 9 80 8 h.ent rfl (by simp [pcs, wideP]) (by omega)
  have q10 := R 10 88 8 h.con rfl (by simp [pcs, wideP]) (by omega)
  have q11 := R 11 96 1 h.clu.toNat rfl (by simp [pcs, wideP]) (by omega)
  have q12 := R 12 97 1 h.inn rfl (by simp [pcs, wideP]) (by omega)
  have q13 := R 13 98 1 h.out rfl (by simp [pcs, wideP]) (by omega)
  have q14 := R 14 99 1 h.kind rfl (by simp [pcs, wideP]) (by omega)
  have q15 := R 15 100 1 h.minz.toNat rfl (by simp [pcs, wideP]) (by omega)
  have q16 := R 16 101 1 h.maxz.toNat rfl (by simp [pcs, wideP]) (by omega)
  have q17 := R 17 102 4 (uns4 h.minlon) rfl (by simp [pcs, wideP]) (uns_lt _)
  have q18 := R 18 106 4 (uns4 h.minlat) rfl (by simp [pcs, wideP]) (uns_lt _)
  have q19 := R 19 110 4 (uns4 h.maxlon) rfl (by simp [pcs, wideP]) (uns_lt _)
  have q20 := R 20 114 4 (uns4 h.maxlat) rfl (by simp [pcs, wideP]) (uns_lt _)
  have q21 := R 21 118 1 h.zoom.toNat rfl (by simp [pcs, wideP]) (by omega)
  have q22 := R 22 119 4 (uns4 h.lon) rfl (by simp [pcs, wideP]) (uns_lt _)
  have q23 := R 23 123 4 (uns4 h.lat) rfl (by simp [pcs, wideP]) (uns_lt _)
  generalize hdrB h ++ t = s at *
  have hc : (h.clu.toNat == 1) = h.clu := by cases h.clu <;> rfl
  refine ⟨?_, q11⟩
  unfold hdrD
  rw [q0, q1, q2, q3, q4, q5, q6, q7, q8, q9, q10, q11, q12, q13, q14, q15, q16, q17, q18, q19, q20, q21, q22, q23, hc]
  rw [Int.toNat_of_nonneg (by omega), Int.toNat_of_nonneg (by omega), Int.toNat_of_nonneg (by omega)]
  rw [sgn_uns (by omega) (by omega), sgn_uns (by omega) (by omega), sgn_uns (by omega) (by omega), sgn_uns (by omega) (by omega), sgn_uns (by omega) (by omega), sgn_uns (by omega) (by omega)]
/-- a header that may be is read as it was laid -/
theorem dec_enc {h : Hdr} (e : hdrE h = 0) (ok : OkH h) (t : Bs) : hdrDE (hdrB h ++ t) = 0 ∧ hdrD (hdrB h ++ t) = h := by
  obtain ⟨k1, k2⟩ := hdrD_hdrB e ok t
  refine ⟨?_, k1⟩
  unfold hdrDE
  have hl := hdrB_len h
  rw [if_neg (by rw [List.length_append, hl]; omega), k1, k2, e]
  have c1 : (hdrB h ++ t).take 7 = [80, 77, 84, 105, 108, 101, 115] := by unfold hdrB; rfl
  have c2 : ((hdrB h ++ t).drop 7).take 1 = [3] := by unfold hdrB; rfl
  rw [if_neg (by rw [c1]; simp), if_neg (by rw [c2]; simp), if_neg (by cases h.clu <;> decide)]
end Go.Gz
