/- Plain laws: what a reader of JSON makes of a text: where it stands behind a value, and its first fault. -/
import Derived.Test.YtgoelpjkfofbbaaGreatDoorG31
import Derived.Lib.RuneBytes
import Derived.Lib.TrimU
import Derived.Lib.DecodeN
namespace Go.Proofs.YtgoelpjkfofbbaaGreatDoor
open Go.RowKit Go.Gz Go.Shelf

/-- a digit of 16 -/
def hexV (b : UInt8) : Option Nat :=
  if 48 ≤ b.toNat ∧ b.toNat ≤ 57 then some (b.toNat - 48) else if 97 ≤ b.toNat ∧ b.toNat ≤ 102 then some (b.toNat - 97 + 10) else if 65 ≤ b.toNat ∧ b.toNat ≤ 70 then some (b.toNat - 65 + 10) else none
/-- a mark of four digits, from its byte i on -/
def codeL (r : Bs) : Nat → Nat → Nat → Nat × Int
  | 0, _, c => (c, 0)
  | f + 1, i, c => match r[i]? with
    | none => (0, 3)
    | some b => if (i = 0 ∧ b ≠ 92) ∨ (i = 1 ∧ b ≠ 117) ∨ (1 < i ∧ hexV b = none) then (0, 4) else codeL r f (i + 1) (if 1 < i then c * 16 + (hexV b).getD 0 else c)
def codeN (r : Bs) : Nat × Int := codeL r 6 0 0
def pairN (r : Bs) : Nat × Nat × Int :=
  if (codeN r).2 ≠ 0 then (0, 0, (codeN r).2)
  else if (codeN r).1 < 55296 ∨ 57343 < (codeN r).1 then ((codeN r).1, 6, 0)
  else if 56320 ≤ (codeN r).1 then (0, 0, 4)
  else if (codeN (r.drop 6)).2 ≠ 0 then (0, 0, (codeN (r.drop 6)).2)
  else if (codeN (r.drop 6)).1 < 56320 ∨ 57343 < (codeN (r.drop 6)).1 then (0, 0, 4)
  else (65536 + ((codeN r).1 - 55296) * 1024 + (codeN (r.drop 6)).1 - 56320, 12, 0)
def markN (r : Bs) : Nat × Nat × Int :=
  match r[1]? with
  | none => (0, 0, 3)
  | some b => if b = 34 ∨ b = 92 ∨ b = 47 then (b.toNat, 2, 0) else if b = 98 then (8, 2, 0) else if b = 102 then (12, 2, 0) else if b = 110 then (10, 2, 0) else if b = 114 then (13, 2, 0) else if b = 116 then (9, 2, 0) else pairN r
/-- the rune with which bytes begin, and its width -/
def runeN (r : Bs) : Nat × Nat := Lib.decodeGoB ⟨r.toArray⟩
/-- a text in quotes, from byte i on, behind acc -/
def takeL (s : Bs) : Nat → Nat → Bs → Bs × Nat × Int
  | 0, _, _ => ([], s.length, 3)
  | f + 1, i, acc => match s[i]? with
    | none => ([], s.length, 3)
    | some b => if b = 34 then (acc, i + 1, 0)
      else if b = 92 then (if (markN (s.drop i)).2.2 = 3 then ([], s.length, 3) else if (markN (s.drop i)).2.2 ≠ 0 then ([], i, (markN (s.drop i)).2.2) else takeL s f (i + (markN (s.drop i)).2.1) (acc ++ Lib.encodeRune ((markN (s.drop i)).1 : Int)))
      else if ((runeN (s.drop i)).1 = 65533 ∧ (runeN (s.drop i)).2 < 2) ∨ (runeN (s.drop i)).1 < 32 then ([], i, 4)
      else takeL s f (i + (runeN (s.drop i)).2) (acc ++ Lib.encodeRune ((runeN (s.drop i)).1 : Int))
def takeN (s : Bs) (a : Nat) : Bs × Nat × Int :=
  if s[a]? = none then ([], a, 3) else if s[a]? ≠ some 34 then ([], a, 4) else takeL s s.length (a + 1) []
/-- where a reader stands, and its fault (0: none) -/
abbrev Stand := Nat × Int
def wrongN (s : Bs) (a : Nat) : Stand := (a, if a = s.length then 3 else 4)
def wordN (s : Bs) (a : Nat) (w : Bs) : Stand := if w.isPrefixOf (s.drop a) then (a + w.length, 0) else if (s.drop a).isPrefixOf w then (s.length, 3) else (a, 4)
def numB (b : UInt8) : Bool := List.contains [48, 49, 50, 51, 52, 53, 54, 55, 56, 57, 43, 45, 46, 101, 69] b
def digB (b : UInt8) : Bool := List.contains [48, 49, 50, 51, 52, 53, 54, 55, 56, 57] b
def runN (s : Bs) (a : Nat) : Bs := (s.drop a).takeWhile numB
def wholeN (r : Bs) : Bs := if r.head? = some 45 then r.tail else r
def numberN (s : Bs) (a : Nat) : Stand :=
  if wholeN (runN s a) = [] ∨ (wholeN (runN s a)).all digB = false then (a, 4)
  else if (wholeN (runN s a)).head? = some 48 ∧ (1 < (wholeN (runN s a)).length ∨ (runN s a).head? = some 45) then (a, 4)
  else if BIG < numv (wholeN (runN s a)) then (a, 11)
  else (a + (runN s a).length, 0)
/-- values between signs, parted by commas, from the n-th on; one: how one is taken, with what is kept from one to the next -/
def eachL {σ : Type} (s : Bs) (cl : UInt8) (one : Nat → σ → Stand × σ) : Nat → Nat → Nat → σ → Stand
  | 0, _, a, _ => (a, 0)
  | f + 1, n, a, st => if n = 64 ∧ a < s.length then (a, 21)
    else if (one a st).1.2 ≠ 0 then (one a st).1
    else if s[blkA s (one a st).1.1]? = some cl then (blkA s (one a st).1.1 + 1, 0)
    else if s[blkA s (one a st).1.1]? = some 44 then eachL s cl one f (n + 1) (blkA s (blkA s (one a st).1.1 + 1)) (one a st).2
    else wrongN s (blkA s (one a st).1.1)
/-- a list or an object: its first sign stands at a -/
def contN {σ : Type} (s : Bs) (cl : UInt8) (one : Nat → σ → Stand × σ) (a : Nat) (st : σ) : Stand :=
  if s[blkA s (a + 1)]? = some cl then (blkA s (a + 1) + 1, 0) else eachL s cl one 66 0 (blkA s (a + 1)) st
def listOne (val : Nat → Stand) (a : Nat) (_ : Unit) : Stand × Unit := (val a, ())
def objOne (s : Bs) (val : Nat → Stand) (a : Nat) (ns : List Bs) : Stand × List Bs :=
  if (takeN s a).2.2 ≠ 0 then (((takeN s a).2.1, (takeN s a).2.2), ns)
  else if (takeN s a).1 ∈ ns then ((a, 22), ns)
  else if s[blkA s (takeN s a).2.1]? = some 58 then (val (blkA s (blkA s (takeN s a).2.1 + 1)), ns ++ [(takeN s a).1])
  else (wrongN s (blkA s (takeN s a).2.1), ns)
/-- a value, so many levels above the deepest -/
def valN (s : Bs) : Nat → Nat → Stand
  | d, a => match s[a]? with
    | none => (a, 3)
    | some b => if b = 110 then wordN s a [110, 117, 108, 108]
      else if b = 102 then wordN s a [102, 97, 108, 115, 101]
      else if b = 116 then wordN s a [116, 114, 117, 101]
      else if b = 34 then (takeN s a).2
      else if b = 91 then (match d with | 0 => (a, 20) | d + 1 => contN s 93 (listOne (valN s d)) a ())
      else if b = 123 then (match d with | 0 => (a, 20) | d + 1 => contN s 125 (objOne s (valN s d)) a [])
      else if b = 45 ∨ digB b = true then numberN s a
      else (a, 4)
/-- the fault of notes -/
def noteN (s : Bs) : Int :=
  if 4096 < s.length then 5 else if (valN s 4 (blkA s 0)).2 ≠ 0 then (valN s 4 (blkA s 0)).2 else if blkA s (valN s 4 (blkA s 0)).1 < s.length then 4 else 0
/-- the fault of a plan -/
def planN (b : Int) (kind : Nat) (s : Bs) : Int :=
  if b < 512 ∨ 16257 < b then 15 else if 5 < kind then 14 else if noteN s ≠ 0 then noteN s else if s[blkA s 0]? = some 123 then 0 else 4
theorem drop_mk (l : Bs) (a : Nat) : (⟨l.toArray⟩ : ByteArray).extract a l.length = ⟨(l.drop a).toArray⟩ := by
  apply ByteArray.ext
  rw [ByteArray.data_extract]
  apply Array.ext'
  simp only [Array.toList_extract, List.extract_eq_take_drop]
  rw [List.take_of_length_le (by simp)]
theorem take_mk (l : Bs) (a : Nat) : (⟨l.toArray⟩ : ByteArray).extract 0 a = ⟨(l.take a).toArray⟩ := by
  apply ByteArray.ext
  rw [ByteArray.data_extract]
  apply Array.ext'
  simp
theorem decN_fit (n b0 b1 b2 b3 : Nat) (hn : 1 ≤ n) (h0 : b0 < 256) : 1 ≤ (Lib.decodeN n b0 b1 b2 b3).2 ∧ (Lib.decodeN n b0 b1 b2 b3).2 ≤ n ∧ (Lib.decodeN n b0 b1 b2 b3).1 ≤ 2000000000 := by
  unfold Lib.decodeN
  repeat' split
  all_goals (simp only; omega)
theorem runeN_fit {r : Bs} (h : 1 ≤ r.length) : 1 ≤ (runeN r).2 ∧ (runeN r).2 ≤ r.length ∧ (runeN r).1 ≤ 2000000000 := by
  unfold runeN Lib.decodeGoB
  have hs : (⟨r.toArray⟩ : ByteArray).size = r.length := by simp [ByteArray.size]
  rw [if_neg (by omega), Lib.decode_at, hs]
  exact decN_fit _ _ _ _ _ (by omega) (UInt8.toNat_lt _)
theorem enc_len (r : Int) : (Lib.encodeRune r).length ≤ 4 := by
  have h := (Lib.runeCells_le r).2
  unfold Lib.runeCells at h
  unfold Lib.encodeRune
  rw [List.length_map] at h ⊢
  exact h
theorem codeL_fit (r : Bs) : ∀ f i c, (codeL r f i c).2 = 0 → f + i ≤ r.length ∨ f = 0 := by
  intro f
  induction f with
  | zero => intro i c _; exact .inr rfl
  | succ f ih =>
    intro i c h
    unfold codeL at h
    split at h
    · exact absurd h (by decide)
    · rename_i b hb
      have hl := (List.getElem?_eq_some_iff.1 hb).1
      split at h
      · exact absurd h (by decide)
      · rcases ih _ _ h with g | g
        · exact .inl (by omega)
        · exact .inl (by omega)
theorem codeN_fit {r : Bs} (h : (codeN r).2 = 0) : 6 ≤ r.length := by
  rcases codeL_fit r 6 0 0 h with g | g
  · omega
  · omega
theorem markN_fit {r : Bs} (h : (markN r).2.2 = 0) : 1 ≤ (markN r).2.1 ∧ (markN r).2.1 ≤ r.length := by
  unfold markN at h ⊢
  split at h
  · exact absurd h (by decide)
  · rename_i b hb
    have hl := (List.getElem?_eq_some_iff.1 hb).1
    split
    · simp only; omega
    · split
      · simp only; omega
      · split
        · simp only; omega
        · split
          · simp only; omega
          · split
            · simp only; omega
            · split
              · simp only; omega
              · rename_i h1 h2 h3 h4 h5 h6
                rw [if_neg h1, if_neg h2, if_neg h3, if_neg h4, if_neg h5, if_neg h6] at h
                unfold pairN at h ⊢
                split at h
                · rename_i g; exact absurd h g
                · rename_i g
                  have hc := codeN_fit (r := r) (by simpa using g)
                  rw [if_neg g]
                  split at h
                  · rename_i g2; rw [if_pos g2]; simp only; omega
                  · rename_i g2
                    rw [if_neg g2]
                    split at h
                    · exact absurd h (by decide)
                    · rename_i g3
                      rw [if_neg g3]
                      split at h
                      · rename_i g4; exact absurd h g4
                      · rename_i g4
                        have hc2 := codeN_fit (r := r.drop 6) (by simpa using g4)
                        rw [List.length_drop] at hc2
                        rw [if_neg g4]
                        split at h
                        · exact absurd h (by decide)
                        · rename_i g5
                          rw [if_neg g5]; simp only; omega
theorem hexV_le {b : UInt8} : (hexV b).getD 0 ≤ 15 := by
  unfold hexV
  split
  · simp only [Option.getD_some]; omega
  · split
    · simp only [Option.getD_some]; omega
    · split
      · simp only [Option.getD_some]; omega
      · simp
theorem codeL_le (r : Bs) : ∀ f i c, (codeL r f i c).1 < (c + 1) * 16 ^ f := by
  intro f
  induction f with
  | zero => intro i c; simp [codeL]
  | succ f ih =>
    intro i c
    have hp : 0 < 16 ^ f := Nat.pow_pos (by decide)
    have hbig : 0 < (c + 1) * 16 ^ (f + 1) := Nat.mul_pos (by omega) (Nat.pow_pos (by decide))
    have hm : ∀ x, x + 1 ≤ (c + 1) * 16 → (x + 1) * 16 ^ f ≤ (c + 1) * 16 ^ (f + 1) := by
      intro x hx
      have := Nat.mul_le_mul_right (16 ^ f) hx
      rw [Nat.pow_succ, Nat.mul_comm (16 ^ f) 16, ← Nat.mul_assoc]
      exact this
    unfold codeL
    split
    · exact hbig
    · split
      · exact hbig
      · refine Nat.lt_of_lt_of_le (ih _ _) (hm _ ?_)
        split
        · have := @hexV_le; have := this (b := by assumption); omega
        · omega
theorem codeN_le (r : Bs) : (codeN r).1 < 16777216 := by
  have := codeL_le r 6 0 0
  unfold codeN
  simpa using this
theorem markN_le (r : Bs) : (markN r).1 ≤ 200000000 := by
  unfold markN
  split
  · simp
  · rename_i b hb
    have := b.toNat_lt
    split
    · simp only; omega
    · split
      · simp only; omega
      · split
        · simp only; omega
        · split
          · simp only; omega
          · split
            · simp only; omega
            · split
              · simp only; omega
              · have h1 := codeN_le r
                have h2 := codeN_le (r.drop 6)
                unfold pairN
                split
                · simp
                · split
                  · simp only; omega
                  · split
                    · simp
                    · split
                      · simp
                      · split
                        · simp
                        · simp only; omega
theorem note_a1 : noteN [123, 34, 97, 34, 58, 49, 125] = 0 := by decide +kernel
end Go.Proofs.YtgoelpjkfofbbaaGreatDoor
/- Plain laws: a reader of JSON stands within the text. -/
namespace Go.Proofs.YtgoelpjkfofbbaaGreatDoor
open Go.RowKit Go.Gz Go.Shelf

theorem takeL_le (s : Bs) : ∀ f i acc, (takeL s f i acc).2.2 = 0 → (takeL s f i acc).2.1 ≤ s.length := by
  intro f
  induction f with
  | zero => intro i acc h; exact absurd h (show (3 : Int) ≠ 0 by decide)
  | succ f ih =>
    intro i acc h
    unfold takeL at h ⊢
    split
    · exact Nat.le_refl _
    · rename_i b hb
      have hl := (List.getElem?_eq_some_iff.1 hb).1
      rw [hb] at h
      simp only at h
      split
      · simp only; omega
      · rename_i h1
        rw [if_neg h1] at h
        split
        · rename_i h2
          rw [if_pos h2] at h
          split
          · exact Nat.le_refl _
          · rename_i h3
            rw [if_neg h3] at h
            split
            · rename_i h4; rw [if_pos h4] at h; exact absurd h h4
            · rename_i h4; rw [if_neg h4] at h; exact ih _ _ h
        · rename_i h2
          rw [if_neg h2] at h
          split
          · rename_i h3; rw [if_pos h3] at h; exact absurd h (show (4 : Int) ≠ 0 by decide)
          · rename_i h3; rw [if_neg h3] at h; exact ih _ _ h
theorem takeN_le {s : Bs} {a : Nat} (h : (takeN s a).2.2 = 0) : (takeN s a).2.1 ≤ s.length := by
  unfold takeN at h ⊢
  split
  · rename_i h1; rw [if_pos h1] at h; exact absurd h (show (3 : Int) ≠ 0 by decide)
  · rename_i h1
    rw [if_neg h1] at h
    split
    · rename_i h2; rw [if_pos h2] at h; exact absurd h (show (4 : Int) ≠ 0 by decide)
    · rename_i h2; rw [if_neg h2] at h; exact takeL_le _ _ _ _ h
theorem wordN_le {s : Bs} {a : Nat} {w : Bs} (ha : a ≤ s.length) : (wordN s a w).1 ≤ s.length := by
  unfold wordN
  split
  · rename_i h1
    have := (List.isPrefixOf_iff_prefix.1 h1).length_le
    rw [List.length_drop] at this
    simp only; omega
  · split
    · exact Nat.le_refl _
    · exact ha
theorem numberN_le {s : Bs} {a : Nat} (ha : a ≤ s.length) : (numberN s a).1 ≤ s.length := by
  have h : (runN s a).length ≤ s.length - a := by
    unfold runN
    have := (List.takeWhile_sublist numB (l := s.drop a)).length_le
    rwa [List.length_drop] at this
  unfold numberN
  split
  · exact ha
  · split
    · exact ha
    · split
      · exact ha
      · simp only; omega
theorem contN_le {σ : Type} {s : Bs} {cl : UInt8} {one : Nat → σ → Stand × σ} (h1 : ∀ a st, a ≤ s.length → (one a st).1.2 = 0 → (one a st).1.1 ≤ s.length) {a : Nat} {st : σ} (ha : a < s.length) (h : (contN s cl one a st).2 = 0) : (contN s cl one a st).1 ≤ s.length := by
  have key : ∀ f n a st, a ≤ s.length → (eachL s cl one f n a st).2 = 0 → (eachL s cl one f n a st).1 ≤ s.length := by
    intro f
    induction f with
    | zero => intro n a st ha _; exact ha
    | succ f ih =>
      intro n a st ha h
      unfold eachL at h ⊢
      split
      · exact ha
      · rename_i g1
        rw [if_neg g1] at h
        split
        · rename_i g2; rw [if_pos g2] at h; exact absurd h g2
        · rename_i g2
          rw [if_neg g2] at h
          have hq := h1 a st ha (by simpa using g2)
          have hb := blkA_le hq
          split
          · rename_i g3; have := (List.getElem?_eq_some_iff.1 g3).1; simp only; omega
          · rename_i g3
            rw [if_neg g3] at h
            split
            · rename_i g4
              rw [if_pos g4] at h
              have := (List.getElem?_eq_some_iff.1 g4).1
              exact ih _ _ _ (blkA_le (by omega)) h
            · exact hb
  unfold contN at h ⊢
  split
  · rename_i g; have := (List.getElem?_eq_some_iff.1 g).1; simp only; omega
  · rename_i g
    rw [if_neg g] at h
    exact key _ _ _ _ (blkA_le (by omega)) h
theorem valN_le (s : Bs) : ∀ d a, a ≤ s.length → (valN s d a).2 = 0 → (valN s d a).1 ≤ s.length := by
  intro d
  induction d with
  | zero =>
    intro a ha h
    unfold valN at h ⊢
    split
    · exact ha
    · rename_i b hb
      rw [hb] at h
      simp only at h
      split
      · exact wordN_le ha
      · rename_i g; rw [if_neg g] at h
        split
        · exact wordN_le ha
        · rename_i g; rw [if_neg g] at h
          split
          · exact wordN_le ha
          · rename_i g; rw [if_neg g] at h
            split
            · rename_i g; rw [if_pos g] at h; exact takeN_le h
            · rename_i g; rw [if_neg g] at h
              split
              · exact ha
              · rename_i g; rw [if_neg g] at h
                split
                · exact ha
                · rename_i g; rw [if_neg g] at h
                  split
                  · exact numberN_le ha
                  · exact ha
  | succ d ih =>
    intro a ha h
    unfold valN at h ⊢
    split
    · exact ha
    · rename_i b hb
      have hl := (List.getElem?_eq_some_iff.1 hb).1
      rw [hb] at h
      simp only at h
      split
      · exact wordN_le ha
      · rename_i g; rw [if_neg g] at h
        split
        · exact wordN_le ha
        · rename_i g; rw [if_neg g] at h
          split
          · exact wordN_le ha
          · rename_i g; rw [if_neg g] at h
            split
            · rename_i g; rw [if_pos g] at h; exact takeN_le h
            · rename_i g; rw [if_neg g] at h
              split
              · rename_i g; rw [if_pos g] at h
                exact contN_le (fun a _ ha h => ih a ha h) hl h
              · rename_i g; rw [if_neg g] at h
                split
                · rename_i g; rw [if_pos g] at h
                  refine contN_le (fun a ns ha h => ?_) hl h
                  unfold objOne at h ⊢
                  split
                  · rename_i g; rw [if_pos g] at h; exact absurd h g
                  · rename_i g; rw [if_neg g] at h
                    split
                    · exact ha
                    · rename_i g2; rw [if_neg g2] at h
                      have hq := takeN_le (s := s) (a := a) (by simpa using g)
                      split
                      · rename_i g3; rw [if_pos g3] at h
                        have := (List.getElem?_eq_some_iff.1 g3).1
                        exact ih _ (blkA_le (by omega)) h
                      · exact blkA_le hq
                · rename_i g; rw [if_neg g] at h
                  split
                  · exact numberN_le ha
                  · exact ha
/-- of nothing there is no value -/
theorem valN_end (s : Bs) (d : Nat) : (valN s d s.length).2 ≠ 0 := by
  have h : s[s.length]? = none := List.getElem?_eq_none (Nat.le_refl _)
  cases d <;> (unfold valN; rw [h]; exact (show (3 : Int) ≠ 0 by decide))
theorem objOne_end (s : Bs) (d : Nat) (ns : List Bs) : (objOne s (valN s d) s.length ns).1.2 ≠ 0 := by
  have h : s[s.length]? = none := List.getElem?_eq_none (Nat.le_refl _)
  unfold objOne
  have e : takeN s s.length = ([], s.length, 3) := by unfold takeN; rw [if_pos h]
  rw [e, if_pos (show (3 : Int) ≠ 0 by decide)]
  exact (show (3 : Int) ≠ 0 by decide)
end Go.Proofs.YtgoelpjkfofbbaaGreatDoor
