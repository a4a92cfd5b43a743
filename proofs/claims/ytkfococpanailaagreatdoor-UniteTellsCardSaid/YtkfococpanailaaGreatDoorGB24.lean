/- Plain laws: the archive of a chart. -/
import Derived.Test.YtkfococpanailaaGreatDoorGB11
import Derived.Test.YtkfococpanailaaGreatDoorGB23
import Derived.Test.YtkfococpanailaaGreatDoorGB09
namespace Go.Gz
/-- how many contents entries tell of -/
def seenE (l : Ents) : List (Nat × Nat) := l.foldl (fun acc e => if chkE e = 0 ∧ 0 < e.run then (if (e.off, e.len) ∈ acc then acc else acc ++ [(e.off, e.len)]) else acc) []
def contE (l : Ents) : Nat := (seenE l).length
theorem seenE_snoc (l : Ents) (e : Ent) : seenE (l ++ [e]) = if chkE e = 0 ∧ 0 < e.run then (if (e.off, e.len) ∈ seenE l then seenE l else seenE l ++ [(e.off, e.len)]) else seenE l := by unfold seenE; rw [List.foldl_append]; rfl
theorem seenE_len (l : Ents) : contE l ≤ l.length := by
  unfold contE
  induction l using snoc_ind with
  | h0 => simp [seenE]
  | h1 l e ih =>
    rw [seenE_snoc]
    split
    · split
      · simp; omega
      · simp; omega
    · simp; omega
/-- an identifier's zoom -/
def zoomV (id : Nat) : Int := if 6004799503160661 ≤ id then -1 else (((Lib.bitLen (3 * id + 1) - 1) / 2 : Nat) : Int)
theorem zoom_in {id : Nat} (h : id < 6004799503160661) : 0 ≤ zoomV id ∧ zoomV id ≤ 26 := by
  unfold zoomV
  rw [if_neg (by omega)]
  have := Lib.bitLen_le (3 * id + 1) 54 (by omega) (by omega)
  omega
theorem bitLen_mono {a b : Nat} (h : a ≤ b) (hb : b < 2 ^ 64) (h0 : a ≠ 0) : Lib.bitLen a ≤ Lib.bitLen b := by
  have h1 := Lib.bitLenAux_bounds 64 a (by omega) h0
  have h2 := Lib.bitLenAux_bounds 64 b hb (by omega)
  unfold Lib.bitLen
  rcases Nat.lt_or_ge (Lib.bitLenAux 64 b) (Lib.bitLenAux 64 a) with g | g
  · have : 2 ^ Lib.bitLenAux 64 b ≤ 2 ^ (Lib.bitLenAux 64 a - 1) := Nat.pow_le_pow_right (by omega) (by omega)
    omega
  · exact g
theorem zoom_mono {a b : Nat} (h : a ≤ b) (hb : b < 6004799503160661) : zoomV a ≤ zoomV b := by
  unfold zoomV
  rw [if_neg (by omega), if_neg (by omega)]
  have := bitLen_mono (a := 3 * a + 1) (b := 3 * b + 1) (by omega) (by omega) (by omega)
  omega
def minZ (L : Items) : Int := match L.head? with | some x => zoomV x.1 | none => 0
def maxZ (L : Items) : Int := match L.getLast? with | some x => zoomV x.1 | none => 0
def headH (L : Items) (l : Ents) (kind : Nat) : Hdr :=
  { zH with adr := L.length, ent := l.length, con := contE l, clu := true, inn := 1, out := 1, kind := kind, minz := minZ L, maxz := maxZ L, zoom := minZ L, minlon := -1800000000, maxlon := 1800000000, minlat := -850511287, maxlat := 850511287 }
/-- the archive of a chart by a plan that may be -/
def pressV (L : Items) (b kind : Nat) (note : Bs) : Int × Bs :=
  if (splitV (rowsL L).1 b).1 ≠ 0 then ((splitV (rowsL L).1 b).1, [])
  else if encE (splitV (rowsL L).1 b).2.1 ≠ 0 then (encE (splitV (rowsL L).1 b).2.1, [])
  else (glueE (headH L (rowsL L).1 kind) (encB (splitV (rowsL L).1 b).2.1) note (splitV (rowsL L).1 b).2.2.1 (rowsL L).2.flatten,
    glueB (headH L (rowsL L).1 kind) (encB (splitV (rowsL L).1 b).2.1) note (splitV (rowsL L).1 b).2.2.1 (rowsL L).2.flatten)
theorem good_z {L : Items} (h : Good L) : 0 ≤ minZ L ∧ minZ L ≤ 26 ∧ 0 ≤ maxZ L ∧ maxZ L ≤ 26 ∧ minZ L ≤ maxZ L := by
  unfold minZ maxZ
  cases L with
  | nil => simp
  | cons x r =>
    have hx := zoom_in (h.id x (by simp))
    have hy : ∃ y ∈ x :: r, (x :: r).getLast? = some y := by
      cases h : (x :: r).getLast? with
      | none => simp at h
      | some y => exact ⟨y, List.mem_of_getLast? h, rfl⟩
    obtain ⟨y, hy1, hy2⟩ := hy
    have hz := zoom_in (h.id y hy1)
    rw [hy2]
    simp only [List.head?_cons]
    refine ⟨hx.1, hx.2, hz.1, hz.2, zoom_mono ?_ (h.id y hy1)⟩
    rcases List.mem_cons.1 hy1 with rfl | hy1
    · exact Nat.le_refl _
    · exact Nat.le_of_lt ((List.pairwise_cons.1 ((srt_iff _).1 h.srt)).1 y hy1)
theorem press_ok {L : Items} (h : Good L) (hl : L.length ≤ 1000) (ht : total L ≤ 1000000000) {b kind : Nat} (hb : 512 ≤ b) (hb2 : b ≤ 16257) (hk : kind ≤ 5) {note : Bs} (hn : note.length ≤ 4096) :
    ∃ root text : Bs, (pressV L b kind note) = (0, hdrB (withH (headH L (rowsL L).1 kind) root.length note.length text.length (rowsL L).2.flatten.length) ++ (root ++ (note ++ (text ++ (rowsL L).2.flatten)))) ∧
      hdrE (withH (headH L (rowsL L).1 kind) root.length note.length text.length (rowsL L).2.flatten.length) = 0 ∧ root = dirB (splitV (rowsL L).1 b).2.1 ∧ text = (splitV (rowsL L).1 b).2.2.1 ∧ root.length ≤ b ∧ rowE (splitV (rowsL L).1 b).2.1 = 0 := by
  obtain ⟨i1, i2, i3, i4, i5, i6, i7, i8⟩ := rows_inv L h (by omega)
  have hrow := rows_row h (by omega)
  have hok := rows_ok h (by omega)
  obtain ⟨s1, s2, s3, s4⟩ := split_ok hb hb2 hrow hok (by omega) (fun e he => (i6 e he).2.1)
  have henc : encE (splitV (rowsL L).1 b).2.1 = 0 := enc_mk s2 (by omega)
  have htext : (splitV (rowsL L).1 b).2.2.1.length ≤ 65536 * 1024 := by
    rcases s4 with ⟨e, _⟩ | ⟨n, hn, _, e, hall⟩
    · rw [e]; simp
    · rw [e]
      have := dirs_len hall
      have h2 := flat_len (cut_ne (rowsL L).1 hn)
      rw [cut_flat _ hn] at h2
      omega
  obtain ⟨z1, z2, z3, z4, z5⟩ := good_z h
  refine ⟨dirB (splitV (rowsL L).1 b).2.1, (splitV (rowsL L).1 b).2.2.1, ?_⟩
  have hB : encB (splitV (rowsL L).1 b).2.1 = dirB (splitV (rowsL L).1 b).2.1 := by unfold encB; rw [if_pos henc]
  have hsec : sect (dirB (splitV (rowsL L).1 b).2.1).length note.length (splitV (rowsL L).1 b).2.2.1.length (rowsL L).2.flatten.length = 0 := by
    unfold sect TOT; rw [if_neg (by omega)]
  have hh : hdrE (withH (headH L (rowsL L).1 kind) (dirB (splitV (rowsL L).1 b).2.1).length note.length (splitV (rowsL L).1 b).2.2.1.length (rowsL L).2.flatten.length) = 0 := by
    refine hdr_mk ?_ ?_ ?_ ?_ ?_
    · unfold withH TOT; simp only; omega
    · unfold withH headH; simp only; omega
    · unfold withH headH; simp only; omega
    · unfold withH headH; simp [zH]
    · unfold withH headH; simp [zH]
  refine ⟨?_, hh, rfl, rfl, s3, s2⟩
  unfold pressV
  rw [if_neg (by omega), if_neg (by omega), hB]
  have hg : glueE (headH L (rowsL L).1 kind) (dirB (splitV (rowsL L).1 b).2.1) note (splitV (rowsL L).1 b).2.2.1 (rowsL L).2.flatten = 0 := by
    unfold glueE; rw [if_neg (by omega), hh]
  unfold glueB
  rw [if_pos hg, hg]
theorem press_some {L : Items} (h : Good L) (hl : L.length ≤ 1000) (ht : total L ≤ 1000000000) {b kind : Nat} (hb : 512 ≤ b) (hb2 : b ≤ 16257) (hk : kind ≤ 5) {note : Bs} (hn : note.length ≤ 4096) :
    (pressV L b kind note).1 = 0 ∧ (pressV L b kind note).2 ≠ [] := by
  obtain ⟨root, text, e, _⟩ := press_ok h hl ht hb hb2 hk hn
  rw [e]
  refine ⟨rfl, ?_⟩
  simp [hdrB]
end Go.Gz
