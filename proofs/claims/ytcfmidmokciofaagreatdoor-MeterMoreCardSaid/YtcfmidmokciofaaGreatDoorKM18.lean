/- Plain laws: the entries of a chart, and its contents. -/
import Derived.Test.YtcfmidmokciofaaGreatDoorKM11
import Derived.Test.YtcfmidmokciofaaGreatDoorKM04
namespace Go.Gz
/-- contents, each once -/
def addC (cs : List Bs) (s : Bs) : List Bs := if s ∈ cs then cs else cs ++ [s]
def offC (cs : List Bs) (s : Bs) : Nat := (cs.takeWhile fun t => t != s).flatten.length
def goesE (a b : Ent) : Bool := decide (b.id = lastE a + 1) && decide (b.off = a.off) && decide (b.len = a.len)
def pushE (out : Ents) (e : Ent) : Ents :=
  match out.getLast? with
  | none => [e]
  | some b => if goesE b e then out.dropLast ++ [{ b with run := b.run + 1 }] else out ++ [e]
def itemE (cs : List Bs) (x : Item) : Ent := ⟨x.1, offC (addC cs x.2) x.2, x.2.length, 1⟩
def rowsStep (st : Ents × List Bs) (x : Item) : Ents × List Bs := (pushE st.1 (itemE st.2 x), addC st.2 x.2)
def rowsL (L : Items) : Ents × List Bs := L.foldl rowsStep ([], [])
theorem rows_snoc (L : Items) (x : Item) : rowsL (L ++ [x]) = rowsStep (rowsL L) x := by unfold rowsL; rw [List.foldl_append]; rfl
/-- charts: rising, each tile not empty, not too long, of an identifier that there is -/
structure Good (L : Items) : Prop where
  srt : Srt L
  len : L.length ≤ 2048
  id : ∀ x ∈ L, x.1 < 6004799503160661
  ne : ∀ x ∈ L, x.2 ≠ []
  sz : ∀ x ∈ L, x.2.length ≤ 65536
def total (L : Items) : Nat := (L.map fun x => x.2.length).sum
theorem flat_snoc (cs : List Bs) (s : Bs) : (cs ++ [s]).flatten = cs.flatten ++ s := by simp
theorem add_nodup {cs : List Bs} (h : cs.Nodup) (s : Bs) : (addC cs s).Nodup := by
  unfold addC; split
  · exact h
  · rename_i hn
    rw [List.nodup_append]
    exact ⟨h, List.pairwise_singleton _ _, fun a ha b hb e => by simp at hb; subst hb; subst e; exact hn ha⟩
theorem add_mem (cs : List Bs) (s : Bs) : s ∈ addC cs s := by
  unfold addC; split
  · assumption
  · simp
theorem add_sub {cs : List Bs} {s t : Bs} (h : t ∈ cs) : t ∈ addC cs s := by
  unfold addC; split
  · exact h
  · simp [h]
theorem off_app {cs : List Bs} {s : Bs} (h : s ∈ cs) (ds : List Bs) : offC (cs ++ ds) s = offC cs s := by
  induction cs with
  | nil => simp at h
  | cons c r ih =>
    unfold offC at *
    rw [List.cons_append, List.takeWhile_cons, List.takeWhile_cons]
    by_cases e : c = s
    · simp [e]
    · rw [if_pos (by simpa using e)]
      rcases List.mem_cons.1 h with h | h
      · exact absurd h.symm e
      · have := ih h
        simp only [List.flatten_cons, List.length_append, this]
        simp [e]
theorem off_new {cs : List Bs} {s : Bs} (h : s ∉ cs) : offC (cs ++ [s]) s = cs.flatten.length := by
  induction cs with
  | nil => simp [offC]
  | cons c r ih =>
    have h1 : c ≠ s := by intro e; subst e; exact h (by simp)
    have := ih (by intro g; exact h (by simp [g]))
    unfold offC at *
    rw [List.cons_append, List.takeWhile_cons, if_pos (by simpa using h1), List.flatten_cons, List.length_append, this, List.flatten_cons, List.length_append]
theorem off_add {cs : List Bs} {s t : Bs} (h : t ∈ cs) : offC (addC cs s) t = offC cs t := by
  unfold addC; split
  · rfl
  · exact off_app h _
/-- where a content stands -/
theorem off_at {cs : List Bs} {s : Bs} (h : s ∈ cs) : ∃ a b, cs.flatten = a ++ (s ++ b) ∧ a.length = offC cs s := by
  induction cs with
  | nil => simp at h
  | cons c r ih =>
    unfold offC at *
    rw [List.takeWhile_cons]
    by_cases e : c = s
    · subst e; exact ⟨[], r.flatten, by simp, by simp⟩
    · rcases List.mem_cons.1 h with h | h
      · exact absurd h.symm e
      · obtain ⟨a, b, h1, h2⟩ := ih h
        refine ⟨c ++ a, b, by rw [List.flatten_cons, h1]; simp, ?_⟩
        rw [if_pos (by simpa using e)]
        simp [h2]
theorem off_end {cs : List Bs} {s : Bs} (h : s ∈ cs) : offC cs s + s.length ≤ cs.flatten.length := by
  obtain ⟨a, b, h1, h2⟩ := off_at h
  rw [h1]; simp; omega
theorem off_take {cs : List Bs} {s : Bs} (h : s ∈ cs) : (cs.flatten.drop (offC cs s)).take s.length = s := by
  obtain ⟨a, b, h1, h2⟩ := off_at h
  rw [h1, ← h2]; simp
theorem push_len (out : Ents) (e : Ent) : (pushE out e).length ≤ out.length + 1 := by
  unfold pushE
  split
  · simp
  · rename_i b hb
    split
    · rw [List.length_append, List.length_dropLast, List.length_singleton]
      omega
    · simp
theorem rows_inv (L : Items) (h : Good L) (ht : total L ≤ 1099511627776) :
    (rowsL L).1.length ≤ L.length ∧ (∀ x ∈ L, x.2 ∈ (rowsL L).2) ∧ (∀ s ∈ (rowsL L).2, ∃ x ∈ L, x.2 = s) ∧ (rowsL L).2.Nodup ∧ (rowsL L).2.flatten.length ≤ total L ∧
    (∀ e ∈ (rowsL L).1, chkE e = 0 ∧ 1 ≤ e.run ∧ e.len ≤ 65536) ∧ (rowsL L).1.Pairwise (fun a b => a.id + wideE a ≤ b.id) ∧
    ((rowsL L).1.getLast?.map fun e => e.id + e.run) = L.getLast?.map fun x => x.1 + 1 := by
  induction L using snoc_ind with
  | h0 => simp [rowsL, total]
  | h1 L x ih =>
    have hg : Good L := by
      refine ⟨?_, by have := h.len; simp at this; omega, fun y hy => h.id y (by simp [hy]), fun y hy => h.ne y (by simp [hy]), fun y hy => h.sz y (by simp [hy])⟩
      have := (srt_iff _).1 h.srt
      rw [List.pairwise_append] at this
      exact (srt_iff _).2 this.1
    have hlast : ∀ y ∈ L, y.1 < x.1 := by
      have := (srt_iff _).1 h.srt
      rw [List.pairwise_append] at this
      exact fun y hy => this.2.2 y hy x (by simp)
    have htt : total (L ++ [x]) = total L + x.2.length := by unfold total; simp
    rw [htt] at ht ⊢
    obtain ⟨i1, i2, i3, i4, i5, i6, i7, i8⟩ := ih hg (by omega)
    rw [rows_snoc]
    unfold rowsStep
    have hx1 := h.id x (by simp)
    have hx2 := h.ne x (by simp)
    have hx3 := h.sz x (by simp)
    have hxl : 0 < x.2.length := List.length_pos_iff.2 hx2
    have hmem := add_mem (rowsL L).2 x.2
    have hend := off_end hmem
    have hfl : (addC (rowsL L).2 x.2).flatten.length ≤ total L + x.2.length := by
      unfold addC; split
      · omega
      · rw [flat_snoc, List.length_append]; omega
    have hchk : chkE (itemE (rowsL L).2 x) = 0 := by
      unfold itemE
      exact chk_mk hxl (by simp [wideE]; omega) (by simp; omega)
    refine ⟨?_, ?_, ?_, add_nodup i4 _, hfl, ?_⟩
    · have := push_len (rowsL L).1 (itemE (rowsL L).2 x)
      simp; omega
    · intro y hy
      rcases List.mem_append.1 hy with hy | hy
      · exact add_sub (i2 y hy)
      · simp at hy; subst hy; exact hmem
    · intro s hs
      unfold addC at hs
      split at hs
      · obtain ⟨y, hy, e⟩ := i3 s hs; exact ⟨y, by simp [hy], e⟩
      · rcases List.mem_append.1 hs with hs | hs
        · obtain ⟨y, hy, e⟩ := i3 s hs; exact ⟨y, by simp [hy], e⟩
        · simp at hs; exact ⟨x, by simp, hs.symm⟩
    · unfold pushE
      cases hb : (rowsL L).1.getLast? with
      | none =>
        simp only
        refine ⟨fun e he => ?_, List.pairwise_singleton _ _, by simp [itemE]⟩
        simp at he; subst he
        exact ⟨hchk, by simp [itemE], by simp [itemE]; omega⟩
      | some b =>
        rw [hb] at i8
        obtain ⟨y, hy, hyb⟩ : ∃ y, L.getLast? = some y ∧ b.id + b.run = y.1 + 1 := by
          cases hy : L.getLast? with
          | none => rw [hy] at i8; simp at i8
          | some y => rw [hy] at i8; exact ⟨y, rfl, by simpa using i8⟩
        have hyx := hlast y (List.mem_of_getLast? hy)
        have hbm := List.mem_of_getLast? hb
        obtain ⟨c1, c2, c3⟩ := i6 b hbm
        have hw : wideE b = b.run := by unfold wideE; omega
        obtain ⟨pre, hpre⟩ : ∃ pre, (rowsL L).1 = pre ++ [b] := by
          exact List.getLast?_eq_some_iff.1 hb
        simp only
        rw [hpre] at i6 i7 ⊢
        rw [List.pairwise_append] at i7
        split
        · rename_i hgo
          rw [List.dropLast_concat]
          unfold goesE at hgo
          simp only [Bool.and_eq_true, decide_eq_true_eq] at hgo
          obtain ⟨⟨g1, g2⟩, g3⟩ := hgo
          rw [last_ok c1, hw] at g1
          have g1' : x.1 = b.id + b.run - 1 + 1 := g1
          have hw2 : wideE { b with run := b.run + 1 } = b.run + 1 := by unfold wideE; simp only; omega
          have k1 := chk_ok c1
          have hchk2 : chkE { b with run := b.run + 1 } = 0 := chk_mk k1.1 (by rw [hw2]; simp; omega) k1.2.2
          refine ⟨fun e he => ?_, ?_, ?_⟩
          · rcases List.mem_append.1 he with he | he
            · exact i6 e (by simp [he])
            · simp at he; subst he; exact ⟨hchk2, by simp, c3⟩
          · rw [List.pairwise_append]
            refine ⟨i7.1, List.pairwise_singleton _ _, fun a ha e he => ?_⟩
            simp at he; subst he
            exact i7.2.2 a ha b (by simp)
          · simp; omega
        · refine ⟨fun e he => ?_, ?_, by simp [itemE]⟩
          · rcases List.mem_append.1 he with he | he
            · exact i6 e he
            · simp at he; subst he; exact ⟨hchk, by simp [itemE], by simp [itemE]; omega⟩
          · rw [List.pairwise_append, List.pairwise_append]
            refine ⟨i7, List.pairwise_singleton _ _, fun a ha e he => ?_⟩
            simp at he; subst he
            show a.id + wideE a ≤ x.1
            rcases List.mem_append.1 ha with ha | ha
            · have := i7.2.2 a ha b (by simp); omega
            · simp at ha; subst ha; omega
theorem rows_row {L : Items} (h : Good L) (ht : total L ≤ 1099511627776) : rowE (rowsL L).1 = 0 := by
  obtain ⟨i1, _, _, _, _, i6, i7, _⟩ := rows_inv L h ht
  exact (row_iff _).2 ⟨by have := h.len; omega, fun e he => (i6 e he).1, i7⟩
theorem push_sum (out : Ents) (e : Ent) (h : e.run = 1) : ((pushE out e).map fun e => e.run).sum = (out.map fun e => e.run).sum + 1 := by
  unfold pushE
  split
  · rename_i hb
    have : out = [] := by simpa using hb
    subst this; simp [h]
  · rename_i b hb
    obtain ⟨pre, hp⟩ := List.getLast?_eq_some_iff.1 hb
    rw [hp]
    split
    · rw [List.dropLast_concat]; simp; omega
    · simp [h]; omega
theorem rows_sum (L : Items) : ((rowsL L).1.map fun e => e.run).sum = L.length := by
  induction L using snoc_ind with
  | h0 => rfl
  | h1 L x ih => rw [rows_snoc]; unfold rowsStep; rw [push_sum _ _ rfl, ih]; simp
theorem le_sum {xs : List Nat} {x : Nat} (h : x ∈ xs) : x ≤ xs.sum := by
  induction xs with
  | nil => simp at h
  | cons a r ih =>
    rw [List.sum_cons]
    rcases List.mem_cons.1 h with rfl | h
    · omega
    · have := ih h; omega
theorem rows_ok {L : Items} (h : Good L) (ht : total L ≤ 1099511627776) : ∀ e ∈ (rowsL L).1, okE e := by
  obtain ⟨i1, _, _, _, _, i6, i7, _⟩ := rows_inv L h ht
  intro e he
  obtain ⟨c1, c2, c3⟩ := i6 e he
  have := chk_ok c1
  have := wide_pos e
  unfold okE
  have hr : e.run < 4294967296 := by
    have h1 := le_sum (List.mem_map_of_mem (f := fun e : Ent => e.run) he)
    rw [rows_sum] at h1
    have := h.len
    omega
  omega
end Go.Gz
/- Plain laws: contents in order, their places, their sums. -/
namespace Go.Gz
/-- the sum of a text -/
def fnvV (s : Bs) : Nat := s.foldl (fun h c => (Nat.xor h c.toNat * 1099511628211) % 18446744073709551616) 14695981039346656037
/-- where content k stands -/
def offK (cs : List Bs) (k : Nat) : Nat := (cs.take k).flatten.length
/-- the places whose contents have a sum -/
def hitL (cs : List Bs) (h : Nat) : List Nat := (List.range cs.length).filter fun k => fnvV (cs.getD k []) == h
theorem hit_snoc (cs : List Bs) (s : Bs) (h : Nat) : hitL (cs ++ [s]) h = hitL cs h ++ if fnvV s = h then [cs.length] else [] := by
  unfold hitL
  rw [List.length_append, List.length_singleton, List.range_succ, List.filter_append]
  congr 1
  · apply List.filter_congr
    intro k hk
    have hk' : k < cs.length := List.mem_range.1 hk
    simp [List.getD, List.getElem?_append_left hk']
  · simp [List.getD, List.filter_cons]
theorem hit_lt {cs : List Bs} {h k : Nat} (hk : k ∈ hitL cs h) : k < cs.length := by
  unfold hitL at hk
  exact List.mem_range.1 (List.mem_filter.1 hk).1
theorem hit_len (cs : List Bs) (h : Nat) : (hitL cs h).length ≤ cs.length := by
  unfold hitL
  have := List.length_filter_le (fun k => fnvV (cs.getD k []) == h) (List.range cs.length)
  rwa [List.length_range] at this
theorem tw_take {cs : List Bs} (hn : cs.Nodup) : ∀ {k : Nat} (hk : k < cs.length), (cs.takeWhile fun t => t != cs[k]) = cs.take k := by
  induction cs with
  | nil => intro k hk; simp at hk
  | cons c r ih =>
    intro k hk
    rw [List.takeWhile_cons]
    cases k with
    | zero => simp
    | succ k =>
      have hr := (List.nodup_cons.1 hn)
      have hne : c ≠ r[k]'(by simpa using hk) := by
        intro e
        exact hr.1 (e ▸ List.getElem_mem _)
      have := ih hr.2 (k := k) (by simpa using hk)
      simp only [List.getElem_cons_succ, List.take_succ_cons]
      rw [if_pos (by simpa using hne), this]
theorem off_k {cs : List Bs} (hn : cs.Nodup) {k : Nat} (hk : k < cs.length) : offC cs cs[k] = offK cs k := by
  unfold offC offK
  rw [tw_take hn hk]
theorem offK_get {cs : List Bs} {k : Nat} (hk : k < cs.length) : offK cs k + cs[k].length ≤ cs.flatten.length ∧ (cs.flatten.drop (offK cs k)).take cs[k].length = cs[k] := by
  have e : cs = cs.take k ++ cs[k] :: cs.drop (k + 1) := by rw [← List.drop_eq_getElem_cons hk, List.take_append_drop]
  have e2 : cs.flatten = (cs.take k).flatten ++ (cs[k] ++ (cs.drop (k + 1)).flatten) := by
    conv => lhs; rw [e]
    rw [List.flatten_append, List.flatten_cons]
  unfold offK
  rw [e2]
  constructor
  · rw [List.length_append, List.length_append]; omega
  · rw [List.drop_left, List.take_left]
/-- the cells of places -/
def plV (cs : List Bs) : List Value := (List.range cs.length).flatMap fun k => [.int .u64 (offK cs k : Int), .int .u32 ((cs.getD k []).length : Int)]
theorem plV_snoc (cs : List Bs) (s : Bs) : plV (cs ++ [s]) = plV cs ++ [.int .u64 (cs.flatten.length : Int), .int .u32 (s.length : Int)] := by
  unfold plV
  rw [List.length_append, List.length_singleton, List.range_succ, List.flatMap_append]
  congr 1
  · rw [List.flatMap_def, List.flatMap_def]
    congr 1
    apply List.map_congr_left
    intro k hk
    have hk' : k < cs.length := List.mem_range.1 hk
    unfold offK
    rw [List.take_append_of_le_length (by omega)]
    simp [List.getD, List.getElem?_append_left hk']
  · simp [List.getD, offK]
theorem plV_len (cs : List Bs) : (plV cs).length = cs.length * 2 := by
  induction cs using snoc_ind with
  | h0 => rfl
  | h1 cs s ih => rw [plV_snoc]; simp [ih]; omega
theorem plV_get (cs : List Bs) {k : Nat} (hk : k < cs.length) : (plV cs)[k * 2]? = some (.int .u64 (offK cs k : Int)) ∧ (plV cs)[k * 2 + 1]? = some (.int .u32 (cs[k].length : Int)) := by
  induction cs using snoc_ind with
  | h0 => simp at hk
  | h1 cs s ih =>
    rw [plV_snoc]
    have hl := plV_len cs
    rcases Nat.lt_or_ge k cs.length with h | h
    · have := ih h
      unfold offK at this ⊢
      rw [List.getElem?_append_left (by omega), List.getElem?_append_left (by omega), List.getElem_append_left h, List.take_append_of_le_length (by omega)]
      exact this
    · obtain rfl : k = cs.length := by simp at hk; omega
      rw [List.getElem?_append_right (by omega), List.getElem?_append_right (by omega), hl]
      unfold offK
      simp
end Go.Gz
/- Plain laws: the archive of a chart. -/
namespace Go.Gz
/-- how many contents entries tell of -/
def seenE (l : Ents) : List (Nat × Nat) := l.foldl (fun acc e => if chkE e = 0 ∧ 0 < e.run then (if (e.off, e.len) ∈ acc then acc else acc ++ [(e.off, e.len)]) else acc) []
def contE (l : Ents) : Nat := (seenE l).length
theorem seenE_snoc (l : Ents) (e : Ent) : seenE (l ++ [e]) = if chkE e = 0 ∧ 0 < e.run then (if (e.off, e.len) ∈ seenE l then seenE l else seenE l ++ [(e.off, e.len)]) else seenE l := by unfold seenE; rw [List.foldl_append]; rfl
theorem seenE_len (l : Ents) : contE l ≤ l.length := by
  unfold contE
  induction l using snoc_ind with
  | h0 => simp [seenE]
  | h1 l e ih =>
    rw [seenE_snoc]
    split
    · split
      · simp; omega
      · simp; omega
    · simp; omega
/-- an identifier's zoom -/
def zoomV (id : Nat) : Int := if 6004799503160661 ≤ id then -1 else (((Lib.bitLen (3 * id + 1) - 1) / 2 : Nat) : Int)
theorem zoom_in {id : Nat} (h : id < 6004799503160661) : 0 ≤ zoomV id ∧ zoomV id ≤ 26 := by
  unfold zoomV
  rw [if_neg (by omega)]
  have := Lib.bitLen_le (3 * id + 1) 54 (by omega) (by omega)
  omega
theorem bitLen_mono {a b : Nat} (h : a ≤ b) (hb : b < 2 ^ 64) (h0 : a ≠ 0) : Lib.bitLen a ≤ Lib.bitLen b := by
  have h1 := Lib.bitLenAux_bounds 64 a (by omega) h0
  have h2 := Lib.bitLenAux_bounds 64 b hb (by omega)
  unfold Lib.bitLen
  rcases Nat.lt_or_ge (Lib.bitLenAux 64 b) (Lib.bitLenAux 64 a) with g | g
  · have : 2 ^ Lib.bitLenAux 64 b ≤ 2 ^ (Lib.bitLenAux 64 a - 1) := Nat.pow_le_pow_right (by omega) (by omega)
    omega
  · exact g
theorem zoom_mono {a b : Nat} (h : a ≤ b) (hb : b < 6004799503160661) : zoomV a ≤ zoomV b := by
  unfold zoomV
  rw [if_neg (by omega), if_neg (by omega)]
  have := bitLen_mono (a := 3 * a + 1) (b := 3 * b + 1) (by omega) (by omega) (by omega)
  omega
def minZ (L : Items) : Int := match L.head? with | some x => zoomV x.1 | none => 0
def maxZ (L : Items) : Int := match L.getLast? with | some x => zoomV x.1 | none => 0
def headH (L : Items) (l : Ents) (kind : Nat) : Hdr :=
  { zH with adr := L.length, ent := l.length, con := contE l, clu := true, inn := 1, out := 1, kind := kind, minz := minZ L, maxz := maxZ L, zoom := minZ L, minlon := -1800000000, maxlon := 1800000000, minlat := -850511287, maxlat := 850511287 }
/-- the archive of a chart by a plan that may be -/
def pressV (L : Items) (b kind : Nat) (note : Bs) : Int × Bs :=
  if (splitV (rowsL L).1 b).1 ≠ 0 then ((splitV (rowsL L).1 b).1, [])
  else if encE (splitV (rowsL L).1 b).2.1 ≠ 0 then (encE (splitV (rowsL L).1 b).2.1, [])
  else (glueE (headH L (rowsL L).1 kind) (encB (splitV (rowsL L).1 b).2.1) note (splitV (rowsL L).1 b).2.2.1 (rowsL L).2.flatten,
    glueB (headH L (rowsL L).1 kind) (encB (splitV (rowsL L).1 b).2.1) note (splitV (rowsL L).1 b).2.2.1 (rowsL L).2.flatten)
theorem good_z {L : Items} (h : Good L) : 0 ≤ minZ L ∧ minZ L ≤ 26 ∧ 0 ≤ maxZ L ∧ maxZ L ≤ 26 ∧ minZ L ≤ maxZ L := by
  unfold minZ maxZ
  cases L with
  | nil => simp
  | cons x r =>
    have hx := zoom_in (h.id x (by simp))
    have hy : ∃ y ∈ x :: r, (x :: r).getLast? = some y := by
      cases h : (x :: r).getLast? with
      | none => simp at h
      | some y => exact ⟨y, List.mem_of_getLast? h, rfl⟩
    obtain ⟨y, hy1, hy2⟩ := hy
    have hz := zoom_in (h.id y hy1)
    rw [hy2]
    simp only [List.head?_cons]
    refine ⟨hx.1, hx.2, hz.1, hz.2, zoom_mono ?_ (h.id y hy1)⟩
    rcases List.mem_cons.1 hy1 with rfl | hy1
    · exact Nat.le_refl _
    · exact Nat.le_of_lt ((List.pairwise_cons.1 ((srt_iff _).1 h.srt)).1 y hy1)
theorem press_ok {L : Items} (h : Good L) (hl : L.length ≤ 1000) (ht : total L ≤ 1000000000) {b kind : Nat} (hb : 512 ≤ b) (hb2 : b ≤ 16257) (hk : kind ≤ 5) {note : Bs} (hn : note.length ≤ 4096) :
    ∃ root text : Bs, (pressV L b kind note) = (0, hdrB (withH (headH L (rowsL L).1 kind) root.length note.length text.length (rowsL L).2.flatten.length) ++ (root ++ (note ++ (text ++ (rowsL L).2.flatten)))) ∧
      hdrE (withH (headH L (rowsL L).1 kind) root.length note.length text.length (rowsL L).2.flatten.length) = 0 ∧ root = dirB (splitV (rowsL L).1 b).2.1 ∧ text = (splitV (rowsL L).1 b).2.2.1 ∧ root.length ≤ b ∧ rowE (splitV (rowsL L).1 b).2.1 = 0 := by
  obtain ⟨i1, i2, i3, i4, i5, i6, i7, i8⟩ := rows_inv L h (by omega)
  have hrow := rows_row h (by omega)
  have hok := rows_ok h (by omega)
  obtain ⟨s1, s2, s3, s4⟩ := split_ok hb hb2 hrow hok (by omega) (fun e he => (i6 e he).2.1)
  have henc : encE (splitV (rowsL L).1 b).2.1 = 0 := enc_mk s2 (by omega)
  have htext : (splitV (rowsL L).1 b).2.2.1.length ≤ 65536 * 1024 := by
    rcases s4 with ⟨e, _⟩ | ⟨n, hn, _, e, hall⟩
    · rw [e]; simp
    · rw [e]
      have := dirs_len hall
      have h2 := flat_len (cut_ne (rowsL L).1 hn)
      rw [cut_flat _ hn] at h2
      omega
  obtain ⟨z1, z2, z3, z4, z5⟩ := good_z h
  refine ⟨dirB (splitV (rowsL L).1 b).2.1, (splitV (rowsL L).1 b).2.2.1, ?_⟩
  have hB : encB (splitV (rowsL L).1 b).2.1 = dirB (splitV (rowsL L).1 b).2.1 := by unfold encB; rw [if_pos henc]
  have hsec : sect (dirB (splitV (rowsL L).1 b).2.1).length note.length (splitV (rowsL L).1 b).2.2.1.length (rowsL L).2.flatten.length = 0 := by
    unfold sect TOT; rw [if_neg (by omega)]
  have hh : hdrE (withH (headH L (rowsL L).1 kind) (dirB (splitV (rowsL L).1 b).2.1).length note.length (splitV (rowsL L).1 b).2.2.1.length (rowsL L).2.flatten.length) = 0 := by
    refine hdr_mk ?_ ?_ ?_ ?_ ?_
    · unfold withH TOT; simp only; omega
    · unfold withH headH; simp only; omega
    · unfold withH headH; simp only; omega
    · unfold withH headH; simp [zH]
    · unfold withH headH; simp [zH]
  refine ⟨?_, hh, rfl, rfl, s3, s2⟩
  unfold pressV
  rw [if_neg (by omega), if_neg (by omega), hB]
  have hg : glueE (headH L (rowsL L).1 kind) (dirB (splitV (rowsL L).1 b).2.1) note (splitV (rowsL L).1 b).2.2.1 (rowsL L).2.flatten = 0 := by
    unfold glueE; rw [if_neg (by omega), hh]
  unfold glueB
  rw [if_pos hg, hg]
theorem press_some {L : Items} (h : Good L) (hl : L.length ≤ 1000) (ht : total L ≤ 1000000000) {b kind : Nat} (hb : 512 ≤ b) (hb2 : b ≤ 16257) (hk : kind ≤ 5) {note : Bs} (hn : note.length ≤ 4096) :
    (pressV L b kind note).1 = 0 ∧ (pressV L b kind note).2 ≠ [] := by
  obtain ⟨root, text, e, _⟩ := press_ok h hl ht hb hb2 hk hn
  rw [e]
  refine ⟨rfl, ?_⟩
  simp [hdrB]
end Go.Gz
