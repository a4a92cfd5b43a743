/- Plain laws: the entries of a chart, and its contents. -/
import Derived.Test.YtbfieomjobbhoaaGreatDoorMN01
import Derived.Test.YtbfieomjobbhoaaGreatDoorMN04
namespace Go.Gz
/-- contents, each once -/
def addC (cs : List Bs) (s : Bs) : List Bs := if s ∈ cs then cs else cs ++ [s]
def offC (cs : List Bs) (s : Bs) : Nat := (cs.takeWhile fun t => t != s).flatten.length
def goesE (a b : Ent) : Bool := decide (b.id = lastE a + 1) && decide (b.off = a.off) && decide (b.len = a.len)
def pushE (out : Ents) (e : Ent) : Ents :=
  match out.getLast? with
  | none => [e]
  | some b => if goesE b e then out.dropLast ++ [{ b with run := b.run + 1 }] else out ++ [e]
def itemE (cs : List Bs) (x : Item) : Ent := ⟨x.1, offC (addC cs x.2) x.2, x.2.length, 1⟩
def rowsStep (st : Ents × List Bs) (x : Item) : Ents × List Bs := (pushE st.1 (itemE st.2 x), addC st.2 x.2)
def rowsL (L : Items) : Ents × List Bs := L.foldl rowsStep ([], [])
theorem rows_snoc (L : Items) (x : Item) : rowsL (L ++ [x]) = rowsStep (rowsL L) x := by unfold rowsL; rw [List.foldl_append]; rfl
/-- charts: rising, each tile not empty, not too long, of an identifier that there is -/
structure Good (L : Items) : Prop where
  srt : Srt L
  len : L.length ≤ 2048
  id : ∀ x ∈ L, x.1 < 6004799503160661
  ne : ∀ x ∈ L, x.2 ≠ []
  sz : ∀ x ∈ L, x.2.length ≤ 65536
def total (L : Items) : Nat := (L.map fun x => x.2.length).sum
theorem flat_snoc (cs : List Bs) (s : Bs) : (cs ++ [s]).flatten = cs.flatten ++ s := by simp
theorem add_nodup {cs : List Bs} (h : cs.Nodup) (s : Bs) : (addC cs s).Nodup := by
  unfold addC; split
  · exact h
  · rename_i hn;rw [List.nodup_append];exact ⟨h, List.pairwise_singleton _ _, fun a ha b hb e => by simp at hb; subst hb; subst e; exact hn ha⟩
theorem add_mem (cs : List Bs) (s : Bs) : s ∈ addC cs s := by
  unfold addC; split
  · assumption
  · simp
theorem add_sub {cs : List Bs} {s t : Bs} (h : t ∈ cs) : t ∈ addC cs s := by
  unfold addC; split
  · exact h
  · simp [h]
theorem off_new {cs : List Bs} {s : Bs} (h : s ∉ cs) : offC (cs ++ [s]) s = cs.flatten.length := by
  induction cs with
  | nil => simp [offC]
  | cons c r ih =>
    have h1 : c ≠ s := by intro e; subst e; exact h (by simp)
    have := ih (by intro g; exact h (by simp [g]));unfold offC at *;rw [List.cons_append, List.takeWhile_cons, if_pos (by simpa using h1), List.flatten_cons, List.length_append, this, List.flatten_cons, List.length_append]
/-- where a content stands -/
theorem off_at {cs : List Bs} {s : Bs} (h : s ∈ cs) : ∃ a b, cs.flatten = a ++ (s ++ b) ∧ a.length = offC cs s := by
  induction cs with
  | nil => simp at h
  | cons c r ih =>
    unfold offC at *;rw [List.takeWhile_cons];by_cases e : c = s
    · subst e; exact ⟨[], r.flatten, by simp, by simp⟩
    · rcases List.mem_cons.1 h with h | h
      · exact absurd h.symm e
      · obtain ⟨a, b, h1, h2⟩ := ih h;refine ⟨c ++ a, b, by rw [List.flatten_cons, h1]; simp, ?_⟩;rw [if_pos (by simpa using e)];simp [h2]
theorem off_end {cs : List Bs} {s : Bs} (h : s ∈ cs) : offC cs s + s.length ≤ cs.flatten.length := by
  obtain ⟨a, b, h1, h2⟩ := off_at h;rw [h1]; simp; omega
theorem off_take {cs : List Bs} {s : Bs} (h : s ∈ cs) : (cs.flatten.drop (offC cs s)).take s.length = s := by
  obtain ⟨a, b, h1, h2⟩ := off_at h;rw [h1, ← h2]; simp
theorem push_len (out : Ents) (e : Ent) : (pushE out e).length ≤ out.length + 1 := by
  unfold pushE;split
  · simp
  · rename_i b hb;split
    · rw [List.length_append, List.length_dropLast, List.length_singleton];omega
    · simp
theorem rows_inv (L : Items) (h : Good L) (ht : total L ≤ 1099511627776) :
    (rowsL L).1.length ≤ L.length ∧ (∀ x ∈ L, x.2 ∈ (rowsL L).2) ∧ (∀ s ∈ (rowsL L).2, ∃ x ∈ L, x.2 = s) ∧ (rowsL L).2.Nodup ∧ (rowsL L).2.flatten.length ≤ total L ∧
    (∀ e ∈ (rowsL L).1, chkE e = 0 ∧ 1 ≤ e.run ∧ e.len ≤ 65536) ∧ (rowsL L).1.Pairwise (fun a b => a.id + wideE a ≤ b.id) ∧
    ((rowsL L).1.getLast?.map fun e => e.id + e.run) = L.getLast?.map fun x => x.1 + 1 := by
  induction L using snoc_ind with
  | h0 => simp [rowsL, total]
  | h1 L x ih =>
    have hg : Good L := by
      refine ⟨?_, by have := h.len; simp at this; omega, fun y hy => h.id y (by simp [hy]), fun y hy => h.ne y (by simp [hy]), fun y hy => h.sz y (by simp [hy])⟩;have := (srt_iff _).1 h.srt;rw [List.pairwise_append] at this;exact (srt_iff _).2 this.1
    have hlast : ∀ y ∈ L, y.1 < x.1 := by
      have := (srt_iff _).1 h.srt;rw [List.pairwise_append] at this;exact fun y hy => this.2.2 y hy x (by simp)
    have htt : total (L ++ [x]) = total L + x.2.length := by unfold total; simp
    rw [htt] at ht ⊢;obtain ⟨i1, i2, i3, i4, i5, i6, i7, i8⟩ := ih hg (by omega);rw [rows_snoc];unfold rowsStep;have hx1 := h.id x (by simp);have hx2 := h.ne x (by simp);have hx3 := h.sz x (by simp);have hxl : 0 < x.2.length := List.length_pos_iff.2 hx2;have hmem := add_mem (rowsL L).2 x.2;have hend := off_end hmem;have hfl : (addC (rowsL L).2 x.2).flatten.length ≤ total L + x.2.length := by
      unfold addC; split
      · omega
      · rw [flat_snoc, List.length_append]; omega
    have hchk : chkE (itemE (rowsL L).2 x) = 0 := by
      unfold itemE;exact chk_mk hxl (by simp [wideE]; omega) (by simp; omega)
    refine ⟨?_, ?_, ?_, add_nodup i4 _, hfl, ?_⟩
    · have := push_len (rowsL L).1 (itemE (rowsL L).2 x);simp; omega
    · intro y hy;rcases List.mem_append.1 hy with hy | hy
      · exact add_sub (i2 y hy)
      · simp at hy; subst hy; exact hmem
    · intro s hs;unfold addC at hs;split at hs
      · obtain ⟨y, hy, e⟩ := i3 s hs; exact ⟨y, by simp [hy], e⟩
      · rcases List.mem_append.1 hs with hs | hs
        · obtain ⟨y, hy, e⟩ := i3 s hs; exact ⟨y, by simp [hy], e⟩
        · simp at hs; exact ⟨x, by simp, hs.symm⟩
    · unfold pushE;cases hb : (rowsL L).1.getLast? with
      | none =>
        simp only;refine ⟨fun e he => ?_, List.pairwise_singleton _ _, by simp [itemE]⟩;simp at he; subst he;exact ⟨hchk, by simp [itemE], by simp [itemE]; omega⟩
      | some b =>
        rw [hb] at i8;obtain ⟨y, hy, hyb⟩ : ∃ y, L.getLast? = some y ∧ b.id + b.run = y.1 + 1 := by
          cases hy : L.getLast? with
          | none => rw [hy] at i8; simp at i8
          | some y => rw [hy] at i8; exact ⟨y, rfl, by simpa using i8⟩
        have hyx := hlast y (List.mem_of_getLast? hy);have hbm := List.mem_of_getLast? hb;obtain ⟨c1, c2, c3⟩ := i6 b hbm;have hw : wideE b = b.run := by unfold wideE; omega
        obtain ⟨pre, hpre⟩ : ∃ pre, (rowsL L).1 = pre ++ [b] := by
          exact List.getLast?_eq_some_iff.1 hb
        simp only;rw [hpre] at i6 i7 ⊢;rw [List.pairwise_append] at i7;split
        · rename_i hgo;rw [List.dropLast_concat];unfold goesE at hgo;simp only [Bool.and_eq_true, decide_eq_true_eq] at hgo;obtain ⟨⟨g1, g2⟩, g3⟩ := hgo;rw [last_ok c1, hw] at g1;have g1' : x.1 = b.id + b.run - 1 + 1 := g1;have hw2 : wideE { b with run := b.run + 1 } = b.run + 1 := by unfold wideE; simp only; omega
          have k1 := chk_ok c1;have hchk2 : chkE { b with run := b.run + 1 } = 0 := chk_mk k1.1 (by rw [hw2]; simp; omega) k1.2.2;refine ⟨fun e he => ?_, ?_, ?_⟩
          · rcases List.mem_append.1 he with he | he
            · exact i6 e (by simp [he])
            · simp at he; subst he; exact ⟨hchk2, by simp, c3⟩
          · rw [List.pairwise_append];refine ⟨i7.1, List.pairwise_singleton _ _, fun a ha e he => ?_⟩;simp at he; subst he;exact i7.2.2 a ha b (by simp)
          · simp; omega
        · refine ⟨fun e he => ?_, ?_, by simp [itemE]⟩
          · rcases List.mem_append.1 he with he | he
            · exact i6 e he
            · simp at he; subst he; exact ⟨hchk, by simp [itemE], by simp [itemE]; omega⟩
          · rw [List.pairwise_append, List.pairwise_append];refine ⟨i7, List.pairwise_singleton _ _, fun a ha e he => ?_⟩;simp at he; subst he;show a.id + wideE a ≤ x.1
            rcases List.mem_append.1 ha with ha | ha
            · have := i7.2.2 a ha b (by simp); omega
            · simp at ha; subst ha; omega
theorem rows_row {L : Items} (h : Good L) (ht : total L ≤ 1099511627776) : rowE (rowsL L).1 = 0 := by
  obtain ⟨i1, _, _, _, _, i6, i7, _⟩ := rows_inv L h ht;exact (row_iff _).2 ⟨by have := h.len; omega, fun e he => (i6 e he).1, i7⟩
theorem push_sum (out : Ents) (e : Ent) (h : e.run = 1) : ((pushE out e).map fun e => e.run).sum = (out.map fun e => e.run).sum + 1 := by
  unfold pushE;split
  · rename_i hb;have : out = [] := by simpa using hb
    subst this; simp [h]
  · rename_i b hb;obtain ⟨pre, hp⟩ := List.getLast?_eq_some_iff.1 hb;rw [hp];split
    · rw [List.dropLast_concat]; simp; omega
    · simp [h]; omega
theorem rows_sum (L : Items) : ((rowsL L).1.map fun e => e.run).sum = L.length := by
  induction L using snoc_ind with
  | h0 => rfl
  | h1 L x ih => rw [rows_snoc]; unfold rowsStep; rw [push_sum _ _ rfl, ih]; simp
theorem le_sum {xs : List Nat} {x : Nat} (h : x ∈ xs) : x ≤ xs.sum := by
  induction xs with
  | nil => simp at h
  | cons a r ih =>
    rw [List.sum_cons];rcases List.mem_cons.1 h with rfl | h
    · omega
    · have := ih h; omega
theorem rows_ok {L : Items} (h : Good L) (ht : total L ≤ 1099511627776) : ∀ e ∈ (rowsL L).1, okE e := by
  obtain ⟨i1, _, _, _, _, i6, i7, _⟩ := rows_inv L h ht;intro e he;obtain ⟨c1, c2, c3⟩ := i6 e he;have := chk_ok c1;have := wide_pos e;unfold okE;have hr : e.run < 4294967296 := by
    have h1 := le_sum (List.mem_map_of_mem (f := fun e : Ent => e.run) he);rw [rows_sum] at h1;have := h.len;omega
  omega
end Go.Gz
/- Plain laws: contents in order, their places, their sums. -/
namespace Go.Gz
/-- the sum of a text -/
def fnvV (s : Bs) : Nat := s.foldl (fun h c => (Nat.xor h c.toNat * 1099511628211) % 18446744073709551616) 14695981039346656037
/-- where content k stands -/
def offK (cs : List Bs) (k : Nat) : Nat := (cs.take k).flatten.length
/-- the places whose contents have a sum -/
def hitL (cs : List Bs) (h : Nat) : List Nat := (List.range cs.length).filter fun k => fnvV (cs.getD k []) == h
theorem hit_snoc (cs : List Bs) (s : Bs) (h : Nat) : hitL (cs ++ [s]) h = hitL cs h ++ if fnvV s = h then [cs.length] else [] := by
  unfold hitL;rw [List.length_append, List.length_singleton, List.range_succ, List.filter_append];congr 1
  · apply List.filter_congr;intro k hk;have hk' : k < cs.length := List.mem_range.1 hk;simp [List.getD, List.getElem?_append_left hk']
  · simp [List.getD, List.filter_cons]
theorem hit_lt {cs : List Bs} {h k : Nat} (hk : k ∈ hitL cs h) : k < cs.length := by
  unfold hitL at hk;exact List.mem_range.1 (List.mem_filter.1 hk).1
theorem hit_len (cs : List Bs) (h : Nat) : (hitL cs h).length ≤ cs.length := by
  unfold hitL;have := List.length_filter_le (fun k => fnvV (cs.getD k []) == h) (List.range cs.length);rwa [List.length_range] at this
theorem tw_take {cs : List Bs} (hn : cs.Nodup) : ∀ {k : Nat} (hk : k < cs.length), (cs.takeWhile fun t => t != cs[k]) = cs.take k := by
  induction cs with
  | nil => intro k hk; simp at hk
  | cons c r ih =>
    intro k hk;rw [List.takeWhile_cons];cases k with
    | zero => simp
    | succ k =>
      have hr := (List.nodup_cons.1 hn);have hne : c ≠ r[k]'(by simpa using hk) := by
        intro e;exact hr.1 (e ▸ List.getElem_mem _)
      have := ih hr.2 (k := k) (by simpa using hk);simp only [List.getElem_cons_succ, List.take_succ_cons];rw [if_pos (by simpa using hne), this]
theorem off_k {cs : List Bs} (hn : cs.Nodup) {k : Nat} (hk : k < cs.length) : offC cs cs[k] = offK cs k := by
  unfold offC offK;rw [tw_take hn hk]
theorem offK_get {cs : List Bs} {k : Nat} (hk : k < cs.length) : offK cs k + cs[k].length ≤ cs.flatten.length ∧ (cs.flatten.drop (offK cs k)).take cs[k].length = cs[k] := by
  have e : cs = cs.take k ++ cs[k] :: cs.drop (k + 1) := by rw [← List.drop_eq_getElem_cons hk, List.take_append_drop]
  have e2 : cs.flatten = (cs.take k).flatten ++ (cs[k] ++ (cs.drop (k + 1)).flatten) := by
    conv => lhs; rw [e]
    rw [List.flatten_append, List.flatten_cons]
  unfold offK;rw [e2];constructor
  · rw [List.length_append, List.length_append]; omega
  · rw [List.drop_left, List.take_left]
/-- the cells of places -/
def plV (cs : List Bs) : List Value := (List.range cs.length).flatMap fun k => [.int .u64 (offK cs k : Int), .int .u32 ((cs.getD k []).length : Int)]
theorem plV_snoc (cs : List Bs) (s : Bs) : plV (cs ++ [s]) = plV cs ++ [.int .u64 (cs.flatten.length : Int), .int .u32 (s.length : Int)] := by
  unfold plV;rw [List.length_append, List.length_singleton, List.range_succ, List.flatMap_append];congr 1
  · rw [List.flatMap_def, List.flatMap_def];congr 1
    apply List.map_congr_left;intro k hk;have hk' : k < cs.length := List.mem_range.1 hk;unfold offK;rw [List.take_append_of_le_length (by omega)];simp [List.getD, List.getElem?_append_left hk']
  · simp [List.getD, offK]
theorem plV_len (cs : List Bs) : (plV cs).length = cs.length * 2 := by
  induction cs using snoc_ind with
  | h0 => rfl
  | h1 cs s ih => rw [plV_snoc]; simp [ih]; omega
theorem plV_get (cs : List Bs) {k : Nat} (hk : k < cs.length) : (plV cs)[k * 2]? = some (.int .u64 (offK cs k : Int)) ∧ (plV cs)[k * 2 + 1]? = some (.int .u32 (cs[k].length : Int)) := by
  induction cs using snoc_ind with
  | h0 => simp at hk
  | h1 cs s ih =>
    rw [plV_snoc];have hl := plV_len cs;rcases Nat.lt_or_ge k cs.length with h | h
    · have := ih h;unfold offK at this ⊢;rw [List.getElem?_append_left (by omega), List.getElem?_append_left (by omega), List.getElem_append_left h, List.take_append_of_le_length (by omega)];exact this
    · obtain rfl : k = cs.length := by simp at hk; omega
      rw [List.getElem?_append_right (by omega), List.getElem?_append_right (by omega), hl];unfold offK;simp
end Go.Gz
/- Plain laws: the archive of a chart. -/
namespace Go.Gz
/-- how many contents entries tell of -/
def seenE (l : Ents) : List (Nat × Nat) := l.foldl (fun acc e => if chkE e = 0 ∧ 0 < e.run then (if (e.off, e.len) ∈ acc then acc else acc ++ [(e.off, e.len)]) else acc) []
def contE (l : Ents) : Nat := (seenE l).length
theorem seenE_snoc (l : Ents) (e : Ent) : seenE (l ++ [e]) = if chkE e = 0 ∧ 0 < e.run then (if (e.off, e.len) ∈ seenE l then seenE l else seenE l ++ [(e.off, e.len)]) else seenE l := by unfold seenE; rw [List.foldl_append]; rfl
theorem seenE_len (l : Ents) : contE l ≤ l.length := by
  unfold contE;induction l using snoc_ind with
  | h0 => simp [seenE]
  | h1 l e ih =>
    rw [seenE_snoc];split
    · split
      · simp; omega
      · simp; omega
    · simp; omega
/-- an identifier's zoom -/
def zoomV (id : Nat) : Int := if 6004799503160661 ≤ id then -1 else (((Lib.bitLen (3 * id + 1) - 1) / 2 : Nat) : Int)
theorem zoom_in {id : Nat} (h : id < 6004799503160661) : 0 ≤ zoomV id ∧ zoomV id ≤ 26 := by
  unfold zoomV;rw [if_neg (by omega)];have := Lib.bitLen_le (3 * id + 1) 54 (by omega) (by omega);omega
theorem bitLen_mono {a b : Nat} (h : a ≤ b) (hb : b < 2 ^ 64) (h0 : a ≠ 0) : Lib.bitLen a ≤ Lib.bitLen b := by
  have h1 := Lib.bitLenAux_bounds 64 a (by omega) h0;have h2 := Lib.bitLenAux_bounds 64 b hb (by omega);unfold Lib.bitLen;rcases Nat.lt_or_ge (Lib.bitLenAux 64 b) (Lib.bitLenAux 64 a) with g | g
  · have : 2 ^ Lib.bitLenAux 64 b ≤ 2 ^ (Lib.bitLenAux 64 a - 1) := Nat.pow_le_pow_right (by omega) (by omega);omega
  · exact g
theorem zoom_mono {a b : Nat} (h : a ≤ b) (hb : b < 6004799503160661) : zoomV a ≤ zoomV b := by
  unfold zoomV;rw [if_neg (by omega), if_neg (by omega)];have := bitLen_mono (a := 3 * a + 1) (b := 3 * b + 1) (by omega) (by omega) (by omega);omega
def minZ (L : Items) : Int := match L.head? with | some x => zoomV x.1 | none => 0
def maxZ (L : Items) : Int := match L.getLast? with | some x => zoomV x.1 | none => 0
def headH (L : Items) (l : Ents) (kind : Nat) : Hdr :=
  { zH with adr := L.length, ent := l.length, con := contE l, clu := true, inn := 1, out := 1, kind := kind, minz := minZ L, maxz := maxZ L, zoom := minZ L, minlon := -1800000000, maxlon := 1800000000, minlat := -850511287, maxlat := 850511287 }
/-- the archive of a chart by a plan that may be -/
def pressV (L : Items) (b kind : Nat) (note : Bs) : Int × Bs :=
  if (splitV (rowsL L).1 b).1 ≠ 0 then ((splitV (rowsL L).1 b).1, [])
  else if encE (splitV (rowsL L).1 b).2.1 ≠ 0 then (encE (splitV (rowsL L).1 b).2.1, [])
  else (glueE (headH L (rowsL L).1 kind) (encB (splitV (rowsL L).1 b).2.1) note (splitV (rowsL L).1 b).2.2.1 (rowsL L).2.flatten,
    glueB (headH L (rowsL L).1 kind) (encB (splitV (rowsL L).1 b).2.1) note (splitV (rowsL L).1 b).2.2.1 (rowsL L).2.flatten)
theorem good_z {L : Items} (h : Good L) : 0 ≤ minZ L ∧ minZ L ≤ 26 ∧ 0 ≤ maxZ L ∧ maxZ L ≤ 26 ∧ minZ L ≤ maxZ L := by
  unfold minZ maxZ;cases L with
  | nil => simp
  | cons x r =>
    have hx := zoom_in (h.id x (by simp));have hy : ∃ y ∈ x :: r, (x :: r).getLast? = some y := by
      cases h : (x :: r).getLast? with
      | none => simp at h
      | some y => exact ⟨y, List.mem_of_getLast? h, rfl⟩
    obtain ⟨y, hy1, hy2⟩ := hy;have hz := zoom_in (h.id y hy1);rw [hy2];simp only [List.head?_cons];refine ⟨hx.1, hx.2, hz.1, hz.2, zoom_mono ?_ (h.id y hy1)⟩;rcases List.mem_cons.1 hy1 with rfl | hy1
    · exact Nat.le_refl _
    · exact Nat.le_of_lt ((List.pairwise_cons.1 ((srt_iff _).1 h.srt)).1 y hy1)
theorem press_ok {L : Items} (h : Good L) (hl : L.length ≤ 1000) (ht : total L ≤ 1000000000) {b kind : Nat} (hb : 512 ≤ b) (hb2 : b ≤ 16257) (hk : kind ≤ 5) {note : Bs} (hn : note.length ≤ 4096) :
    ∃ root text : Bs, (pressV L b kind note) = (0, hdrB (withH (headH L (rowsL L).1 kind) root.length note.length text.length (rowsL L).2.flatten.length) ++ (root ++ (note ++ (text ++ (rowsL L).2.flatten)))) ∧
      hdrE (withH (headH L (rowsL L).1 kind) root.length note.length text.length (rowsL L).2.flatten.length) = 0 ∧ root = dirB (splitV (rowsL L).1 b).2.1 ∧ text = (splitV (rowsL L).1 b).2.2.1 ∧ root.length ≤ b ∧ rowE (splitV (rowsL L).1 b).2.1 = 0 := by
  obtain ⟨i1, i2, i3, i4, i5, i6, i7, i8⟩ := rows_inv L h (by omega);have hrow := rows_row h (by omega);have hok := rows_ok h (by omega);obtain ⟨s1, s2, s3, s4⟩ := split_ok hb hb2 hrow hok (by omega) (fun e he => (i6 e he).2.1);have henc : encE (splitV (rowsL L).1 b).2.1 = 0 := enc_mk s2 (by omega);have htext : (splitV (rowsL L).1 b).2.2.1.length ≤ 65536 * 1024 := by
    rcases s4 with ⟨e, _⟩ | ⟨n, hn, _, e, hall⟩
    · rw [e]; simp
    · rw [e];have := dirs_len hall;have h2 := flat_len (cut_ne (rowsL L).1 hn);rw [cut_flat _ hn] at h2;omega
  obtain ⟨z1, z2, z3, z4, z5⟩ := good_z h;refine ⟨dirB (splitV (rowsL L).1 b).2.1, (splitV (rowsL L).1 b).2.2.1, ?_⟩;have hB : encB (splitV (rowsL L).1 b).2.1 = dirB (splitV (rowsL L).1 b).2.1 := by unfold encB; rw [if_pos henc]
  have hsec : sect (dirB (splitV (rowsL L).1 b).2.1).length note.length (splitV (rowsL L).1 b).2.2.1.length (rowsL L).2.flatten.length = 0 := by
    unfold sect TOT; rw [if_neg (by omega)]
  have hh : hdrE (withH (headH L (rowsL L).1 kind) (dirB (splitV (rowsL L).1 b).2.1).length note.length (splitV (rowsL L).1 b).2.2.1.length (rowsL L).2.flatten.length) = 0 := by
    refine hdr_mk ?_ ?_ ?_ ?_ ?_
    · unfold withH TOT; simp only; omega
    · unfold withH headH; simp only; omega
    · unfold withH headH; simp only; omega
    · unfold withH headH; simp [zH]
    · unfold withH headH; simp [zH]
  refine ⟨?_, hh, rfl, rfl, s3, s2⟩;unfold pressV;rw [if_neg (by omega), if_neg (by omega), hB];have hg : glueE (headH L (rowsL L).1 kind) (dirB (splitV (rowsL L).1 b).2.1) note (splitV (rowsL L).1 b).2.2.1 (rowsL L).2.flatten = 0 := by
    unfold glueE; rw [if_neg (by omega), hh]
  unfold glueB;rw [if_pos hg, hg]
end Go.Gz
/- Plain laws: what was laid is taken as it was: directories, rows cut and joined, charts. -/
namespace Go.Gz
theorem colD_ok (c : Nat) (f g : Ent → Ent)
    (hset : ∀ (i : Nat) (a e : Ent), chkE e = 0 → okE e → a.id ≤ e.id → a.off + a.len ≤ 1099511627776 → setE c i (g a) (f e) (numC c i a e) = (0, g e)) :
    ∀ (l : Ents) (i : Nat) (a : Ent) (fr : Nat) (t : Bs), rowGo fr l = 0 → a.id ≤ fr → (∀ e ∈ l, okE e) → a.off + a.len ≤ 1099511627776 →
      colD c i (g a) (l.map f) ((colN c i a l).flatMap vB ++ t) = (0, l.map g, t) := by
  intro l;induction l with
  | nil => intro i a fr t _ _ _ _; rfl
  | cons e r ih =>
    intro i a fr t hr ha hok hal;have hx := colN_lt c (e :: r) i a (fun x hx => (((rowGo_iff _ _).1 hr).1 x hx).1) hok (numC c i a e) (by simp [colN]);obtain ⟨g1, g2, g3⟩ := rowGo_cons hr;have hc := chk_ok g1;have hw := wide_pos e;have hs := hset i a e g1 (hok e (by simp)) (by omega) hal;have hih := ih (i + 1) e _ t g3 (by omega) (fun x hx => hok x (by simp [hx])) hc.2.2;unfold colN;rw [List.map_cons, List.flatMap_cons, List.append_assoc];unfold colD;rw [getV_vB hx];simp only;rw [hs, List.drop_left, hih];simp
def m0 (e : Ent) : Ent := ⟨e.id, 0, 0, 0⟩
def m1 (e : Ent) : Ent := ⟨e.id, 0, 0, e.run⟩
def m2 (e : Ent) : Ent := ⟨e.id, 0, e.len, e.run⟩
theorem decD_dirB {l : Ents} (h : rowE l = 0) (hok : ∀ e ∈ l, okE e) (hs : (dirB l).length ≤ 65536) : decD (dirB l) = (0, l) := by
  have hgo := row_go h;have hlen := row_len h;have c0 := colD_ok 0 (fun _ => zE) m0 (by
    intro i a e h1 h2 h3 h4;unfold okE at h2;unfold setE numC m0 zE;simp only [if_true];rw [show (a.id + (e.id - a.id)) % 18446744073709551616 = e.id by omega, if_neg (by omega)])
  have c1 := colD_ok 1 m0 m1 (by
    intro i a e h1 h2 h3 h4;unfold okE at h2;unfold setE numC m0 m1;simp;omega)
  have c2 := colD_ok 2 m1 m2 (by
    intro i a e h1 h2 h3 h4;unfold okE at h2;unfold setE numC m1 m2;simp;omega)
  have c3 := colD_ok 3 m2 id (by
    intro i a e h1 h2 h3 h4;unfold okE at h2;obtain ⟨k1, k2, k3⟩ := chk_ok h1;have hn : nextE a = a.off + a.len := by unfold nextE; omega
    have en : numC 3 i a e = if 0 < i ∧ e.off = a.off + a.len then 0 else e.off + 1 := rfl
    have es : ∀ x, setE 3 i (id a) (m2 e) x = if i = 0 ∧ x = 0 ∨ 0 < i ∧ 0 < x ∧ (x + 18446744073709551615) % 18446744073709551616 = nextE a then (4, m2 e) else (0, { m2 e with off := if x = 0 then nextE a else (x + 18446744073709551615) % 18446744073709551616 }) := fun _ => rfl
    rw [en, es, hn];by_cases hx : 0 < i ∧ e.off = a.off + a.len
    · rw [if_pos hx, if_neg (by omega), if_pos rfl, ← hx.2]; rfl
    · rw [if_neg hx, show (e.off + 1 + 18446744073709551615) % 18446744073709551616 = e.off by omega, if_neg (by omega), if_neg (by omega)]; rfl)
  unfold decD dirB nums;rw [List.flatMap_cons, List.flatMap_append, List.flatMap_append, List.flatMap_append];have hs2 : ¬ 65536 < (vB l.length ++ ((colN 0 0 zE l).flatMap vB ++ ((colN 1 0 zE l).flatMap vB ++ ((colN 2 0 zE l).flatMap vB ++ (colN 3 0 zE l).flatMap vB)))).length := by
    have : dirB l = (vB l.length ++ ((colN 0 0 zE l).flatMap vB ++ ((colN 1 0 zE l).flatMap vB ++ ((colN 2 0 zE l).flatMap vB ++ (colN 3 0 zE l).flatMap vB)))) := by
      unfold dirB nums;rw [List.flatMap_cons, List.flatMap_append, List.flatMap_append, List.flatMap_append]
    rw [← this]; omega
  rw [if_neg hs2, getV_vB (by omega)];simp only;rw [if_neg (by simp), if_neg (by omega), List.drop_left];have e0 : List.replicate l.length zE = l.map (fun _ => zE) := by
    induction l with
    | nil => rfl
    | cons e r _ => simp [List.replicate_succ, List.map_const']
  have z0 : m0 zE = zE := rfl;have z1 : m1 zE = zE := rfl;have z2 : m2 zE = zE := rfl;have hz : zE.off + zE.len ≤ 1099511627776 := by decide
  have q0 := c0 l 0 zE 0 ((colN 1 0 zE l).flatMap vB ++ ((colN 2 0 zE l).flatMap vB ++ (colN 3 0 zE l).flatMap vB)) hgo (by decide) hok hz;have q1 := c1 l 0 zE 0 ((colN 2 0 zE l).flatMap vB ++ (colN 3 0 zE l).flatMap vB) hgo (by decide) hok hz;have q2 := c2 l 0 zE 0 ((colN 3 0 zE l).flatMap vB) hgo (by decide) hok hz;have q3 := c3 l 0 zE 0 [] hgo (by decide) hok hz;rw [z0] at q0; rw [z1] at q1; rw [z2] at q2; rw [List.append_nil] at q3;rw [e0];unfold colsD; rw [q0]; simp only;rw [if_neg (by simp)];unfold colsD; rw [q1]; simp only;rw [if_neg (by simp)];unfold colsD; rw [q2]; simp only;rw [if_neg (by simp)];unfold colsD;have q3' : colD 3 0 zE (l.map m2) ((colN 3 0 zE l).flatMap vB) = (0, l.map id, []) := q3;rw [q3']; simp only;rw [if_neg (by simp)];unfold colsD endD;simp [h]
/-- the entries of a leaf -/
def pieceE (p : Ent) (text : Bs) : Int × Ents :=
  if text.length < p.off + p.len then (8, [])
  else if (decD ((text.drop p.off).take p.len)).1 ≠ 0 then ((decD ((text.drop p.off).take p.len)).1, [])
  else if (decD ((text.drop p.off).take p.len)).2.any (fun e => e.run == 0) then (20, [])
  else if ((decD ((text.drop p.off).take p.len)).2.head?.map fun e => e.id) ≠ some p.id then (10, [])
  else (0, (decD ((text.drop p.off).take p.len)).2)
def joinGo (text : Bs) : Ents → Ents → Int × Ents
  | [], out => (0, out)
  | x :: r, out => if x.run ≠ 0 then joinGo text r (out ++ [x]) else if (pieceE x text).1 ≠ 0 then ((pieceE x text).1, []) else joinGo text r (out ++ (pieceE x text).2)
def joinE (root : Ents) (text : Bs) : Int × Ents :=
  if rowE root ≠ 0 then (rowE root, []) else if (joinGo text root []).1 ≠ 0 then ((joinGo text root []).1, [])
  else if rowE (joinGo text root []).2 ≠ 0 then (rowE (joinGo text root []).2, []) else (0, (joinGo text root []).2)
theorem joinGo_plain (text : Bs) (l : Ents) : ∀ out, (∀ e ∈ l, 1 ≤ e.run) → joinGo text l out = (0, out ++ l) := by
  induction l with
  | nil => intro out _; simp [joinGo]
  | cons x r ih =>
    intro out h;have := h x (by simp);unfold joinGo;rw [if_pos (by omega), ih _ (fun e he => h e (by simp [he]))]; simp
theorem joinGo_roots (pre : Bs) (cs : List Ents) : ∀ out, (∀ c ∈ cs, encE c = 0) → (∀ c ∈ cs, c ≠ []) → (∀ c ∈ cs, ∀ e ∈ c, okE e ∧ 1 ≤ e.run) →
    ∀ post, joinGo (pre ++ (cs.flatMap dirB ++ post)) (roots pre.length cs) out = (0, out ++ cs.flatten) := by
  induction cs generalizing pre with
  | nil => intro out _ _ _ post; simp [joinGo, roots]
  | cons c r ih =>
    intro out h1 h2 h3 post;have e1 := enc_ok (h1 c (by simp));have hd := decD_dirB e1.1 (fun e he => (h3 c (by simp) e he).1) e1.2;have hne := h2 c (by simp);obtain ⟨x, t, rfl⟩ : ∃ x t, c = x :: t := by
      cases c with
      | nil => exact absurd rfl hne
      | cons x t => exact ⟨x, t, rfl⟩
    unfold roots joinGo;rw [if_neg (by simp)];have hp : pieceE ⟨((x :: t).headD zE).id, pre.length, (dirB (x :: t)).length, 0⟩ (pre ++ (((x :: t) :: r).flatMap dirB ++ post)) = (0, x :: t) := by
      unfold pieceE;simp only [List.flatMap_cons];rw [List.drop_left, List.append_assoc, List.take_left, hd]
      rw [if_neg (by simp), if_neg (by simp), if_neg (by
        rw [List.any_eq_true];rintro ⟨e, he, h0⟩;have := (h3 (x :: t) (by simp) e he).2;simp at h0; omega), if_neg (by simp)]
    rw [hp];simp only;rw [if_neg (by simp)];have := ih (pre ++ dirB (x :: t)) (out ++ (x :: t)) (fun d hd => h1 d (by simp [hd])) (fun d hd => h2 d (by simp [hd])) (fun d hd => h3 d (by simp [hd])) post;rw [List.length_append] at this;rw [List.flatMap_cons, List.append_assoc, ← List.append_assoc pre];rw [this, List.flatten_cons, List.append_assoc]
theorem join_split {l : Ents} {b : Nat} (hb : 512 ≤ b) (hb2 : b ≤ 16257) (hr : rowE l = 0) (hok : ∀ e ∈ l, okE e) (hl : l.length ≤ 1024) (hrun : ∀ e ∈ l, 1 ≤ e.run) :
    joinE (splitV l b).2.1 (splitV l b).2.2.1 = (0, l) := by
  obtain ⟨s1, s2, s3, s4⟩ := split_ok hb hb2 hr hok hl hrun;have key : joinGo (splitV l b).2.2.1 (splitV l b).2.1 [] = (0, l) := by
    rcases s4 with ⟨e1, e2⟩ | ⟨n, hn, e1, e2, hall⟩
    · rw [e2, joinGo_plain _ _ _ hrun]; simp
    · rw [e1, e2];have hf := cut_flat l hn;have := joinGo_roots [] (cutL n l) [] hall (cut_ne l hn) (by
        intro c hc e he;have : e ∈ (cutL n l).flatten := List.mem_flatten.2 ⟨c, hc, he⟩;rw [hf] at this;exact ⟨hok e this, hrun e this⟩) []
      simpa [hf] using this
  unfold joinE;rw [if_neg (by omega), key];simp [hr]
/-- the chart of entries and contents -/
def runI (e : Ent) (data : Bs) (k : Nat) : Items := (List.range k).map fun j => (e.id + j, (data.drop e.off).take e.len)
def wrongR (e : Ent) (many : Nat) (data : Bs) : Int := if e.run = 0 then 14 else if data.length < e.off + e.len then 8 else if 2048 < many then 21 else if 65536 < e.len then 5 else 0
def backGo (data : Bs) : Ents → Nat → Items → Int × Items
  | [], _, out => (0, out)
  | x :: r, many, out => if wrongR x (many + x.run) data ≠ 0 then (wrongR x (many + x.run) data, []) else backGo data r (many + x.run) (out ++ runI x data x.run)
def backE (l : Ents) (data : Bs) : Int × Items := if rowE l ≠ 0 then (rowE l, []) else backGo data l 0 []
end Go.Gz
/- Plain laws: a chart of entries and contents: what entries tell of. -/
namespace Go.Gz
def expand (l : Ents) (data : Bs) : Items := l.flatMap fun e => runI e data e.run
theorem expand_cons (e : Ent) (l : Ents) (data : Bs) : expand (e :: l) data = runI e data e.run ++ expand l data := rfl
theorem expand_app (l m : Ents) (data : Bs) : expand (l ++ m) data = expand l data ++ expand m data := by simp [expand]
theorem runI_succ (e : Ent) (data : Bs) (k : Nat) : runI e data (k + 1) = runI e data k ++ [(e.id + k, (data.drop e.off).take e.len)] := by
  unfold runI;rw [List.range_succ, List.map_append]; rfl
theorem runI_len (e : Ent) (data : Bs) (k : Nat) : (runI e data k).length = k := by unfold runI; simp
theorem runI_run (e : Ent) (data : Bs) (k r : Nat) : runI { e with run := r } data k = runI e data k := rfl
theorem getL_app (A B : Items) (id : Nat) : getL (A ++ B) id = (getL A id).or (getL B id) := by
  induction A with
  | nil => simp [getL]
  | cons x r ih =>
    rw [List.cons_append];show (if x.1 = id then some x.2 else getL (r ++ B) id) = (if x.1 = id then some x.2 else getL r id).or (getL B id)
    split
    · rfl
    · exact ih
theorem getL_run (e : Ent) (data : Bs) (k id : Nat) : getL (runI e data k) id = if e.id ≤ id ∧ id < e.id + k then some ((data.drop e.off).take e.len) else none := by
  induction k with
  | zero => rw [if_neg (by omega)]; rfl
  | succ k ih =>
    rw [runI_succ, getL_app, ih];by_cases h : e.id ≤ id ∧ id < e.id + k
    · rw [if_pos h, if_pos (by omega)]; rfl
    · rw [if_neg h];show (if e.id + k = id then _ else none) = _
      by_cases h2 : e.id + k = id
      · rw [if_pos h2, if_pos (by omega)]
      · rw [if_neg h2, if_neg (by omega)]
theorem runI_srt (e : Ent) (data : Bs) (k : Nat) : (runI e data k).Pairwise (fun a b => a.1 < b.1) := by
  induction k with
  | zero => exact List.Pairwise.nil
  | succ k ih =>
    rw [runI_succ, List.pairwise_append];refine ⟨ih, List.pairwise_singleton _ _, fun a ha b hb => ?_⟩;simp at hb; subst hb;unfold runI at ha;simp at ha;obtain ⟨j, hj, rfl⟩ := ha;simp; omega
theorem mem_run {e : Ent} {data : Bs} {k : Nat} {x : Item} (h : x ∈ runI e data k) : e.id ≤ x.1 ∧ x.1 < e.id + k ∧ x.2 = (data.drop e.off).take e.len := by
  unfold runI at h;simp at h;obtain ⟨j, hj, rfl⟩ := h;simp; omega
theorem mem_expand {l : Ents} {data : Bs} {x : Item} (h : x ∈ expand l data) : ∃ e ∈ l, e.id ≤ x.1 ∧ x.1 < e.id + e.run ∧ x.2 = (data.drop e.off).take e.len := by
  unfold expand at h;obtain ⟨e, he, hx⟩ := List.mem_flatMap.1 h;exact ⟨e, he, mem_run hx⟩
theorem expand_srt (l : Ents) (data : Bs) : ∀ fr, rowGo fr l = 0 → (expand l data).Pairwise (fun a b => a.1 < b.1) := by
  induction l with
  | nil => intro fr _; exact List.Pairwise.nil
  | cons e r ih =>
    intro fr h;obtain ⟨g1, g2, g3⟩ := rowGo_cons h;rw [expand_cons, List.pairwise_append];refine ⟨runI_srt _ _ _, ih _ g3, fun a ha b hb => ?_⟩;have h1 := mem_run ha;obtain ⟨x, hx, h2⟩ := mem_expand hb;have h3 := (((rowGo_iff _ _).1 g3).1 x hx).2;have := wide_pos e;omega
theorem expand_len (l : Ents) (data : Bs) : (expand l data).length = (l.map fun e => e.run).sum := by
  induction l with
  | nil => rfl
  | cons e r ih => rw [expand_cons, List.length_append, runI_len, ih]; simp
theorem wrongR_ok {x : Ent} {m : Nat} {data : Bs} (h : wrongR x m data = 0) : 0 < x.run ∧ x.off + x.len ≤ data.length ∧ m ≤ 2048 ∧ x.len ≤ 65536 := by
  unfold wrongR at h;split at h
  · simp at h
  · split at h
    · simp at h
    · split at h
      · simp at h
      · split at h
        · simp at h
        · omega
theorem backGo_ok (data : Bs) (l : Ents) : ∀ many out, (backGo data l many out).1 = 0 → (backGo data l many out).2 = out ++ expand l data ∧ (∀ e ∈ l, 0 < e.run ∧ e.off + e.len ≤ data.length ∧ e.len ≤ 65536) ∧ (l ≠ [] → many + (l.map fun e => e.run).sum ≤ 2048) := by
  induction l with
  | nil => intro many out _; simp [backGo, expand]
  | cons x r ih =>
    intro many out h;unfold backGo at h ⊢;split at h
    · contradiction
    · rename_i h1;have h1 : wrongR x (many + x.run) data = 0 := by omega
      obtain ⟨w1, w2, w3, w4⟩ := wrongR_ok h1;obtain ⟨i1, i2, i3⟩ := ih _ _ h;rw [if_neg (by omega), i1, expand_cons, List.append_assoc];refine ⟨rfl, fun e he => ?_, fun _ => ?_⟩
      · rcases List.mem_cons.1 he with rfl | he
        · exact ⟨w1, w2, w4⟩
        · exact i2 e he
      · rw [List.map_cons, List.sum_cons];cases r with
        | nil => simp; omega
        | cons y t => have := i3 (by simp); omega
theorem backGo_mk (data : Bs) (l : Ents) : ∀ many out, (∀ e ∈ l, 0 < e.run ∧ e.off + e.len ≤ data.length ∧ e.len ≤ 65536) → many + (l.map fun e => e.run).sum ≤ 2048 → backGo data l many out = (0, out ++ expand l data) := by
  induction l with
  | nil => intro many out _ _; simp [backGo, expand]
  | cons x r ih =>
    intro many out h1 h2;have h := h1 x (by simp);rw [List.map_cons, List.sum_cons] at h2;have hw : wrongR x (many + x.run) data = 0 := by
      unfold wrongR;rw [if_neg (by omega), if_neg (by omega), if_neg (by omega), if_neg (by omega)]
    unfold backGo;rw [if_neg (by omega), ih _ _ (fun e he => h1 e (by simp [he])) (by omega), expand_cons, List.append_assoc]
theorem backE_ok {l : Ents} {data : Bs} (h : (backE l data).1 = 0) : rowE l = 0 ∧ (backE l data).2 = expand l data ∧ (∀ e ∈ l, 0 < e.run ∧ e.off + e.len ≤ data.length ∧ e.len ≤ 65536) ∧ (l.map fun e => e.run).sum ≤ 2048 := by
  unfold backE at h ⊢;split at h
  · contradiction
  · rename_i h1;have h1 : rowE l = 0 := by omega
    rw [if_neg (by omega)];obtain ⟨i1, i2, i3⟩ := backGo_ok data l 0 [] h;refine ⟨h1, by simpa using i1, i2, ?_⟩;cases l with
    | nil => simp
    | cons x r => have := i3 (by simp); omega
theorem expand_good {l : Ents} {data : Bs} (h : rowE l = 0) (h2 : ∀ e ∈ l, 0 < e.run ∧ e.off + e.len ≤ data.length ∧ e.len ≤ 65536) (h3 : (l.map fun e => e.run).sum ≤ 2048) : Good (expand l data) := by
  refine ⟨(srt_iff _).2 (expand_srt l data 0 (row_go h)), by rw [expand_len]; exact h3, fun x hx => ?_, fun x hx => ?_, fun x hx => ?_⟩;all_goals obtain ⟨e, he, g1, g2, g3⟩ := mem_expand hx
  all_goals have hc := chk_ok (row_chk h he)
  all_goals have hw := wide_pos e
  all_goals have hb := h2 e he
  · omega
  · intro e0;rw [e0] at g3;have := congrArg List.length g3;rw [List.length_take, List.length_drop] at this;simp at this; omega
  · rw [g3, List.length_take]; omega
/-- what entries tell of a tile -/
def tileE (l : Ents) (data : Bs) (id : Nat) : Int × Bool × Bs :=
  match l.find? fun e => hasE e id with
  | none => (0, false, [])
  | some x => if data.length < x.off + x.len then (8, false, []) else (0, true, (data.drop x.off).take x.len)
theorem tile_get {l : Ents} {data : Bs} (id : Nat) (h : ∀ e ∈ l, chkE e = 0) (h2 : ∀ e ∈ l, 0 < e.run ∧ e.off + e.len ≤ data.length ∧ e.len ≤ 65536) :
    tileE l data id = (0, (getL (expand l data) id).isSome, (getL (expand l data) id).getD []) := by
  unfold tileE;induction l with
  | nil => rfl
  | cons x r ih =>
    have hx := h2 x (by simp);rw [expand_cons, getL_app, getL_run, List.find?_cons];by_cases hh : hasE x id = true
    · have hi := (has_iff.1 hh);rw [hh, if_pos hi.2.2];simp only;rw [if_neg (by omega)]; rfl
    · have hh' : hasE x id = false := by simpa using hh
      rw [hh', if_neg (by
        rintro ⟨g1, g2⟩;exact hh (has_iff.2 ⟨h x (by simp), hx.1, g1, g2⟩))]
      have := ih (fun e he => h e (by simp [he])) (fun e he => h2 e (by simp [he]));simpa using this
/-- entries of a chart tell of the chart -/
theorem rows_expand (L : Items) (h : Good L) (ht : total L ≤ 1099511627776) : (∀ t, expand (rowsL L).1 ((rowsL L).2.flatten ++ t) = L) ∧ ∀ e ∈ (rowsL L).1, e.off + e.len ≤ (rowsL L).2.flatten.length := by
  induction L using snoc_ind with
  | h0 => simp [rowsL, expand]
  | h1 L x ih =>
    have hg : Good L := by
      refine ⟨?_, by have := h.len; simp at this; omega, fun y hy => h.id y (by simp [hy]), fun y hy => h.ne y (by simp [hy]), fun y hy => h.sz y (by simp [hy])⟩;have := (srt_iff _).1 h.srt;rw [List.pairwise_append] at this;exact (srt_iff _).2 this.1
    have htt : total (L ++ [x]) = total L + x.2.length := by unfold total; simp
    rw [htt] at ht;obtain ⟨i1, i2⟩ := ih hg (by omega);obtain ⟨_, _, _, _, _, j6, _, _⟩ := rows_inv L hg (by omega);rw [rows_snoc];unfold rowsStep;have hmem := add_mem (rowsL L).2 x.2;have hend := off_end hmem;have htake := off_take hmem;have hpre : ∃ u, (addC (rowsL L).2 x.2).flatten = (rowsL L).2.flatten ++ u := by
      unfold addC; split
      · exact ⟨[], by simp⟩
      · exact ⟨x.2, flat_snoc _ _⟩
    obtain ⟨u, hu⟩ := hpre;have htext : ∀ t, (((addC (rowsL L).2 x.2).flatten ++ t).drop (offC (addC (rowsL L).2 x.2) x.2)).take x.2.length = x.2 := by
      intro t;rw [List.drop_append_of_le_length (by omega), List.take_append_of_le_length (by rw [List.length_drop]; omega), htake]
    have i1' : ∀ t, expand (rowsL L).1 ((addC (rowsL L).2 x.2).flatten ++ t) = L := by
      intro t; rw [hu, List.append_assoc]; exact i1 _
    have i2' : ∀ e ∈ (rowsL L).1, e.off + e.len ≤ (addC (rowsL L).2 x.2).flatten.length := by
      intro e he; rw [hu, List.length_append]; have := i2 e he; omega
    simp only;unfold pushE;cases hb : (rowsL L).1.getLast? with
    | none =>
      have : (rowsL L).1 = [] := by simpa using hb
      rw [this] at i1';simp only;refine ⟨fun t => ?_, fun e he => ?_⟩
      · have h0 := i1' t;rw [show expand [itemE (rowsL L).2 x] ((addC (rowsL L).2 x.2).flatten ++ t) = [(x.1, x.2)] by
          unfold expand itemE runI;simp [htext t], ← h0]
        rfl
      · simp at he; subst he; exact hend
    | some b =>
      have hbm := List.mem_of_getLast? hb;obtain ⟨c1, c2, c3⟩ := j6 b hbm;have hw : wideE b = b.run := by unfold wideE; omega
      obtain ⟨pre, hpre⟩ : ∃ pre, (rowsL L).1 = pre ++ [b] := List.getLast?_eq_some_iff.1 hb;simp only;rw [hpre] at i1' i2' ⊢;split
      · rename_i hgo;unfold goesE at hgo;simp only [Bool.and_eq_true, decide_eq_true_eq] at hgo;obtain ⟨⟨g1, g2⟩, g3⟩ := hgo;rw [last_ok c1, hw] at g1;have g1' : x.1 = b.id + b.run - 1 + 1 := g1;have g2' : offC (addC (rowsL L).2 x.2) x.2 = b.off := g2;have g3' : x.2.length = b.len := g3;rw [List.dropLast_concat];refine ⟨fun t => ?_, fun e he => ?_⟩
        · have h0 := i1' t;rw [expand_app] at h0 ⊢;rw [show expand [{ b with run := b.run + 1 }] ((addC (rowsL L).2 x.2).flatten ++ t) = expand [b] ((addC (rowsL L).2 x.2).flatten ++ t) ++ [x] by
            unfold expand;simp only [List.flatMap_cons, List.flatMap_nil, List.append_nil];rw [runI_run, runI_succ, ← g2', ← g3', htext t, show b.id + b.run = x.1 by omega], ← List.append_assoc, h0]
        · rcases List.mem_append.1 he with he | he
          · exact i2' e (by simp [he])
          · simp at he; subst he; exact i2' b (by simp)
      · refine ⟨fun t => ?_, fun e he => ?_⟩
        · have h0 := i1' t;rw [expand_app, h0, show expand [itemE (rowsL L).2 x] ((addC (rowsL L).2 x.2).flatten ++ t) = [x] by
            unfold expand itemE runI;simp [htext t]]
        · rcases List.mem_append.1 he with he | he
          · exact i2' e he
          · simp at he; subst he; exact hend
theorem back_rows {L : Items} (h : Good L) (ht : total L ≤ 1099511627776) : backE (rowsL L).1 (rowsL L).2.flatten = (0, L) := by
  obtain ⟨i1, i2⟩ := rows_expand L h ht;obtain ⟨_, _, _, _, _, j6, _, _⟩ := rows_inv L h ht;have := i1 [];rw [List.append_nil] at this;unfold backE;rw [if_neg (by rw [rows_row h ht]; simp), backGo_mk _ _ _ _ (fun e he => ⟨by have := (j6 e he).2.1; omega, i2 e he, (j6 e he).2.2⟩) (by rw [rows_sum]; have := h.len; omega), this];rfl
end Go.Gz
/- Plain laws for the references: a number with which a text begins; a directory's entries, number by number. -/
namespace Go.Gz
/-- of bytes, seven bits each -/
def v128 : Bs → Nat
  | [] => 0
  | b :: r => b.toNat % 128 + 128 * v128 r
theorem vGo_val : ∀ (t : Bs) (i x : Nat), (vGo i x t).1 = 0 → i < (vGo i x t).2.2 ∧ (vGo i x t).2.1 = x + 128 ^ i * v128 (t.take ((vGo i x t).2.2 - i))
  | [], i, x, h => by
    unfold vGo at h;split at h <;> simp at h
  | b :: r, i, x, h => by
    unfold vGo at h ⊢;split at h
    · simp at h
    · rename_i h10;rw [if_neg h10];split at h
      · rename_i hb;rw [if_pos hb];split at h
        · simp at h
        · rename_i h9;rw [if_neg h9];split at h
          · simp at h
          · rename_i h0;rw [if_neg h0];refine ⟨by simp, ?_⟩;simp only [Nat.add_sub_cancel_left, List.take_succ_cons, List.take_zero, v128, Nat.mod_eq_of_lt hb];rw [Nat.mul_zero, Nat.add_zero, Nat.mul_comm]
      · rename_i hb;rw [if_neg hb];obtain ⟨i1, i2⟩ := vGo_val r (i + 1) (x + (b.toNat - 128) * 128 ^ i) h;refine ⟨by omega, ?_⟩;rw [i2];obtain ⟨n, hn⟩ : ∃ n, (vGo (i + 1) (x + (b.toNat - 128) * 128 ^ i) r).2.2 = i + 1 + n := ⟨_, (Nat.add_sub_cancel' (Nat.le_of_lt i1)).symm⟩;rw [hn];have e1 : i + 1 + n - (i + 1) = n := by omega
        have e2 : i + 1 + n - i = n + 1 := by omega
        have e3 : b.toNat % 128 = b.toNat - 128 := by
          have := b.toNat_lt;omega
        rw [e1, e2, List.take_succ_cons, v128, e3, Nat.pow_succ];generalize 128 ^ i = P;generalize v128 (r.take n) = V;generalize b.toNat - 128 = B;rw [Nat.mul_add, Nat.mul_comm B P, Nat.mul_assoc P 128 V];omega
theorem vGo_bad : ∀ (t : Bs) (i x : Nat), (vGo i x t).1 ≠ 0 → (vGo i x t).2 = (0, 0)
  | [], _, _, _ => rfl
  | b :: r, i, x, h => by
    unfold vGo at h ⊢;split
    · rfl
    · rename_i h1;rw [if_neg h1] at h;split
      · rename_i h2;rw [if_pos h2] at h;split
        · rfl
        · rename_i h3;rw [if_neg h3] at h;split
          · rfl
          · rename_i h4;rw [if_neg h4] at h;exact absurd rfl h
      · rename_i h2;rw [if_neg h2] at h;exact vGo_bad r _ _ h
theorem getV_bad {t : Bs} (h : (getV t).1 ≠ 0) : (getV t).2.1 = 0 ∧ (getV t).2.2 = 0 := by
  have := vGo_bad t 0 0 h;unfold getV;rw [this];exact ⟨rfl, rfl⟩
theorem v128_drop_le : ∀ (l : Bs) (k : Nat), v128 (l.drop k) ≤ v128 l
  | [], k => by simp
  | _ :: _, 0 => Nat.le_refl _
  | b :: r, k + 1 => by
    have := v128_drop_le r k;rw [List.drop_succ_cons, v128];omega
theorem v128_take_drop (t : Bs) (n k : Nat) (hk : k < n) (hn : n ≤ t.length) : v128 ((t.take n).drop k) = (t[k]'(by omega)).toNat % 128 + 128 * v128 ((t.take n).drop (k + 1)) := by
  rw [List.drop_eq_getElem_cons (show k < (t.take n).length by rw [List.length_take]; omega), v128, List.getElem_take]
theorem getV_val {t : Bs} (h : (getV t).1 = 0) : (getV t).2.1 = v128 (t.take (getV t).2.2) := by
  have := (vGo_val t 0 0 h).2;unfold getV;simpa using this
/-- where a number's bytes are high ones so far -/
def HighAt (t : Bs) (k : Nat) : Prop := k ≤ 10 ∧ ∃ x, getV t = vGo k x (t.drop k)
theorem high_0 (t : Bs) : HighAt t 0 := ⟨by omega, 0, rfl⟩
theorem high_step {t : Bs} {k : Nat} (h : HighAt t k) (hk : k < t.length) (h10 : k < 10) (hb : 128 ≤ t[k].toNat) : HighAt t (k + 1) := by
  obtain ⟨_, x, e⟩ := h;rw [List.drop_eq_getElem_cons hk, vGo, if_neg (by omega), if_neg (by omega)] at e;exact ⟨by omega, _, e⟩
theorem high_ten {t : Bs} (h : HighAt t 10) : (getV t).1 = 11 := by
  obtain ⟨_, x, e⟩ := h;rw [e];cases t.drop 10 with
  | nil => rw [vGo]; rfl
  | cons b r => rw [vGo]; rfl
theorem high_end {t : Bs} {k : Nat} (h : HighAt t k) (hk : k = t.length) (h10 : k < 10) : (getV t).1 = 3 := by
  obtain ⟨_, x, e⟩ := h;rw [e, List.drop_of_length_le (by omega), vGo, if_neg (by omega)]
theorem high_out {t : Bs} {k : Nat} (h : HighAt t k) (hk : k < t.length) (h10 : k < 10) (hb : t[k].toNat < 128) :
    (getV t).1 = (if k = 9 ∧ 1 < t[k].toNat then 11 else if 0 < k ∧ t[k].toNat = 0 then 4 else 0) ∧ ((getV t).1 = 0 → (getV t).2.2 = k + 1) := by
  obtain ⟨_, x, e⟩ := h;rw [List.drop_eq_getElem_cons hk, vGo, if_neg (by omega), if_pos hb] at e;rw [e];split
  · exact ⟨rfl, fun h => absurd h (by simp)⟩
  · split
    · exact ⟨rfl, fun h => absurd h (by simp)⟩
    · exact ⟨rfl, fun _ => rfl⟩
/-! a directory, number by number -/
/-- the entry ahead -/
def prevD (l : Ents) (k : Nat) : Ent := if k = 0 then zE else (l[k - 1]?).getD zE
/-- what is left to do, from the k-th number of column c on -/
def resD (c k : Nat) (l : Ents) (t : Bs) : Int × Ents × Bs :=
  let q := colD c k (prevD l k) (l.drop k) t
  if q.1 ≠ 0 then (q.1, [], []) else colsD (c + 1) (3 - c) (l.take k ++ q.2.1) q.2.2
theorem res_0 (c : Nat) (hc : c ≤ 3) (l : Ents) (t : Bs) : resD c 0 l t = colsD c (4 - c) l t := by
  have e : 4 - c = (3 - c) + 1 := by omega
  rw [e, colsD];unfold resD prevD;simp
theorem res_err {c k : Nat} {l : Ents} {t : Bs} (hk : k < l.length) (h : (getV t).1 ≠ 0) : (resD c k l t).1 = (getV t).1 := by
  have e : colD c k (prevD l k) (l.drop k) t = ((getV t).1, [], []) := by rw [List.drop_eq_getElem_cons hk, colD, if_pos h]
  unfold resD;simp only [e];rw [if_pos h]
theorem res_err2 {c k : Nat} {l : Ents} {t : Bs} (hk : k < l.length) (h : (getV t).1 = 0) (h2 : (setE c k (prevD l k) l[k] (getV t).2.1).1 ≠ 0) :
    (resD c k l t).1 = (setE c k (prevD l k) l[k] (getV t).2.1).1 := by
  have e : colD c k (prevD l k) (l.drop k) t = ((setE c k (prevD l k) l[k] (getV t).2.1).1, [], []) := by rw [List.drop_eq_getElem_cons hk, colD, if_neg (fun g => g h), if_pos h2]
  unfold resD;simp only [e];rw [if_pos h2]
theorem res_step {c k : Nat} {l : Ents} {t : Bs} (hk : k < l.length) (h : (getV t).1 = 0) (h2 : (setE c k (prevD l k) l[k] (getV t).2.1).1 = 0) :
    resD c k l t = if k + 1 < l.length then resD c (k + 1) (l.set k (setE c k (prevD l k) l[k] (getV t).2.1).2) (t.drop (getV t).2.2)
      else colsD (c + 1) (3 - c) (l.set k (setE c k (prevD l k) l[k] (getV t).2.1).2) (t.drop (getV t).2.2) := by
  have hs : ∀ e : Ent, l.set k e = l.take k ++ e :: l.drop (k + 1) := fun e => List.set_eq_take_append_cons_drop.trans (if_pos hk);generalize hq : setE c k (prevD l k) l[k] (getV t).2.1 = q at *;have e : colD c k (prevD l k) (l.drop k) t = ((colD c (k + 1) q.2 (l.drop (k + 1)) (t.drop (getV t).2.2)).1, q.2 :: (colD c (k + 1) q.2 (l.drop (k + 1)) (t.drop (getV t).2.2)).2.1, (colD c (k + 1) q.2 (l.drop (k + 1)) (t.drop (getV t).2.2)).2.2) := by
    rw [List.drop_eq_getElem_cons hk, colD, if_neg (fun g => g h), hq, if_neg (fun g => g h2)]
  have e0 : resD c k l t = (let q2 := colD c (k + 1) q.2 (l.drop (k + 1)) (t.drop (getV t).2.2); if q2.1 ≠ 0 then (q2.1, [], []) else colsD (c + 1) (3 - c) (l.take k ++ q.2 :: q2.2.1) q2.2.2) := by
    unfold resD;simp only [e]
  rw [e0];by_cases hk2 : k + 1 < l.length
  · rw [if_pos hk2];have hl : prevD (l.set k q.2) (k + 1) = q.2 := by
      unfold prevD;rw [if_neg (by omega), Nat.add_sub_cancel, List.getElem?_set_self hk];rfl
    have hd : (l.set k q.2).drop (k + 1) = l.drop (k + 1) := by
      rw [List.drop_set, if_pos (by omega)]
    have ht : (l.set k q.2).take (k + 1) = l.take k ++ [q.2] := by
      rw [hs, List.take_append, List.length_take, Nat.min_eq_left (by omega), List.take_of_length_le (by rw [List.length_take]; omega), show k + 1 - k = 1 by omega];rfl
    unfold resD;rw [hl, hd, ht];simp only [List.append_assoc, List.singleton_append]
  · rw [if_neg hk2];have hd : l.drop (k + 1) = [] := List.drop_of_length_le (by omega);rw [hs, hd, colD];simp
end Go.Gz
/- Plain laws: an archive does not hang on the order in which its tiles were put. -/
namespace Go.Gz
theorem wrongE_zero {id : Nat} {s : Bs} {full : Bool} (h : wrongE id s full = 0) : id < 6004799503160661 ∧ s ≠ [] ∧ s.length ≤ 65536 ∧ full = false := by
  unfold wrongE at h;by_cases h1 : 6004799503160661 ≤ id
  · rw [if_pos h1] at h; exact absurd h (by decide)
  rw [if_neg h1] at h;by_cases h2 : s = []
  · rw [if_pos h2] at h; exact absurd h (by decide)
  rw [if_neg h2] at h;by_cases h3 : 65536 < s.length
  · rw [if_pos h3] at h; exact absurd h (by decide)
  rw [if_neg h3] at h;cases full
  · exact ⟨by omega, h2, by omega, rfl⟩
  · exact absurd h (by decide)
/-- items that a chart may be made of: no identifier twice, each may be put -/
structure Fit (L : Items) : Prop where
  nd : (L.map (·.1)).Nodup
  ok : ∀ x ∈ L, wrongE x.1 x.2 false = 0
theorem good_fit {L : Items} (h : Good L) : Fit L := by
  refine ⟨?_, fun x hx => ?_⟩
  · have h1 := (srt_iff L).1 h.srt;unfold List.Nodup;rw [List.pairwise_map];exact h1.imp (fun h => by omega)
  · have h1 := h.id x hx;have h2 := h.ne x hx;have h3 := h.sz x hx;unfold wrongE;rw [if_neg (by omega), if_neg h2, if_neg (by omega)];rfl
theorem fit_perm {L M : Items} (h : Fit L) (p : M.Perm L) : Fit M := by
  refine ⟨?_, fun x hx => h.ok x (p.subset hx)⟩;exact (p.map _).nodup_iff.2 h.nd
theorem srt_perm {L M : Items} (hL : Srt L) (hM : Srt M) (p : M.Perm L) : M = L := by
  rw [srt_iff] at hL hM;refine p.eq_of_pairwise (le := fun a b : Item => a.1 < b.1) (fun a b _ _ h1 h2 => by omega) hM hL
end Go.Gz
/- Plain laws: each content stands just once. -/
namespace Go.Gz
end Go.Gz
/- Plain: a directory of so many bytes has at most a fourth as many entries. -/
namespace Go.Gz
theorem colD_len (c : Nat) : ∀ (l : Ents) (i : Nat) (a : Ent) (t : Bs), (colD c i a l t).1 = 0 → (colD c i a l t).2.1.length = l.length ∧ (colD c i a l t).2.2.length + l.length ≤ t.length
  | [], _, _, t, _ => ⟨rfl, Nat.le_refl _⟩
  | e :: r, i, a, t, h => by
    unfold colD at h ⊢;split at h
    · contradiction
    · rename_i g1;split at h
      · contradiction
      · rename_i g2;rw [if_neg g1, if_neg g2];obtain ⟨h1, h2⟩ := colD_len c r (i + 1) (setE c i a e (getV t).2.1).2 (t.drop (getV t).2.2) h;have hg := getV_ok (by simpa using g1);rw [List.length_drop] at h2;refine ⟨by simpa using h1, ?_⟩;simp only [List.length_cons];omega
theorem colsD_len : ∀ (k c : Nat) (l : Ents) (t : Bs), (colsD c k l t).1 = 0 → (colsD c k l t).2.1.length = l.length ∧ (colsD c k l t).2.2.length + k * l.length ≤ t.length
  | 0, _, l, t, _ => ⟨rfl, by rw [Nat.zero_mul]; exact Nat.le_refl _⟩
  | k + 1, c, l, t, h => by
    unfold colsD at h ⊢;simp only at h ⊢;split at h
    · contradiction
    · rename_i g1;rw [if_neg g1];obtain ⟨h1, h2⟩ := colD_len c l 0 zE t (by simpa using g1);obtain ⟨h3, h4⟩ := colsD_len k (c + 1) _ _ h;refine ⟨h3.trans h1, ?_⟩;rw [h1] at h4;rw [Nat.succ_mul];omega
theorem decD_len {s : Bs} : 4 * (decD s).2.length ≤ s.length := by
  unfold decD;split
  · simp
  · split
    · simp
    · split
      · simp
      · unfold endD;split
        · simp
        · rename_i g4;split
          · simp
          · split
            · simp
            · obtain ⟨h1, h2⟩ := colsD_len 4 0 (List.replicate (getV s).2.1 zE) (s.drop (getV s).2.2) (by simpa using g4);simp only;rw [List.length_drop] at h2;rw [h1];omega
theorem pieceE_len (x : Ent) (text : Bs) : 4 * (pieceE x text).2.length ≤ text.length := by
  unfold pieceE;split
  · simp
  · split
    · simp
    · split
      · simp
      · split
        · simp
        · have := decD_len (s := (text.drop x.off).take x.len);simp only;rw [List.length_take, List.length_drop] at this;omega
theorem part_len (s : Bs) (p n : Nat) : (part s p n).length ≤ s.length := by
  unfold part;rw [List.length_take, List.length_drop];omega
end Go.Gz
/- Plain laws: charts over each other, and what of one the other has. -/
namespace Go.Gz
/-- the tiles of one chart that another one has, or has not -/
def someL (L M : Items) (t : Bool) : Items := L.filter fun x => memL M x.1 == t
/-- one chart laid over another one -/
def overL (L M : Items) : Items := M.foldl (fun r x => insL r x.1 x.2) L
end Go.Gz
/- Walks: gazetteerlaw12.Back, gazetteerref12.Same. -/
namespace Go.Proofs.YtbfieomjobbhoaaGreatDoor
open Go.RowKit Go.Gz Go.Shelf

set_option maxRecDepth 100000
set_option maxHeartbeats 1000000 in
theorem back12_any (L : Items) (hl : L.length ≤ 100000) (A : Option Addr) (c : Nat) (w : World) (hr : Rd w 2 A L.length c (itV L)) :
    Calls Tryz.prog 15 #[.slice A L.length c] w (DelEnd w L) := by
  obtain ⟨i0, hi, hz0, hz1, hz2⟩ := info_parts infoIt;have HR := Lib.hid hr;clear hr;go_enter Tryz.func15, Tryz.ntmps15;go_wp2_with fail;go_loopg [3, 4] L.length (fun gk v i wr => ∃ k : Nat, k + gk = L.length ∧ i = .int .i64 k ∧ OwnR wr w.heap.size v (L.take k) ∧ Up w wr)
  case atStart => exact ⟨0, by omega, rfl, World.ownsRow_nil _ _ _ _, Up.refl w⟩
  case round =>
    obtain ⟨k, hk, rfl, ho, hu⟩ := hrel;have HO := Lib.hid ho;have HU := Lib.hid hu;clear ho;by_cases hlt : k < L.length
    · obtain ⟨m, rfl⟩ : ∃ m, gk = m + 1 := ⟨gk - 1, by omega⟩;have hd : L.take (k + 1) = L.take k ++ [L[k]] := List.take_succ_eq_append_getElem hlt;obtain ⟨B, o, rfl, hc1, hc2⟩ := (HR.out.up hu).item hlt;obtain ⟨⟨xid, xt⟩, hx⟩ : ∃ x, L[k]'hlt = x := ⟨_, rfl⟩;rw [hx] at hc1 hc2 hd;simp only at hc1 hc2;have hltI : (k : Int) < (L.length : Int) := by omega
      have hml : (L.take k).length ≤ k := by rw [List.length_take]; omega
      have HD := Lib.hid hd;clear hx hu hd;go_wp2_with (at_builtin; refine app_one wr rfl _ _ 36 rfl w.heap.size 88 i0 _ 2 24 Tryz.underlying36 hi hz0 hz1 hz2 rfl (by decide) _ _ _ HO.out rfl #[.int .u64 xid, .string ⟨xt.toArray⟩] rfl rfl (by simp [Value.oneCell']) (by omega) (by omega) (by have := HU.out.le; omega) ?_; intro v3 w3 ho3 hg3 hb3)
      go_roundg m
      case measure => omega
      case rel =>
        refine ⟨k + 1, by omega, by go_num, ?_, Up.of (Below.trans HU.out.below hb3)⟩;rw [HD.out];unfold OwnR;rw [itV_app, List.length_append];exact ho3
    · obtain rfl : k = L.length := by omega
      have hO := HO.out;rw [List.take_length] at hO;have HO2 := Lib.hid hO;clear hO hu hlt;go_wp2_with fail;go_ret;exact ⟨_, rfl, HO2.out, HU.out⟩
set_option maxHeartbeats 4000000 in
theorem rsame12_any (M : Items) (hl : M.length ≤ 1000000) (A1 : Option Addr) (c1 : Nat) (A2 : Option Addr) (c2 : Nat) (w : World) (h1 : Rd w 2 A1 M.length c1 (itV M)) (h2 : Rd w 2 A2 M.length c2 (itV M)) :
    Calls Tryz.prog 14 #[.slice A1 M.length c1, .slice A2 M.length c2] w fun e w' => e = .returned (.bool true) ∧ Up w w' := by
  have HR1 := Lib.hid h1;have HR2 := Lib.hid h2;clear h1 h2;go_enter Tryz.func14, Tryz.ntmps14;go_wp2_with fail;go_loopg [5] M.length (fun gk i wr => ∃ k : Nat, k + gk = M.length ∧ i = .int .i64 (k : Int) ∧ Up w wr)
  case atStart => exact ⟨0, by omega, rfl, Up.refl w⟩
  case round =>
    obtain ⟨k, hk, rfl, hu⟩ := hrel;by_cases hlt : k < M.length
    · obtain ⟨m, rfl⟩ : ∃ x, gk = x + 1 := ⟨gk - 1, by omega⟩;obtain ⟨b1, o1, rfl, p0, p1⟩ := (HR1.out.up hu).item hlt;obtain ⟨b2, o2, rfl, q0, q1⟩ := (HR2.out.up hu).item hlt;obtain ⟨⟨n, t⟩, hx⟩ : ∃ x, M[k] = x := ⟨_, rfl⟩;rw [hx] at p0 p1 q0 q1;simp only at p0 p1 q0 q1;have HU := Lib.hid hu;have kI : (k : Int) < (M.length : Int) := by omega
      clear hx hu;go_wp2_with fail;refine wp_region_held_drew (S := fun w' => (w'.cell? ⟨b1, o1 + k * 2, none⟩ = some (.int .u64 (n : Int)) ∧ w'.cell? ⟨b1, o1 + k * 2 + 1, none⟩ = some (.string ⟨t.toArray⟩) ∧ w'.cell? ⟨b2, o2 + k * 2, none⟩ = some (.int .u64 (n : Int)) ∧ w'.cell? ⟨b2, o2 + k * 2 + 1, none⟩ = some (.string ⟨t.toArray⟩))) (by kernel_rfl) ⟨p0, p1, q0, q1⟩ (fun hHeld => ?_);refine tk 0 rfl ?_;(try simp only [Act.put, tz1, tz2, tz3]);refine tk 1 rfl ?_;(try simp only [Act.put, tz1, tz2, tz3]);refine tk 2 rfl ?_;(try simp only [Act.put, tz1, tz2, tz3]);refine tk 3 rfl ?_;(try simp only [Act.put, tz1, tz2, tz3]);refine tk 4 rfl ?_;(try simp only [Act.put, tz1, tz2, tz3]);refine tk 5 rfl ?_;(try simp only [Act.put, tz1, tz2, tz3]);refine tk 6 rfl ?_;(try simp only [Act.put, tz1, tz2, tz3]);refine tk 7 rfl ?_;(try simp only [Act.put, tz1, tz2, tz3]);refine tk 8 rfl ?_;(try simp only [Act.put, tz1, tz2, tz3]);refine wpAnyH_done (by kernel_rfl) ?_ _;clear hHeld;go_wp2_with fail;go_roundg m
      case measure => omega
      case rel => exact ⟨k + 1, by omega, by go_num, HU.out.drew⟩
    · obtain rfl : k = M.length := by omega
      obtain rfl : gk = 0 := by omega
      have kI : ¬ (M.length : Int) < (M.length : Int) := by omega
      go_wp2_with fail;go_ret;exact ⟨rfl, hu⟩
end Go.Proofs.YtbfieomjobbhoaaGreatDoor
