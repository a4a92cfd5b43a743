/- Walks: the reference's Get, Del and Put of charts. -/
import Derived.Test.YtcfmidmokciofaaGreatDoorKR04
import Derived.Deep.RegionHeld3
namespace Go.Proofs.YtcfmidmokciofaaGreatDoor
open Go.RowKit Go.Gz

set_option maxRecDepth 100000
def OwnR (w : World) (B : Nat) (v : Value) (L : Items) : Prop := w.ownsRow B 56 2 v L.length (itV L)
theorem own_up {w w' : World} {B : Nat} {e : TypeId} {size n : Nat} {v : Value} {xs : List Value} (h : w.ownsRow B e size v n xs) (hu : Up w w') : w'.ownsRow B e size v n xs := by
  refine World.ownsRow.kept (row := none) h ⟨hu.os, hu.tape, hu.output, hu.size, fun k hk _ => hu.block hk⟩ ?_;cases v.ownBlock <;> simp
def DelEnd (w : World) (M : Items) (e : Ending) (w' : World) : Prop := ∃ v, e = .returned v ∧ OwnR w' w.heap.size v M ∧ Up w w'
end Go.Proofs.YtcfmidmokciofaaGreatDoor
/- Walk: the reference's Put of charts. -/
namespace Go.Proofs.YtcfmidmokciofaaGreatDoor
open Go.RowKit Go.Gz

set_option maxRecDepth 100000
def PutEnd (w : World) (M : Items) (E : Int) (e : Ending) (w' : World) : Prop := ∃ A c, e = .returned (.tuple #[.slice A M.length c, .int .i64 E]) ∧ Rd w' 2 A M.length c (itV M) ∧ Up w w'
end Go.Proofs.YtcfmidmokciofaaGreatDoor
/- Walks: chart.Get, chart.Put. -/
namespace Go.Proofs.YtcfmidmokciofaaGreatDoor
open Go.RowKit Go.Gz

set_option maxRecDepth 100000
theorem infoCI : (Tryz.prog.info? 59).map (fun i => (i.zero, i.size, i.bytes)) = some (some (.agg #[.int .u64 0, .string ⟨#[]⟩]), 2, 24) := by kernel_rfl
def CPutEnd (w : World) (M : Items) (E : Int) (e : Ending) (w' : World) : Prop := ∃ A c, e = .returned (.tuple #[.agg #[.slice A M.length c], .int .i64 E]) ∧ Rd w' 2 A M.length c (itV M) ∧ Up w w'
end Go.Proofs.YtcfmidmokciofaaGreatDoor
/- Walks: gazetteerlaw12.Over, Own. -/
namespace Go.Gz
def sumL (L : Items) : Nat := (L.map fun x => x.2.length).sum
def ownL (l : Items) : Items := l.foldl (fun M x => putL M x.1 x.2) []
end Go.Gz
namespace Go.Proofs.YtcfmidmokciofaaGreatDoor
open Go.RowKit Go.Gz

set_option maxRecDepth 100000
def OverEnd (P : Prop) (w : World) (e : Ending) (w' : World) : Prop := ∃ b, e = .returned (.bool b) ∧ (b = false → P) ∧ w = w'
theorem Rd.far {w : World} {n c g : Nat} {A : Option Addr} {L : Items} {A' : Option Addr} {n' c' : Nat} {T : TypeId} (h : Rd w 2 A n c (itV L)) (hg : w.heap[g]? = some (.cells #[.slice A' n' c'] T (0, 0))) (x : Value) : Rd (w.setCell ⟨g, 0, none⟩ x) 2 A n c (itV L) := by
  refine ⟨h.1, h.2.1, h.2.2.1, h.2.2.2.1, fun hn => ?_⟩;obtain ⟨b, o, e, hc⟩ := h.2.2.2.2 hn;refine ⟨b, o, e, fun j u hj => ?_⟩;have hbg : b ≠ g := by
    rintro rfl;have hl := h.1;rw [itV_len] at hl;obtain ⟨g1, _⟩ := itV_get L 0 (by omega);have hc0 := hc 0 _ (by simpa using g1);rw [cell_of_row w b (o + 0) _ T (0, 0) hg] at hc0;cases o with
    | zero => cases hc0
    | succ o => simp at hc0
  have := hc j u hj;rw [← this];exact World.cell?_of_block (Below.heap_setCell w ⟨g, 0, none⟩ x b hbg)
/-- one slice in a block of its own -/
def One (w : World) (g : Nat) (T : TypeId) (v : Value) : Prop := w.heap[g]? = some (.cells #[v] T (0, 0))
def OwnEnd (w : World) (M : Items) (e : Ending) (w' : World) : Prop := ∃ A c A' c', e = .returned (.tuple #[.agg #[.slice A M.length c], .slice A' M.length c']) ∧ Rd w' 2 A M.length c (itV M) ∧ Rd w' 2 A' M.length c' (itV M) ∧ Up w w'
def OwRel (w : World) (l : Items) (gk : Nat) (d i : Value) (wr : World) : Prop := ∃ (k : Nat) (A1 : Option Addr) (c1 : Nat) (A2 : Option Addr) (c2 : Nat), k + gk = l.length ∧ i = .int .i64 k ∧ d = .slice A2 (ownL (l.take k)).length c2 ∧
  wr.heap[w.heap.size]? = some (.cells #[.slice none 0 0] 29 (0, 0)) ∧ wr.heap[w.heap.size + 1]? = some (.cells #[.slice A1 (ownL (l.take k)).length c1] 29 (0, 0)) ∧
  Rd wr 2 A1 (ownL (l.take k)).length c1 (itV (ownL (l.take k))) ∧ Rd wr 2 A2 (ownL (l.take k)).length c2 (itV (ownL (l.take k))) ∧ Up w wr
end Go.Proofs.YtcfmidmokciofaaGreatDoor
/- Plain laws: an archive does not hang on the order in which its tiles were put. -/
namespace Go.Gz
theorem wrongE_zero {id : Nat} {s : Bs} {full : Bool} (h : wrongE id s full = 0) : id < 6004799503160661 ∧ s ≠ [] ∧ s.length ≤ 65536 ∧ full = false := by
  unfold wrongE at h;by_cases h1 : 6004799503160661 ≤ id
  · rw [if_pos h1] at h; exact absurd h (by decide)
  rw [if_neg h1] at h;by_cases h2 : s = []
  · rw [if_pos h2] at h; exact absurd h (by decide)
  rw [if_neg h2] at h;by_cases h3 : 65536 < s.length
  · rw [if_pos h3] at h; exact absurd h (by decide)
  rw [if_neg h3] at h;cases full
  · exact ⟨by omega, h2, by omega, rfl⟩
  · exact absurd h (by decide)
/-- items that a chart may be made of: no identifier twice, each may be put -/
structure Fit (L : Items) : Prop where
  nd : (L.map (·.1)).Nodup
  ok : ∀ x ∈ L, wrongE x.1 x.2 false = 0
theorem good_fit {L : Items} (h : Good L) : Fit L := by
  refine ⟨?_, fun x hx => ?_⟩
  · have h1 := (srt_iff L).1 h.srt;unfold List.Nodup;rw [List.pairwise_map];exact h1.imp (fun h => by omega)
  · have h1 := h.id x hx;have h2 := h.ne x hx;have h3 := h.sz x hx;unfold wrongE;rw [if_neg (by omega), if_neg h2, if_neg (by omega)];rfl
theorem fit_perm {L M : Items} (h : Fit L) (p : M.Perm L) : Fit M := by
  refine ⟨?_, fun x hx => h.ok x (p.subset hx)⟩;exact (p.map _).nodup_iff.2 h.nd
theorem srt_perm {L M : Items} (hL : Srt L) (hM : Srt M) (p : M.Perm L) : M = L := by
  rw [srt_iff] at hL hM;refine p.eq_of_pairwise (le := fun a b : Item => a.1 < b.1) (fun a b _ _ h1 h2 => by omega) hM hL
end Go.Gz
/- Plain laws: each content stands just once. -/
namespace Go.Gz
theorem good_pre {L : Items} {x : Item} (h : Good (L ++ [x])) : Good L := by
  refine ⟨?_, by have := h.len; simp at this; omega, fun y hy => h.id y (by simp [hy]), fun y hy => h.ne y (by simp [hy]), fun y hy => h.sz y (by simp [hy])⟩;have := (srt_iff _).1 h.srt;rw [List.pairwise_append] at this;exact (srt_iff _).2 this.1
/-- the entries tell of each content once -/
theorem seen_rows (L : Items) (h : Good L) (ht : total L ≤ 1099511627776) : seenE (rowsL L).1 = (rowsL L).2.map fun s => (offC (rowsL L).2 s, s.length) := by
  induction L using snoc_ind with
  | h0 => rfl
  | h1 L x ih =>
    have hg := good_pre h;have htt : total (L ++ [x]) = total L + x.2.length := by unfold total; simp
    have ih := ih hg (by omega);obtain ⟨_, _, _, i4, _, i6, _, _⟩ := rows_inv L hg (by omega);obtain ⟨_, _, _, _, _, j6, _, _⟩ := rows_inv (L ++ [x]) h ht;have hx2 := h.ne x (by simp);have hxl : 0 < x.2.length := List.length_pos_iff.2 hx2;rw [rows_snoc] at j6 ⊢;unfold rowsStep at j6 ⊢;simp only at j6 ⊢;generalize hcs : (rowsL L).2 = cs at *;generalize hes : (rowsL L).1 = es at *
    -- what the last one tells
    have hin : (offC (addC cs x.2) x.2, x.2.length) ∈ seenE es → x.2 ∈ cs := by
      intro hm;rw [ih] at hm;obtain ⟨s, hs, he⟩ := List.mem_map.1 hm;apply Classical.byContradiction;intro hn;have h1 : offC (addC cs x.2) x.2 = cs.flatten.length := by unfold addC; rw [if_neg hn]; exact off_new hn
      have h2 := off_end hs;injection he with e1 e2;omega
    have hin2 : x.2 ∈ cs → (offC (addC cs x.2) x.2, x.2.length) ∈ seenE es := by
      intro hm;rw [ih, off_add hm];exact List.mem_map.2 ⟨x.2, hm, rfl⟩
    have hsame : x.2 ∈ cs → (addC cs x.2) = cs := by intro hm; unfold addC; rw [if_pos hm]
    have hnew : x.2 ∉ cs → (addC cs x.2).map (fun s => (offC (addC cs x.2) s, s.length)) = seenE es ++ [(offC (addC cs x.2) x.2, x.2.length)] := by
      intro hm;have e : addC cs x.2 = cs ++ [x.2] := by unfold addC; rw [if_neg hm]
      rw [ih, e, List.map_append];congr 1
      apply List.map_congr_left;intro s hs;rw [off_app hs]
    have hend : seenE (es ++ [itemE cs x]) = (addC cs x.2).map (fun s => (offC (addC cs x.2) s, s.length)) ∨ itemE cs x ∉ pushE es (itemE cs x) := by
      by_cases hmm : itemE cs x ∈ pushE es (itemE cs x)
      · left;obtain ⟨c1, c2, _⟩ := j6 _ hmm;rw [seenE_snoc, if_pos ⟨c1, by omega⟩];show (if (offC (addC cs x.2) x.2, x.2.length) ∈ seenE es then seenE es else seenE es ++ [(offC (addC cs x.2) x.2, x.2.length)]) = _
        by_cases hm : x.2 ∈ cs
        · rw [if_pos (hin2 hm), hsame hm, ih]
        · rw [if_neg (fun g => hm (hin g)), hnew hm]
      · exact Or.inr hmm
    unfold pushE at j6 hend ⊢;cases hb : es.getLast? with
    | none =>
      rw [hb] at hend;have : es = [] := by simpa using hb
      subst this;rcases hend with g | g
      · exact g
      · exact absurd (by simp) g
    | some b =>
      rw [hb] at hend j6;simp only at hend j6 ⊢;by_cases hgo : goesE b (itemE cs x) = true
      · rw [if_pos hgo] at j6 ⊢;obtain ⟨pre, hpre⟩ := List.getLast?_eq_some_iff.1 hb;have hbm := List.mem_of_getLast? hb;obtain ⟨c1, c2, _⟩ := i6 b hbm;obtain ⟨d1, d2, _⟩ := j6 { b with run := b.run + 1 } (by simp);unfold goesE at hgo;simp only [Bool.and_eq_true, decide_eq_true_eq] at hgo;obtain ⟨⟨_, g2⟩, g3⟩ := hgo;have hse : seenE (es.dropLast ++ [{ b with run := b.run + 1 }]) = seenE es := by
          rw [hpre, List.dropLast_concat, seenE_snoc pre b, if_pos ⟨c1, by omega⟩, seenE_snoc pre { b with run := b.run + 1 }, if_pos ⟨d1, by simp⟩]
        have hbi : (b.off, b.len) ∈ seenE es := by
          rw [hpre, seenE_snoc, if_pos ⟨c1, by omega⟩];split
          · assumption
          · simp
        have hm : x.2 ∈ cs := hin (by
          have e1 : offC (addC cs x.2) x.2 = b.off := g2;have e2 : x.2.length = b.len := g3;rw [e1, e2]; exact hbi)
        rw [hse, hsame hm, ih]
      · rw [if_neg hgo] at hend ⊢;rcases hend with g | g
        · exact g
        · exact absurd (by simp) g
theorem cont_rows {L : Items} (h : Good L) (ht : total L ≤ 1099511627776) : contE (rowsL L).1 = (rowsL L).2.length := by
  unfold contE;rw [seen_rows L h ht, List.length_map]
end Go.Gz
/- Plain laws: the rows of a chart are as few as may be; their first and last tile (what an audit asks). -/
namespace Go.Gz
/-- no two rows that follow each other could be one -/
def apartE : Ents → Prop
  | a :: b :: r => goesE a b = false ∧ apartE (b :: r)
  | _ => True
theorem nil_or_snoc {α : Type} (l : List α) : l = [] ∨ ∃ r b, l = r ++ [b] := by
  induction l using snoc_ind with
  | h0 => exact .inl rfl
  | h1 l a _ => exact .inr ⟨l, a, rfl⟩
theorem apart_snoc : ∀ (l : Ents) (e : Ent), apartE (l ++ [e]) ↔ apartE l ∧ ∀ b, l.getLast? = some b → goesE b e = false
  | [], e => by simp [apartE]
  | [a], e => by simp [apartE]
  | a :: b :: r, e => by
    have ih := apart_snoc (b :: r) e;show goesE a b = false ∧ apartE ((b :: r) ++ [e]) ↔ (goesE a b = false ∧ apartE (b :: r)) ∧ _
    rw [ih, List.getLast?_cons_cons];exact ⟨fun ⟨h1, h2, h3⟩ => ⟨⟨h1, h2⟩, h3⟩, fun ⟨⟨h1, h2⟩, h3⟩ => ⟨h1, h2, h3⟩⟩
theorem push_apart {out : Ents} (h : apartE out) (e : Ent) : apartE (pushE out e) := by
  unfold pushE;rcases nil_or_snoc out with rfl | ⟨l, b, rfl⟩
  · simp [apartE]
  · have hg : (l ++ [b]).getLast? = some b := by simp
    rw [hg];simp only;have hb := (apart_snoc l b).1 h;split
    · rw [List.dropLast_concat, apart_snoc];exact ⟨hb.1, fun c hc => hb.2 c hc⟩
    · rename_i hn;rw [apart_snoc];refine ⟨h, fun c hc => ?_⟩;rw [hg] at hc;cases hc;simpa using hn
theorem rows_apart (L : Items) : apartE (rowsL L).1 := by
  induction L using snoc_ind with
  | h0 => simp [rowsL, apartE]
  | h1 L x ih => rw [rows_snoc]; exact push_apart ih _
theorem push_head (out : Ents) (e : Ent) : (pushE out e).head?.map (fun e => e.id) = some ((out.head?.map fun e => e.id).getD e.id) := by
  unfold pushE;rcases nil_or_snoc out with rfl | ⟨l, b, rfl⟩
  · rfl
  · have hg : (l ++ [b]).getLast? = some b := by simp
    rw [hg];simp only;split
    · rw [List.dropLast_concat];cases l <;> simp
    · cases l <;> simp
theorem rows_head (L : Items) : (rowsL L).1.head?.map (fun e => e.id) = L.head?.map fun x => x.1 := by
  induction L using snoc_ind with
  | h0 => rfl
  | h1 L x ih =>
    rw [rows_snoc];show (pushE (rowsL L).1 (itemE (rowsL L).2 x)).head?.map (fun e => e.id) = _
    rw [push_head, ih];cases L <;> rfl
end Go.Gz
/- Rows of one type are kept where a row of another one turns. -/
namespace Go.Proofs.YtcfmidmokciofaaGreatDoor
open Go.RowKit Go.Gz

theorem own_other {w w' : World} {base : Nat} {e e' : TypeId} {size n : Nat} {v : Value} {xs : List Value} {row : Option Nat} (h : w.ownsRow base e size v n xs) (hg : w.grownBy w' row) (hr : ∀ r, row = some r → ∃ cur fz, w.heap[r]? = some (.cells cur e' fz)) (hne : e' ≠ e) : w'.ownsRow base e size v n xs := by
  refine h.kept hg ?_;rcases h.2 with ⟨rfl, _⟩ | ⟨g, cap, cur, rfl, _, hh, _⟩
  · exact .inl rfl
  · cases row with
    | none => right; simp [Value.ownBlock]
    | some r =>
      right;obtain ⟨cur', fz, hr⟩ := hr r rfl;intro e2;injection e2 with e2;have e2 : g = r := e2;subst e2;rw [hh] at hr;injection hr with hr;injection hr with _ hr _;exact hne hr.symm
theorem own_row {w : World} {base : Nat} {e : TypeId} {size n : Nat} {v : Value} {xs : List Value} (h : w.ownsRow base e size v n xs) : ∀ r, v.ownBlock = some r → ∃ cur fz, w.heap[r]? = some (.cells cur e fz) := by
  intro r hr;rcases h.2 with ⟨rfl, _⟩ | ⟨g, cap, cur, rfl, _, hh, _⟩
  · cases hr
  · have hr : some g = some r := hr;injection hr with hr;subst hr;exact ⟨cur, _, hh⟩
end Go.Proofs.YtcfmidmokciofaaGreatDoor
