/- Plain laws: what an audit finds in a pressed archive, with anything behind it, at any budget. -/
import Derived.Test.YtcfmidmokciofaaGreatDoorKR16
import Derived.Test.YtcfmidmokciofaaGreatDoorKR31
namespace Go.Proofs.YtcfmidmokciofaaGreatDoor
open Go.RowKit Go.Gz
theorem join_sizes (text : Bs) : ∀ (r out L : Ents), joinGo text r out = (0, L) → r.length + out.length ≤ L.length ∧ ∀ x ∈ r, x.run = 0 → (leafA x text).length ≤ L.length
  | [], out, L, h => by
    unfold joinGo at h;injection h with _ h;subst h;exact ⟨by simp, fun x hx => by simp at hx⟩
  | x :: r, out, L, h => by
    unfold joinGo at h;by_cases hx : x.run = 0
    · rw [if_neg (by simp [hx])] at h;split at h
      · rename_i h1;injection h with h _;exact absurd h h1
      · rename_i h1;have h1 : (pieceE x text).1 = 0 := by simpa using h1
        obtain ⟨e1, e2, e3⟩ := piece_leaf h1;obtain ⟨i1, i2⟩ := join_sizes text r _ L h;have hp : 0 < (pieceE x text).2.length := List.length_pos_iff.2 e2;rw [List.length_append] at i1;refine ⟨by simp only [List.length_cons]; omega, fun y hy hr => ?_⟩;rcases List.mem_cons.1 hy with rfl | hy
        · rw [e1]; omega
        · exact i2 y hy hr
    · rw [if_pos (by simpa using hx)] at h;obtain ⟨i1, i2⟩ := join_sizes text r _ L h;rw [List.length_append, List.length_singleton] at i1;refine ⟨by simp only [List.length_cons]; omega, fun y hy hr => ?_⟩;rcases List.mem_cons.1 hy with rfl | hy
      · exact absurd hr hx
      · exact i2 y hy hr
theorem secT_app {s t : Bs} {f n : Nat} (h : f + n ≤ s.length) : secT (s ++ t) f n = secT s f n := by
  rw [secT_in h, secT_in (by rw [List.length_append]; omega), List.drop_append_of_le_length (by omega), List.take_append_of_le_length (by rw [List.length_drop]; omega)]
/-- what an audit wants to know of a pressed archive -/
structure Pressed (H : Hdr) (T : Bs) (l : Ents) (b : Nat) (note root : Bs) : Prop where
  e : hdrE H = 0
  ok : OkH H
  a0 : H.r0 = 127
  a1 : H.m0 = H.r0 + H.r1
  a2 : H.l0 = H.m0 + H.m1
  a3 : H.d0 = H.l0 + H.l1
  a4 : H.d0 + H.d1 = (hdrB H ++ T).length
  bud : H.r1 ≤ b
  codec : codecA H = true
  fnote : secT (hdrB H ++ T) H.m0 H.m1 = note
  noteOk : noteN note = 0 ∧ note[blkA note 0]? = some 123
  froot : H.r1 = root.length
  ent : ∀ F, entF (hdrB H ++ T) H F = (F, l)
  row : ∀ F : Brk, F 11 = 0 → rowF (hdrB H ++ T) H l F = F
  size : (decD (secT (hdrB H ++ T) H.r0 H.r1)).2.length ≤ l.length
  leaf : ∀ x ∈ (decD (secT (hdrB H ++ T) H.r0 H.r1)).2, x.run = 0 → (leafA x (secT (hdrB H ++ T) H.l0 H.l1)).length ≤ l.length
  chk : ∀ e ∈ l, chkE e = 0
  okl : ∀ e ∈ l, okE e
  len : l.length ≤ 900
  dat : H.d1 ≤ 400000
theorem press_aud {L : Items} (h : Gz.Good L) (hl : L.length ≤ 900) (ht : total L ≤ 400000) {b kind : Nat} {note : Bs} (hp : planN (b : Int) kind note = 0) :
    ∃ H T, (pressV L b kind note).2 = hdrB H ++ T ∧ Pressed H T (rowsL L).1 b note (dirB (splitV (rowsL L).1 b).2.1) ∧ T.length ≤ 100000000 := by
  obtain ⟨p1, p2, p3, p4, p5⟩ := plan_ok hp;have hnl := note_len p4;obtain ⟨i1, i2, i3, i4, i5, i6, i7, i8⟩ := rows_inv L h (by omega);have hrow := rows_row h (by omega);have hok := rows_ok h (by omega);have hsum := rows_sum L;obtain ⟨root, text, e1, e2, e3, e4, e5, e6⟩ := press_ok h (by omega : L.length ≤ 1000) (by omega : total L ≤ 1000000000) p1 p2 p3 hnl;have hjoin := join_split p1 p2 hrow hok (by omega) (fun e he => (i6 e he).2.1);have hcon := cont_rows h (by omega);have hcl := seenE_len (rowsL L).1;have htl : text.length ≤ 67108864 := by rw [e4]; exact split_len h (by omega) (by omega) p1 p2
  obtain ⟨s1, s2, s3, s4⟩ := split_ok p1 p2 hrow hok (by omega) (fun e he => (i6 e he).2.1);have hroot : decD root = (0, (splitV (rowsL L).1 b).2.1) := by
    rw [e3];refine decD_dirB e6 ?_ (by omega);rcases s4 with ⟨_, g2⟩ | ⟨n, hn, g1, _, _⟩
    · rw [g2]; exact hok
    · rw [g1]; exact root_okE hn hrow hok (by omega)
  have hjg : joinGo text (splitV (rowsL L).1 b).2.1 [] = (0, (rowsL L).1) := by
    rw [e4];exact join_go hjoin
  have hsz := join_sizes text _ _ _ hjg;rw [e1];simp only;generalize hH : withH (headH L (rowsL L).1 kind) root.length note.length text.length (rowsL L).2.flatten.length = H at *;have hOk : OkH H := by
    rw [← hH];refine ⟨?_, ?_, ?_⟩
    · show L.length < _; omega
    · show (rowsL L).1.length < _; omega
    · show contE (rowsL L).1 < _; omega
  have hlen : (hdrB H ++ (root ++ (note ++ (text ++ (rowsL L).2.flatten)))).length = 127 + root.length + note.length + text.length + (rowsL L).2.flatten.length := by
    simp only [List.length_append, hdrB_len]; omega
  have r0 : H.r0 = 127 := by rw [← hH]; rfl
  have r1 : H.r1 = root.length := by rw [← hH]; rfl
  have m0 : H.m0 = 127 + root.length := by rw [← hH]; rfl
  have m1 : H.m1 = note.length := by rw [← hH]; rfl
  have l0 : H.l0 = 127 + root.length + note.length := by rw [← hH]; rfl
  have l1 : H.l1 = text.length := by rw [← hH]; rfl
  have d0 : H.d0 = 127 + root.length + note.length + text.length := by rw [← hH]; rfl
  have d1' : H.d1 = (rowsL L).2.flatten.length := by rw [← hH]; rfl
  refine ⟨H, root ++ (note ++ (text ++ (rowsL L).2.flatten)), rfl, ?_, by simp only [List.length_append]; omega⟩;obtain ⟨S, hS⟩ : ∃ S, hdrB H ++ (root ++ (note ++ (text ++ (rowsL L).2.flatten))) = S := ⟨_, rfl⟩;have t1 : secT S H.r0 H.r1 = root := by
    rw [hS] at hlen;rw [secT_in (by omega), r0, r1, ← hS];rw [List.drop_append_of_le_length (by rw [hdrB_len]; exact Nat.le_refl _), List.drop_of_length_le (by rw [hdrB_len]; exact Nat.le_refl _), List.nil_append, List.take_left]
  have t2 : secT S H.m0 H.m1 = note := by
    rw [hS] at hlen;rw [secT_in (by omega), m0, m1, ← hS];rw [show 127 + root.length = (hdrB H ++ root).length by rw [List.length_append, hdrB_len], ← List.append_assoc, List.drop_left, List.take_left]
  have t3 : secT S H.l0 H.l1 = text := by
    rw [hS] at hlen;rw [secT_in (by omega), l0, l1, ← hS];rw [show 127 + root.length + note.length = (hdrB H ++ root ++ note).length by simp only [List.length_append, hdrB_len], ← List.append_assoc, ← List.append_assoc, List.drop_left, List.take_left]
  have t4 : secT S H.d0 H.d1 = (rowsL L).2.flatten := by
    rw [hS] at hlen;rw [secT_in (by omega), d0, d1', ← hS];rw [show 127 + root.length + note.length + text.length = (hdrB H ++ root ++ note ++ text).length by simp only [List.length_append, hdrB_len], ← List.append_assoc, ← List.append_assoc, ← List.append_assoc, List.drop_left, List.take_length]
  have hne : ∀ c ∈ (rowsL L).2, c ≠ [] := fun c hc => by
    obtain ⟨x, hx, rfl⟩ := i3 c hc;exact h.ne x hx
  have htx : textsA (rowsL L).2.flatten (chainP 0 (rowsL L).2) = (rowsL L).2 := by
    unfold textsA;have := texts_chain (rowsL L).2 [];simp only [List.flatten_nil, List.length_nil, List.nil_append] at this;rw [this, add_all _ _ i4 (fun c _ => by simp)];rfl
  rw [hS] at hlen;constructor
  · exact e2
  · exact hOk
  · exact r0
  · omega
  · omega
  · omega
  · rw [hS]; omega
  · omega
  · rw [← hH]; unfold codecA; rw [decide_eq_true_eq]; exact ⟨rfl, rfl, rfl⟩
  · rw [hS]; exact t2
  · exact ⟨p4, p5⟩
  · rw [r1, e3]
  · intro F;rw [hS];unfold entF;rw [t1, t3, hroot];rw [hold_true F 7 (by simp)];exact ent_join text F _ _ _ hjg
  · intro F hF;rw [hS];have hr1 : rowsF1 (rowsL L).2.flatten F none (rowsL L).1 = F := by
      refine rows1_zero _ F _ none (fun e he => (rows_expand L h (by omega)).2 e he) (fun e he => (i6 e he).1) i7 (rows_apart L) (fun a ha => by cases ha)
    unfold rowF;rw [t4, hr1, if_pos hF, srt_rows h (by omega)];have ho : onceA (rowsL L).2.flatten (chainP 0 (rowsL L).2) F = F := by
      unfold onceA;rw [once_chain, htx];exact hold_true F 13 (by rw [decide_eq_true_eq]; exact ⟨by simp, (chain_len _ _).symm⟩)
    rw [ho, hold_true F 14 (by
      rw [decide_eq_true_eq, ← hH, hsum, chain_len, ← hcon];exact ⟨rfl, rfl, rfl⟩), hold_true F 15 (by
      rw [decide_eq_true_eq, lo_rows, hi_rows h (by omega), ← hH];exact ⟨rfl, rfl⟩)]
  · rw [hS, t1, hroot]; have := hsz.1; simp at this; exact this
  · rw [hS, t1, t3, hroot]; exact hsz.2
  · exact fun e he => (i6 e he).1
  · exact hok
  · omega
  · rw [d1']; omega
/-- what an audit finds -/
def foundF (h : Hdr) (t : Bs) (b2 : Int) : Brk := hold (hold zB 3 (decide (t = []))) 6 (decide (0 ≤ b2 ∧ (h.r1 : Int) ≤ b2))
theorem pressed_sec {H : Hdr} {T : Bs} {l : Ents} {b : Nat} {note root : Bs} (p : Pressed H T l b note root) (t : Bs) (b2 : Int) : secF (hdrB H ++ (T ++ t)) H b2 = foundF H t b2 := by
  have h4 := p.a4;have hn : secT (hdrB H ++ (T ++ t)) H.m0 H.m1 = note := by rw [← List.append_assoc, secT_app (by have := p.a2; have := p.a3; omega), p.fnote]
  have a1 : laidE H (hdrB H ++ (T ++ t)).length = 0 := by
    unfold laidE;have := p.a0; have := p.a1; have := p.a2; have := p.a3;rw [← List.append_assoc, List.length_append];rw [if_neg (by simp [p.e]), if_neg (by omega), if_neg (by omega)]
  have ht : tightA H (hdrB H ++ (T ++ t)).length = decide (t = []) := by
    unfold tightA;rw [← List.append_assoc, List.length_append];have := p.a0; have := p.a1; have := p.a2; have := p.a3;by_cases hh : t = []
    · subst hh;rw [decide_eq_true rfl, decide_eq_true_eq];simp only [List.length_nil];omega
    · have : 0 < t.length := List.length_pos_iff.2 hh;rw [decide_eq_false hh, decide_eq_false_iff_not];omega
  unfold secF foundF;rw [hold_true zB 2 (decide_eq_true a1), ht, hold_true _ 4 p.codec, hn, hold_true _ 5 (by unfold noteA; rw [decide_eq_true_eq]; exact p.noteOk)]
theorem pressed_ent {H : Hdr} {T : Bs} {l : Ents} {b : Nat} {note root : Bs} (p : Pressed H T l b note root) (t : Bs) (F : Brk) : entF (hdrB H ++ (T ++ t)) H F = (F, l) := by
  have e1 : secT (hdrB H ++ (T ++ t)) H.r0 H.r1 = secT (hdrB H ++ T) H.r0 H.r1 := by rw [← List.append_assoc]; exact secT_app (by have := p.a1; have := p.a2; have := p.a3; have := p.a4; omega)
  have e2 : secT (hdrB H ++ (T ++ t)) H.l0 H.l1 = secT (hdrB H ++ T) H.l0 H.l1 := by rw [← List.append_assoc]; exact secT_app (by have := p.a3; have := p.a4; omega)
  have h1 := p.ent F;unfold entF at h1 ⊢;rw [e1, e2];exact h1
theorem pressed_row {H : Hdr} {T : Bs} {l : Ents} {b : Nat} {note root : Bs} (p : Pressed H T l b note root) (t : Bs) (F : Brk) (hF : F 11 = 0) : rowF (hdrB H ++ (T ++ t)) H l F = F := by
  have e1 : secT (hdrB H ++ (T ++ t)) H.d0 H.d1 = secT (hdrB H ++ T) H.d0 H.d1 := by rw [← List.append_assoc]; exact secT_app (by have := p.a4; omega)
  have h1 := p.row F hF;unfold rowF at h1 ⊢;rw [e1];exact h1
theorem found_le (h : Hdr) (t : Bs) (b2 : Int) (r : Nat) (hr : 0 < foundF h t b2 r) : r = 3 ∧ t ≠ [] ∨ r = 6 ∧ ¬ (0 ≤ b2 ∧ (h.r1 : Int) ≤ b2) := by
  unfold foundF hold zB at hr;by_cases e3 : r = 3
  · subst e3;left;refine ⟨rfl, fun h1 => ?_⟩;subst h1;by_cases h2 : (0 ≤ b2 ∧ (h.r1 : Int) ≤ b2)
    · simp [h2] at hr
    · simp [h2] at hr
  · by_cases e6 : r = 6
    · subst e6;right;refine ⟨rfl, fun h2 => ?_⟩;by_cases h1 : t = []
      · simp [h1, h2] at hr
      · simp [h1, h2] at hr
    · exfalso;by_cases h1 : t = [] <;> by_cases h2 : (0 ≤ b2 ∧ (h.r1 : Int) ≤ b2)
      · simp [h1, h2] at hr
      · simp [h1, h2, e6] at hr
      · simp [h1, h2, e3] at hr
      · simp [h1, h2, e3, e6] at hr
theorem found_other (h : Hdr) (t : Bs) (b2 : Int) (r : Nat) (h3 : r ≠ 3) (h6 : r ≠ 6) : foundF h t b2 r = 0 := by
  have := found_le h t b2 r;omega
theorem found_nil (h : Hdr) (b2 : Int) (hb : 0 ≤ b2 ∧ (h.r1 : Int) ≤ b2) (r : Nat) : r ∈ ([] : List Nat) ↔ r < 256 ∧ 0 < foundF h [] b2 r := by
  have := found_le h [] b2 r;constructor
  · intro h; cases h
  · rintro ⟨_, h2⟩;rcases this h2 with ⟨_, h3⟩ | ⟨_, h3⟩
    · exact absurd rfl h3
    · exact absurd hb h3
theorem found_three (h : Hdr) (t : Bs) (ht : t ≠ []) (b2 : Int) (hb : 0 ≤ b2 ∧ (h.r1 : Int) ≤ b2) (r : Nat) : r ∈ [3] ↔ r < 256 ∧ 0 < foundF h t b2 r := by
  have h1 := found_le h t b2 r;constructor
  · intro h2;rw [List.mem_singleton] at h2;subst h2;refine ⟨by omega, ?_⟩;unfold foundF hold zB;simp [ht, hb]
  · rintro ⟨_, h2⟩;rcases h1 h2 with ⟨h3, _⟩ | ⟨_, h3⟩
    · simp [h3]
    · exact absurd hb h3
theorem found_six (h : Hdr) (b2 : Int) (hb : ¬ (0 ≤ b2 ∧ (h.r1 : Int) ≤ b2)) (r : Nat) : r ∈ [6] ↔ r < 256 ∧ 0 < foundF h [] b2 r := by
  have h1 := found_le h [] b2 r;constructor
  · intro h2;rw [List.mem_singleton] at h2;subst h2;refine ⟨by omega, ?_⟩;unfold foundF hold zB;simp [hb]
  · rintro ⟨_, h2⟩;rcases h1 h2 with ⟨_, h3⟩ | ⟨h3, _⟩
    · exact absurd rfl h3
    · simp [h3]
end Go.Proofs.YtcfmidmokciofaaGreatDoor
