/- Plain laws: the rules that any bytes break rise; a greater budget breaks none more. -/
import Derived.Test.YtcfmidmokciofaaGreatDoorKR16
import Derived.Test.YtcfmidmokciofaaGreatDoorKR04
import Derived.Test.YtcfmidmokciofaaGreatDoorKR20
namespace Go.Proofs.YtcfmidmokciofaaGreatDoor
open Go.RowKit Go.Gz
theorem dec_all (t : Bs) : ∀ e ∈ (decD t).2, chkE e = 0 ∧ okE e := fun e he => by
  by_cases h : (decD t).1 = 0
  · exact ⟨row_chk (decD_row h) he, decD_okE h e he⟩
  · rw [decD_bad h] at he;cases he
theorem leaf_sub (x : Ent) (text : Bs) : leafA x text = [] ∨ leafA x text = (decD ((text.drop x.off).take x.len)).2 := by
  unfold leafA;split
  · exact .inl rfl
  · split
    · exact .inl rfl
    · exact .inr rfl
theorem leaf_all (x : Ent) (text : Bs) : ∀ e ∈ leafA x text, chkE e = 0 ∧ okE e := fun e he => by
  rcases leaf_sub x text with h | h
  · rw [h] at he; cases he
  · rw [h] at he; exact dec_all _ e he
theorem leaf_len (x : Ent) (text : Bs) : 4 * (leafA x text).length ≤ text.length := by
  rcases leaf_sub x text with h | h
  · rw [h]; simp
  · rw [h];have := decD_len (s := (text.drop x.off).take x.len);rw [List.length_take, List.length_drop] at this;omega
theorem secT_len (s : Bs) (f n : Nat) : (secT s f n).length ≤ s.length := by
  unfold secT;rw [List.length_take, List.length_drop];omega
theorem es_pos {text : Bs} {F : Brk} {out : Ents} {x : Ent} (h : 0 < x.run) : entStep text (F, out) x = (F, out ++ [x]) := by unfold entStep; rw [if_pos h]
theorem es_neg {text : Bs} {F : Brk} {out : Ents} {x : Ent} (h : ¬ 0 < x.run) : entStep text (F, out) x = (deepF (hold F 8 (decide (0 < (leafA x text).length))) (leafA x text), out ++ leafA x text) := by unfold entStep; rw [if_neg h]
theorem fold_all (text : Bs) : ∀ (r : Ents) (F : Brk) (out : Ents), (∀ e ∈ r, chkE e = 0 ∧ okE e) → (∀ e ∈ out, chkE e = 0 ∧ okE e) → ∀ e ∈ (r.foldl (entStep text) (F, out)).2, chkE e = 0 ∧ okE e
  | [], _, _, _, h => h
  | x :: r, F, out, hr, h => by
    rw [List.foldl_cons];by_cases hx : 0 < x.run
    · rw [es_pos hx]
      exact fold_all text r _ _ (fun e he => hr e (by simp [he])) (fun e he => by
        rcases List.mem_append.1 he with g | g
        · exact h e g
        · rw [List.mem_singleton] at g; subst g; exact hr _ (by simp))
    · rw [es_neg hx]
      exact fold_all text r _ _ (fun e he => hr e (by simp [he])) (fun e he => by
        rcases List.mem_append.1 he with g | g
        · exact h e g
        · exact leaf_all x text e g)
theorem fold_len (text : Bs) (M : Nat) (hM : ∀ x, (leafA x text).length ≤ M) : ∀ (r : Ents) (F : Brk) (out : Ents), (r.foldl (entStep text) (F, out)).2.length ≤ out.length + r.length * (M + 1)
  | [], _, out => by simp
  | x :: r, F, out => by
    rw [List.foldl_cons, List.length_cons, Nat.add_mul];by_cases hx : 0 < x.run
    · rw [es_pos hx];have := fold_len text M hM r F (out ++ [x]);rw [List.length_append, List.length_singleton] at this;omega
    · rw [es_neg hx];have := fold_len text M hM r (deepF (hold F 8 (decide (0 < (leafA x text).length))) (leafA x text)) (out ++ leafA x text);have h2 := hM x;rw [List.length_append] at this;omega
theorem ent_all (s : Bs) (h : Hdr) (F : Brk) : ∀ e ∈ (entF s h F).2, chkE e = 0 ∧ okE e := by
  unfold entF;exact fold_all _ _ _ _ (dec_all _) (fun e he => by cases he)
theorem ent_len (s : Bs) (hs : s.length ≤ 3000) (h : Hdr) (F : Brk) : (decD (secT s h.r0 h.r1)).2.length * (750 + 1) ≤ 600000 ∧ (entF s h F).2.length ≤ 600000 ∧ ∀ x, (leafA x (secT s h.l0 h.l1)).length ≤ 750 := by
  have h1 := decD_len (s := secT s h.r0 h.r1);have h2 := secT_len s h.r0 h.r1;have h3 : ∀ x, (leafA x (secT s h.l0 h.l1)).length ≤ 750 := fun x => by
    have := leaf_len x (secT s h.l0 h.l1);have := secT_len s h.l0 h.l1;omega
  have h4 : (decD (secT s h.r0 h.r1)).2.length * (750 + 1) ≤ 600000 := by omega
  refine ⟨h4, ?_, h3⟩;unfold entF;have := fold_len (secT s h.l0 h.l1) 750 h3 (decD (secT s h.r0 h.r1)).2 (hold F 7 (decide ((decD (secT s h.r0 h.r1)).1 = 0))) [];rw [List.length_nil] at this;omega
/-! which rules a step may break -/
theorem hold_ne (F : Brk) (r : Nat) (g : Bool) {q : Nat} (h : q ≠ r) : hold F r g q = F q := by
  unfold hold;split
  · rfl
  · simp [h]
theorem deep_ne (F : Brk) (l : Ents) {q : Nat} (h : q ≠ 9) : deepF F l q = F q := by
  unfold deepF;induction l generalizing F with
  | nil => rfl
  | cons x l ih => rw [List.foldl_cons, ih, hold_ne _ _ _ h]
theorem fold_ne (text : Bs) {q : Nat} (h8 : q ≠ 8) (h9 : q ≠ 9) : ∀ (r : Ents) (F : Brk) (out : Ents), (r.foldl (entStep text) (F, out)).1 q = F q
  | [], _, _ => rfl
  | x :: r, F, out => by
    rw [List.foldl_cons];by_cases hx : 0 < x.run
    · rw [es_pos hx];exact fold_ne text h8 h9 r _ _
    · rw [es_neg hx, fold_ne text h8 h9 r _ _, deep_ne _ _ h9, hold_ne _ _ _ h8]
theorem ent_ne (s : Bs) (h : Hdr) (F : Brk) {q : Nat} (h7 : q ≠ 7) (h8 : q ≠ 8) (h9 : q ≠ 9) : (entF s h F).1 q = F q := by
  unfold entF;rw [fold_ne _ h8 h9, hold_ne _ _ _ h7]
theorem rows1_ne (data : Bs) {q : Nat} (h10 : q ≠ 10) (h11 : q ≠ 11) (h12 : q ≠ 12) : ∀ (l : Ents) (F : Brk) (p : Option Ent), rowsF1 data F p l q = F q
  | [], _, _ => rfl
  | e :: r, F, p => by
    rw [rowsF1, rows1_ne data h10 h11 h12 r _ _, hold_ne _ _ _ h11];cases p with
    | none => rfl
    | some a =>
      show hold (hold F 10 _) 12 _ q = F q
      rw [hold_ne _ _ _ h12, hold_ne _ _ _ h10]
theorem onceF_ne {q : Nat} (h : q ≠ 13) : ∀ (P : List (Nat × Nat)) (F : Brk) (e : Nat), (onceF F e P).1 q = F q
  | [], _, _ => rfl
  | p :: r, F, e => by rw [onceF, onceF_ne h r, hold_ne _ _ _ h]
theorem row_ne (s : Bs) (h : Hdr) (l : Ents) (F : Brk) {q : Nat} (hq : q < 10 ∨ 15 < q) : rowF s h l F q = F q := by
  unfold rowF;rw [hold_ne _ _ _ (by omega), hold_ne _ _ _ (by omega)];split
  · unfold onceA;rw [hold_ne _ _ _ (by omega), onceF_ne (by omega), rows1_ne _ (by omega) (by omega) (by omega)]
  · rw [rows1_ne _ (by omega) (by omega) (by omega)]
theorem sec_ne (s : Bs) (h : Hdr) (b : Int) {q : Nat} (hq : q < 2 ∨ 6 < q) : secF s h b q = 0 := by
  unfold secF;rw [hold_ne _ _ _ (by omega), hold_ne _ _ _ (by omega), hold_ne _ _ _ (by omega), hold_ne _ _ _ (by omega), hold_ne _ _ _ (by omega)];rfl
/-- the walk's own form of it -/
def checkG (s : Bs) (h : Hdr) (b : Int) : Brk :=
  if (entF s h (secF s h b)).1 7 + (entF s h (secF s h b)).1 8 + (entF s h (secF s h b)).1 9 = 0 then rowF s h (entF s h (secF s h b)).2 (entF s h (secF s h b)).1 else (entF s h (secF s h b)).1
/-- which rules may be broken together -/
theorem check_keys (s : Bs) (h : Hdr) (b : Int) (q : Nat) (hq : 0 < checkG s h b q) : 2 ≤ q ∧ q ≤ 15 := by
  unfold checkG at hq;split at hq
  · by_cases h1 : q < 10 ∨ 15 < q
    · rw [row_ne _ _ _ _ h1] at hq;by_cases h2 : q = 7 ∨ q = 8 ∨ q = 9
      · omega
      · rw [ent_ne _ _ _ (by omega) (by omega) (by omega)] at hq;by_cases h3 : q < 2 ∨ 6 < q
        · rw [sec_ne _ _ _ h3] at hq; omega
        · omega
    · omega
  · by_cases h2 : q = 7 ∨ q = 8 ∨ q = 9
    · omega
    · rw [ent_ne _ _ _ (by omega) (by omega) (by omega)] at hq;by_cases h3 : q < 2 ∨ 6 < q
      · rw [sec_ne _ _ _ h3] at hq; omega
      · omega
/-- twelve at most -/
theorem check_few (s : Bs) (h : Hdr) (b : Int) (KS : List Nat) (hn : KS.Nodup) (hk : ∀ r ∈ KS, 0 < checkG s h b r) : KS.length ≤ 12 := by
  by_cases hz : (entF s h (secF s h b)).1 7 + (entF s h (secF s h b)).1 8 + (entF s h (secF s h b)).1 9 = 0
  · refine Nat.le_trans (List.Nodup.length_le_of_subset hn (fun r hr => ?_ : KS ⊆ [2, 3, 4, 5, 6, 10, 11, 12, 13, 14, 15])) (by decide);have h1 := check_keys s h b r (hk r hr);have h2 := hk r hr;unfold checkG at h2;rw [if_pos hz] at h2;have h3 : r ≠ 7 ∧ r ≠ 8 ∧ r ≠ 9 := by
      refine ⟨fun e => ?_, fun e => ?_, fun e => ?_⟩ <;> (subst e; rw [row_ne _ _ _ _ (by omega)] at h2; omega)
    simp only [List.mem_cons, List.not_mem_nil, or_false];omega
  · refine Nat.le_trans (List.Nodup.length_le_of_subset hn (fun r hr => ?_ : KS ⊆ [2, 3, 4, 5, 6, 7, 8, 9])) (by decide);have h1 := check_keys s h b r (hk r hr);have h2 := hk r hr;unfold checkG at h2;rw [if_neg hz] at h2;have h3 : ¬ 9 < r := fun h9 => by
      rw [ent_ne _ _ _ (by omega) (by omega) (by omega), sec_ne _ _ _ (by omega)] at h2;omega
    simp only [List.mem_cons, List.not_mem_nil, or_false];omega
/-- nothing behind the root's rule -/
theorem check_root (s : Bs) (h : Hdr) (b : Int) (h7 : 0 < checkG s h b 7) (q : Nat) (hq : 7 < q) : checkG s h b q = 0 := by
  have hnz : ¬ (entF s h (secF s h b)).1 7 + (entF s h (secF s h b)).1 8 + (entF s h (secF s h b)).1 9 = 0 := fun hz => by
    unfold checkG at h7;rw [if_pos hz, row_ne _ _ _ _ (by omega)] at h7;omega
  unfold checkG at h7 ⊢;rw [if_neg hnz] at h7 ⊢;have hd : (decD (secT s h.r0 h.r1)).1 ≠ 0 := fun hd => by
    unfold entF at h7;rw [fold_ne _ (by omega) (by omega), hold_true _ 7 (by simp [hd]), sec_ne _ _ _ (by omega)] at h7;omega
  unfold entF;rw [decD_bad hd, List.foldl_nil];show hold (secF s h b) 7 _ q = 0
  rw [hold_ne _ _ _ (by omega), sec_ne _ _ _ (by omega)]
/-! two budgets -/
def Ag (F G : Brk) : Prop := ∀ q, q ≠ 6 → F q = G q
theorem Ag.hold {F G : Brk} (h : Ag F G) (r : Nat) (g : Bool) : Ag (hold F r g) (hold G r g) := fun q hq => by
  unfold Go.Proofs.YtcfmidmokciofaaGreatDoor.hold;split
  · exact h q hq
  · simp only;split
    · rw [h q hq]
    · exact h q hq
theorem Ag.deep {F G : Brk} (h : Ag F G) (l : Ents) : Ag (deepF F l) (deepF G l) := by
  unfold deepF;induction l generalizing F G with
  | nil => exact h
  | cons x l ih => exact ih (h.hold 9 _)
theorem Ag.fold (text : Bs) : ∀ (r : Ents) {F G : Brk} (out : Ents), Ag F G → Ag (r.foldl (entStep text) (F, out)).1 (r.foldl (entStep text) (G, out)).1 ∧ (r.foldl (entStep text) (F, out)).2 = (r.foldl (entStep text) (G, out)).2
  | [], _, _, _, h => ⟨h, rfl⟩
  | x :: r, F, G, out, h => by
    rw [List.foldl_cons, List.foldl_cons];by_cases hx : 0 < x.run
    · rw [es_pos hx, es_pos hx];exact Ag.fold text r _ h
    · rw [es_neg hx, es_neg hx];exact Ag.fold text r _ ((h.hold 8 _).deep _)
theorem Ag.rows1 (data : Bs) : ∀ (l : Ents) {F G : Brk} (p : Option Ent), Ag F G → Ag (rowsF1 data F p l) (rowsF1 data G p l)
  | [], _, _, _, h => h
  | e :: r, F, G, p, h => by
    rw [rowsF1, rowsF1];refine Ag.rows1 data r _ (Ag.hold ?_ 11 _);cases p with
    | none => exact h
    | some a => exact (h.hold 10 _).hold 12 _
theorem Ag.once : ∀ (P : List (Nat × Nat)) {F G : Brk} (e : Nat), Ag F G → Ag (onceF F e P).1 (onceF G e P).1 ∧ (onceF F e P).2 = (onceF G e P).2
  | [], _, _, _, h => ⟨h, rfl⟩
  | p :: r, F, G, e, h => by rw [onceF, onceF]; exact Ag.once r _ (h.hold 13 _)
theorem Ag.row {F G : Brk} (h : Ag F G) (s : Bs) (hd : Hdr) (l : Ents) : Ag (rowF s hd l F) (rowF s hd l G) := by
  have h1 := Ag.rows1 (secT s hd.d0 hd.d1) l none h;unfold rowF;refine (Ag.hold ?_ 14 _).hold 15 _;rw [h1 11 (by decide)];split
  · unfold onceA;obtain ⟨h2, h3⟩ := Ag.once (srtP l) 0 h1;rw [h3];exact h2.hold 13 _
  · exact h1
theorem Ag.sec (s : Bs) (h : Hdr) (b b2 : Int) : Ag (secF s h b) (secF s h b2) := fun q hq => by
  unfold secF;rw [hold_ne _ 6 _ hq, hold_ne _ 6 _ hq]
theorem Ag.check (s : Bs) (h : Hdr) (b b2 : Int) : Ag (checkG s h b) (checkG s h b2) := by
  have h1 : Ag (entF s h (secF s h b)).1 (entF s h (secF s h b2)).1 ∧ (entF s h (secF s h b)).2 = (entF s h (secF s h b2)).2 := by
    unfold entF;exact Ag.fold _ _ _ ((Ag.sec s h b b2).hold 7 _)
  obtain ⟨h1, h2⟩ := h1;unfold checkG;rw [h1 7 (by decide), h1 8 (by decide), h1 9 (by decide), h2];split
  · exact h1.row s h _
  · exact h1
theorem check_six (s : Bs) (h : Hdr) (b b2 : Int) (hb : b ≤ b2) (h6 : 0 < checkG s h b2 6) : 0 < checkG s h b 6 := by
  have e : ∀ b, checkG s h b 6 = secF s h b 6 := fun b => by
    unfold checkG;split
    · rw [row_ne _ _ _ _ (by omega), ent_ne _ _ _ (by omega) (by omega) (by omega)]
    · rw [ent_ne _ _ _ (by omega) (by omega) (by omega)]
  rw [e] at h6 ⊢;unfold secF at h6 ⊢;generalize Go.Proofs.YtcfmidmokciofaaGreatDoor.hold (Go.Proofs.YtcfmidmokciofaaGreatDoor.hold (Go.Proofs.YtcfmidmokciofaaGreatDoor.hold (Go.Proofs.YtcfmidmokciofaaGreatDoor.hold zB 2 _) 3 _) 4 _) 5 _ = F at *;unfold Go.Proofs.YtcfmidmokciofaaGreatDoor.hold at h6 ⊢;by_cases g : (0 ≤ b ∧ (h.r1 : Int) ≤ b)
  · have g2 : 0 ≤ b2 ∧ (h.r1 : Int) ≤ b2 := by omega
    rw [if_pos (by simpa using g)];rw [if_pos (by simpa using g2)] at h6;exact h6
  · rw [if_neg (by simpa using g)];simp
end Go.Proofs.YtcfmidmokciofaaGreatDoor
