/- Walk: each text once, one behind the other (an audit's once). -/
import Derived.Test.YtcfmidmokciofaaGreatDoorKR22
import Derived.Test.YtcfmidmokciofaaGreatDoorKR14
import Derived.Test.YtcfmidmokciofaaGreatDoorKR18
import Derived.Test.YtcfmidmokciofaaGreatDoorKR16
import Derived.Test.YtcfmidmokciofaaGreatDoorKR06
namespace Go.Proofs.YtcfmidmokciofaaGreatDoor
open Go.RowKit Go.Gz Go.Maps
set_option maxRecDepth 100000
section
variable {w w' : World} {B m c : Nat} {s : Bs} {h : Hdr} {F : Brk}
theorem cell_tw {a b : World} {S : List Nat} (t : Tw S a b) {p : Addr} {v : Value} (hv : a.cell? p = some v) (hp : p.block ∉ S) : b.cell? p = some v := by
  have hlt := World.block_lt_of_cell? _ _ hv;unfold World.cell? at hv ⊢;rw [t.block p.block hlt hp];exact hv
theorem AuR.grown (a : AuR w B m s h c F) {r : Nat} (g : w.grownBy w' (some r)) (hB : B ≠ r) (hm : m ≠ r) : AuR w' B m s h c F := by
  obtain ⟨D, ⟨es, clock, hb, rest⟩, h2, h3⟩ := a.map;exact ⟨(g.block B a.lt.1 (by simp only [ne_eq, Option.some.injEq]; exact fun e => hB e)).trans a.blk, ⟨D, ⟨es, clock, (g.block m a.lt.2 (by simp only [ne_eq, Option.some.injEq]; exact fun e => hm e)).trans hb, rest⟩, h2, h3⟩, a.ne⟩
theorem Tw.fresh {S : List Nat} {a b c : World} {r : Nat} (h : Tw S a b) (g : b.grownBy c (some r)) (hr : a.heap.size ≤ r) : Tw S a c :=
  ⟨g.os.trans h.os, g.tape.trans h.tape, g.output.trans h.output, Nat.le_trans h.size g.size, fun q hq hn => (g.block q (Nat.lt_of_lt_of_le hq h.size) (by simp only [ne_eq, Option.some.injEq]; intro e; omega)).trans (h.block q hq hn)⟩
theorem se_tw {M Bd : Nat} {S : List Bs} (q : SeOK w M S Bd) (t : Tw [m] w w') (hm : M ≠ m) : SeOK w' M S Bd := by
  obtain ⟨es, h1, h2⟩ := q;exact ⟨es, t.obj h1 (by simpa using hm), h2⟩
end
def txtP (data : Bs) (p : Nat × Nat) : Bs := (data.drop p.1).take p.2
/-- the loop over the places -/
def OnR (w : World) (B m c MP : Nat) (s : Bs) (h : Hdr) (data : Bs) (P : List (Nat × Nat)) (D : Brk × Nat) (gk : Nat) (v i : Value) (wr : World) : Prop :=
  ∃ (k E : Nat) (F : Brk), k + gk = P.length ∧ v = .int .u64 (E : Int) ∧ i = .int .i64 (k : Int) ∧ AuR wr B m s h (c + k) F ∧ onceF F E (P.drop k) = D ∧ SeOK wr MP (((P.take k).map (txtP data)).foldl addC []) k ∧ Tw [m] w wr
theorem add_mem : ∀ (l acc : List Bs) (N : Nat), (∀ x ∈ l, x.length ≤ N) → (∀ x ∈ acc, x.length ≤ N) → ∀ x ∈ l.foldl addC acc, x.length ≤ N
  | [], acc, N, _, h, x, hx => h x hx
  | y :: r, acc, N, h1, h2, x, hx => by
    refine add_mem r (addC acc y) N (fun z hz => h1 z (by simp [hz])) (fun z hz => ?_) x hx;unfold addC at hz;split at hz
    · exact h2 z hz
    · rcases List.mem_append.1 hz with g | g
      · exact h2 z g
      · rw [List.mem_singleton.1 g]; exact h1 y (by simp)
set_option maxHeartbeats 8000000 in
theorem aonce_any (B m c : Nat) (s : Bs) (h : Hdr) (F : Brk) (data : Bs) (hdl : data.length ≤ 1000000000) (P : List (Nat × Nat)) (hP : ∀ p ∈ P, p.1 + p.2 ≤ data.length ∧ p.2 ≤ 1000000) (hPl : P.length ≤ 1000000) (A : Option Addr) (cc : Nat) (hc : c ≤ 900000000) (w : World) (a : AuR w B m s h c F) (hr : Rd w 2 A P.length cc (plcV P)) :
    Calls Tryz.prog 83 #[.pointer (some ⟨B, 0, none⟩), .slice A P.length cc, .string ⟨data.toArray⟩] w fun e w' => (∃ v, e = .returned v) ∧ AuR w' B m s h (c + P.length + 1) (onceA data P F) ∧ Tw [m] w w' := by
  have HH := fun c r (hr : r < 256) z hz F g hc w a => Lib.hid (aholdz_any B m c s h F r hr z hz g hc w a);obtain ⟨D, hD⟩ : ∃ D, onceF F 0 P = D := ⟨_, rfl⟩;have hO : onceA data P F = hold D.1 13 (decide (D.2 = data.length ∧ (textsA data P).length = P.length)) := by unfold onceA; rw [hD]
  rw [hO];have hT : textsA data P = (P.map (txtP data)).foldl addC [] := rfl;rw [hT];have A0 := Lib.hid a;have R0 := Lib.hid hr;have hBm := a.lt;clear a hr hO hT;go_enter Tryz.func83, Tryz.ntmps83;have hmm := @run_makeMap Tryz.prog;go_wp2_with fail;clear hmm;go_loopg [6, 13] P.length (fun gk v i wr => OnR w B m c w.heap.size s h data P D gk v i wr)
  case atStart => exact ⟨0, 0, F, by omega, rfl, rfl, A0.out.up ((Up.refl w).alloc _), by rw [List.drop_zero]; exact hD, ⟨#[], heap_alloc_new w (.map #[] 0), ⟨by simp, by simp⟩, by intro i e he; simp at he⟩, Tw.up ((Up.refl w).alloc _)⟩
  case round =>
    obtain ⟨k, E, F1, hk, rfl, rfl, ha, hgo, hse, ht⟩ := hrel;have HA := Lib.hid ha;have HT := Lib.hid ht;have HS := Lib.hid hse;have hrr := A0.out.rd R0.out (fun hn => by have := R0.out.1; omega) ht;clear ha ht hse;by_cases hlt : k < P.length
    · obtain ⟨gn, rfl⟩ : ∃ x, gk = x + 1 := ⟨gk - 1, by omega⟩;obtain ⟨b, o, rfl, d0, d1⟩ := hrr.pl hlt;have hp := hP _ (List.getElem_mem hlt);have htk : P.take (k + 1) = P.take k ++ [P[k]] := List.take_succ_eq_append_getElem hlt;rw [List.drop_eq_getElem_cons hlt] at hgo;obtain ⟨⟨p1, p2⟩, hx⟩ : ∃ x, P[k] = x := ⟨_, rfl⟩;rw [hx] at d0 d1 hp hgo htk;simp only at d0 d1 hp;rw [onceF] at hgo;obtain ⟨q, hq⟩ : ∃ q, p1 + p2 = q := ⟨_, rfl⟩;rw [hq] at hgo;have x0 := part_mk data p1 p2 q hq;unfold Gz.part at x0;have hTX : (data.drop p1).take p2 = txtP data (p1, p2) := rfl;rw [hTX] at x0;have hTl : (txtP data (p1, p2)).length ≤ 1000000 := by unfold txtP; rw [List.length_take]; omega
      have hSl : ∀ z ∈ ((P.take k).map (txtP data)).foldl addC [], z.length ≤ 1000000 := add_mem _ _ _ (fun z hz => by
        obtain ⟨y, hy, rfl⟩ := List.mem_map.1 hz;have := hP y (List.mem_of_mem_take hy);unfold txtP; rw [List.length_take]; omega) (by simp)
      have hS2 : ((P.take (k + 1)).map (txtP data)).foldl addC [] = addC (((P.take k).map (txtP data)).foldl addC []) (txtP data (p1, p2)) := by rw [htk, List.map_append, List.foldl_append]; rfl
      generalize hS : ((P.take k).map (txtP data)).foldl addC [] = SS at *;generalize hTT : txtP data (p1, p2) = TT at *;have HG := Lib.hid hgo;have kI : (k : Int) < (P.length : Int) := by omega
      have eq13 : ((p1 : Int) == (E : Int)) = decide (p1 = E) := by rw [Bool.eq_iff_iff]; simp; omega
      have hun : Up wr (wr.alloc (.cells #[.int .u64 (p1 : Int), .int .u32 (p2 : Int)] 169)) := (Up.refl wr).alloc _;have z0 : (wr.alloc (.cells #[.int .u64 (p1 : Int), .int .u32 (p2 : Int)] 169)).cell? ⟨wr.heap.size, 0, none⟩ = some (.int .u64 (p1 : Int)) := by simp
      have z1 : (wr.alloc (.cells #[.int .u64 (p1 : Int), .int .u32 (p2 : Int)] 169)).cell? ⟨wr.heap.size, 1, none⟩ = some (.int .u32 (p2 : Int)) := by simp
      have hwm : wr.heap.size ≠ m := by have := HA.out.lt.2; omega
      have A1 := Lib.hid (HA.out.up hun);have S1 := Lib.hid (se_up HS.out hun);have T1 := Lib.hid (HT.out.trans (Tw.up hun));have Z0 := Lib.hid z0;have Z1 := Lib.hid z1;have AE := fun w => Lib.hid (aend_any p1 p2 (by omega) w);rw [hq] at AE;have b1 : (p1 : Int) ≤ (q : Int) := by omega
      have b2 : (q : Int) ≤ (data.length : Int) := by omega
      clear hun hgo hrr hx HA HT HS;go_wp2_with (go_at_call 71; (with_reducible refine (HH _ 13 (by decide) 13 rfl F1 _ (by omega) _ A1.out).out.mono ?_); rintro e w2 ⟨⟨v2, rfl⟩, a2, t2⟩; have A2 := Lib.hid a2; have S2 := Lib.hid (se_tw S1.out t2 (by omega)); have T2 := Lib.hid (T1.out.trans t2); have z0 := cell_tw t2 Z0.out (by simpa using hwm); have z1 := cell_tw t2 Z1.out (by simpa using hwm); clear a2 t2 A1 S1 T1)
      with_reducible refine (AE _).out.mono ?_
      rintro e w3 ⟨rfl, hu3⟩;have A3 := Lib.hid (A2.out.up hu3);have S3 := Lib.hid (se_up S2.out hu3);have T3 := Lib.hid (T2.out.trans (Tw.up hu3));have y0 := hu3.cell z0;obtain ⟨n, w4, hn0, hnB, l1, l3, hg4, hc4⟩ := se_step S3.out hSl TT hTl;rw [← hS2] at hc4;have e1 : IntKind.i64.wrap ((n : Int) + 1) = (n : Int) + 1 := IntWalk.i64_in _ (by omega);rw [show (((n + 1 : Nat)) : Int) = (n : Int) + 1 by omega] at l3;simp only [lookT, strV] at l1 l3;have A4 := Lib.hid (A3.out.grown hg4 (by have := hBm.1; omega) (by have := hBm.2; omega));have S4 := Lib.hid hc4;have T4 := Lib.hid (T3.out.fresh hg4 (Nat.le_refl _));clear hc4 hg4 hn0 hnB A2 S2 T2 A3 S3 T3 z1 Z0 Z1 d0 d1 hu3 z0 eq13;go_wp2_with fail;go_roundg gn
      case measure => omega
      case rel => exact ⟨k + 1, q, _, by omega, rfl, by go_num, A4.out, HG.out, S4.out, T4.out⟩
    · obtain rfl : k = P.length := by omega
      obtain rfl : gk = 0 := by omega
      rw [List.drop_length] at hgo;have hgo : (F1, E) = D := hgo;subst hgo;rw [List.take_length] at HS;obtain ⟨es, hb1, hb2, hb3⟩ := HS.out;have hsz := se_size hb2;obtain ⟨SS, hSS⟩ : ∃ SS, ((P.map (txtP data)).foldl addC []) = SS := ⟨_, rfl⟩;rw [hSS] at hb1 hb2 hsz;have HSS := Lib.hid hSS;clear hSS;have kI : ¬ (P.length : Int) < (P.length : Int) := by omega
      have ht := Tryz.underlying240;have hlen : ∀ ty : TypeId, (Builtin.len_ #[240] ty #[.map (some w.heap.size)]).run Tryz.prog wr = .ok (.int .i64 (SS.length : Int)) wr := fun ty => by
        simp [Builtin.len_, run_underlying ht, MapKept.run_getObj_map hb1, hsz, goInt, Result.andThen]
      have eE : ((E : Int) == (data.length : Int)) = decide (E = data.length) := by rw [Bool.eq_iff_iff]; simp; omega
      have eL : ((SS.length : Int) == (P.length : Int)) = decide (SS.length = P.length) := by rw [Bool.eq_iff_iff]; simp; omega
      clear hlt hb2 hb3 HS hb1 hgo ht;by_cases hE : E = data.length
      · subst hE;go_wp2_with (go_at_call 71; (with_reducible refine (HH _ 13 (by decide) 13 rfl F1 _ (by omega) _ HA.out).out.mono ?_); rintro e w2 ⟨⟨v2, rfl⟩, a2, t2⟩)
        go_end0
        exact ⟨⟨_, rfl⟩, (by rw [HSS.out]; exact a2), HT.out.trans t2⟩
      · have hEf : decide (E = data.length) = false := by simpa using hE
        rw [hEf] at eE;go_wp2_with (go_at_call 71; (with_reducible refine (HH _ 13 (by decide) 13 rfl F1 _ (by omega) _ HA.out).out.mono ?_); rintro e w2 ⟨⟨v2, rfl⟩, a2, t2⟩)
        go_end0
        exact ⟨⟨_, rfl⟩, a2, HT.out.trans t2⟩
end Go.Proofs.YtcfmidmokciofaaGreatDoor
/- Walks: two places compared; a map of places as the kit's laws want it. -/
namespace Go.Proofs.YtcfmidmokciofaaGreatDoor
open Go.RowKit Go.Gz Go.Maps
set_option maxRecDepth 100000
/-- two places differ -/
def neP (a1 a2 b1 b2 : Nat) : Bool := decide (¬ (a1 = b1 ∧ a2 = b2))
theorem neP_run (a1 a2 b1 b2 : Nat) (w : World) : (binOp .neq 169 (.agg #[.int .u64 (a1 : Int), .int .u32 (a2 : Int)]) (.agg #[.int .u64 (b1 : Int), .int .u32 (b2 : Int)])).run Tryz.prog w = .ok (.bool (neP a1 a2 b1 b2)) w := by
  have ht : Tryz.prog.underlying 169 = some (.struct (Tryz.prog.fieldsOf 169)) := by kernel_rfl
  have hp : Tryz.prog.stoodInHeld 169 = false := by kernel_rfl
  have hf : (Tryz.prog.fieldsOf 169).toList.map (fun f => (f.name == "_", f.type, f.offset)) = [(false, 54, 0), (false, 70, 1)] := by kernel_rfl
  have hs : Tryz.prog.cellsOf 54 = 1 := by kernel_rfl
  have hs2 : Tryz.prog.cellsOf 70 = 1 := by kernel_rfl
  have hu := Tryz.underlying54;have hu2 := Tryz.underlying70;rw [run_neq_struct, run_equalIn_agg w 9999 _ _ _ ht hp];generalize (Tryz.prog.fieldsOf 169).toList = fs at hf ⊢;rcases fs with _ | ⟨f, _ | ⟨g, _ | ⟨_, _⟩⟩⟩
  · simp at hf
  · simp at hf
  · simp only [List.map_cons, List.map_nil, List.cons.injEq, Prod.mk.injEq, and_true] at hf;obtain ⟨⟨h1, h2, h3⟩, h4, h5, h6⟩ := hf;have n1 : f.name ≠ "_" := by simpa using h1
    have n2 : g.name ≠ "_" := by simpa using h4
    have e := fun a b => run_equalIn_int (P := Tryz.prog) w 9998 54 .u64 .u64 a b hu;have e2 := fun a b => run_equalIn_int (P := Tryz.prog) w 9998 70 .u32 .u32 a b hu2;simp only [Op.eqFields, h2, h3, h5, h6, if_pos n1, if_pos n2];unfold neP;have qb : ∀ a b : Nat, ((a : Int) == (b : Int)) = decide (a = b) := fun a b => by
      rw [Bool.eq_iff_iff, beq_iff_eq, decide_eq_true_eq]; exact Int.ofNat_inj
    by_cases q1 : a1 = b1 <;> by_cases q2 : a2 = b2 <;> simp [e, e2, qb, q1, q2, part, Result.andThen]
  · simp at hf
/-- a map of places, as the laws on maps want it -/
theorem con_own {w : World} {M : Nat} {S : List (Nat × Nat)} (h : Plc.ConOK w M S) (hn : S.Nodup) (hb : ∀ q ∈ S, q.1 < 18446744073709551616 ∧ q.2 < 4294967296) (hl : S.length ≤ 1000000) :
    ∃ D, w.ownsMap Tryz.prog 169 (fun _ => some (.lit (.int .i64 0), []) : Value → Option (DataW Unit × List MemPlace)) M S.length D ∧ MapK w M (S.map pcV) := by
  obtain ⟨es, hm, hc⟩ := h;have hs := Plc.con_size hc;have hk := Plc.con_keys hc hb;refine ⟨_, ⟨es, S.length, hm, ⟨by rw [hs]; unfold maxLen; omega, ⟨fun x hx => ?_, Plc.con_born hc, ?_⟩, fun x hx => ?_⟩, by rw [hs]; exact Nat.le_refl _, rfl⟩, es, S.length, hm, ?_⟩
  · obtain ⟨i, hi, rfl⟩ := List.getElem_of_mem hx;rw [(hc.2 i _ (List.getElem?_eq_getElem hi)).1];have : es.toList.length = S.length := by simpa using hs
    omega
  · rw [show (es.toList.map (·.key)) = S.map Plc.keyV from hc.1];exact List.Pairwise.map Plc.keyV (fun a b hab e => hab (Plc.keyV_inj e)) hn
  · obtain ⟨l, hl⟩ := hk x hx;exact ⟨_, by unfold Go.WideElems.rd; rw [hl]; rfl⟩
  · rw [show (es.toList.map (fun e => e.key)) = S.map Plc.keyV from hc.1];rfl
theorem pl_snoc (l : Ents) (e : Ent) : plA (l ++ [e]) = if (e.off, e.len) ∈ plA l then plA l else plA l ++ [(e.off, e.len)] := by
  unfold plA;rw [List.foldl_append];rfl
theorem pl_mem (l : Ents) : ∀ q ∈ plA l, ∃ e ∈ l, q = (e.off, e.len) := by
  induction l using snoc_ind with
  | h0 => intro q hq; simp [plA] at hq
  | h1 l x ih =>
    intro q hq;rw [pl_snoc] at hq;split at hq
    · obtain ⟨e, he, h⟩ := ih q hq;exact ⟨e, by simp [he], h⟩
    · rcases List.mem_append.1 hq with g | g
      · obtain ⟨e, he, h⟩ := ih q g;exact ⟨e, by simp [he], h⟩
      · rw [List.mem_singleton] at g;exact ⟨x, by simp, g⟩
theorem pl_nodup (l : Ents) : (plA l).Nodup := by
  induction l using snoc_ind with
  | h0 => simp [plA]
  | h1 l x ih =>
    rw [pl_snoc];split
    · exact ih
    · rename_i hn;rw [List.nodup_append];exact ⟨ih, by simp, fun a ha b hb => by rw [List.mem_singleton] at hb; subst hb; rintro rfl; exact hn ha⟩
theorem pl_len (l : Ents) : (plA l).length ≤ l.length := by
  induction l using snoc_ind with
  | h0 => simp [plA]
  | h1 l x ih =>
    rw [pl_snoc];split <;> simp <;> omega
end Go.Proofs.YtcfmidmokciofaaGreatDoor
/- Walk: the audit's rules of the rows. -/
namespace Go.Proofs.YtcfmidmokciofaaGreatDoor
open Go.RowKit Go.Gz Go.Maps
set_option maxRecDepth 100000
attribute [local go_sem ↓] neP_run
def sumR (l : Ents) : Nat := (l.map fun e => e.run).sum
/-- the loop over the rows -/
def RwR (w : World) (B m c MP : Nat) (s : Bs) (h : Hdr) (data : Bs) (l : Ents) (D : Brk) (gk : Nat) (v i : Value) (wr : World) : Prop :=
  ∃ (k : Nat) (F : Brk), k + gk = l.length ∧ v = .int .u64 (sumR (l.take k) : Int) ∧ i = .int .i64 (k : Int) ∧ AuR wr B m s h (c + 3 * k) F ∧ rowsF1 data F (l.take k).getLast? (l.drop k) = D ∧ Plc.ConOK wr MP (plA (l.take k)) ∧ Tw [m] w wr
theorem con_tw {w w' : World} {m M : Nat} {S : List (Nat × Nat)} (q : Plc.ConOK w M S) (t : Tw [m] w w') (hm : M ≠ m) : Plc.ConOK w' M S := by
  obtain ⟨es, h1, h2⟩ := q;exact ⟨es, t.obj h1 (by simpa using hm), h2⟩
theorem con_upP {w w' : World} {M : Nat} {S : List (Nat × Nat)} (q : Plc.ConOK w M S) (u : Up w w') : Plc.ConOK w' M S := by
  obtain ⟨es, h1, h2⟩ := q;exact ⟨es, u.obj h1, h2⟩
theorem cell_gr {a b : World} {r : Nat} (g : a.grownBy b (some r)) {p : Addr} {v : Value} (hv : a.cell? p = some v) (hp : p.block ≠ r) : b.cell? p = some v :=
  cell_tw (S := [r]) (Tw.grown g (by simp)) hv (by simpa using hp)
theorem sum_le (l : Ents) (h : ∀ e ∈ l, okE e) : sumR l ≤ l.length * 4294967295 := by
  unfold sumR;induction l with
  | nil => simp
  | cons x r ih =>
    have h1 := (h x (by simp)).2.2.2;have h2 := ih fun e he => h e (by simp [he]);simp only [List.map_cons, List.sum_cons, List.length_cons];omega
set_option maxHeartbeats 16000000 in
theorem arows_any (B m c : Nat) (s : Bs) (hs : s.length ≤ 1000000000) (h : Hdr) (F : Brk) (hdl : (secT s h.d0 h.d1).length ≤ 1000000) (hd0 : h.d0 + h.d1 ≤ 1099511627776) (l : Ents) (hck : ∀ e ∈ l, chkE e = 0) (hok : ∀ e ∈ l, okE e) (hll : l.length ≤ 900000) (A : Option Addr) (cc : Nat) (hc : c ≤ 500000000) (w : World) (a : AuR w B m s h c F) (hr : Rd w 4 A l.length cc (entV l)) :
    Calls Tryz.prog 34 #[.pointer (some ⟨B, 0, none⟩), .slice A l.length cc] w fun e w' => (∃ v, e = .returned v) ∧ AuR w' B m s h (c + 5 * l.length + 10) (rowF s h l F) ∧ Tw [m] w w' := by
  have HH := fun c r (hr : r < 256) z hz F g hc w a => Lib.hid (aholdz_any B m c s h F r hr z hz g hc w a);have TX := fun w3 c3 F3 (a3 : AuR w3 B m s h c3 F3) => Lib.hid (atext_any B m c3 s (by omega) h F3 h.d0 h.d1 hd0 w3 a3);have c1 : w.cell? ⟨B, 7, none⟩ = some (.int .u64 (h.d0 : Int)) := a.at rfl;have c2 : w.cell? ⟨B, 8, none⟩ = some (.int .u64 (h.d1 : Int)) := a.at rfl;obtain ⟨FF, hFF⟩ : ∃ x, rowF s h l F = x := ⟨_, rfl⟩;rw [hFF];unfold rowF at hFF;have hsr : (l.map fun e => e.run).sum = sumR l := rfl;simp only [hsr] at hFF;clear hsr;obtain ⟨D, hD⟩ : ∃ x, rowsF1 (secT s h.d0 h.d1) F none l = x := ⟨_, rfl⟩;rw [hD] at hFF;have HFF := Lib.hid hFF;have HD := Lib.hid hD;have HD0 := Lib.hid hD;have A0 := Lib.hid a;have R0 := Lib.hid hr;have hBm := a.lt;clear a hr hFF hD;have hmm := @run_makeMap Tryz.prog;go_enter Tryz.func34, Tryz.ntmps34;go_wp2_with fail;with_reducible refine (TX _ _ _ A0.out).out.mono ?_
  rintro e w1 ⟨rfl, hu1⟩;have A1 := Lib.hid (A0.out.up hu1);have R1 := Lib.hid (R0.out.up hu1);have T1 := Lib.hid (Tw.up (S := [m]) hu1);have hB1 : B < w1.heap.size ∧ m < w1.heap.size := A1.out.lt;clear hu1 c1 c2 TX A0 R0;go_wp2_with fail;clear hmm;generalize hdata : secT s h.d0 h.d1 = data at *;go_loopg [5, 24] l.length (fun gk v i wr => RwR w1 B m c w1.heap.size s h data l D gk v i wr)
  case atStart => exact ⟨0, F, by omega, rfl, rfl, A1.out.up ((Up.refl w1).alloc _), by rw [List.drop_zero]; exact HD.out, ⟨#[], heap_alloc_new w1 (.map #[] 0), ⟨by simp [plA], by intro i e he; simp at he⟩⟩, Tw.up ((Up.refl w1).alloc _)⟩
  case round =>
    obtain ⟨k, F1, hk, rfl, rfl, ha, hgo, hse, ht⟩ := hrel;have HA := Lib.hid ha;have HT := Lib.hid ht;have HS := Lib.hid hse;have hrr := A1.out.ents R1.out ht;clear ha ht hse;by_cases hlt : k < l.length
    · obtain ⟨gn, rfl⟩ : ∃ x, gk = x + 1 := ⟨gk - 1, by omega⟩;obtain ⟨b, o, rfl, d0, d1, d2, d3⟩ := hrr.ent hlt;have hmem := List.getElem_mem hlt;have hcx := hck _ hmem;have hox := hok _ hmem;have htk : l.take (k + 1) = l.take k ++ [l[k]] := List.take_succ_eq_append_getElem hlt;rw [List.drop_eq_getElem_cons hlt] at hgo;have hsl := sum_le (l.take k) fun e he => hok e (List.mem_of_mem_take he);rw [List.length_take] at hsl;have hml : min k l.length ≤ 900000 := by omega
      have hsb : sumR (l.take k) ≤ 3865470565500000 := Nat.le_trans hsl (Nat.le_trans (Nat.mul_le_mul_right _ hml) (by decide));clear hsl hml;have hSb : ∀ q ∈ plA (l.take k), q.1 < 18446744073709551616 ∧ q.2 < 4294967296 := fun q hq => by
        obtain ⟨e, he, rfl⟩ := pl_mem _ q hq;have := hok e (List.mem_of_mem_take he);exact ⟨this.2.1, this.2.2.1⟩
      obtain ⟨x, hx⟩ : ∃ x, l[k] = x := ⟨_, rfl⟩;rw [hx] at d0 d1 d2 d3 hcx hox hgo htk;obtain ⟨_, hxi, hxo⟩ := chk_ok hcx;have hpl := pl_snoc (l.take k) x;rw [← htk] at hpl;have hsum : sumR (l.take (k + 1)) = sumR (l.take k) + x.run := by rw [htk]; simp [sumR]
      have hpv : (l.take (k + 1)).getLast? = some x := by rw [htk]; simp
      rw [rowsF1] at hgo;rw [← hpv] at hgo;have HPL := Lib.hid hpl;have HSM := Lib.hid hsum;obtain ⟨nu, z0, z1, z2, z3⟩ := new4 wr 72 (.int .u64 (x.id : Int)) (.int .u64 (x.off : Int)) (.int .u32 (x.len : Int)) (.int .u32 (x.run : Int));have A2 := Lib.hid (HA.out.up nu);have S2 := Lib.hid (con_upP HS.out nu);have T2 := Lib.hid (HT.out.trans (Tw.up nu));have hnm : wr.heap.size ≠ m := by have := HA.out.lt.2; omega
      have AT := fun w => Lib.hid (aat_any x w);have AE := fun w => Lib.hid (aend_any x.off x.len (by omega) w);have hrun : x.run < 4294967296 := hox.2.2.2;simp only [entA] at AT;have kI : (k : Int) < (l.length : Int) := by omega
      obtain ⟨q, hq⟩ : ∃ q, x.off + x.len = q := ⟨_, rfl⟩;rw [hq] at AE hgo;have HG := Lib.hid hgo;have eq11 : decide ((q : Int) ≤ (data.length : Int)) = decide (q ≤ data.length) := by rw [decide_eq_decide]; omega
      have ew : IntKind.u64.wrap ((sumR (l.take k) : Int) + (x.run : Int)) = (sumR (l.take k) : Int) + (x.run : Int) := IntWalk.u64_in _ (by omega);have ew2 : IntKind.u64.wrap (x.run : Int) = (x.run : Int) := IntWalk.u64_in _ (by omega);have hMP : w1.heap.size < wr.heap.size := by obtain ⟨es, h, _⟩ := HS.out; exact (Array.getElem?_eq_some_iff.1 h).1
      have hnM : wr.heap.size ≠ w1.heap.size := by omega
      have hSb := Lib.hid hSb;by_cases hk0 : k = 0
      · have k0I : ¬ (0 : Int) < (k : Int) := by omega
        have hpf : prevF F1 (l.take k).getLast? x = F1 := by rw [hk0]; simp [prevF]
        have HPF := Lib.hid hpf;clear nu hpf hk0;go_wp2_with fail;with_reducible refine (AT _).out.mono ?_
        rintro e wa ⟨rfl, hua⟩;go_wp2_with fail;with_reducible refine (AE _).out.mono ?_
        rintro e wb ⟨rfl, hub⟩;have huab := hua.trans hub;have Ab := Lib.hid (A2.out.up huab);have Sb := Lib.hid (con_upP S2.out huab);have Tb := Lib.hid (T2.out.trans (Tw.up huab));have Z0 := Lib.hid (huab.cell z0);have Z1 := Lib.hid (huab.cell z1);have Z2 := Lib.hid (huab.cell z2);have Z3 := Lib.hid (huab.cell z3);clear hua hub huab z0 z1 z2 z3 A2 S2 T2 AE;go_wp2_with (go_at_call 71; (with_reducible refine (HH _ 11 (by decide) 11 rfl _ _ (by omega) _ Ab.out).out.mono ?_); rintro e w5 ⟨⟨v5, rfl⟩, a5, t5⟩; have A5 := Lib.hid a5; have S5 := Lib.hid (con_tw Sb.out t5 (by omega)); have T5 := Lib.hid (Tb.out.trans t5); have z0 := cell_tw t5 Z0.out (by simpa using hnm); have z1 := cell_tw t5 Z1.out (by simpa using hnm); have z2 := cell_tw t5 Z2.out (by simpa using hnm); have z3 := cell_tw t5 Z3.out (by simpa using hnm); clear a5 t5 Ab Sb Tb Z0 Z1 Z2 Z3 eq11)
        have hS5 : (fun w' : World => w'.cell? ⟨wr.heap.size, 0, none⟩ = some (.int .u64 (x.id : Int)) ∧ w'.cell? ⟨wr.heap.size, 1, none⟩ = some (.int .u64 (x.off : Int)) ∧ w'.cell? ⟨wr.heap.size, 2, none⟩ = some (.int .u32 (x.len : Int)) ∧ w'.cell? ⟨wr.heap.size, 3, none⟩ = some (.int .u32 (x.run : Int))) w5.drew := ⟨(Up.refl w5).drew.cell z0, (Up.refl w5).drew.cell z1, (Up.refl w5).drew.cell z2, (Up.refl w5).drew.cell z3⟩;clear z0 z1 z2 z3
        go_region_held3 (fun w' => w'.cell? ⟨wr.heap.size, 0, none⟩ = some (.int .u64 (x.id : Int)) ∧ w'.cell? ⟨wr.heap.size, 1, none⟩ = some (.int .u64 (x.off : Int)) ∧ w'.cell? ⟨wr.heap.size, 2, none⟩ = some (.int .u32 (x.len : Int)) ∧ w'.cell? ⟨wr.heap.size, 3, none⟩ = some (.int .u32 (x.run : Int)))
          (first | assumption | exact hS5)
          ((go_at_call 78; (with_reducible refine (AT _).out.mono ?_); rintro e w6 ⟨rfl, hu6⟩; obtain ⟨n, st, w7, l1, l2, l3, hg7, hst⟩ := Plc.con_step (con_upP S5.out ((Up.refl w5).drew.trans hu6)) hSb.out (x.off, x.len) hox.2.1 hox.2.2.1; obtain ⟨w8, l4, hg8, hc8⟩ := hst (IntKind.i64.wrap (n + 1)); simp only [Plc.lookC, Plc.keyV] at l1 l2 l3 l4; have S6 : (fun w' : World => w'.cell? ⟨wr.heap.size, 0, none⟩ = some (.int .u64 (x.id : Int)) ∧ w'.cell? ⟨wr.heap.size, 1, none⟩ = some (.int .u64 (x.off : Int)) ∧ w'.cell? ⟨wr.heap.size, 2, none⟩ = some (.int .u32 (x.len : Int)) ∧ w'.cell? ⟨wr.heap.size, 3, none⟩ = some (.int .u32 (x.run : Int))) w6 := ⟨hu6.cell hS5.1, hu6.cell hS5.2.1, hu6.cell hS5.2.2.1, hu6.cell hS5.2.2.2⟩; have S7 : (fun w' : World => w'.cell? ⟨wr.heap.size, 0, none⟩ = some (.int .u64 (x.id : Int)) ∧ w'.cell? ⟨wr.heap.size, 1, none⟩ = some (.int .u64 (x.off : Int)) ∧ w'.cell? ⟨wr.heap.size, 2, none⟩ = some (.int .u32 (x.len : Int)) ∧ w'.cell? ⟨wr.heap.size, 3, none⟩ = some (.int .u32 (x.run : Int))) w7 := ⟨cell_gr hg7 S6.1 hnM, cell_gr hg7 S6.2.1 hnM, cell_gr hg7 S6.2.2.1 hnM, cell_gr hg7 S6.2.2.2 hnM⟩; have S8 : (fun w' : World => w'.cell? ⟨wr.heap.size, 0, none⟩ = some (.int .u64 (x.id : Int)) ∧ w'.cell? ⟨wr.heap.size, 1, none⟩ = some (.int .u64 (x.off : Int)) ∧ w'.cell? ⟨wr.heap.size, 2, none⟩ = some (.int .u32 (x.len : Int)) ∧ w'.cell? ⟨wr.heap.size, 3, none⟩ = some (.int .u32 (x.run : Int))) w8 := ⟨cell_gr hg8 S7.1 hnM, cell_gr hg8 S7.2.1 hnM, cell_gr hg8 S7.2.2.1 hnM, cell_gr hg8 S7.2.2.2 hnM⟩; have A8 := Lib.hid (((A5.out.up ((Up.refl w5).drew.trans hu6)).grown hg7 (by omega) (by omega)).grown hg8 (by omega) (by omega)); have T8 := Lib.hid (((T5.out.trans (Tw.up ((Up.refl w5).drew.trans hu6))).fresh hg7 (Nat.le_refl _)).fresh hg8 (Nat.le_refl _)); have C8 := Lib.hid hc8; dsimp only at S6 S7 S8; clear hg7 hg8 hst hc8))
        all_goals
          obtain ⟨_, _, _, z3⟩ := S8;clear S6 S7 l1 l2 l3 l4 hS5;go_wp2_with fail;go_roundg gn
          case measure => omega
          case rel => exact ⟨k + 1, _, by omega, by go_num, by go_num, A8.out.low (by omega), (by have g := HG.out; rw [HPF.out] at g; exact g), (by rw [HPL.out]; exact C8.out), T8.out⟩
      · obtain ⟨p, hp⟩ : ∃ p, p + 1 = k := ⟨k - 1, by omega⟩;have hpl' : p < l.length := by omega
        have k0I : (0 : Int) < (k : Int) := by omega
        have kw : IntKind.i64.wrap ((k : Int) - 1) = (p : Int) := by rw [IntWalk.i64_in _ (by omega)]; omega
        have pI0 : (0 : Int) ≤ (p : Int) := by omega
        have pI : (p : Int) < (l.length : Int) := by omega
        obtain ⟨b2, o2, e2, f0, f1, f2, f3⟩ := hrr.ent hpl';injection e2 with e2;injection e2 with e2 e3;subst e2; subst e3;have hmy := List.getElem_mem hpl';have hcy := hck _ hmy;have hoy := hok _ hmy;have hgl : (l.take k).getLast? = some l[p] := by
          subst hp;rw [List.take_succ_eq_append_getElem hpl'];exact List.getLast?_concat
        obtain ⟨y, hy⟩ : ∃ y, l[p] = y := ⟨_, rfl⟩;rw [hy] at f0 f1 f2 f3 hcy hoy hgl;obtain ⟨_, hyi, hyo⟩ := chk_ok hcy;have hlw : lastE y ≤ 6004799503160661 := by unfold lastE; rw [if_pos hcy]; omega
        have hpf : prevF F1 (l.take k).getLast? x = hold (hold F1 10 (decide (lastE y < x.id))) 12 (decide (¬ (x.id = lastE y + 1 ∧ x.off = y.off ∧ x.len = y.len))) := by rw [hgl]; rfl
        have HPF := Lib.hid hpf;have LA := fun w => Lib.hid (last_any y hoy w);have AY := fun w => Lib.hid (aat_any y w);simp only [entA] at LA AY;have hbm : b ≠ m := fun e => HA.out.mcell m (by simp) _ _ (by rw [← e]; exact f0);have y0 := nu.cell f0;have y1 := nu.cell f1;have y2 := nu.cell f2;have y3 := nu.cell f3;have eq10 : decide ((lastE y : Int) < (x.id : Int)) = decide (lastE y < x.id) := by rw [decide_eq_decide]; omega
        have elw : IntKind.u64.wrap ((lastE y : Int) + 1) = (lastE y : Int) + 1 := IntWalk.u64_in _ (by omega);generalize hLy : lastE y = Ly at *;clear nu hpf hk0 f0 f1 f2 f3 hgl hy hmy hLy;go_wp2_with fail;with_reducible refine (LA _).out.mono ?_
        rintro e wl ⟨rfl, hul⟩;have Al := Lib.hid (A2.out.up hul);have Sl := Lib.hid (con_upP S2.out hul);have Tl := Lib.hid (T2.out.trans (Tw.up hul));have Z0 := Lib.hid (hul.cell z0);have Z1 := Lib.hid (hul.cell z1);have Z2 := Lib.hid (hul.cell z2);have Z3 := Lib.hid (hul.cell z3);have Y0 := Lib.hid (hul.cell y0);have Y1 := Lib.hid (hul.cell y1);have Y2 := Lib.hid (hul.cell y2);have Y3 := Lib.hid (hul.cell y3);have z0' := Z0.out;clear z0 z1 z2 z3 y0 y1 y2 y3 hul A2 S2 T2 LA d0 d1 d2 d3;go_wp2_with (go_at_call 71; (with_reducible refine (HH _ 10 (by decide) 10 rfl _ _ (by omega) _ Al.out).out.mono ?_); rintro e w4 ⟨⟨v4, rfl⟩, a4, t4⟩; have A4 := Lib.hid a4; have S4 := Lib.hid (con_tw Sl.out t4 (by omega)); have T4 := Lib.hid (Tl.out.trans t4); have z0 := cell_tw t4 Z0.out (by simpa using hnm); have z1 := cell_tw t4 Z1.out (by simpa using hnm); have z2 := cell_tw t4 Z2.out (by simpa using hnm); have z3 := cell_tw t4 Z3.out (by simpa using hnm); have y0 := cell_tw t4 Y0.out (by simpa using hbm); have y1 := cell_tw t4 Y1.out (by simpa using hbm); have y2 := cell_tw t4 Y2.out (by simpa using hbm); have y3 := cell_tw t4 Y3.out (by simpa using hbm); clear a4 t4 Al Sl Tl Z0 Z1 Z2 Z3 Y0 Y1 Y2 Y3 z0')
        have hS4 : (fun w' : World => w'.cell? ⟨wr.heap.size, 0, none⟩ = some (.int .u64 (x.id : Int)) ∧ w'.cell? ⟨wr.heap.size, 1, none⟩ = some (.int .u64 (x.off : Int)) ∧ w'.cell? ⟨wr.heap.size, 2, none⟩ = some (.int .u32 (x.len : Int)) ∧ w'.cell? ⟨wr.heap.size, 3, none⟩ = some (.int .u32 (x.run : Int)) ∧ w'.cell? ⟨b, o + p * 4, none⟩ = some (.int .u64 (y.id : Int)) ∧ w'.cell? ⟨b, o + p * 4 + 1, none⟩ = some (.int .u64 (y.off : Int)) ∧ w'.cell? ⟨b, o + p * 4 + 2, none⟩ = some (.int .u32 (y.len : Int)) ∧ w'.cell? ⟨b, o + p * 4 + 3, none⟩ = some (.int .u32 (y.run : Int))) w4.drew := ⟨(Up.refl w4).drew.cell z0, (Up.refl w4).drew.cell z1, (Up.refl w4).drew.cell z2, (Up.refl w4).drew.cell z3, (Up.refl w4).drew.cell y0, (Up.refl w4).drew.cell y1, (Up.refl w4).drew.cell y2, (Up.refl w4).drew.cell y3⟩;have MKU := Lib.hid (fun (a c : World) (u : Up a c) (q : (fun w' : World => w'.cell? ⟨wr.heap.size, 0, none⟩ = some (.int .u64 (x.id : Int)) ∧ w'.cell? ⟨wr.heap.size, 1, none⟩ = some (.int .u64 (x.off : Int)) ∧ w'.cell? ⟨wr.heap.size, 2, none⟩ = some (.int .u32 (x.len : Int)) ∧ w'.cell? ⟨wr.heap.size, 3, none⟩ = some (.int .u32 (x.run : Int)) ∧ w'.cell? ⟨b, o + p * 4, none⟩ = some (.int .u64 (y.id : Int)) ∧ w'.cell? ⟨b, o + p * 4 + 1, none⟩ = some (.int .u64 (y.off : Int)) ∧ w'.cell? ⟨b, o + p * 4 + 2, none⟩ = some (.int .u32 (y.len : Int)) ∧ w'.cell? ⟨b, o + p * 4 + 3, none⟩ = some (.int .u32 (y.run : Int))) a) => (⟨u.cell q.1, u.cell q.2.1, u.cell q.2.2.1, u.cell q.2.2.2.1, u.cell q.2.2.2.2.1, u.cell q.2.2.2.2.2.1, u.cell q.2.2.2.2.2.2.1, u.cell q.2.2.2.2.2.2.2⟩ : (fun w' : World => w'.cell? ⟨wr.heap.size, 0, none⟩ = some (.int .u64 (x.id : Int)) ∧ w'.cell? ⟨wr.heap.size, 1, none⟩ = some (.int .u64 (x.off : Int)) ∧ w'.cell? ⟨wr.heap.size, 2, none⟩ = some (.int .u32 (x.len : Int)) ∧ w'.cell? ⟨wr.heap.size, 3, none⟩ = some (.int .u32 (x.run : Int)) ∧ w'.cell? ⟨b, o + p * 4, none⟩ = some (.int .u64 (y.id : Int)) ∧ w'.cell? ⟨b, o + p * 4 + 1, none⟩ = some (.int .u64 (y.off : Int)) ∧ w'.cell? ⟨b, o + p * 4 + 2, none⟩ = some (.int .u32 (y.len : Int)) ∧ w'.cell? ⟨b, o + p * 4 + 3, none⟩ = some (.int .u32 (y.run : Int))) c));have MKT := Lib.hid (fun (a c : World) (u : Tw [m] a c) (q : (fun w' : World => w'.cell? ⟨wr.heap.size, 0, none⟩ = some (.int .u64 (x.id : Int)) ∧ w'.cell? ⟨wr.heap.size, 1, none⟩ = some (.int .u64 (x.off : Int)) ∧ w'.cell? ⟨wr.heap.size, 2, none⟩ = some (.int .u32 (x.len : Int)) ∧ w'.cell? ⟨wr.heap.size, 3, none⟩ = some (.int .u32 (x.run : Int)) ∧ w'.cell? ⟨b, o + p * 4, none⟩ = some (.int .u64 (y.id : Int)) ∧ w'.cell? ⟨b, o + p * 4 + 1, none⟩ = some (.int .u64 (y.off : Int)) ∧ w'.cell? ⟨b, o + p * 4 + 2, none⟩ = some (.int .u32 (y.len : Int)) ∧ w'.cell? ⟨b, o + p * 4 + 3, none⟩ = some (.int .u32 (y.run : Int))) a) => (⟨cell_tw u q.1 (by simpa using hnm), cell_tw u q.2.1 (by simpa using hnm), cell_tw u q.2.2.1 (by simpa using hnm), cell_tw u q.2.2.2.1 (by simpa using hnm), cell_tw u q.2.2.2.2.1 (by simpa using hbm), cell_tw u q.2.2.2.2.2.1 (by simpa using hbm), cell_tw u q.2.2.2.2.2.2.1 (by simpa using hbm), cell_tw u q.2.2.2.2.2.2.2 (by simpa using hbm)⟩ : (fun w' : World => w'.cell? ⟨wr.heap.size, 0, none⟩ = some (.int .u64 (x.id : Int)) ∧ w'.cell? ⟨wr.heap.size, 1, none⟩ = some (.int .u64 (x.off : Int)) ∧ w'.cell? ⟨wr.heap.size, 2, none⟩ = some (.int .u32 (x.len : Int)) ∧ w'.cell? ⟨wr.heap.size, 3, none⟩ = some (.int .u32 (x.run : Int)) ∧ w'.cell? ⟨b, o + p * 4, none⟩ = some (.int .u64 (y.id : Int)) ∧ w'.cell? ⟨b, o + p * 4 + 1, none⟩ = some (.int .u64 (y.off : Int)) ∧ w'.cell? ⟨b, o + p * 4 + 2, none⟩ = some (.int .u32 (y.len : Int)) ∧ w'.cell? ⟨b, o + p * 4 + 3, none⟩ = some (.int .u32 (y.run : Int))) c));clear z0 z1 z2 z3 y0 y1 y2 y3 eq10;by_cases hcon : x.id = Ly + 1
        focus
          have hne : ((x.id : Int) != (Ly : Int) + 1) = false := by rw [bne_eq_false_iff_eq]; omega
          have hne2 : ((x.id : Int) == (Ly : Int) + 1) = true := by rw [beq_iff_eq]; omega
          have hz12 : neP x.off x.len y.off y.len = decide (¬ (x.id = Ly + 1 ∧ x.off = y.off ∧ x.len = y.len)) := by unfold neP; rw [decide_eq_decide]; simp [hcon]
          have HZ := Lib.hid hz12;clear hz12 hcon
          go_region_held3 (fun w' => w'.cell? ⟨wr.heap.size, 0, none⟩ = some (.int .u64 (x.id : Int)) ∧ w'.cell? ⟨wr.heap.size, 1, none⟩ = some (.int .u64 (x.off : Int)) ∧ w'.cell? ⟨wr.heap.size, 2, none⟩ = some (.int .u32 (x.len : Int)) ∧ w'.cell? ⟨wr.heap.size, 3, none⟩ = some (.int .u32 (x.run : Int)) ∧ w'.cell? ⟨b, o + p * 4, none⟩ = some (.int .u64 (y.id : Int)) ∧ w'.cell? ⟨b, o + p * 4 + 1, none⟩ = some (.int .u64 (y.off : Int)) ∧ w'.cell? ⟨b, o + p * 4 + 2, none⟩ = some (.int .u32 (y.len : Int)) ∧ w'.cell? ⟨b, o + p * 4 + 3, none⟩ = some (.int .u32 (y.run : Int)))
            (first | assumption | exact hS4 | exact MKU.out _ _ hu6 hS4 | exact MKU.out _ _ hu7 (MKU.out _ _ hu6 hS4) | exact MKT.out _ _ t8 (MKU.out _ _ hu7 (MKU.out _ _ hu6 hS4)))
            (first
              | (go_at_call 78; (with_reducible refine (AT _).out.mono ?_); rintro e w6 ⟨rfl, hu6⟩)
              | (go_at_call 78; (with_reducible refine (AY _).out.mono ?_); rintro e w7 ⟨rfl, hu7⟩)
              | (go_at_call 71; (with_reducible refine (HH _ 12 (by decide) 12 rfl _ _ (by omega) _ (A4.out.up (((Up.refl w4).drew.trans hu6).trans hu7))).out.mono ?_); rintro e w8 ⟨⟨v8, rfl⟩, a8, t8⟩; have A8 := Lib.hid a8; have S8 := Lib.hid (con_tw (con_upP S4.out (((Up.refl w4).drew.trans hu6).trans hu7)) t8 (by omega)); have T8 := Lib.hid ((T4.out.trans (Tw.up (((Up.refl w4).drew.trans hu6).trans hu7))).trans t8); clear a8))
          have hS8 := MKT.out _ _ t8 (MKU.out _ _ hu7 (MKU.out _ _ hu6 hS4));obtain ⟨z0, z1, z2, z3, _⟩ := hS8;clear hS4 t8 hu6 hu7 A4 S4 T4 hne hne2 elw
        rotate_left;focus
          have hne : ((x.id : Int) != (Ly : Int) + 1) = true := by rw [bne_iff_ne]; omega
          have hne2 : ((x.id : Int) == (Ly : Int) + 1) = false := by rw [beq_eq_false_iff_ne]; omega
          have hz12 : true = decide (¬ (x.id = Ly + 1 ∧ x.off = y.off ∧ x.len = y.len)) := by simp [hcon]
          have HZ := Lib.hid hz12;clear hz12 hcon;refine wp_region_held_drew (S := fun w' => w'.cell? ⟨wr.heap.size, 0, none⟩ = some (.int .u64 (x.id : Int)) ∧ w'.cell? ⟨wr.heap.size, 1, none⟩ = some (.int .u64 (x.off : Int)) ∧ w'.cell? ⟨wr.heap.size, 2, none⟩ = some (.int .u32 (x.len : Int)) ∧ w'.cell? ⟨wr.heap.size, 3, none⟩ = some (.int .u32 (x.run : Int)) ∧ w'.cell? ⟨b, o + p * 4, none⟩ = some (.int .u64 (y.id : Int)) ∧ w'.cell? ⟨b, o + p * 4 + 1, none⟩ = some (.int .u64 (y.off : Int)) ∧ w'.cell? ⟨b, o + p * 4 + 2, none⟩ = some (.int .u32 (y.len : Int)) ∧ w'.cell? ⟨b, o + p * 4 + 3, none⟩ = some (.int .u32 (y.run : Int))) (by kernel_rfl) ?_ (fun hHeld => ?_)
          · exact hS4
          refine tk 0 rfl ?_;(try simp only [Act.put, tz1, tz2, tz3]);refine tk 1 rfl ?_;(try simp only [Act.put, tz1, tz2, tz3]);refine tk 2 rfl ?_;(try simp only [Act.put, tz1, tz2, tz3]);refine tk 3 rfl ?_;(try simp only [Act.put, tz1, tz2, tz3]);refine tk 4 rfl ?_;(try simp only [Act.put, tz1, tz2, tz3]);refine tk 5 rfl ?_;(try simp only [Act.put, tz1, tz2, tz3]);refine tk 6 rfl ?_;(try simp only [Act.put, tz1, tz2, tz3]);refine tk 7 rfl ?_;(try simp only [Act.put, tz1, tz2, tz3]);refine tk 8 rfl ?_;(try simp only [Act.put, tz1, tz2, tz3]);refine tk 9 rfl ?_;(try simp only [Act.put, tz1, tz2, tz3]);refine tk 10 rfl ?_;(try simp only [Act.put, tz1, tz2, tz3]);refine tk 11 rfl ?_;(try simp only [Act.put, tz1, tz2, tz3]);refine tk 12 rfl ?_;(try simp only [Act.put, tz1, tz2, tz3]);refine tk 13 rfl ?_;(try simp only [Act.put, tz1, tz2, tz3]);refine tk 14 rfl ?_;(try simp only [Act.put, tz1, tz2, tz3]);refine tk 15 rfl ?_;(try simp only [Act.put, tz1, tz2, tz3]);refine tk 16 rfl ?_;(try simp only [Act.put, tz1, tz2, tz3]);refine rd1 17 rfl (fun K hK => ?_);go_simp
          (go_at_call 71; (with_reducible refine (HH _ 12 (by decide) 12 rfl _ _ (by omega) _ (A4.out.up (Up.refl w4).drew)).out.mono ?_); rintro e w8 ⟨⟨v8, rfl⟩, a8, t8⟩; have A8 := Lib.hid a8; have S8 := Lib.hid (con_tw (con_upP S4.out (Up.refl w4).drew) t8 (by omega)); have T8 := Lib.hid ((T4.out.trans (Tw.up (Up.refl w4).drew)).trans t8); clear a8)
          refine hK.out _ _ ?_ (fun hHeld2 => ?_)
          · exact MKT.out _ _ t8 hS4
          clear hK K;(try simp only [Act.put, tz1, tz2, tz3]);refine wpAnyH_done (by kernel_rfl) ?_ _

          have hS8 := MKT.out _ _ t8 hS4;obtain ⟨z0, z1, z2, z3, _⟩ := hS8;clear hS4 t8 A4 S4 T4 hne hne2 elw
        rotate_left;all_goals
          go_wp2_with fail;with_reducible refine (AT _).out.mono ?_
          rintro e wa ⟨rfl, hua⟩;go_wp2_with fail;with_reducible refine (AE _).out.mono ?_
          rintro e wb ⟨rfl, hub⟩;have huab := hua.trans hub;have Ab := Lib.hid (A8.out.up huab);have Sb := Lib.hid (con_upP S8.out huab);have Tb := Lib.hid (T8.out.trans (Tw.up huab));have Z0 := Lib.hid (huab.cell z0);have Z1 := Lib.hid (huab.cell z1);have Z2 := Lib.hid (huab.cell z2);have Z3 := Lib.hid (huab.cell z3);clear hua hub huab z0 z1 z2 z3 A8 S8 T8 AE;go_wp2_with (go_at_call 71; (with_reducible refine (HH _ 11 (by decide) 11 rfl _ _ (by omega) _ Ab.out).out.mono ?_); rintro e w5 ⟨⟨v5, rfl⟩, a5, t5⟩; have A5 := Lib.hid a5; have S5 := Lib.hid (con_tw Sb.out t5 (by omega)); have T5 := Lib.hid (Tb.out.trans t5); have z0 := cell_tw t5 Z0.out (by simpa using hnm); have z1 := cell_tw t5 Z1.out (by simpa using hnm); have z2 := cell_tw t5 Z2.out (by simpa using hnm); have z3 := cell_tw t5 Z3.out (by simpa using hnm); clear a5 t5 Ab Sb Tb Z0 Z1 Z2 Z3 eq11)
          have hS5 : (fun w' : World => w'.cell? ⟨wr.heap.size, 0, none⟩ = some (.int .u64 (x.id : Int)) ∧ w'.cell? ⟨wr.heap.size, 1, none⟩ = some (.int .u64 (x.off : Int)) ∧ w'.cell? ⟨wr.heap.size, 2, none⟩ = some (.int .u32 (x.len : Int)) ∧ w'.cell? ⟨wr.heap.size, 3, none⟩ = some (.int .u32 (x.run : Int))) w5.drew := ⟨(Up.refl w5).drew.cell z0, (Up.refl w5).drew.cell z1, (Up.refl w5).drew.cell z2, (Up.refl w5).drew.cell z3⟩;clear z0 z1 z2 z3
          go_region_held3 (fun w' => w'.cell? ⟨wr.heap.size, 0, none⟩ = some (.int .u64 (x.id : Int)) ∧ w'.cell? ⟨wr.heap.size, 1, none⟩ = some (.int .u64 (x.off : Int)) ∧ w'.cell? ⟨wr.heap.size, 2, none⟩ = some (.int .u32 (x.len : Int)) ∧ w'.cell? ⟨wr.heap.size, 3, none⟩ = some (.int .u32 (x.run : Int)))
            (first | assumption | exact hS5)
            ((go_at_call 78; (with_reducible refine (AT _).out.mono ?_); rintro e w6 ⟨rfl, hu6⟩; obtain ⟨n, st, w7, l1, l2, l3, hg7, hst⟩ := Plc.con_step (con_upP S5.out ((Up.refl w5).drew.trans hu6)) hSb.out (x.off, x.len) hox.2.1 hox.2.2.1; obtain ⟨w8, l4, hg8, hc8⟩ := hst (IntKind.i64.wrap (n + 1)); simp only [Plc.lookC, Plc.keyV] at l1 l2 l3 l4; have S6 : (fun w' : World => w'.cell? ⟨wr.heap.size, 0, none⟩ = some (.int .u64 (x.id : Int)) ∧ w'.cell? ⟨wr.heap.size, 1, none⟩ = some (.int .u64 (x.off : Int)) ∧ w'.cell? ⟨wr.heap.size, 2, none⟩ = some (.int .u32 (x.len : Int)) ∧ w'.cell? ⟨wr.heap.size, 3, none⟩ = some (.int .u32 (x.run : Int))) w6 := ⟨hu6.cell hS5.1, hu6.cell hS5.2.1, hu6.cell hS5.2.2.1, hu6.cell hS5.2.2.2⟩; have S7 : (fun w' : World => w'.cell? ⟨wr.heap.size, 0, none⟩ = some (.int .u64 (x.id : Int)) ∧ w'.cell? ⟨wr.heap.size, 1, none⟩ = some (.int .u64 (x.off : Int)) ∧ w'.cell? ⟨wr.heap.size, 2, none⟩ = some (.int .u32 (x.len : Int)) ∧ w'.cell? ⟨wr.heap.size, 3, none⟩ = some (.int .u32 (x.run : Int))) w7 := ⟨cell_gr hg7 S6.1 hnM, cell_gr hg7 S6.2.1 hnM, cell_gr hg7 S6.2.2.1 hnM, cell_gr hg7 S6.2.2.2 hnM⟩; have S8 : (fun w' : World => w'.cell? ⟨wr.heap.size, 0, none⟩ = some (.int .u64 (x.id : Int)) ∧ w'.cell? ⟨wr.heap.size, 1, none⟩ = some (.int .u64 (x.off : Int)) ∧ w'.cell? ⟨wr.heap.size, 2, none⟩ = some (.int .u32 (x.len : Int)) ∧ w'.cell? ⟨wr.heap.size, 3, none⟩ = some (.int .u32 (x.run : Int))) w8 := ⟨cell_gr hg8 S7.1 hnM, cell_gr hg8 S7.2.1 hnM, cell_gr hg8 S7.2.2.1 hnM, cell_gr hg8 S7.2.2.2 hnM⟩; have A9 := Lib.hid (((A5.out.up ((Up.refl w5).drew.trans hu6)).grown hg7 (by omega) (by omega)).grown hg8 (by omega) (by omega)); have T9 := Lib.hid (((T5.out.trans (Tw.up ((Up.refl w5).drew.trans hu6))).fresh hg7 (Nat.le_refl _)).fresh hg8 (Nat.le_refl _)); have C8 := Lib.hid hc8; dsimp only at S6 S7 S8; clear hg7 hg8 hst hc8))
          all_goals
            obtain ⟨_, _, _, z3⟩ := S8;clear S6 S7 l1 l2 l3 l4 hS5;go_wp2_with fail;go_roundg gn
            case measure => omega
            case rel => exact ⟨k + 1, _, by omega, by go_num, by go_num, A9.out.low (by omega), (by have g := HG.out; rw [HPF.out, ← HZ.out] at g; exact g), (by rw [HPL.out]; exact C8.out), T9.out⟩
    · obtain rfl : k = l.length := by omega
      obtain rfl : gk = 0 := by omega
      have hgo : F1 = D := by rw [List.drop_length] at hgo; exact hgo
      subst hgo;have hse := HS.out;rw [List.take_length] at hse ⊢;have hsl := sum_le l hok;have hsb : sumR l ≤ 3865470565500000 := Nat.le_trans hsl (Nat.le_trans (Nat.mul_le_mul_right _ hll) (by decide));have hSb : ∀ q ∈ plA l, q.1 < 18446744073709551616 ∧ q.2 < 4294967296 := fun q hq => by
        obtain ⟨e, he, rfl⟩ := pl_mem _ q hq;have := hok e he;exact ⟨this.2.1, this.2.2.1⟩
      have hpn := pl_len l;have kI : ¬ (l.length : Int) < (l.length : Int) := by omega
      clear hlt hrr HS hsl HD;go_wp2_with fail;with_reducible refine (mkP_any _ _).mono ?_
      rintro e w2 ⟨rfl, rfl⟩;have hu2 := (Up.refl wr).alloc (.cells #[.map (some w1.heap.size)] 166);obtain ⟨DD, hown, hmk⟩ := con_own (con_upP hse hu2) (pl_nodup l) hSb (by omega);have SO := Lib.hid (apsorted_any _ wr.heap.size w1.heap.size _ DD (plA l) (pl_nodup l) (by omega) _ (by simp) hown hmk);unfold SortedPE at SO;have HU2 := Lib.hid hu2;clear hown hmk hse hSb hu2;go_wp2_with fail;with_reducible refine SO.out.mono ?_
      rintro e w3 ⟨A3, c3, L, rfl, hp, hsr, hrd, hu3⟩;have hL := srt_eq hp hsr;have hLn : L.length ≤ l.length := by rw [hp.length_eq]; exact hpn
      have hPin : F1 11 = 0 → ∀ p ∈ L, p.1 + p.2 ≤ data.length ∧ p.2 ≤ 1000000 := fun h0 p hpL => by
        obtain ⟨e, he, rfl⟩ := pl_mem l p (hp.mem_iff.1 hpL);have := rows_in data l F none (by rw [HD0.out]; exact h0) e he;exact ⟨this, by simp only at this ⊢; omega⟩
      have HPIN := Lib.hid hPin;have Aw := Lib.hid (HA.out.up (HU2.out.trans hu3));have Tw' := Lib.hid (HT.out.trans (Tw.up (HU2.out.trans hu3)));have Rw := Lib.hid hrd;have HLs := Lib.hid hL;clear hL hp hsr hrd hPin SO HU2 hu3 HA HT hpn;have hl0 : l.length = 0 ∨ 0 < l.length := by omega
      have r11 := Aw.out.lookz 11 (by decide) 11 rfl;have k25 : w3.cell? ⟨B, 25, none⟩ = some (.map (some m)) := Aw.out.at rfl;have q11 : ((F1 11 : Int) == 0) = decide (F1 11 = 0) := by rw [Bool.eq_iff_iff]; simp
      have hc14 : (h.adr = sumR l ∧ h.ent = l.length) ∨ (h.adr = sumR l ∧ ¬ h.ent = l.length) ∨ ¬ h.adr = sumR l := by by_cases h1 : h.adr = sumR l <;> by_cases h2 : h.ent = l.length <;> simp [h1, h2]
      have i3 : ((h.con : Int) == (L.length : Int)) = decide (h.con = L.length) := by rw [Bool.eq_iff_iff]; simp; omega
      have u1 : IntKind.u64.wrap (l.length : Int) = (l.length : Int) := IntWalk.u64_in _ (by omega);have u2 : IntKind.u64.wrap (L.length : Int) = (L.length : Int) := IntWalk.u64_in _ (by omega);by_cases h11 : F1 11 = 0
      focus
        have q11' : ((F1 11 : Int) == 0) = true := by rw [q11]; simpa using h11
        have ON := Lib.hid (aonce_any B m _ s h F1 data (by omega) L (HPIN.out h11) (by omega) A3 c3 (by omega) w3 Aw.out Rw.out);have hF : (if F1 11 = 0 then onceA data (srtP l) F1 else F1) = onceA data L F1 := by rw [if_pos h11, HLs.out]
        have HF := Lib.hid hF;clear q11 hF h11;go_wp2_with fail;with_reducible refine ON.out.mono ?_
        rintro e w4 ⟨⟨v4, rfl⟩, a4, t4⟩;have Az := Lib.hid (a4.low (show c + 3 * l.length + L.length + 1 ≤ c + 4 * l.length + 1 by omega));have Tz := Lib.hid (Tw'.out.trans t4);clear a4 t4 Aw Tw' r11 k25 ON HPIN Rw;have k9 : w4.cell? ⟨B, 9, none⟩ = some (.int .u64 (h.adr : Int)) := Az.out.at rfl;have k10 : w4.cell? ⟨B, 10, none⟩ = some (.int .u64 (h.ent : Int)) := Az.out.at rfl;have k11 : w4.cell? ⟨B, 11, none⟩ = some (.int .u64 (h.con : Int)) := Az.out.at rfl
      rotate_left;focus
        have q11' : ((F1 11 : Int) == 0) = false := by rw [q11]; simpa using h11
        have hF : (if F1 11 = 0 then onceA data (srtP l) F1 else F1) = F1 := by rw [if_neg h11]
        have HF := Lib.hid hF;have Az := Lib.hid (Aw.out.low (show c + 3 * l.length ≤ c + 4 * l.length + 1 by omega));have Tz := Lib.hid Tw'.out;clear q11 hF h11;have k9 : w3.cell? ⟨B, 9, none⟩ = some (.int .u64 (h.adr : Int)) := Az.out.at rfl;have k10 : w3.cell? ⟨B, 10, none⟩ = some (.int .u64 (h.ent : Int)) := Az.out.at rfl;have k11 : w3.cell? ⟨B, 11, none⟩ = some (.int .u64 (h.con : Int)) := Az.out.at rfl
      rotate_left;all_goals
        rcases hc14 with ⟨ha, he⟩ | ⟨ha, he⟩ | ha;all_goals
          have i1 : ((h.adr : Int) == (sumR l : Int)) = decide (h.adr = sumR l) := by rw [Bool.eq_iff_iff]; simp; omega
          have i2 : ((h.ent : Int) == (l.length : Int)) = decide (h.ent = l.length) := by rw [Bool.eq_iff_iff]; simp; omega
          first | rw [decide_eq_true ha] at i1 | rw [decide_eq_false ha] at i1
          try first | rw [decide_eq_true he] at i2 | rw [decide_eq_false he] at i2
          first
            | (have h14 : decide (h.adr = sumR l ∧ h.ent = l.length ∧ h.con = L.length) = decide (h.con = L.length) := by simp [ha, he]; done)
            | (have h14 : decide (h.adr = sumR l ∧ h.ent = l.length ∧ h.con = L.length) = false := by simp [ha, he]; done)
            | (have h14 : decide (h.adr = sumR l ∧ h.ent = l.length ∧ h.con = L.length) = false := by simp [ha])
          have H14 := Lib.hid h14;clear h14;try clear he
          clear ha;rcases hl0 with hz0 | hz0
          · have nI : ¬ (0 : Int) < (l.length : Int) := (by omega);have hlo : loA l = 0 := (by rw [List.length_eq_zero_iff.1 hz0]; rfl);have hhi : hiA l = 0 := (by rw [List.length_eq_zero_iff.1 hz0]; rfl);have HLO := Lib.hid hlo;have HHI := Lib.hid hhi;clear hz0 hlo hhi;have hmz : h.minz = 0 ∨ ¬ h.minz = 0 := Classical.em _;rcases hmz with hm0 | hm0;all_goals
              have j1 : (h.minz == 0) = decide (h.minz = 0) := (by rw [Bool.eq_iff_iff]; simp);have j2 : (h.maxz == 0) = decide (h.maxz = 0) := (by rw [Bool.eq_iff_iff]; simp);have h15 : decide (h.minz = 0 ∧ h.maxz = 0) = (decide (h.minz = 0) && decide (h.maxz = 0)) := Bool.decide_and _ _;first | rw [decide_eq_true hm0, Bool.true_and] at h15 | rw [decide_eq_false hm0, Bool.false_and] at h15
              have H15 := Lib.hid h15;first | rw [decide_eq_true hm0] at j1 | rw [decide_eq_false hm0] at j1
              clear h15 hm0
              go_wp2_with (first
                | (go_at_call 71; (with_reducible refine (HH _ 14 (by decide) 14 rfl _ _ (by omega) _ Az.out).out.mono ?_); rintro e w5 ⟨⟨v5, rfl⟩, a5, t5⟩; have A5 := Lib.hid a5; have T5 := Lib.hid (Tz.out.trans t5); have k16 : w5.cell? ⟨B, 16, none⟩ = some (.int .i64 h.minz) := a5.at rfl; have k17 : w5.cell? ⟨B, 17, none⟩ = some (.int .i64 h.maxz) := a5.at rfl; clear a5 t5 Az Tz i1 i2 i3)
                | (go_at_call 71; (with_reducible refine (HH _ 15 (by decide) 15 rfl _ _ (by omega) _ A5.out).out.mono ?_); rintro e w9 ⟨⟨v9, rfl⟩, a9, t9⟩))
              go_end0
              refine ⟨⟨_, rfl⟩, ?_, T1.out.trans (T5.out.trans t9)⟩;have g := HFF.out;rw [HF.out, ← HLs.out] at g;rw [H14.out, HLO.out, HHI.out, H15.out] at g;rw [← g];exact a9.low (by omega)
          · have nI : (0 : Int) < (l.length : Int) := (by omega);go_wp2_with (go_at_call 71; (with_reducible refine (HH _ 14 (by decide) 14 rfl _ _ (by omega) _ Az.out).out.mono ?_); rintro e w5 ⟨⟨v5, rfl⟩, a5, t5⟩; have A5 := Lib.hid a5; have T5 := Lib.hid (Tz.out.trans t5); have k16 : w5.cell? ⟨B, 16, none⟩ = some (.int .i64 h.minz) := a5.at rfl; have k17 : w5.cell? ⟨B, 17, none⟩ = some (.int .i64 h.maxz) := a5.at rfl; clear a5 t5 Az Tz i1 i2 i3)
            obtain ⟨p, hp⟩ : ∃ p, p + 1 = l.length := ⟨l.length - 1, by omega⟩;have hpl : p < l.length := by omega
            have hrl := A1.out.ents R1.out T5.out;obtain ⟨b0, o0, e0, g0, _, _, _⟩ := hrl.ent hz0;obtain ⟨b1, o1, e1, f0, f1, f2, f3⟩ := hrl.ent hpl;rw [e0] at e1;injection e1 with e1;injection e1 with e1 e2;subst e1; subst e2; subst e0;simp only [Nat.zero_mul, Nat.add_zero] at g0;have hx0 := hck _ (List.getElem_mem hz0);have hy0 := hck _ (List.getElem_mem hpl);have hoy := hok _ (List.getElem_mem hpl);have hlo : loA l = zoomV l[0].id := by unfold loA; rw [List.head?_eq_getElem?, List.getElem?_eq_getElem hz0]
            have hhi : hiA l = zoomV (lastE l[p]) := by
              have hq : l.length - 1 = p := by omega
              unfold hiA; rw [List.getLast?_eq_getElem?, hq, List.getElem?_eq_getElem hpl]
            obtain ⟨x, hx⟩ : ∃ x, l[0] = x := ⟨_, rfl⟩;obtain ⟨y, hy⟩ : ∃ y, l[p] = y := ⟨_, rfl⟩;rw [hx] at g0 hx0 hlo;rw [hy] at f0 f1 f2 f3 hy0 hoy hhi;obtain ⟨_, hxi, _⟩ := chk_ok hx0;obtain ⟨_, hyi, _⟩ := chk_ok hy0;have hwx := wide_pos x;have hwy := wide_pos y;have hly : lastE y < 6004799503160661 := by rw [last_ok hy0]; omega
            have ZX := fun w => Lib.hid (zoom_any x.id (by omega) w);have LY := fun w => Lib.hid (last_any y hoy w);simp only [entA] at LY;have ZY := fun w => Lib.hid (zoom_any (lastE y) hly w);have HLO := Lib.hid hlo;have HHI := Lib.hid hhi;generalize lastE y = Ly at *;generalize zoomV x.id = zx at *;generalize zoomV Ly = zy at *;have kw : IntKind.i64.wrap ((l.length : Int) - 1) = (p : Int) := by rw [IntWalk.i64_in _ (by omega)]; omega
            have pI0 : (0 : Int) ≤ (p : Int) := by omega
            have pI : (p : Int) < (l.length : Int) := by omega
            have hS5 : (fun w' : World => w'.cell? ⟨b0, o0, none⟩ = some (.int .u64 (x.id : Int)) ∧ w'.cell? ⟨b0, o0 + p * 4, none⟩ = some (.int .u64 (y.id : Int)) ∧ w'.cell? ⟨b0, o0 + p * 4 + 1, none⟩ = some (.int .u64 (y.off : Int)) ∧ w'.cell? ⟨b0, o0 + p * 4 + 2, none⟩ = some (.int .u32 (y.len : Int)) ∧ w'.cell? ⟨b0, o0 + p * 4 + 3, none⟩ = some (.int .u32 (y.run : Int))) w5.drew := ⟨(Up.refl w5).drew.cell g0, (Up.refl w5).drew.cell f0, (Up.refl w5).drew.cell f1, (Up.refl w5).drew.cell f2, (Up.refl w5).drew.cell f3⟩;have MKU := Lib.hid (fun (a c : World) (u : Up a c) (q : (fun w' : World => w'.cell? ⟨b0, o0, none⟩ = some (.int .u64 (x.id : Int)) ∧ w'.cell? ⟨b0, o0 + p * 4, none⟩ = some (.int .u64 (y.id : Int)) ∧ w'.cell? ⟨b0, o0 + p * 4 + 1, none⟩ = some (.int .u64 (y.off : Int)) ∧ w'.cell? ⟨b0, o0 + p * 4 + 2, none⟩ = some (.int .u32 (y.len : Int)) ∧ w'.cell? ⟨b0, o0 + p * 4 + 3, none⟩ = some (.int .u32 (y.run : Int))) a) => (⟨u.cell q.1, u.cell q.2.1, u.cell q.2.2.1, u.cell q.2.2.2.1, u.cell q.2.2.2.2⟩ : (fun w' : World => w'.cell? ⟨b0, o0, none⟩ = some (.int .u64 (x.id : Int)) ∧ w'.cell? ⟨b0, o0 + p * 4, none⟩ = some (.int .u64 (y.id : Int)) ∧ w'.cell? ⟨b0, o0 + p * 4 + 1, none⟩ = some (.int .u64 (y.off : Int)) ∧ w'.cell? ⟨b0, o0 + p * 4 + 2, none⟩ = some (.int .u32 (y.len : Int)) ∧ w'.cell? ⟨b0, o0 + p * 4 + 3, none⟩ = some (.int .u32 (y.run : Int))) c));clear g0 f0 f1 f2 f3 hrl hx hy hlo hhi hx0 hy0 hoy k16 k17
            go_region_held3 (fun w' => w'.cell? ⟨b0, o0, none⟩ = some (.int .u64 (x.id : Int)) ∧ w'.cell? ⟨b0, o0 + p * 4, none⟩ = some (.int .u64 (y.id : Int)) ∧ w'.cell? ⟨b0, o0 + p * 4 + 1, none⟩ = some (.int .u64 (y.off : Int)) ∧ w'.cell? ⟨b0, o0 + p * 4 + 2, none⟩ = some (.int .u32 (y.len : Int)) ∧ w'.cell? ⟨b0, o0 + p * 4 + 3, none⟩ = some (.int .u32 (y.run : Int)))
              (first | assumption | exact hS5 | exact MKU.out _ _ hu6 hS5 | exact MKU.out _ _ hu7 (MKU.out _ _ hu6 hS5) | exact MKU.out _ _ hu8 (MKU.out _ _ hu7 (MKU.out _ _ hu6 hS5)))
              (first
                | (go_at_call 77; (with_reducible refine (LY _).out.mono ?_); rintro e w7 ⟨rfl, hu7⟩)
                | (go_at_call 84; (with_reducible refine (ZX _).out.mono ?_); rintro e w6 ⟨rfl, hu6⟩)
                | (go_at_call 84; (with_reducible refine (ZY _).out.mono ?_); rintro e w8 ⟨rfl, hu8⟩))
            all_goals
              have HU8 := Lib.hid ((((Up.refl w5).drew.trans hu6).trans hu7).trans hu8);have A8 := Lib.hid (A5.out.up HU8.out);have k16 : w8.cell? ⟨B, 16, none⟩ = some (.int .i64 h.minz) := A8.out.at rfl;have k17 : w8.cell? ⟨B, 17, none⟩ = some (.int .i64 h.maxz) := A8.out.at rfl;clear hS5;have hmz : h.minz = zx ∨ ¬ h.minz = zx := Classical.em _;rcases hmz with hm0 | hm0;all_goals
                have j1 : (h.minz == zx) = decide (h.minz = zx) := (by rw [Bool.eq_iff_iff]; simp);have j2 : (h.maxz == zy) = decide (h.maxz = zy) := (by rw [Bool.eq_iff_iff]; simp);have h15 : decide (h.minz = zx ∧ h.maxz = zy) = (decide (h.minz = zx) && decide (h.maxz = zy)) := Bool.decide_and _ _;first | rw [decide_eq_true hm0, Bool.true_and] at h15 | rw [decide_eq_false hm0, Bool.false_and] at h15
                have H15 := Lib.hid h15;first | rw [decide_eq_true hm0] at j1 | rw [decide_eq_false hm0] at j1
                clear h15 hm0;go_wp2_with (go_at_call 71; (with_reducible refine (HH _ 15 (by decide) 15 rfl _ _ (by omega) _ A8.out).out.mono ?_); rintro e w9 ⟨⟨v9, rfl⟩, a9, t9⟩)
                go_end0
                refine ⟨⟨_, rfl⟩, ?_, T1.out.trans ((T5.out.trans (Tw.up HU8.out)).trans t9)⟩;have g := HFF.out;rw [HF.out, ← HLs.out] at g;rw [H14.out, HLO.out, HHI.out, H15.out] at g;rw [← g];exact a9.low (by omega)
end Go.Proofs.YtcfmidmokciofaaGreatDoor
