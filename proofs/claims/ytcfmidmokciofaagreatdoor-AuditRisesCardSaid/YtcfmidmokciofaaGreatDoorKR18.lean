/- Walks: slices.SortFunc over places, by the shelf; slices.SortedFunc of the keys of a map of places. -/
import Derived.Test.YtcfmidmokciofaaGreatDoorShelf2
import Derived.Test.YtcfmidmokciofaaGreatDoorKR17
import Derived.Test.YtcfmidmokciofaaGreatDoorKR16
import Derived.Test.YtcfmidmokciofaaGreatDoorKR04
import Derived.DeepKeys4
import Derived.WideKeyEntry
namespace Go.Proofs.YtcfmidmokciofaaGreatDoor
open Go.RowKit Go.Gz Go.Shelf Go.Sort Go.Maps

set_option maxRecDepth 100000
abbrev Pls := List (Nat × Nat)
def encPl (x : Nat × Nat) : List Value := [.int .u64 (x.1 : Int), .int .u32 (x.2 : Int)]
def plcV (L : Pls) : List Value := L.flatMap encPl
theorem plcV_len : ∀ L : Pls, (plcV L).length = L.length * 2
  | [] => rfl
  | x :: r => by
    have := plcV_len r;show (_ :: _ :: plcV r).length = _
    simp only [List.length_cons, this];omega
theorem plcV_get : ∀ (L : Pls) (k : Nat) (h : k < L.length), (plcV L)[k * 2]? = some (.int .u64 (L[k].1 : Int)) ∧ (plcV L)[k * 2 + 1]? = some (.int .u32 (L[k].2 : Int))
  | [], k, h => by simp at h
  | x :: r, 0, _ => ⟨rfl, rfl⟩
  | x :: r, k + 1, h => by
    have := plcV_get r k (by simpa using h);have e : ∀ j, (plcV (x :: r))[(k + 1) * 2 + j]? = (plcV r)[k * 2 + j]? := fun j => by
      rw [show (k + 1) * 2 + j = (k * 2 + j) + 2 by omega];rfl
    have e0 := e 0;simp only [Nat.add_zero] at e0;rw [e0, e];exact this
theorem Rd.pl {w : World} {L : Pls} {A : Option Addr} {c : Nat} (h : Rd w 2 A L.length c (plcV L)) {k : Nat} (hk : k < L.length) : ∃ b o, A = some ⟨b, o, none⟩ ∧ w.cell? ⟨b, o + k * 2, none⟩ = some (.int .u64 (L[k].1 : Int)) ∧ w.cell? ⟨b, o + k * 2 + 1, none⟩ = some (.int .u32 (L[k].2 : Int)) := by
  obtain ⟨b, o, u, v, e, h1, h2, h3, h4⟩ := h.two hk;obtain ⟨g1, g2⟩ := plcV_get L k hk;rw [g1] at h1; rw [g2] at h2;cases h1; cases h2;exact ⟨b, o, e, h3, h4⟩
def plLt (x y : Nat × Nat) : Bool := decide (x.1 < y.1 ∨ (x.1 = y.1 ∧ x.2 < y.2))
theorem ltPl (x y : Nat × Nat) : ltOf cmpP x y = plLt x y := by
  show decide (cmpP x y < 0) = _
  unfold cmpP orV cmpV plLt;rw [Bool.eq_iff_iff, decide_eq_true_eq, decide_eq_true_eq];by_cases h1 : x.1 < y.1
  · simp [h1]
  · by_cases h2 : y.1 < x.1
    · have : ¬ x.1 = y.1 := by omega
      simp [h1, h2, this]
    · have he : x.1 = y.1 := by omega
      by_cases h3 : x.2 < y.2
      · simp [he, h3]
      · by_cases h4 : y.2 < x.2
        · simp [he, h3, h4]
        · simp [he, h3, h4]
theorem swoPl : Go.Sort.SWO (ltOf cmpP) where
  irrefl x := by rw [ltPl]; simp [plLt]
  trans x y z h1 h2 := by rw [ltPl] at *; simp [plLt] at *; omega
  ntrans x y z h1 h2 := by rw [ltPl] at *; simp [plLt] at *; omega
theorem apsortW_grown (w : World) (b off n : Nat) (d : Array (Nat × Nat)) (os : Array Obj) : w.grownBy (sortWorldK encPl 2 w b off n d os) (some b) := by
  unfold sortWorldK putRowK Go.Sort.putRow Go.Sort.mapBlock Go.Sort.grow Go.Sort.ahead;refine ⟨rfl, rfl, rfl, by simp, fun j hj hne => ?_⟩;have hb : b ≠ j := fun e => hne (by rw [e]);simp only;rw [Array.getElem?_append_left (by simpa using hj), Array.getElem?_modify, if_neg hb]
theorem flat_pl (L : Pls) (t : Nat) (h : t < L.length * 2) : (flatK encPl 2 L.toArray)[t]! = (plcV L)[t]?.getD default := by
  rw [get_flatK _ _ _ _ (by simpa using h)];have hk : t / 2 < L.length := by omega
  obtain ⟨g1, g2⟩ := plcV_get L (t / 2) hk;have e : L.toArray[t / 2]! = L[t / 2] := by rw [getElem!_pos L.toArray (t / 2) (by simpa using hk)]; simp
  rw [e];rcases Nat.mod_two_eq_zero_or_one t with hm | hm
  · have ht : t / 2 * 2 = t := by omega
    rw [ht] at g1;rw [hm, g1];rfl
  · have ht : t / 2 * 2 + 1 = t := by omega
    rw [ht] at g2;rw [hm, g2];rfl
def SortPE (w : World) (L : Pls) (v : Value) (e : Ending) (w' : World) : Prop := e = .returned (.tuple #[]) ∧ ∃ M : Pls, M.Perm L ∧ (∀ i j (hi : i < M.length) (hj : j < M.length), i < j → plLe M[i] M[j] = true) ∧ (∃ A c, v = .slice A L.length c ∧ Rd w' 2 A L.length c (plcV M)) ∧ w.grownBy w' v.ownBlock
theorem apsort_some (L : Pls) (hl : L.length ≤ 1000000) (h0 : L ≠ []) (base : Nat) (T : TypeId) (v : Value) (w : World) (ho : w.ownsRow base T 2 v L.length (plcV L)) :
    Calls Tryz.prog 133 #[v, .func (.func 82) #[] #[]] w (SortPE w L v) := by
  have hlen : 0 < L.length := List.length_pos_iff.2 h0;rcases ho.2 with ⟨_, hz⟩ | ⟨g, cap, cur, rfl, hg, hh, hn, hc, hsz, htk⟩
  · omega
  have hgl : g < w.heap.size := (Array.getElem?_eq_some_iff.1 hh).1;have hcell : ∀ t, t < L.length * 2 → w.cell? ⟨g, 0 + t, none⟩ = some ((flatK encPl 2 L.toArray)[t]!) ∧ w.frozen? ⟨g, 0 + t, none⟩ = false := by
    intro t ht;have h1 := ho.cells (g := g) rfl t _ (by
      rw [List.getElem?_eq_getElem (by rw [plcV_len]; exact ht)])
    rw [add_plain] at h1;refine ⟨?_, frozen_of_row w g (0 + t) cur T hh⟩;rw [flat_pl L t ht, List.getElem?_eq_getElem (by rw [plcV_len]; exact ht)];exact h1
  have hH : HoldsK encPl 2 w g 0 L.toArray := by
    intro j hj;rw [size_flatK] at hj;exact hcell j (by simpa using hj)
  have hcon := AnyQ.slices_SortFunc Tryz.sortPl 2 Tryz.isAgg169 Tryz.sizeOf169 encPl (fun _ => rfl) (fun x v hv => by simp [encPl] at hv; rcases hv with rfl | rfl <;> rfl) cmpP swoPl 82 #[] g 0 cap L.toArray w (enters_of Tryz.func82 (by kernel_rfl) rfl)
    (fun _ _ _ _ x y => order_any x y _) hH hgl (by simp; omega)
  have hs : L.toArray.size = L.length := by simp
  rw [hs] at hcon;refine Calls.mono hcon ?_;rintro e w' ⟨rfl, d', n, os, hp, hso, rfl⟩;have hd : d'.size = L.length := by rw [hp.1, hs]
  have hperm : d'.toList.Perm L := by
    have := hp.2.2;have e : d'.toList.take L.length = d'.toList := List.take_of_length_le (by simpa using Nat.le_of_eq hd);simpa [e] using this
  refine ⟨rfl, d'.toList, hperm, fun i j hi hj hij => ?_, ⟨_, cap, rfl, ?_⟩, apsortW_grown w g 0 n d' os⟩
  · have hi' : i < d'.size := by simpa using hi
    have hj' : j < d'.size := by simpa using hj
    have := hso i j (by omega) hij (by omega);rw [ltPl, getElem!_pos d' j hj', getElem!_pos d' i hi'] at this;unfold plLt at this;unfold plLe;simp only [Array.getElem_toList];rw [decide_eq_true_eq];rw [decide_eq_false_iff_not] at this;omega
  · have hll : d'.toList.length = L.length := by simpa using hd
    refine ⟨by rw [plcV_len, hll], hn, hc, fun h => by (cases h), fun _ => ⟨g, 0, rfl, fun j u hj => ?_⟩⟩;have hj2 := (List.getElem?_eq_some_iff.1 hj).1;rw [plcV_len, hll] at hj2;have hH2 : Go.Sort.Holds id (Go.Sort.ahead w n) g 0 (flatK encPl 2 L.toArray) := hH;have hc := Go.Sort.cell?_putRow id (Go.Sort.ahead w n) g 0 (flatK encPl 2 L.toArray) (flatK encPl 2 d') hH2 (by rw [size_flatK, size_flatK, hd, hs]) j (by rw [size_flatK, hd]; exact hj2);have e : (flatK encPl 2 d')[j]! = u := by
      have := flat_pl d'.toList j (by rw [hll]; exact hj2);rw [Array.toArray_toList, hj] at this;exact this
    rw [e] at hc;have hgr : (Go.Sort.putRow id (Go.Sort.ahead w n) g 0 (flatK encPl 2 d')).cell? ⟨g, 0 + j, none⟩ = some u := hc;show (Go.Sort.grow (Go.Sort.putRow id (Go.Sort.ahead w n) g 0 (flatK encPl 2 d')) os).cell? _ = _
    rw [Go.Sort.cell?_grow _ _ _ (by simpa [Go.Sort.ahead] using hgl)];exact hgr
theorem apins0_any (v f : Value) (w : World) :
    Calls Tryz.prog 223 #[v, .int .i64 0, .int .i64 0, f] w fun e w' => e = .returned (.tuple #[]) ∧ w = w' := by
  go_enter Tryz.func223, Tryz.ntmps223;go_wp2_with fail;refine wp_loop_rounds 1 ?_;rw [rounds_succ];go_wp2_with fail;go_end0
  exact ⟨rfl, rfl⟩
theorem appdq0_any (v f : Value) (n : Int) (w : World) :
    Calls Tryz.prog 183 #[v, .int .i64 0, .int .i64 0, .int .i64 n, f] w fun e w' => e = .returned (.tuple #[]) ∧ w = w' := by
  go_enter Tryz.func183, Tryz.ntmps183;go_wp2_with fail;refine wp_loop_rounds 1 ?_;rw [rounds_succ];go_wp2_with (go_at_call 223; refine (apins0_any _ _ _).mono ?_; rintro e w' ⟨rfl, rfl⟩)
  refine bodyPost_ret (results_none rfl _ _ _) rfl ?_;exact ⟨rfl, rfl⟩
theorem apsort0_any (A : Option Addr) (c : Nat) (f : Value) (w : World) :
    Calls Tryz.prog 133 #[.slice A 0 c, f] w fun e w' => e = .returned (.tuple #[]) ∧ w = w' := by
  have B := fun w => Lib.hid (Tryz.bits_Len 0 w (by decide) (by decide));go_enter Tryz.func133, Tryz.ntmps133;go_wp2_with fail;refine (B _).out.mono ?_;rintro e w' ⟨rfl, rfl⟩;go_wp2_with fail;refine (appdq0_any _ _ _ _).mono ?_;rintro e w' ⟨rfl, rfl⟩;go_wp2_with fail;go_end0
  exact ⟨rfl, rfl⟩
/-- a key as a place -/
def pcV (p : Nat × Nat) : Value := .agg #[.int .u64 (p.1 : Int), .int .u32 (p.2 : Int)]
def unV : Value → Nat × Nat
  | .agg vs => match vs.toList with
    | [.int _ a, .int _ b] => (a.toNat, b.toNat)
    | _ => (0, 0)
  | _ => (0, 0)
theorem cells_pc (L : Pls) : (L.map pcV).flatMap cellsV = plcV L := by
  induction L with
  | nil => rfl
  | cons x r ih => rw [List.map_cons, List.flatMap_cons, ih]; rfl
theorem fin_places {S : Pls} (hS : S.Nodup) {ss : List Value} (h : finV (S.map pcV) ss) : ∃ L : Pls, ss = L.map pcV ∧ L.Perm S := by
  obtain ⟨h1, h2⟩ := h;have e : ss = (ss.map unV).map pcV := by
    rw [List.map_map];conv => lhs; rw [← List.map_id ss]
    apply List.map_congr_left;intro x hx;obtain ⟨p, _, rfl⟩ := List.mem_map.1 ((h2 x).1 hx);rfl
  refine ⟨ss.map unV, e, ?_⟩;have hn : (ss.map unV).Nodup := by
    rw [e] at h1;exact (List.pairwise_map.1 h1).imp fun hne hab => hne (by rw [hab])
  rw [List.perm_ext_iff_of_nodup hn hS];intro p;constructor
  · intro hp;obtain ⟨x, hx, rfl⟩ := List.mem_map.1 hp;obtain ⟨q, hq, rfl⟩ := List.mem_map.1 ((h2 x).1 hx);exact hq
  · intro hp;exact List.mem_map.2 ⟨pcV p, (h2 _).2 (List.mem_map.2 ⟨p, hp, rfl⟩), rfl⟩
def SortedPE (w : World) (S : Pls) (e : Ending) (w' : World) : Prop := ∃ A c, ∃ L : Pls, e = .returned (.slice A L.length c) ∧ L.Perm S ∧ (∀ i j (hi : i < L.length) (hj : j < L.length), i < j → plLe L[i] L[j] = true) ∧ Rd w' 2 A L.length c (plcV L) ∧ Up w w'
theorem apsorted_any (R : Value → Option (DataW Unit × List MemPlace)) (Bm b nn : Nat) (D : DataW Unit) (S : Pls) (hS : S.Nodup) (hlen : S.length ≤ 900000) (w : World) (hm : w.cell? ⟨Bm, 0, none⟩ = some (.map (some b))) (hown : w.ownsMap Tryz.prog 169 R b nn D) (hKS : MapK w b (S.map pcV)) :
    Calls Tryz.prog 80 #[.func (.func 134) #[] #[.pointer (some ⟨Bm, 0, none⟩)], .func (.func 82) #[] #[]] w (SortedPE w S) := by
  have CO := Lib.hid (colP_any R Bm b nn D (S.map pcV) (by rw [List.length_map]; exact hlen) w hm hown hKS (fun x hx => by
    obtain ⟨p, _, rfl⟩ := List.mem_map.1 hx;exact ⟨_, _, rfl⟩))
  clear hm hown hKS;go_enter Tryz.func80, Tryz.ntmps80;go_wp2_with fail;with_reducible refine CO.out.mono ?_
  rintro e w1 ⟨A, c, ss, rfl, h1, h2, h3⟩;obtain ⟨L, rfl, hp⟩ := fin_places hS h1;rw [cells_pc, List.length_map] at h2;rw [List.length_map];have H2 := Lib.hid h2;have HP := Lib.hid hp;have hll : L.length ≤ 900000 := by rw [hp.length_eq]; exact hlen
  clear h1 h2 hp CO;by_cases h0 : L = []
  · subst h0;go_wp2_with fail;with_reducible refine (apsort0_any A c _ _).mono ?_
    rintro e w2 ⟨rfl, rfl⟩;go_wp2_with fail;go_ret;obtain ⟨A2, c2, e2, r2⟩ := Rd.of_own H2.out;injection e2 with e2 _ e3;subst e2; subst e3;exact ⟨A, c, [], rfl, HP.out, fun i j hi => by simp at hi, r2, h3⟩
  · have SF := Lib.hid (apsort_some L (by omega) h0 w.heap.size _ _ w1 H2.out);clear h0;go_wp2_with fail;with_reducible refine SF.out.mono ?_
    rintro e w2 ⟨rfl, M, hM, hs, ⟨A2, c2, e2, r2⟩, hg⟩;injection e2 with e2 _ e3;subst e2; subst e3;have HM := Lib.hid hM;have HSO := Lib.hid hs;have HR2 := Lib.hid r2;have HG := Lib.hid hg;clear hM hs r2 hg;go_wp2_with fail;go_ret;have hml : M.length = L.length := HM.out.length_eq;refine ⟨A, c, M, by rw [hml]; rfl, HM.out.trans HP.out, HSO.out, by rw [hml]; exact HR2.out, ?_⟩;exact Up.of (h3.below.grown HG.out h3.le (fun k hk => (H2.out.lt k hk).1))
end Go.Proofs.YtcfmidmokciofaaGreatDoor
/- A map of places: how often each was seen. -/
namespace Go.Proofs.YtcfmidmokciofaaGreatDoor.Plc
open Go.RowKit Go.Gz Go.Shelf

set_option maxRecDepth 100000
def keyV (p : Nat × Nat) : Value := .agg #[.int .u64 (p.1 : Int), .int .u32 (p.2 : Int)]
theorem lawC : WideMaps.KeyLaw Tryz.prog 169 := by
  have h : decide (169 < Tryz.prog.types.size) = true := by kernel_rfl
  exact deep_law_laid (m := 3) (by kernel_rfl) (by omega) (of_decide_eq_true h) (by kernel_rfl) (by kernel_rfl)
theorem keyC (p : Nat × Nat) (h1 : p.1 < 18446744073709551616) (h2 : p.2 < 4294967296) : ∃ l, keyOf Tryz.prog 169 (keyV p) = some l := by
  have ht := Tryz.underlying169;have hk : Tryz.prog.keyType 169 = true := by kernel_rfl
  have hf : Value.formed Tryz.prog 169 (keyV p) = true := by kernel_rfl
  have hw1 : (Lit.int .u64 (p.1 : Int)).wf = true := by simp [Lit.wf, IntKind.min, IntKind.max, IntKind.bits, IntKind.signed]; omega
  have hw2 : (Lit.int .u32 (p.2 : Int)).wf = true := by simp [Lit.wf, IntKind.min, IntKind.max, IntKind.bits, IntKind.signed]; omega
  have hc1 : Tryz.prog.cellsOf 169 = 2 := by kernel_rfl
  have hc2 : Tryz.prog.cellsOf 54 = 1 := by kernel_rfl
  have hc3 : Tryz.prog.cellsOf 70 = 1 := by kernel_rfl
  have hd : decide (0 < Tryz.prog.types.size) = true := by kernel_rfl
  obtain ⟨k, hk2⟩ : ∃ k, Tryz.prog.types.size = k + 1 := ⟨Tryz.prog.types.size - 1, by have := of_decide_eq_true hd; omega⟩;have u1 := Tryz.underlying54;have u2 := Tryz.underlying70;unfold keyOf;rw [ht];simp only [hk, Bool.true_and, hf, if_true, hk2];simp [keyV, Value.cells, Program.keyLits, ht, hc1, hc2, hc3, u1, u2, hw1, hw2]
/-- contents seen, as the map holds them -/
def ConE (es : Array MapEntry) (S : List (Nat × Nat)) : Prop := es.toList.map (fun e => e.key) = S.map keyV ∧ ∀ (i : Nat) (e : MapEntry), es.toList[i]? = some e → e.born = i ∧ ∃ n : Int, e.val = Value.int .i64 n
def ConOK (w : World) (M : Nat) (S : List (Nat × Nat)) : Prop := ∃ es : Array MapEntry, w.heap[M]? = some (.map es S.length) ∧ ConE es S
theorem keyV_inj {p q : Nat × Nat} (h : keyV p = keyV q) : p = q := by
  unfold keyV at h;simp at h;exact Prod.ext (by omega) (by omega)
theorem con_size {es : Array MapEntry} {S : List (Nat × Nat)} (h : ConE es S) : es.size = S.length := by
  have := congrArg List.length h.1;simpa using this
theorem con_born {es : Array MapEntry} {S : List (Nat × Nat)} (h : ConE es S) : (es.toList.map (fun e => e.born)).Nodup := by
  have e : es.toList.map (fun e => e.born) = List.range es.toList.length := by
    apply List.ext_getElem?;intro i;rw [List.getElem?_map];rcases Nat.lt_or_ge i es.toList.length with hi | hi
    · rw [List.getElem?_eq_getElem hi, List.getElem?_range hi, Option.map_some, (h.2 i _ (List.getElem?_eq_getElem hi)).1]
    · rw [List.getElem?_eq_none hi, List.getElem?_eq_none (by simpa using hi)]; rfl
  rw [e];exact List.nodup_range
theorem con_keys {es : Array MapEntry} {S : List (Nat × Nat)} (h : ConE es S) (hb : ∀ q ∈ S, q.1 < 18446744073709551616 ∧ q.2 < 4294967296) : ∀ e ∈ es.toList, ∃ l, keyOf Tryz.prog 169 e.key = some l := by
  intro e he;have : e.key ∈ S.map keyV := by rw [← h.1]; exact List.mem_map_of_mem he
  obtain ⟨q, hq, hk⟩ := List.mem_map.1 this;rw [← hk];exact keyC q (hb q hq).1 (hb q hq).2
theorem con_mem {es : Array MapEntry} {S : List (Nat × Nat)} (h : ConE es S) {e : MapEntry} (he : e ∈ es.toList) {p : Nat × Nat} (hk : e.key = keyV p) : p ∈ S := by
  have : e.key ∈ S.map keyV := by rw [← h.1]; exact List.mem_map_of_mem he
  obtain ⟨q, hq, hk2⟩ := List.mem_map.1 this;rw [hk] at hk2;rw [← keyV_inj hk2]; exact hq
theorem con_not {es : Array MapEntry} {S : List (Nat × Nat)} (h : ConE es S) {p : Nat × Nat} (hn : ∀ e ∈ es.toList, e.key ≠ keyV p) : p ∉ S := by
  intro hp;have : keyV p ∈ es.toList.map (fun e => e.key) := by rw [h.1]; exact List.mem_map_of_mem hp
  obtain ⟨e, he, hk⟩ := List.mem_map.1 this;exact hn e he hk
theorem con_mod {es : Array MapEntry} {S : List (Nat × Nat)} (h : ConE es S) (j : Nat) (v : Int) : ConE (es.modify j (fun e => { e with val := Value.int .i64 v })) S := by
  refine ⟨?_, fun i e he => ?_⟩
  · rw [← h.1, Array.toList_modify];apply List.ext_getElem?;intro i;rw [List.getElem?_map, List.getElem?_map, List.getElem?_modify];split
    · cases es.toList[i]? <;> rfl
    · cases es.toList[i]? <;> rfl
  · rw [Array.toList_modify, List.getElem?_modify] at he;split at he
    · cases hx : es.toList[i]? with
      | none => rw [hx] at he; cases he
      | some x =>
        rw [hx] at he;injection he with he;subst he;exact ⟨(h.2 i x hx).1, v, rfl⟩
    · rw [Option.map_eq_map, Option.map_id'] at he; exact h.2 i e he
theorem con_push {es : Array MapEntry} {S : List (Nat × Nat)} (h : ConE es S) (p : Nat × Nat) (v : Int) : ConE (es.push ⟨keyV p, .int .i64 v, S.length⟩) (S ++ [p]) := by
  refine ⟨by rw [Array.toList_push, List.map_append, List.map_append, h.1]; rfl, fun i e he => ?_⟩;have hs := con_size h;rw [Array.toList_push] at he;rcases Nat.lt_or_ge i es.toList.length with hi | hi
  · rw [List.getElem?_append_left hi] at he;exact h.2 i e he
  · rw [List.getElem?_append_right hi] at he;have hi0 : i - es.toList.length = 0 := by
      have := (List.getElem?_eq_some_iff.1 he).1;simpa using this
    rw [hi0] at he;simp at he;subst he;simp at hi hi0;exact ⟨by simp; omega, v, rfl⟩
theorem con_store {es : Array MapEntry} {S : List (Nat × Nat)} {clock M : Nat} (h : ConE es S) (j : Nat) (hj : j < S.length) (v : Int) (w : World) (hw : w.heap[M]? = some (.map es clock)) :
    (Instr.entryStore 166 (.map (some M)) (.int .i64 (j : Int)) (.int .i64 v)).run Tryz.prog w = .ok () (Go.ChangeMaps.setBlock w M (.map (es.modify j (fun e => { e with val := Value.int .i64 v })) clock)) := by
  have hs := con_size h;have hj2 : j < es.toList.length := by simpa [hs] using hj
  have hidx := Go.WideElems.findIdx_born (con_born h) (List.getElem?_eq_getElem hj2);rw [(h.2 j _ (List.getElem?_eq_getElem hj2)).1] at hidx;have hidx2 : es.findIdx? (fun e => ((e.born : Nat) : Int) == ((j : Nat) : Int)) = some j := by rw [Go.WideElems.findIdx_arr]; exact hidx
  simp [Instr.entryStore, MapKept.run_getObj_map hw, asInt, asIntOf, hidx2, MapKept.run_setObj_map _ hw, Result.andThen, Go.ChangeMaps.setBlock]
theorem zeroI (w : World) : (zeroValue 3).run Tryz.prog w = .ok (.int .i64 0) w := by
  have h : (Tryz.prog.info? 3).map (fun i => (i.zero, i.size, i.bytes)) = some (some (.int .i64 0), 1, 8) := by kernel_rfl
  obtain ⟨i, h1, h2, _, _⟩ := info_parts h;simp [zeroValue, typeInfo, h1, h2]
abbrev lookC (M : Nat) (p : Nat × Nat) : Sem Value := Instr.lookup 166 (.map (some M)) (keyV p) false
theorem look_none {w : World} {M : Nat} {p : Nat × Nat} {es : Array MapEntry} {clock : Nat} (hb : w.heap[M]? = some (.map es clock)) {l : Lit} (hk : keyOf Tryz.prog 169 (keyV p) = some l) (h1 : (Instr.findKey 169 (keyV p) es.toList).run Tryz.prog w = .ok none w) : (lookC M p).run Tryz.prog w = .ok (.int .i64 0) w := by
  simp [lookC, Instr.lookup, run_underlying Tryz.underlying166, MapKept.run_getObj_map hb, lawC.check w _ hk, h1, Result.andThen]
theorem look_some {w : World} {M : Nat} {p : Nat × Nat} {es : Array MapEntry} {clock : Nat} (hb : w.heap[M]? = some (.map es clock)) {l : Lit} (hk : keyOf Tryz.prog 169 (keyV p) = some l) {j : Nat} {v : Value} (h1 : (Instr.findKey 169 (keyV p) es.toList).run Tryz.prog w = .ok (some (j, v)) w) : (lookC M p).run Tryz.prog w = .ok v w := by
  simp [lookC, Instr.lookup, run_underlying Tryz.underlying166, MapKept.run_getObj_map hb, lawC.check w _ hk, h1, Result.andThen]
theorem setB_heap {w : World} {M : Nat} {o o' : Obj} (h : w.heap[M]? = some o) : (Go.ChangeMaps.setBlock w M o').heap[M]? = some o' := by
  have hl := (Array.getElem?_eq_some_iff.1 h).1;simp [Go.ChangeMaps.setBlock, hl]
theorem setB_same {w : World} {M : Nat} {o : Obj} (h : w.heap[M]? = some o) : Go.ChangeMaps.setBlock w M o = w := by
  have e : w.heap.setIfInBounds M o = w.heap := by
    apply Array.ext
    · simp
    · intro i h1 h2;rw [Array.getElem_setIfInBounds (by simpa using h1)];split
      · rename_i hi;subst hi;rw [Array.getElem?_eq_getElem (by simpa using h1)] at h;injection h with h;exact h.symm
      · rfl
  unfold Go.ChangeMaps.setBlock;rw [e]
theorem setB_grown (w : World) (M : Nat) (o' : Obj) : w.grownBy (Go.ChangeMaps.setBlock w M o') (some M) :=
  ⟨rfl, rfl, rfl, by simp [Go.ChangeMaps.setBlock], fun j _ hne => by
    have : M ≠ j := fun e => hne (by rw [e]);simp [Go.ChangeMaps.setBlock, this]⟩
/-- one content more -/
theorem con_step {w : World} {M : Nat} {S : List (Nat × Nat)} (h : ConOK w M S) (hb : ∀ q ∈ S, q.1 < 18446744073709551616 ∧ q.2 < 4294967296) (p : Nat × Nat) (h1 : p.1 < 18446744073709551616) (h2 : p.2 < 4294967296) :
    ∃ (n : Int) (st : Nat) (w1 : World), (lookC M p).run Tryz.prog w = .ok (.int .i64 n) w ∧ (lookC M p).run Tryz.prog w1 = .ok (.int .i64 n) w1 ∧ (Instr.mapEntry 166 (.map (some M)) (keyV p)).run Tryz.prog w = .ok (.tuple #[.int .i64 n, .int .i64 (st : Int)]) w1 ∧ w.grownBy w1 (some M) ∧
      ∀ v : Int, ∃ w3, (Instr.entryStore 166 (.map (some M)) (.int .i64 (st : Int)) (.int .i64 v)).run Tryz.prog w1 = .ok () w3 ∧ w1.grownBy w3 (some M) ∧ ConOK w3 M (if p ∈ S then S else S ++ [p]) := by
  obtain ⟨es, hm, hc⟩ := h;obtain ⟨l, hk⟩ := keyC p h1 h2;have hks := con_keys hc hb;have hs := con_size hc;have ht := Tryz.underlying166;rcases lawC.find w hk es.toList hks with ⟨f1, f2⟩ | ⟨j, e, f1, f2, f3⟩
  · have hn := con_not hc f2;have hp := con_push hc p 0;have hw1 := setB_heap (o' := .map (es.push ⟨keyV p, .int .i64 0, S.length⟩) (S.length + 1)) hm;have hks1 : ∀ e ∈ (es.push ⟨keyV p, .int .i64 0, S.length⟩).toList, ∃ l, keyOf Tryz.prog 169 e.key = some l := by
      intro e he;rw [Array.toList_push] at he;rcases List.mem_append.1 he with he | he
      · exact hks e he
      · simp at he; subst he; exact ⟨l, hk⟩
    refine ⟨0, S.length, _, look_none hm hk f1, ?_, ?_, setB_grown w M (.map (es.push ⟨keyV p, .int .i64 0, S.length⟩) (S.length + 1)), fun v => ?_⟩
    · rcases lawC.find (Go.ChangeMaps.setBlock w M (.map (es.push ⟨keyV p, .int .i64 0, S.length⟩) (S.length + 1))) hk _ hks1 with ⟨g1, g2⟩ | ⟨j, e, g1, g2, g3⟩
      · exact look_none hw1 hk g1
      · have he := List.mem_of_getElem? g2;rw [Array.toList_push] at he;have hv : e.val = .int .i64 0 := by
          rcases List.mem_append.1 he with he | he
          · exact absurd g3 (f2 e he)
          · simp at he; subst he; rfl
        rw [hv] at g1;exact look_some hw1 hk g1
    · simp [Instr.mapEntry, run_underlying ht, MapKept.run_getObj_map hm, lawC.check w false hk, f1, MapKept.run_setObj_map _ hm, Result.andThen, Go.ChangeMaps.setBlock, goInt]
    · refine ⟨_, con_store hp S.length (by simp) v _ hw1, setB_grown _ _ _, ?_⟩;rw [if_neg hn];exact ⟨_, by rw [setB_heap hw1, List.length_append]; rfl, con_mod hp S.length v⟩
  · have hmem := con_mem hc (List.mem_of_getElem? f2) f3;obtain ⟨hbj, n, hv⟩ := hc.2 j e f2;have hjl : j < S.length := by
      have := (List.getElem?_eq_some_iff.1 f2).1;simpa [hs] using this
    rw [hv] at f1;have hj : es[j]? = some e := by simpa using f2
    have hsame : es.modify j (fun e => { e with key := keyV p }) = es := by
      apply Array.ext';rw [Array.toList_modify];apply List.ext_getElem?;intro i;rw [List.getElem?_modify];by_cases hij : j = i
      · subst hij;rw [f2];show some (if j = j then _ else _) = _
        rw [if_pos rfl, ← f3]
      · cases es.toList[i]? <;> simp [hij]
    have hw1 := setB_heap (o' := .map es S.length) hm;refine ⟨n, j, _, look_some hm hk f1, ?_, ?_, setB_grown w M (.map es S.length), fun v => ?_⟩
    · rw [setB_same hm]; exact look_some hm hk f1
    · simp [Instr.mapEntry, run_underlying ht, MapKept.run_getObj_map hm, lawC.check w false hk, f1, hj, f3, lawC.stays w hk, hsame, MapKept.run_setObj_map _ hm, Result.andThen, Go.ChangeMaps.setBlock, goInt, hbj]
    · refine ⟨_, con_store hc j hjl v _ hw1, setB_grown _ _ _, ?_⟩;rw [if_pos hmem];exact ⟨_, setB_heap hw1, con_mod hc j v⟩
end Go.Proofs.YtcfmidmokciofaaGreatDoor.Plc
