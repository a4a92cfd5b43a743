/- Walk: chart.Of of items that a chart may be made of. -/
import Derived.Test.YtbfieomjobbhoaaGreatDoorMN26
import Derived.Test.YtbfieomjobbhoaaGreatDoorMN11
import Derived.Maps.OwnOps
import Derived.Maps.OwnSet
import Derived.Maps.Views
namespace Go.Proofs.YtbfieomjobbhoaaGreatDoor
open Go.RowKit Go.Gz Go.Maps

set_option maxRecDepth 100000
theorem lawU : Keyed Tryz.prog 22 := int_keyed Tryz.underlying22
theorem zeroI (w : World) : (zeroValue 3).run Tryz.prog w = .ok (.int .i64 0) w := by kernel_rfl
theorem newT2 (w1 : World) (t : TypeId) (u v : Value) :
    Up w1 (w1.alloc (.cells #[u, v] t)) ∧ (w1.alloc (.cells #[u, v] t)).cell? ⟨w1.heap.size, 0, none⟩ = some u ∧ (w1.alloc (.cells #[u, v] t)).cell? ⟨w1.heap.size, 1, none⟩ = some v := by
  have hb := heap_alloc_new w1 (.cells #[u, v] t);exact ⟨(Up.refl _).alloc _, blkc hb 0 _ rfl, blkc hb 1 _ rfl⟩
def cntI (L : Items) (id : Nat) : Int := if memL L id then 1 else 0
def SeenOK (D : DataW Unit) (L : Items) : Prop := Tidy D ∧ ∀ id : Nat, D.atKey (.int .u64 (id : Int)) (.lit (.int .i64 0)) = .lit (.int .i64 (cntI L id))
theorem seen_nil : SeenOK (.map []) [] := ⟨tidy_empty, fun _ => rfl⟩
theorem mem_snoc (L : Items) (x : Gz.Item) (id : Nat) : memL (L ++ [x]) id = (memL L id || x.1 == id) := by unfold memL; rw [List.any_append]; simp
theorem seen_put {D : DataW Unit} {L : Items} (h : SeenOK D L) (x : Gz.Item) : SeenOK (D.put (.int .u64 (x.1 : Int)) (.lit (.int .i64 1))) (L ++ [x]) := by
  have hkl : WideAt.IsKeyLit (.int .u64 (x.1 : Int)) := by first | exact trivial | simp [WideAt.IsKeyLit]
  refine ⟨h.1.put hkl _, fun id => ?_⟩;unfold cntI;rw [mem_snoc];by_cases e : x.1 = id
  · subst e;rw [atKey_put_same h.1.isMap hkl];simp
  · rw [atKey_put_other (by simp; omega), h.2 id];have : (x.1 == id) = false := by rw [beq_eq_false_iff_ne]; exact e
    rw [this, Bool.or_false];rfl
theorem seen_at {D : DataW Unit} {L : Items} {id : Nat} {v : Int} (h : SeenOK D L) (hat : D.atKey (.int .u64 (id : Int)) (.lit (.int .i64 0)) = .lit (.int .i64 v)) : v = cntI L id := by
  rw [h.2 id] at hat
  injection hat with hat
  injection hat with _ hat
  exact hat.symm
theorem fit_new {L : Items} (h : Fit L) {k : Nat} (hk : k < L.length) : memL (L.take k) L[k].1 = false := by
  unfold memL;rw [List.any_eq_false];intro y hy;obtain ⟨j, hj, rfl⟩ := List.getElem_of_mem hy;rw [List.length_take] at hj;rw [List.getElem_take];have := (List.pairwise_iff_getElem.1 h.nd) j k (by simp; omega) (by simpa using hk) (by omega);simp only [List.getElem_map] at this;simpa using this
theorem wf_u64 {n : Nat} (h : n < 6004799503160661) : (Lit.int .u64 (n : Int)).wf = true := by
  simp [Lit.wf, IntKind.min, IntKind.max, IntKind.bits, IntKind.signed]; omega
/-- slices.SortFunc of nothing -/
theorem wrong_fl {id : Nat} {s : Bs} (h : wrongE id s false = 0) {fl : Bool} : wrongE id s fl = if fl then 7 else 0 := by
  unfold wrongE at h ⊢;split at h
  · simp at h
  · next h1 =>
    split at h
    · simp at h
    · next h2 =>
      split at h
      · simp at h
      · next h3 => rw [if_neg h1, if_neg h2, if_neg h3]
theorem ins0_any (v f : Value) (w : World) :
    Calls Tryz.prog 160 #[v, .int .i64 0, .int .i64 0, f] w fun e w' => e = .returned (.tuple #[]) ∧ w = w' := by
  go_enter Tryz.func160, Tryz.ntmps160;go_wp2_with fail;refine wp_loop_rounds 1 ?_;rw [rounds_succ];go_wp2_with fail;go_end0
  exact ⟨rfl, rfl⟩
theorem pdq0_any (v f : Value) (n : Int) (w : World) :
    Calls Tryz.prog 105 #[v, .int .i64 0, .int .i64 0, .int .i64 n, f] w fun e w' => e = .returned (.tuple #[]) ∧ w = w' := by
  go_enter Tryz.func105, Tryz.ntmps105;go_wp2_with fail;refine wp_loop_rounds 1 ?_;rw [rounds_succ];go_wp2_with (go_at_call 160; refine (ins0_any _ _ _).mono ?_; rintro e w' ⟨rfl, rfl⟩)
  refine bodyPost_ret (results_none rfl _ _ _) rfl ?_;exact ⟨rfl, rfl⟩
theorem sort0_any (A : Option Addr) (c : Nat) (f : Value) (w : World) :
    Calls Tryz.prog 49 #[.slice A 0 c, f] w fun e w' => e = .returned (.tuple #[]) ∧ w = w' := by
  have B := fun w => Lib.hid (Tryz.bits_Len 0 w (by decide) (by decide));go_enter Tryz.func49, Tryz.ntmps49;go_wp2_with fail;refine (B _).out.mono ?_;rintro e w' ⟨rfl, rfl⟩;go_wp2_with fail;refine (pdq0_any _ _ _ _).mono ?_;rintro e w' ⟨rfl, rfl⟩;go_wp2_with fail;go_end0
  exact ⟨rfl, rfl⟩
theorem sort_any (L : Items) (hl : L.length ≤ 1000000) (base : Nat) (T : TypeId) (v : Value) (w : World) (ho : w.ownsRow base T 2 v L.length (itV L)) :
    Calls Tryz.prog 49 #[v, .func (.func 50) #[] #[]] w (SortE w L v) := by
  by_cases h0 : L = []
  · subst h0;obtain ⟨A, c, rfl, hr⟩ := Rd.of_own ho;refine (sort0_any A c _ w).mono ?_;rintro e w' ⟨rfl, rfl⟩;exact ⟨rfl, [], List.Perm.refl _, fun i j hi => absurd hi (by simp), ⟨A, c, rfl, hr⟩, World.grownBy.refl w _⟩
  · exact sort_some L hl h0 base T v w ho
def OfEnd (w : World) (M : Items) (e : Ending) (w' : World) : Prop := ∃ A c, e = .returned (.tuple #[.agg #[.slice A M.length c], .int .i64 0]) ∧ Rd w' 2 A M.length c (itV M) ∧ Up w w'
/-- a slice whose block was not there before -/
def Fresh (w : World) (A : Option Addr) : Prop := ∀ a : Addr, A = some a → w.heap.size ≤ a.block
def OfFr (w : World) (M : Items) (e : Ending) (w' : World) : Prop := ∃ A c, e = .returned (.tuple #[.agg #[.slice A M.length c], .int .i64 0]) ∧ Rd w' 2 A M.length c (itV M) ∧ Up w w' ∧ Fresh w A
def OfRel (w : World) (l : Items) (gk : Nat) (v i : Value) (wr : World) : Prop := ∃ (k : Nat) (D : DataW Unit), k + gk = l.length ∧ k ≤ 2048 ∧ i = .int .i64 (k : Int) ∧ wr.heap[w.heap.size]? = some (.cells #[.slice none 0 0] 33 (0, 0)) ∧
  wr.ownsMap Tryz.prog 22 (plainElem Tryz.prog 3) (w.heap.size + 1) k D ∧ SeenOK D (l.take k) ∧ wr.ownsRow (w.heap.size + 2) 54 2 v k (itV (l.take k)) ∧ Up w wr ∧ w.heap.size + 2 ≤ wr.heap.size
set_option maxHeartbeats 8000000 in
theorem of_fr (l : Items) (hf : Fit l) (hl : l.length ≤ 1000000) (A : Option Addr) (c : Nat) (w : World) (hr : Rd w 2 A l.length c (itV l)) :
    Calls Tryz.prog 21 #[.slice A l.length c] w fun e w' => (l.length ≤ 2048 → ∃ M : Items, M.Perm l ∧ Srt M ∧ OfFr w M e w') ∧ (2048 < l.length → e = .returned (.tuple #[.agg #[.slice none 0 0], .int .i64 7]) ∧ Up w w') := by
  obtain ⟨i0, hi, hz0, hz1, hz2⟩ := info_parts infoCI;have hmm := @run_makeMap Tryz.prog;have HR := Lib.hid hr;have HF := Lib.hid hf;have hu0 := ((Up.refl w).alloc (.cells #[.slice none 0 0] 33)).alloc (.map #[] 0);have n0 := heap_alloc_new w (.cells #[.slice none 0 0] 33);have n1 := ((Up.refl (w.alloc (.cells #[.slice none 0 0] 33))).alloc (.map #[] 0)).obj n0;have hm0 := (World.ownsMap_made (H := Unit) (w.alloc (.cells #[.slice none 0 0] 33)) Tryz.prog 22 (plainElem Tryz.prog 3));have hsz : (w.alloc (.cells #[.slice none 0 0] 33)).heap.size = w.heap.size + 1 := by simp
  rw [hsz] at hm0;have HM0 := Lib.hid hm0;have HB0 := Lib.hid n1;have HU0 := Lib.hid hu0;have hs0 : w.heap.size + 2 ≤ ((w.alloc (.cells #[.slice none 0 0] 33)).alloc (.map #[] 0)).heap.size := by simp
  have HS0 := Lib.hid hs0;clear hr hf hu0 n0 n1 hm0 hsz hs0;go_enter Tryz.func21, Tryz.ntmps21;go_wp2_with fail;go_loopg [5, 12] l.length (fun gk v i wr => OfRel w l gk v i wr)
  case atStart => exact ⟨0, .map [], by omega, by omega, rfl, HB0.out, HM0.out, seen_nil, World.ownsRow_nil _ _ _ _, HU0.out, HS0.out⟩
  case round =>
    obtain ⟨k, D, hk, hk48, rfl, hcb, hom, hse, hro, hu, hsw⟩ := hrel;have HCB := Lib.hid hcb;have HO := Lib.hid hom;have HSE := Lib.hid hse;have HRO := Lib.hid hro;have HU := Lib.hid hu;clear hcb hom hse;by_cases hlt : k < l.length
    · obtain ⟨g, rfl⟩ : ∃ g, gk = g + 1 := ⟨gk - 1, by omega⟩;obtain ⟨B, o, rfl, d0, d1⟩ := (HR.out.up hu).item hlt;have hnew := fit_new HF.out hlt;have hok := HF.out.ok _ (List.getElem_mem hlt);have htk : l.take (k + 1) = l.take k ++ [l[k]] := List.take_succ_eq_append_getElem hlt;obtain ⟨⟨id, tx⟩, hx⟩ : ∃ x, l[k]'hlt = x := ⟨_, rfl⟩;rw [hx] at d0 d1 hnew hok htk;simp only at d0 d1 hnew hok;have HTK := Lib.hid htk;have hidl := (wrongE_zero hok).1;obtain ⟨fl, hfull⟩ : ∃ b, decide ((2048 : Int) ≤ (k : Int)) = b := ⟨_, rfl⟩;have HFL := Lib.hid hfull;have WR := fun w => Lib.hid (wrong12_any id tx fl w);rw [wrong_fl hok] at WR;have HKEY := Lib.hid (keyOf_int_mk (q := .u64) (a := (id : Int)) Tryz.underlying22 (wf_u64 hidl));have S1 := Lib.hid (seen_put HSE.out (id, tx));have hc0 : cntI (l.take k) id = 0 := by unfold cntI; rw [hnew]; rfl
      have hc1 : cntI (l.take k ++ [(id, tx)]) id = 1 := by unfold cntI; rw [mem_snoc]; simp
      have HC0 := Lib.hid hc0;have HC1 := Lib.hid hc1;have x0 := newT2 wr 54 (.int .u64 (id : Int)) (.string ⟨tx.toArray⟩);have E0 := Lib.hid x0.2.1;have E1 := Lib.hid x0.2.2;have E2 := Lib.hid (x0.1.obj HCB.out);have hltI : (k : Int) < (l.length : Int) := by omega
      obtain ⟨Ao, co, rfl, hrd⟩ := Rd.of_own hro;have hkl : k ≤ 2048 := hk48;clear x0 hx htk hok hnew hu hc0 hc1 hrd hro
      go_wp2_with (first
        | (at_lookup; refine wpList_lookup_own_int _ rfl _ _ 119 rfl 22 3 .i64 lawU Tryz.underlying119 Tryz.underlying3 (zeroI _) (w.heap.size + 1) (k + 1) _ rfl HO1.out _ _ rfl HKEY.out ?_; intro c2 hat2 hwc2; have hcc2 := (seen_at S1.out hat2).trans HC1.out; clear hat2 hwc2; subst hcc2)
        | (at_lookup; refine wpList_lookup_own_int _ rfl _ _ 119 rfl 22 3 .i64 lawU Tryz.underlying119 Tryz.underlying3 (zeroI _) (w.heap.size + 1) k _ rfl (HO.out.alloc _) _ _ rfl HKEY.out ?_; intro c1 hat1 hwc1; have hcc1 := (seen_at HSE.out hat1).trans HC0.out; clear hat1 hwc1; subst hcc1)
        | (at_mapUpdate; refine wpList_mapUpdate_own _ rfl _ _ _ 119 rfl 22 3 lawU Tryz.underlying119 _ (w.heap.size + 1) k _ rfl (HO.out.alloc _) (by unfold maxLen; omega) _ _ _ rfl rfl HKEY.out _ [] (plainElem_int Tryz.underlying3 (by decide)) ?_; intro w1 hown1 hgrow1; have HO1 := Lib.hid hown1; have e0 := hgrow1.cell E0.out (by simp; omega); have e1 := hgrow1.cell E1.out (by simp; omega); have HCB1 := Lib.hid ((hgrow1.block w.heap.size (by simp; omega) (by simp)).trans E2.out); have HU1 := Lib.hid (Up.of (Below.grown (HU.out.alloc (.cells #[.int .u64 (id : Int), .string ⟨tx.toArray⟩] 54)).below hgrow1 (HU.out.alloc _).le (fun j hj => by cases hj; omega))); have HRO1 := Lib.hid (World.ownsRow.kept (row := some (w.heap.size + 1)) (HRO.out.alloc (.cells #[.int .u64 (id : Int), .string ⟨tx.toArray⟩] 54)) hgrow1 (by
            cases hb : (Value.slice Ao k co).ownBlock with
            | none => simp
            | some g' => right; have := HRO.out.lt g' hb; intro e; injection e with e; omega)); have hs1 : w.heap.size + 2 ≤ w1.heap.size := Nat.le_trans (by simp; omega) hgrow1.size; clear hown1 hgrow1))
      refine (WR _).out.mono ?_;rintro e w2 ⟨rfl, rfl⟩;clear hfull;cases fl with
      | true =>
        have hbig : 2048 < l.length := by have := of_decide_eq_true HFL.out; omega
        obtain ⟨y0, y1⟩ := blk_one HCB1.out;go_wp2_with fail;have hb5 := heap_setCell_same w1 w.heap.size 0 #[.slice none 0 0] 33 (.slice none 0 0) HCB1.out;have d5 := (blk_one hb5).1;refine bodyPost_ret (v := .tuple #[.agg #[.slice none 0 0], .int .i64 7]) (by simp [results, Tryz.results21, go_sem, d5]) rfl ⟨fun h => absurd h (by omega), fun _ => ⟨rfl, HU1.out.set (by simp) _⟩⟩
      | false =>
      have hk47 : k < 2048 := by have := of_decide_eq_false HFL.out; omega
      go_wp2_with (at_builtin; refine app_one w1 rfl _ _ 31 rfl (w.heap.size + 2) 54 i0 _ 2 24 Tryz.underlying31 hi hz0 hz1 hz2 rfl (by decide) (.slice Ao k co) k (itV (l.take k)) HRO1.out rfl #[.int .u64 (id : Int), .string ⟨tx.toArray⟩] rfl rfl (by simp [Value.oneCell']) (by omega) (by omega) hs1 ?_; intro v3 w3 ho3 hg3 hb3)
      have own : ∀ g', (Value.slice Ao k co).ownBlock = some g' → w.heap.size + 2 ≤ g' := fun g' hb => (HRO1.out.lt g' hb).1;have hne : ∀ j, j < w.heap.size + 2 → some j ≠ (Value.slice Ao k co).ownBlock := fun j hj e => by have := own j e.symm; omega
      have HO3 := Lib.hid (World.ownsMap.kept HO1.out hg3 (hne _ (by omega)));have HCB3 := Lib.hid ((hg3.block w.heap.size (by omega) (hne _ (by omega))).trans HCB1.out);have HU3 := Lib.hid (Up.of (Below.grown HU1.out.below hg3 HU1.out.le (fun j hj => by have := own j hj; omega)));have HRO3 := Lib.hid ho3;have hs3 : w.heap.size + 2 ≤ w3.heap.size := Nat.le_trans hs1 hg3.size;clear ho3 hg3 hb3 hne own;go_wp2_with fail;go_roundg g
      case measure => omega
      case rel =>
        refine ⟨k + 1, D.put (.int .u64 (id : Int)) (.lit (.int .i64 1)), by omega, by omega, by go_num, HCB3.out, HO3.out, ?_, ?_, HU3.out, hs3⟩
        · rw [HTK.out]; exact S1.out
        · rw [HTK.out, itV_app]; exact HRO3.out
    · obtain rfl : k = l.length := by omega
      rw [List.take_length] at hro;obtain ⟨Ao, co, rfl, hrd⟩ := Rd.of_own hro;have SO := Lib.hid (sort_any l (by omega) _ _ _ wr hro);have own : ∀ g', (Value.slice Ao l.length co).ownBlock = some g' → w.heap.size + 2 ≤ g' := fun g' hb => (hro.lt g' hb).1;have OWN := Lib.hid own;clear hlt hu hro HRO own hrd;go_wp2_with fail;with_reducible refine SO.out.mono ?_
      rintro e w4 ⟨rfl, M, hp, hs, ⟨A4, c4, e4, hr4⟩, hg4⟩;injection e4 with e4 _ e5;subst e4 e5;have hne : ∀ j, j < w.heap.size + 2 → some j ≠ (Value.slice Ao l.length co).ownBlock := fun j hj e => by have := OWN.out j e.symm; omega
      have HCB4 := Lib.hid ((hg4.block w.heap.size (by omega) (hne _ (by omega))).trans HCB.out);have HU4 := Lib.hid (Up.of (Below.grown HU.out.below hg4 HU.out.le (fun j hj => by have := OWN.out j hj; omega)));have HR4 := Lib.hid hr4;have HP := Lib.hid hp;have HS := Lib.hid hs;obtain ⟨y0, y1⟩ := blk_one HCB4.out;clear hr4 hp hs hg4 hne;go_wp2_with fail;have hb5 := heap_setCell_same w4 w.heap.size 0 #[.slice none 0 0] 33 (.slice Ao l.length co) HCB4.out;have d5 := (blk_one hb5).1;have hml : M.length = l.length := HP.out.length_eq;refine bodyPost_ret (v := .tuple #[.agg #[.slice Ao l.length co], .int .i64 0]) (by simp [results, Tryz.results21, go_sem, d5]) rfl ⟨fun _ => ⟨M, HP.out, ?_, Ao, co, by rw [hml], ?_, HU4.out.set (by simp) _, fun a ha => by subst ha; have := OWN.out a.block rfl; omega⟩, fun h => absurd h (by omega)⟩
      · have hf2 := fit_perm HF.out HP.out;intro i j hi hj hij;have h1 := HS.out i j hi hj hij;have h2 := (List.pairwise_iff_getElem.1 hf2.nd) i j (by simpa using hi) (by simpa using hj) hij;simp only [List.getElem_map] at h2;omega
      · rw [hml];have hr5 : Rd w4 2 Ao l.length co (itV M) := HR4.out;rw [← hml] at hr5 ⊢;exact Rd.far (L := M) hr5 HCB4.out _
theorem of_if (l : Items) (hf : Fit l) (hl : l.length ≤ 1000000) (A : Option Addr) (c : Nat) (w : World) (hr : Rd w 2 A l.length c (itV l)) :
    Calls Tryz.prog 21 #[.slice A l.length c] w fun e w' => (l.length ≤ 2048 → ∃ M : Items, M.Perm l ∧ Srt M ∧ OfEnd w M e w') ∧ (2048 < l.length → e = .returned (.tuple #[.agg #[.slice none 0 0], .int .i64 7]) ∧ Up w w') :=
  (of_fr l hf hl A c w hr).mono fun _ _ h => ⟨fun g => let ⟨M, p, s, A, c, e, r, u, _⟩ := h.1 g; ⟨M, p, s, A, c, e, r, u⟩, h.2⟩
theorem of_any (l : Items) (hf : Fit l) (hl : l.length ≤ 2048) (A : Option Addr) (c : Nat) (w : World) (hr : Rd w 2 A l.length c (itV l)) :
    Calls Tryz.prog 21 #[.slice A l.length c] w fun e w' => ∃ M : Items, M.Perm l ∧ Srt M ∧ OfEnd w M e w' :=
  (of_if l hf (by omega) A c w hr).mono fun _ _ h => h.1 hl
end Go.Proofs.YtbfieomjobbhoaaGreatDoor
