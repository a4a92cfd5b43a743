/- Walks: unite.some, Only, Both, Over. -/
import Derived.Test.YtjhgaildbeokkaaGreatDoorGT19
import Derived.Test.YtjhgaildbeokkaaGreatDoorGT23
import Derived.Test.YtjhgaildbeokkaaGreatDoorGT16
import Derived.Test.YtjhgaildbeokkaaGreatDoorGT10
import Derived.Test.YtjhgaildbeokkaaGreatDoorGT02
namespace Go.Proofs.YtjhgaildbeokkaaGreatDoor
open Go.RowKit Go.Gz Go.Shelf

set_option maxRecDepth 100000
attribute [local go_sem] Oper.semAt_some
theorem some_next (L M : Items) (t : Bool) {k : Nat} (hk : k < L.length) : someL (L.take (k + 1)) M t = someL (L.take k) M t ++ (if memL M L[k].1 = t then [L[k]] else []) := by
  unfold someL;rw [List.take_succ_eq_append_getElem hk, List.filter_append];by_cases h : memL M L[k].1 = t
  · simp [h]
  · simp [h]
theorem Rd.lowI {w : World} {L : Items} {A : Option Addr} {c : Nat} (hr : Rd w 2 A L.length c (itV L)) : ∀ a, A = some a → 0 < L.length → a.block < w.heap.size := fun a ha hn => by
  obtain ⟨b, o, e, hc⟩ := hr.2.2.2.2 hn;rw [ha] at e; injection e with e; subst e;obtain ⟨u, hu⟩ : ∃ u, (itV L)[0]? = some u := ⟨_, List.getElem?_eq_getElem (by rw [itV_len]; omega)⟩;exact World.block_lt_of_cell? _ _ (hc 0 u hu)
theorem Rd.put {W : World} {size n c k : Nat} {A : Option Addr} {xs : List Value} {ds : Option (List Deferred)} {o' : Obj} (h : Rd W size A n c xs) (hk : W.heap[k]? = some (.deferred ds)) : Rd (W.putObj k o') size A n c xs :=
  ⟨h.1, h.2.1, h.2.2.1, h.2.2.2.1, fun hn => let ⟨b, o, e, hc⟩ := h.2.2.2.2 hn; ⟨b, o, e, fun j u hj => by
    have h1 := hc j u hj;have hne : k ≠ b := by
      intro e; subst e;simp [World.cell?, hk] at h1
    unfold World.cell? at h1 ⊢;rw [World.putObj_heap_other (by exact Ne.symm hne)];exact h1⟩⟩
/-- a chart -/
def ChaE (w : World) (M : Items) (e : Ending) (w' : World) : Prop := ∃ A c, e = .returned (.agg #[.slice A M.length c]) ∧ Rd w' 2 A M.length c (itV M) ∧ Up w w'
/-- what stands in the round of unite.some -/
def SomI (w : World) (N : Nat) (S M : Items) (t : Bool) (A2 : Option Addr) (c2 : Nat) (W : World) : Prop := ∃ v, W.heap[N + 1]? = some (.cells #[.slice A2 M.length c2] 29 (0, 0)) ∧ W.heap[N + 1 + 1]? = some (.cells #[.bool t] 4 (0, 0)) ∧ W.heap[N + 1 + 1 + 1]? = some (.cells #[.slice none 0 0] 29 (0, 0)) ∧ W.heap[N + 1 + 1 + 1 + 1]? = some (.cells #[v] 27 (0, 0)) ∧
  W.ownsRow (N + 8) 102 2 v S.length (itV S) ∧ Up w W
theorem somI_up {w : World} {N : Nat} {S M : Items} {t : Bool} {A2 : Option Addr} {c2 : Nat} {W W' : World} (h : SomI w N S M t A2 c2 W) (hu : Up W W') : SomI w N S M t A2 c2 W' := by
  obtain ⟨v, g1, g2, g3, g4, g5, g6⟩ := h;exact ⟨v, hu.obj g1, hu.obj g2, hu.obj g3, hu.obj g4, own_up g5 hu, g6.trans hu⟩
/-- a block at r turns that is none of these -/
theorem somI_grown {w : World} {S M : Items} {t : Bool} {A2 : Option Addr} {c2 : Nat} {W W' : World} {r : Nat} (h : SomI w w.heap.size S M t A2 c2 W) (hg : W.grownBy W' (some r)) (h1 : w.heap.size + 6 ≤ r) (hr : ∀ v : Value, W.ownsRow (w.heap.size + 8) 102 2 v S.length (itV S) → v.ownBlock ≠ some r) : SomI w w.heap.size S M t A2 c2 W' := by
  obtain ⟨v, g1, g2, g3, g4, g5, g6⟩ := h;have k : ∀ (j : Nat) (o : Obj), j < w.heap.size + 6 → W.heap[j]? = some o → W'.heap[j]? = some o := fun j o hj ho => (hg.block _ (Array.getElem?_eq_some_iff.1 ho).1 (by intro e; injection e with e; omega)).trans ho;refine ⟨v, k _ _ (by omega) g1, k _ _ (by omega) g2, k _ _ (by omega) g3, k _ _ (by omega) g4, g5.kept hg ?_, Up.of (g6.below.grown hg g6.le (fun j e => by cases e; omega))⟩;cases hv : v.ownBlock with
  | none => exact .inl rfl
  | some g => exact .inr (fun e => hr v g5 (hv.trans e))
set_option maxHeartbeats 16000000 in
theorem some48_any (L M : Items) (hg : Gz.Good L) (hl : L.length ≤ 2048) (hsM : Srt M) (hlM : M.length ≤ 100000) (t : Bool) (A1 : Option Addr) (c1 : Nat) (A2 : Option Addr) (c2 : Nat) (w : World) (hr1 : Rd w 2 A1 L.length c1 (itV L)) (hr2 : Rd w 2 A2 M.length c2 (itV M)) :
    Calls Tryz.prog 157 #[.agg #[.slice A1 L.length c1], .agg #[.slice A2 M.length c2], .bool t] w (ChaE w (someL L M t)) := by
  have hA := hr1.lowI;obtain ⟨i0, hi, hz0, hz1, hz2⟩ := info_parts infoCI;have GT := fun id w hr => Lib.hid (cget12_any M (by omega) id A2 c2 hsM w hr);have HR2 := Lib.hid hr2;clear hr2;refine (callsIn_wide (n := 3)).1 ?_;refine callsIn_of_wp_marks Tryz.func157 rfl trivial ?_ rfl;simp only [Tryz.ntmps157, List.size_toArray, List.length_cons, List.length_nil, Nat.reduceAdd, Nat.reduceSub, Array.replicate_succ, Array.replicate_zero, List.push_toArray, List.append_toArray, List.nil_append, List.cons_append];gi_wp2;refine ⟨trivial, (callsIn_wide.2 (each_any _ _ _ _)).mono ?_⟩;rintro e w2 ⟨rfl, rfl⟩;gi_wp2;have hq0 := heap_alloc_new w (.cells #[.slice A1 L.length c1] 29);have hq1 := heap_alloc_new (w.alloc (.cells #[.slice A1 L.length c1] 29)) (.cells #[.slice A2 M.length c2] 29);have hq2 := heap_alloc_new ((w.alloc (.cells #[.slice A1 L.length c1] 29)).alloc (.cells #[.slice A2 M.length c2] 29)) (.cells #[.bool t] 4);have hq3 := heap_alloc_new (((w.alloc (.cells #[.slice A1 L.length c1] 29)).alloc (.cells #[.slice A2 M.length c2] 29)).alloc (.cells #[.bool t] 4)) (.cells #[.slice none 0 0] 29);have hq4 := heap_alloc_new ((((w.alloc (.cells #[.slice A1 L.length c1] 29)).alloc (.cells #[.slice A2 M.length c2] 29)).alloc (.cells #[.bool t] 4)).alloc (.cells #[.slice none 0 0] 29)) (.cells #[.slice none 0 0] 27);have hq5 := heap_alloc_new (((((w.alloc (.cells #[.slice A1 L.length c1] 29)).alloc (.cells #[.slice A2 M.length c2] 29)).alloc (.cells #[.bool t] 4)).alloc (.cells #[.slice none 0 0] 29)).alloc (.cells #[.slice none 0 0] 27)) (.cells #[.slice A1 L.length c1] 29);simp only [World.size_alloc] at hq1 hq2 hq3 hq4 hq5;replace hq0 := ((((((Up.refl _).alloc (.cells #[.slice A2 M.length c2] 29)).alloc (.cells #[.bool t] 4)).alloc (.cells #[.slice none 0 0] 29)).alloc (.cells #[.slice none 0 0] 27)).alloc (.cells #[.slice A1 L.length c1] 29)).obj hq0;replace hq1 := (((((Up.refl _).alloc (.cells #[.bool t] 4)).alloc (.cells #[.slice none 0 0] 29)).alloc (.cells #[.slice none 0 0] 27)).alloc (.cells #[.slice A1 L.length c1] 29)).obj hq1;replace hq2 := ((((Up.refl _).alloc (.cells #[.slice none 0 0] 29)).alloc (.cells #[.slice none 0 0] 27)).alloc (.cells #[.slice A1 L.length c1] 29)).obj hq2;replace hq3 := (((Up.refl _).alloc (.cells #[.slice none 0 0] 27)).alloc (.cells #[.slice A1 L.length c1] 29)).obj hq3;replace hq4 := ((Up.refl _).alloc (.cells #[.slice A1 L.length c1] 29)).obj hq4;have hu2 : Up w ((((((w.alloc (.cells #[.slice A1 L.length c1] 29)).alloc (.cells #[.slice A2 M.length c2] 29)).alloc (.cells #[.bool t] 4)).alloc (.cells #[.slice none 0 0] 29)).alloc (.cells #[.slice none 0 0] 27)).alloc (.cells #[.slice A1 L.length c1] 29)) := ((((((Up.refl w).alloc _).alloc _).alloc _).alloc _).alloc _).alloc _;have hI0 : SomI w w.heap.size (someL (L.take 0) M t) M t A2 c2 ((((((w.alloc (.cells #[.slice A1 L.length c1] 29)).alloc (.cells #[.slice A2 M.length c2] 29)).alloc (.cells #[.bool t] 4)).alloc (.cells #[.slice none 0 0] 29)).alloc (.cells #[.slice none 0 0] 27)).alloc (.cells #[.slice A1 L.length c1] 29)) := ⟨_, hq1, hq2, hq3, hq4, World.ownsRow_nil _ _ _ _, hu2⟩;have HW0 := Lib.hid (show ((((((w.alloc (.cells #[.slice A1 L.length c1] 29)).alloc (.cells #[.slice A2 M.length c2] 29)).alloc (.cells #[.bool t] 4)).alloc (.cells #[.slice none 0 0] 29)).alloc (.cells #[.slice none 0 0] 27)).alloc (.cells #[.slice A1 L.length c1] 29)).heap.size = w.heap.size + 6 by simp)
  refine wpIn_rangeFunc_all rfl (by omega) (gf := 179) (lb := #[.pointer (some ⟨w.heap.size + 1 + 1 + 1 + 1 + 1, 0, none⟩)]) rfl trivial (enters_of Tryz.func179 (by kernel_rfl) rfl)
    (each_all 3 2 (by omega) L (by omega) (w.heap.size + 1 + 1 + 1 + 1 + 1) w.heap.size A1 c1 _ (blk_one hq5).1 (hr1.up hu2) hA) keepB_t
    (fun W k o o' h1 _ ho hc => keepB_b W k o o' (by simp at h1; omega) (by simp at h1 ⊢; omega) ho hc) (fun _ => rfl)
    (fun k W => SomI w w.heap.size (someL (L.take k) M t) M t A2 c2 W)
    (fun s W k o' h1 h2 hc hI => ?i1) (fun s W W' hI hu => somI_up hI hu) (fun s W W' r cs fz hI h1 hr hg => ?i3)
    hI0
    (fun x => { tmps := (.agg #[.slice A1 L.length c1] :: .agg #[.slice A2 M.length c2] :: .bool t :: .pointer (some ⟨w.heap.size, 0, none⟩) :: .pointer (some ⟨w.heap.size + 1, 0, none⟩) :: .pointer (some ⟨w.heap.size + 1 + 1, 0, none⟩) :: .pointer (some ⟨w.heap.size + 1 + 1 + 1, 0, none⟩) :: .pointer (some ⟨w.heap.size + 1 + 1 + 1 + 1, 0, none⟩) :: .int .u64 (x.1 : Int) :: .string ⟨x.2.toArray⟩ :: undef :: undef :: undef :: undef :: .agg #[.slice A1 L.length c1] :: .func (.func 179) #[] #[.pointer (some ⟨w.heap.size + 1 + 1 + 1 + 1 + 1, 0, none⟩)] :: .int .u64 (x.1 : Int) :: .string ⟨x.2.toArray⟩ :: undef :: undef :: undef :: undef :: undef :: undef :: undef :: undef :: undef :: undef :: undef :: undef :: undef :: undef :: undef :: undef :: undef :: undef :: undef :: undef :: undef :: []).toArray, defers := [] }) ?assign ?body ?done
  case i1 =>
    rw [HW0.out] at h1 h2;refine somI_grown hI (grownBy_putObj' W k o') h1 (fun v ho e => ?_);have := (ho.lt k e).1;omega
  case i3 =>
    rw [HW0.out] at h1;refine somI_grown hI hg (by omega) (fun v ho e => ?_);rcases ho.2 with ⟨rfl, _⟩ | ⟨g, cap, cur, rfl, _, hh, _⟩
    · cases e
    · injection e with e;have e : g = r := e;subst e;rw [hh] at hr;injection hr with hr;injection hr with _ hr _;exact absurd hr (by decide)
  case assign =>
    intro lp x W K hK;gi_wp2;exact hK
  case body =>
    rintro lp k x W hx hI hsz;rw [HW0.out] at hsz ⊢;clear hq0 hq1 hq2 hq3 hq4 hq5 hu2 hI0 HW0;obtain ⟨hkl, hkx⟩ := List.getElem?_eq_some_iff.1 hx;have hst := some_next L M t hkl;rw [hkx] at hst;have hml : (someL (L.take k) M t).length ≤ k := by have := some_len (L.take k) M t; rw [List.length_take] at this; omega
    have HI := Lib.hid hI;obtain ⟨v, g1, g2, g3, g4, g5, g6⟩ := hI;obtain ⟨x1, xt⟩ := x;simp only at hst ⊢;have c1' := (blk_one g1).1;have c2' := (blk_one g2).1;have HR2W := Lib.hid (HR2.out.up g6);have G := fun w hr => GT x1 w hr;rw [mem_get] at hst;generalize (getL M x1).getD [] = gs at G;generalize (getL M x1).isSome = gi at G hst;have HG4 := Lib.hid g4;have HG5 := Lib.hid g5;have HG6 := Lib.hid g6;clear g1 g2 g3 g4 g5 g6 GT hx hkx;have hsz' : w.heap.size + 8 ≤ W.heap.size := by omega
    gi_wp2;refine ⟨trivial, (CallsIn.inRound lp (callsIn_wide.2 (G _ HR2W.out).out)).mono ?_⟩;rintro e W1 ⟨rfl, hu1⟩;have hsz1 := Nat.le_trans hsz' hu1.le;have d1 := hu1.cell c1';have d2 := hu1.cell c2';obtain ⟨d4, _⟩ := blk_one (hu1.obj HG4.out);by_cases he : gi = t
    · rw [if_pos he] at hst;have HST := Lib.hid hst;have hb : (gi == t) = true := by rw [he]; simp
      clear hst he c1' c2';have HO1 := Lib.hid (own_up HG5.out hu1);have HF4 := Lib.hid (hu1.obj HG4.out);obtain ⟨A3, c3, rfl, _⟩ := Rd.of_own HO1.out;gi_wp2_with (gi_at_builtin; refine app_oneIn W1 rfl _ _ 27 rfl (w.heap.size + 8) 102 i0 _ 2 24 Tryz.underlying27 hi hz0 hz1 hz2 rfl (by decide) _ _ _ HO1.out rfl #[.int .u64 (x1 : Int), .string ⟨xt.toArray⟩] rfl rfl (by simp [Value.oneCell']) (by omega) (by omega) (by omega) ?_; intro g' cap' w6 ho6 hg0 hb6 hk6; have g46 := (hb6.block (w.heap.size + 1 + 1 + 1 + 1) (by omega)).trans HF4.out; obtain ⟨c46, f46⟩ := blk_one g46)
      have HIu := somI_up HI.out hu1;obtain ⟨v', g1, g2, g3, g4, g5, g6⟩ := HIu;have hset : ∀ j, j ≠ w.heap.size + 1 + 1 + 1 + 1 → (w6.setCell ⟨w.heap.size + 1 + 1 + 1 + 1, 0, none⟩ (.slice (some ⟨g', 0, none⟩) ((someL (L.take k) M t).length + 1) cap')).heap[j]? = w6.heap[j]? := fun j hj => Below.heap_setCell w6 ⟨w.heap.size + 1 + 1 + 1 + 1, 0, none⟩ _ j (by simp; omega);have hbl : ∀ j, j < w.heap.size + 8 → j ≠ w.heap.size + 1 + 1 + 1 + 1 → (w6.setCell ⟨w.heap.size + 1 + 1 + 1 + 1, 0, none⟩ (.slice (some ⟨g', 0, none⟩) ((someL (L.take k) M t).length + 1) cap')).heap[j]? = W1.heap[j]? := fun j hj hne => (hset j hne).trans (hb6.block j hj);refine ⟨fun j h1 h2 => (hbl j (by omega) (by omega)).trans (hu1.block (by omega)), keepB_t (keepB_up hu1 (by omega) (by intro q hq; simp at hq; omega)) (keepB_t (hk6 _ _ _ (by decide) (by omega) (by intro q hq; simp at hq; omega)) (keepB_grown (grown_set w6 (w.heap.size + 1 + 1 + 1 + 1) _) g46 (by decide) (by have := hb6.size; omega) (by omega) (by intro q hq; simp at hq; have := hb6.size; omega))), ?_⟩;refine ⟨_, (hbl _ (by omega) (by omega)).trans g1, (hbl _ (by omega) (by omega)).trans g2, (hbl _ (by omega) (by omega)).trans g3, heap_setCell_same w6 (w.heap.size + 1 + 1 + 1 + 1) 0 _ _ _ g46, ?_, Up.of ((Below.trans g6.below (Below.mono hb6 (by omega))).setCell (p := ⟨w.heap.size + 1 + 1 + 1 + 1, 0, none⟩) (by simp; omega) _)⟩;rw [HST.out, List.length_append, itV_app];exact ho6.kept (grown_set w6 (w.heap.size + 1 + 1 + 1 + 1) _) (.inr (by intro e; injection e with e; have e : g' = w.heap.size + 1 + 1 + 1 + 1 := e; omega))
    · rw [if_neg he, List.append_nil] at hst;have hb : (gi == t) = false := by rw [beq_eq_false_iff_ne]; exact he
      clear he c1' c2';gi_wp2;rw [hst];exact ⟨fun j h1 h2 => hu1.block (by omega), keepB_up hu1 (by omega) (by intro q hq; simp at hq; omega), somI_up HI.out hu1⟩
  case done =>
    rintro W hI hD;rw [List.take_length] at hI;rw [HW0.out] at hD ⊢;clear hq0 hq1 hq2 hq3 hq4 hq5 hu2 hI0 HW0 GT;have HI := Lib.hid hI;have hgs := good_some hg M t;obtain ⟨v, g1, g2, g3, g4, g5, g6⟩ := hI;obtain ⟨A3, c3, rfl, r3⟩ := Rd.of_own g5;have c4 := (blk_one g4).1;have OF := Lib.hid (of_any (someL L M t) (good_fit hgs) hgs.len A3 c3 W r3);have HG3 := Lib.hid g3;have HG6 := Lib.hid g6;clear g1 g2 g3 g4 g5 r3;gi_wp2;refine ⟨trivial, (callsIn_wide.2 OF.out).mono ?_⟩;rintro e w5 ⟨M', hp, hs, A6, c6, rfl, r6, hu5⟩;obtain rfl : M' = someL L M t := srt_perm hgs.srt hs hp;generalize someL L M t = S at *;have n6 := new1 w5 29 (.slice A6 S.length c6);have HB3 := Lib.hid (n6.1.obj (hu5.obj HG3.out));have hD6 := n6.1.obj (hu5.obj hD);have k6 := n6.2.1;have HR6 := Lib.hid (r6.up n6.1);have HU6 := Lib.hid (HG6.out.trans (hu5.trans n6.1));obtain ⟨k3, f3⟩ := blk_one HB3.out;clear hp hs r6 OF c4 n6;gi_wp2;have HB5 := Lib.hid (heap_setCell_same _ (w.heap.size + 1 + 1 + 1) 0 _ 29 (.slice A6 S.length c6) HB3.out);have HR5 := Lib.hid (HR6.out.far HB3.out (.slice A6 S.length c6));refine ⟨by simp, .inl ⟨_, _, rfl, run_takeDeferred ((Below.heap_setCell _ ⟨w.heap.size + 1 + 1 + 1, 0, none⟩ _ _ (by simp)).trans hD6), ?_⟩⟩;have HB7 := (World.putObj_heap_other (o := .deferred none) (show w.heap.size + 1 + 1 + 1 ≠ w.heap.size + 6 by omega)).trans HB5.out;have d7 := (blk_one HB7).1;refine ⟨.agg #[.slice A6 S.length c6], by simp [results, Tryz.results157, go_sem, d7], A6, c6, rfl, ?_, ?_⟩
    · exact HR5.out.put ((Below.heap_setCell _ ⟨w.heap.size + 1 + 1 + 1, 0, none⟩ _ _ (by simp)).trans hD6)
    · exact Up.of ((HU6.out.set (p := ⟨w.heap.size + 1 + 1 + 1, 0, none⟩) (by simp; omega) _).below.grown (grownBy_putObj' _ _ _) (HU6.out.set (p := ⟨w.heap.size + 1 + 1 + 1, 0, none⟩) (by simp; omega) _).le (fun j e => by cases e; omega))
theorem only48_any (L M : Items) (hg : Gz.Good L) (hl : L.length ≤ 2048) (hsM : Srt M) (hlM : M.length ≤ 100000) (A1 : Option Addr) (c1 : Nat) (A2 : Option Addr) (c2 : Nat) (w : World) (hr1 : Rd w 2 A1 L.length c1 (itV L)) (hr2 : Rd w 2 A2 M.length c2 (itV M)) :
    Calls Tryz.prog 77 #[.agg #[.slice A1 L.length c1], .agg #[.slice A2 M.length c2]] w (ChaE w (someL L M false)) := by
  have n1 := ((((Up.refl w).alloc (.cells #[.slice A1 L.length c1] 29)).alloc (.cells #[.slice A2 M.length c2] 29)).alloc (.cells #[.slice none 0 0] 29));have SX := Lib.hid (some48_any L M hg hl hsM hlM false A1 c1 A2 c2 _ (hr1.up n1) (hr2.up n1));have q2 := heap_alloc_new ((w.alloc (.cells #[.slice A1 L.length c1] 29)).alloc (.cells #[.slice A2 M.length c2] 29)) (.cells #[.slice none 0 0] 29);simp only [World.size_alloc] at q2;have HQ := Lib.hid q2;have HN := Lib.hid n1;clear hr1 hr2 n1 q2;go_enter Tryz.func77, Tryz.ntmps77;go_wp2_with fail;with_reducible refine SX.out.mono ?_
  rintro e w2 ⟨A6, c6, rfl, r6, hu⟩;generalize someL L M false = S at *;have HQ2 := Lib.hid (hu.obj HQ.out);obtain ⟨k3, f3⟩ := blk_one HQ2.out;have HR := Lib.hid r6;clear r6;go_wp2_with fail;have HB5 := Lib.hid (heap_setCell_same w2 (w.heap.size + 1 + 1) 0 _ 29 (.slice A6 S.length c6) HQ2.out);have d7 := (blk_one HB5.out).1;refine bodyPost_ret (v := .agg #[.slice A6 S.length c6]) (by simp [results, Tryz.results77, go_sem, d7]) rfl ⟨A6, c6, rfl, HR.out.far HQ2.out _, (HN.out.trans hu).set (p := ⟨w.heap.size + 1 + 1, 0, none⟩) (by simp; omega) _⟩
theorem both48_any (L M : Items) (hg : Gz.Good L) (hl : L.length ≤ 2048) (hsM : Srt M) (hlM : M.length ≤ 100000) (A1 : Option Addr) (c1 : Nat) (A2 : Option Addr) (c2 : Nat) (w : World) (hr1 : Rd w 2 A1 L.length c1 (itV L)) (hr2 : Rd w 2 A2 M.length c2 (itV M)) :
    Calls Tryz.prog 78 #[.agg #[.slice A1 L.length c1], .agg #[.slice A2 M.length c2]] w (ChaE w (someL L M true)) := by
  have n1 := ((((Up.refl w).alloc (.cells #[.slice A1 L.length c1] 29)).alloc (.cells #[.slice A2 M.length c2] 29)).alloc (.cells #[.slice none 0 0] 29));have SX := Lib.hid (some48_any L M hg hl hsM hlM true A1 c1 A2 c2 _ (hr1.up n1) (hr2.up n1));have q2 := heap_alloc_new ((w.alloc (.cells #[.slice A1 L.length c1] 29)).alloc (.cells #[.slice A2 M.length c2] 29)) (.cells #[.slice none 0 0] 29);simp only [World.size_alloc] at q2;have HQ := Lib.hid q2;have HN := Lib.hid n1;clear hr1 hr2 n1 q2;go_enter Tryz.func78, Tryz.ntmps78;go_wp2_with fail;with_reducible refine SX.out.mono ?_
  rintro e w2 ⟨A6, c6, rfl, r6, hu⟩;generalize someL L M true = S at *;have HQ2 := Lib.hid (hu.obj HQ.out);obtain ⟨k3, f3⟩ := blk_one HQ2.out;have HR := Lib.hid r6;clear r6;go_wp2_with fail;have HB5 := Lib.hid (heap_setCell_same w2 (w.heap.size + 1 + 1) 0 _ 29 (.slice A6 S.length c6) HQ2.out);have d7 := (blk_one HB5.out).1;refine bodyPost_ret (v := .agg #[.slice A6 S.length c6]) (by simp [results, Tryz.results78, go_sem, d7]) rfl ⟨A6, c6, rfl, HR.out.far HQ2.out _, (HN.out.trans hu).set (p := ⟨w.heap.size + 1 + 1, 0, none⟩) (by simp; omega) _⟩
end Go.Proofs.YtjhgaildbeokkaaGreatDoor
/- Walks: cover.side, Check, Has; slices.ContainsFunc of rectangles; gazetteerlaw38.rects. -/
namespace Go.Proofs.YtjhgaildbeokkaaGreatDoor
open Go.RowKit Go.Gz Go.Shelf

set_option maxRecDepth 100000
theorem cside_any (a b n : Int) (w : World) :
    Calls Tryz.prog 232 #[.int .i64 a, .int .i64 b, .int .i64 n] w fun e w' => e = .returned (.bool (inR a b n)) ∧ w = w' := by
  unfold inR;by_cases h0 : 0 ≤ a
  · by_cases h1 : a ≤ b
    · by_cases h2 : b < n
      all_goals
        go_enter Tryz.func232, Tryz.ntmps232;go_wp2_with fail;go_ret;refine ⟨?_, rfl⟩;simp [h0, h1, h2]
    · go_enter Tryz.func232, Tryz.ntmps232;go_wp2_with fail;go_ret;refine ⟨ret_bool ?_, rfl⟩;rw [show decide (a ≤ b) = false from decide_eq_false (by omega)]; simp
  · go_enter Tryz.func232, Tryz.ntmps232;go_wp2_with fail;go_ret;refine ⟨ret_bool ?_, rfl⟩;rw [show decide (0 ≤ a) = false from decide_eq_false (by omega)]; simp
abbrev rcA (r : Rc) : Value := .agg #[.int .i64 r.z, .int .i64 r.x0, .int .i64 r.y0, .int .i64 r.x1, .int .i64 r.y1]
abbrev rcC (r : Rc) : Obj := .cells #[.int .i64 r.z, .int .i64 r.x0, .int .i64 r.y0, .int .i64 r.x1, .int .i64 r.y1] 166
abbrev tiA (z x y : Int) : Value := .agg #[.int .i64 z, .int .i64 x, .int .i64 y]
abbrev tiC (z x y : Int) : Obj := .cells #[.int .i64 z, .int .i64 x, .int .i64 y] 171
theorem rc_cells {w : World} {B : Nat} {r : Rc} (h : w.heap[B]? = some (rcC r)) : w.cell? ⟨B, 0, none⟩ = some (.int .i64 r.z) ∧ w.cell? ⟨B, 1, none⟩ = some (.int .i64 r.x0) ∧ w.cell? ⟨B, 2, none⟩ = some (.int .i64 r.y0) ∧ w.cell? ⟨B, 3, none⟩ = some (.int .i64 r.x1) ∧ w.cell? ⟨B, 4, none⟩ = some (.int .i64 r.y1) :=
  ⟨blkc h 0 _ rfl, blkc h 1 _ rfl, blkc h 2 _ rfl, blkc h 3 _ rfl, blkc h 4 _ rfl⟩
theorem ti_cells {w : World} {B : Nat} {z x y : Int} (h : w.heap[B]? = some (tiC z x y)) : w.cell? ⟨B, 0, none⟩ = some (.int .i64 z) ∧ w.cell? ⟨B, 1, none⟩ = some (.int .i64 x) ∧ w.cell? ⟨B, 2, none⟩ = some (.int .i64 y) :=
  ⟨blkc h 0 _ rfl, blkc h 1 _ rfl, blkc h 2 _ rfl⟩
theorem ccheck_any (r : Rc) (w : World) :
    Calls Tryz.prog 160 #[rcA r] w fun e w' => e = .returned (.int .i64 (chkR r)) ∧ Up w w' := by
  obtain ⟨z, x0, y0, x1, y1⟩ := r;unfold chkR;simp only;have SD := fun w => Lib.hid (side_any z w);generalize sideV z = n at *;have S1 := fun w => Lib.hid (cside_any x0 x1 n w);have S2 := fun w => Lib.hid (cside_any y0 y1 n w);generalize inR x0 x1 n = b1 at *;generalize inR y0 y1 n = b2 at *;obtain ⟨c0, c1, c2, c3, c4⟩ := rc_cells (r := ⟨z, x0, y0, x1, y1⟩) (heap_alloc_new w _);simp only at c0 c1 c2 c3 c4;have hu := (Up.refl w).alloc (rcC ⟨z, x0, y0, x1, y1⟩);by_cases h0 : n = 0
  · subst h0;rw [if_pos rfl];go_enter Tryz.func160, Tryz.ntmps160;go_wp2_with fail;refine (SD _).out.mono ?_;rintro e w1 ⟨rfl, rfl⟩;go_wp2_with fail;go_ret;exact ⟨rfl, hu⟩
  have h0b : (n == 0) = false := by rw [beq_eq_false_iff_ne]; exact h0
  rw [if_neg h0];cases b1 with
  | false =>
    rw [show (if ((false : Bool) = true ∧ b2 = true) then (0 : Int) else 8) = 8 from by simp];go_enter Tryz.func160, Tryz.ntmps160;go_wp2_with fail;refine (SD _).out.mono ?_;rintro e w1 ⟨rfl, rfl⟩;go_wp2_with fail;refine (S1 _).out.mono ?_;rintro e w1 ⟨rfl, rfl⟩;go_wp2_with fail;go_ret;exact ⟨rfl, hu⟩
  | true =>
    cases b2 with
    | false =>
      rw [show (if ((true : Bool) = true ∧ (false : Bool) = true) then (0 : Int) else 8) = 8 from by simp];go_enter Tryz.func160, Tryz.ntmps160;go_wp2_with fail;refine (SD _).out.mono ?_;rintro e w1 ⟨rfl, rfl⟩;go_wp2_with fail;refine (S1 _).out.mono ?_;rintro e w1 ⟨rfl, rfl⟩;go_wp2_with fail;refine (S2 _).out.mono ?_;rintro e w1 ⟨rfl, rfl⟩;go_wp2_with fail;go_ret;exact ⟨rfl, hu⟩
    | true =>
      rw [show (if ((true : Bool) = true ∧ (true : Bool) = true) then (0 : Int) else 8) = 0 from by simp];go_enter Tryz.func160, Tryz.ntmps160;go_wp2_with fail;refine (SD _).out.mono ?_;rintro e w1 ⟨rfl, rfl⟩;go_wp2_with fail;refine (S1 _).out.mono ?_;rintro e w1 ⟨rfl, rfl⟩;go_wp2_with fail;refine (S2 _).out.mono ?_;rintro e w1 ⟨rfl, rfl⟩;go_wp2_with fail;go_ret;exact ⟨rfl, hu⟩
theorem chas_any (r : Rc) (z x y : Int) (w : World) :
    Calls Tryz.prog 88 #[rcA r, tiA z x y] w fun e w' => e = .returned (.bool (hasR r z x y)) ∧ Up w w' := by
  have CK := fun w => Lib.hid (ccheck_any r w);unfold hasR;generalize chkR r = E at *;obtain ⟨rz, x0, y0, x1, y1⟩ := r;simp only at *;have hu := ((Up.refl w).alloc (rcC ⟨rz, x0, y0, x1, y1⟩)).alloc (tiC z x y);have q0 := ((Up.refl _).alloc (tiC z x y)).obj (heap_alloc_new w (rcC ⟨rz, x0, y0, x1, y1⟩));have q1 := heap_alloc_new (w.alloc (rcC ⟨rz, x0, y0, x1, y1⟩)) (tiC z x y);rw [World.size_alloc] at q1;obtain ⟨c0, c1, c2, c3, c4⟩ := rc_cells (r := ⟨rz, x0, y0, x1, y1⟩) q0;simp only at c0 c1 c2 c3 c4;have HQ0 := Lib.hid q0;have HQ1 := Lib.hid q1;clear q0 q1;have ST : ∀ P : World → Prop, (∀ w1, Up ((w.alloc (rcC ⟨rz, x0, y0, x1, y1⟩)).alloc (tiC z x y)) w1 → P w1) → True := fun _ _ => trivial;clear ST;have W := fun w1 (h : Up ((w.alloc (rcC ⟨rz, x0, y0, x1, y1⟩)).alloc (tiC z x y)) w1) => And.intro (rc_cells (r := ⟨rz, x0, y0, x1, y1⟩) (h.obj HQ0.out)) (ti_cells (h.obj HQ1.out));simp only at W;have W := Lib.hid W;by_cases h0 : E = 0
  · rw [decide_eq_true h0];simp only [Bool.true_and];have g0 : (E == 0) = true := by rw [beq_iff_eq]; exact h0
    clear h0;by_cases h1 : z = rz
    · rw [decide_eq_true h1];simp only [Bool.true_and];have g1 : (z == rz) = true := by rw [beq_iff_eq]; exact h1
      clear h1;by_cases h2 : x0 ≤ x
      · rw [decide_eq_true h2];simp only [Bool.true_and];by_cases h3 : x ≤ x1
        · rw [decide_eq_true h3];simp only [Bool.true_and];by_cases h4 : y0 ≤ y
          · rw [decide_eq_true h4];simp only [Bool.true_and];by_cases h5 : y ≤ y1
            focus
              rw [decide_eq_true h5]
            rotate_left;focus
              rw [decide_eq_false h5]
            rotate_left;all_goals
              go_enter Tryz.func88, Tryz.ntmps88;go_wp2_with fail;refine (CK _).out.mono ?_;rintro e w1 ⟨rfl, hu1⟩;obtain ⟨⟨a0, a1, a2, a3, a4⟩, b0, b1, b2⟩ := W.out w1 hu1;go_wp2_with fail;go_ret;first | exact ⟨rfl, hu.trans hu1⟩ | exact ⟨ret_bool (decide_eq_true (by omega)), hu.trans hu1⟩ | exact ⟨ret_bool (decide_eq_false (by omega)), hu.trans hu1⟩
          · rw [decide_eq_false h4];simp only [Bool.false_and];go_enter Tryz.func88, Tryz.ntmps88;go_wp2_with fail;refine (CK _).out.mono ?_;rintro e w1 ⟨rfl, hu1⟩;obtain ⟨⟨a0, a1, a2, a3, a4⟩, b0, b1, b2⟩ := W.out w1 hu1;go_wp2_with fail;go_ret;first | exact ⟨rfl, hu.trans hu1⟩ | exact ⟨ret_bool (decide_eq_true (by omega)), hu.trans hu1⟩ | exact ⟨ret_bool (decide_eq_false (by omega)), hu.trans hu1⟩
        · rw [decide_eq_false h3];simp only [Bool.false_and];go_enter Tryz.func88, Tryz.ntmps88;go_wp2_with fail;refine (CK _).out.mono ?_;rintro e w1 ⟨rfl, hu1⟩;obtain ⟨⟨a0, a1, a2, a3, a4⟩, b0, b1, b2⟩ := W.out w1 hu1;go_wp2_with fail;go_ret;first | exact ⟨rfl, hu.trans hu1⟩ | exact ⟨ret_bool (decide_eq_true (by omega)), hu.trans hu1⟩ | exact ⟨ret_bool (decide_eq_false (by omega)), hu.trans hu1⟩
      · rw [decide_eq_false h2];simp only [Bool.false_and];go_enter Tryz.func88, Tryz.ntmps88;go_wp2_with fail;refine (CK _).out.mono ?_;rintro e w1 ⟨rfl, hu1⟩;obtain ⟨⟨a0, a1, a2, a3, a4⟩, b0, b1, b2⟩ := W.out w1 hu1;go_wp2_with fail;go_ret;first | exact ⟨rfl, hu.trans hu1⟩ | exact ⟨ret_bool (decide_eq_true (by omega)), hu.trans hu1⟩ | exact ⟨ret_bool (decide_eq_false (by omega)), hu.trans hu1⟩
    · rw [decide_eq_false h1];simp only [Bool.false_and];have g1 : (z == rz) = false := by rw [beq_eq_false_iff_ne]; exact h1
      clear h1;go_enter Tryz.func88, Tryz.ntmps88;go_wp2_with fail;refine (CK _).out.mono ?_;rintro e w1 ⟨rfl, hu1⟩;obtain ⟨⟨a0, a1, a2, a3, a4⟩, b0, b1, b2⟩ := W.out w1 hu1;go_wp2_with fail;go_ret;first | exact ⟨rfl, hu.trans hu1⟩ | exact ⟨ret_bool (decide_eq_true (by omega)), hu.trans hu1⟩ | exact ⟨ret_bool (decide_eq_false (by omega)), hu.trans hu1⟩
  · rw [decide_eq_false h0];simp only [Bool.false_and];have g0 : (E == 0) = false := by rw [beq_eq_false_iff_ne]; exact h0
    clear h0;go_enter Tryz.func88, Tryz.ntmps88;go_wp2_with fail;refine (CK _).out.mono ?_;rintro e w1 ⟨rfl, hu1⟩;obtain ⟨⟨a0, a1, a2, a3, a4⟩, b0, b1, b2⟩ := W.out w1 hu1;go_wp2_with fail;go_ret;first | exact ⟨rfl, hu.trans hu1⟩ | exact ⟨ret_bool (decide_eq_true (by omega)), hu.trans hu1⟩ | exact ⟨ret_bool (decide_eq_false (by omega)), hu.trans hu1⟩
end Go.Proofs.YtjhgaildbeokkaaGreatDoor
