/- Walks: extract.keep by its two rules; extract.Of, Zooms. -/
import Derived.Test.YtkfococpanailaaGreatDoorGX26
namespace Go.Proofs.YtkfococpanailaaGreatDoor
open Go.RowKit Go.Gz Go.Shelf

set_option maxRecDepth 100000
attribute [local go_sem] Oper.semAt_some
def zoomR (lo hi : Int) (z _x _y : Int) : Bool := decide (lo ≤ z) && decide (z ≤ hi)
theorem ezoom1_any (lo hi z x y : Int) (B1 B2 : Nat) (w : World) (h1 : w.cell? ⟨B1, 0, none⟩ = some (.int .i64 lo)) (h2 : w.cell? ⟨B2, 0, none⟩ = some (.int .i64 hi)) :
    Calls Tryz.prog 77 #[tiA z x y, .pointer (some ⟨B1, 0, none⟩), .pointer (some ⟨B2, 0, none⟩)] w fun e w' => e = .returned (.bool (zoomR lo hi z x y)) ∧ Up w w' := by
  unfold zoomR
  have hu := (Up.refl w).alloc (tiC z x y)
  obtain ⟨t0, t1, t2⟩ := ti_cells (heap_alloc_new w (tiC z x y))
  have d1 := hu.cell h1
  have d2 := hu.cell h2
  clear h1 h2
  by_cases g : lo ≤ z
  · rw [decide_eq_true g, Bool.true_and]
    go_enter Tryz.func77, Tryz.ntmps77
    go_wp2_with fail
    go_ret
    exact ⟨rfl, hu⟩
  · rw [decide_eq_false g, Bool.false_and]
    go_enter Tryz.func77, Tryz.ntmps77
    go_wp2_with fail
    go_ret
    exact ⟨rfl, hu⟩
/-- what stands in the round of extract.keep -/
def KepIR (w : World) (N : Nat) (S : Items) (f : Value) (W : World) : Prop := ∃ v, W.heap[N + 1]? = some (.cells #[f] 136 (0, 0)) ∧ W.heap[N + 1 + 1]? = some (.cells #[.slice none 0 0] 26 (0, 0)) ∧ W.heap[N + 1 + 1 + 1]? = some (.cells #[v] 24 (0, 0)) ∧
  W.ownsRow (N + 7) 37 2 v S.length (itV S) ∧ Up w W
theorem kepIR_up {w : World} {N : Nat} {S : Items} {f : Value} {W W' : World} (h : KepIR w N S f W) (hu : Up W W') : KepIR w N S f W' := by
  obtain ⟨v, g1, g3, g4, g5, g6⟩ := h
  exact ⟨v, hu.obj g1, hu.obj g3, hu.obj g4, own_up g5 hu, g6.trans hu⟩
theorem kepIR_grown {w : World} {S : Items} {f : Value} {W W' : World} {r : Nat} (h : KepIR w w.heap.size S f W) (hg : W.grownBy W' (some r)) (h1 : w.heap.size + 5 ≤ r) (hr : ∀ v : Value, W.ownsRow (w.heap.size + 7) 37 2 v S.length (itV S) → v.ownBlock ≠ some r) : KepIR w w.heap.size S f W' := by
  obtain ⟨v, g1, g3, g4, g5, g6⟩ := h
  have k : ∀ (j : Nat) (o : Obj), j < w.heap.size + 5 → W.heap[j]? = some o → W'.heap[j]? = some o := fun j o hj ho => (hg.block _ (Array.getElem?_eq_some_iff.1 ho).1 (by intro e; injection e with e; omega)).trans ho
  refine ⟨v, k _ _ (by omega) g1, k _ _ (by omega) g3, k _ _ (by omega) g4, g5.kept hg ?_, Up.of (g6.below.grown hg g6.le (fun j e => by cases e; omega))⟩
  cases hv : v.ownBlock with
  | none => exact .inl rfl
  | some g => exact .inr (fun e => hr v g5 (hv.trans e))
set_option maxHeartbeats 16000000 in
theorem keepR_any (L : Items) (hg : Gz.Good L) (l : Rcs) (hll : l.length ≤ 1000000) (BL : Nat) (A2 : Option Addr) (c2 : Nat) (A1 : Option Addr) (c1 : Nat) (w : World) (hr1 : Rd w 2 A1 L.length c1 (itV L)) (hr2 : Rd w 5 A2 l.length c2 (rcV l)) (hL : w.cell? ⟨BL, 0, none⟩ = some (.slice A2 l.length c2)) :
    Calls Tryz.prog 70 #[.agg #[.slice A1 L.length c1], .func (.func 71) #[] #[.pointer (some ⟨BL, 0, none⟩)]] w (ChaE w (keepL L (anyR l))) := by
  have hl := hg.len
  have hA := hr1.lowI
  obtain ⟨i0, hi, hz0, hz1, hz2⟩ := info_parts infoCI
  have RU : ∀ (z x y : Int) W, Up w W → Hid (Calls Tryz.prog 71 #[tiA z x y, .pointer (some ⟨BL, 0, none⟩)] W fun e W' => e = .returned (.bool ((anyR l) z x y)) ∧ Up W W') := fun z x y W hu => Lib.hid (eof1_any l hll z x y BL A2 c2 W (hr2.up hu) (hu.cell hL))
  clear hr2 hL
  generalize hPR : (anyR l) = PR at *
  clear hPR
  refine (callsIn_wide (n := 3)).1 ?_
  refine callsIn_of_wp_marks Tryz.func70 rfl trivial ?_ rfl
  simp only [Tryz.ntmps70, List.size_toArray, List.length_cons, List.length_nil, Nat.reduceAdd, Nat.reduceSub, Array.replicate_succ, Array.replicate_zero, List.push_toArray, List.append_toArray, List.nil_append, List.cons_append]
  gi_wp2
  refine ⟨trivial, (callsIn_wide.2 (each_any _ _ _ _)).mono ?_⟩
  rintro e w2 ⟨rfl, rfl⟩
  gi_wp2
  have hq0 := heap_alloc_new w (.cells #[.slice A1 L.length c1] 26)
  have hq1 := heap_alloc_new (w.alloc (.cells #[.slice A1 L.length c1] 26)) (.cells #[.func (.func 71) #[] #[.pointer (some ⟨BL, 0, none⟩)]] 136)
  have hq2 := heap_alloc_new ((w.alloc (.cells #[.slice A1 L.length c1] 26)).alloc (.cells #[.func (.func 71) #[] #[.pointer (some ⟨BL, 0, none⟩)]] 136)) (.cells #[.slice none 0 0] 26)
  have hq3 := heap_alloc_new (((w.alloc (.cells #[.slice A1 L.length c1] 26)).alloc (.cells #[.func (.func 71) #[] #[.pointer (some ⟨BL, 0, none⟩)]] 136)).alloc (.cells #[.slice none 0 0] 26)) (.cells #[.slice none 0 0] 24)
  have hq4 := heap_alloc_new ((((w.alloc (.cells #[.slice A1 L.length c1] 26)).alloc (.cells #[.func (.func 71) #[] #[.pointer (some ⟨BL, 0, none⟩)]] 136)).alloc (.cells #[.slice none 0 0] 26)).alloc (.cells #[.slice none 0 0] 24)) (.cells #[.slice A1 L.length c1] 26)
  simp only [World.size_alloc] at hq1 hq2 hq3 hq4
  replace hq0 := (((((Up.refl _).alloc (.cells #[.func (.func 71) #[] #[.pointer (some ⟨BL, 0, none⟩)]] 136)).alloc (.cells #[.slice none 0 0] 26)).alloc (.cells #[.slice none 0 0] 24)).alloc (.cells #[.slice A1 L.length c1] 26)).obj hq0
  replace hq1 := ((((Up.refl _).alloc (.cells #[.slice none 0 0] 26)).alloc (.cells #[.slice none 0 0] 24)).alloc (.cells #[.slice A1 L.length c1] 26)).obj hq1
  replace hq2 := (((Up.refl _).alloc (.cells #[.slice none 0 0] 24)).alloc (.cells #[.slice A1 L.length c1] 26)).obj hq2
  replace hq3 := ((Up.refl _).alloc (.cells #[.slice A1 L.length c1] 26)).obj hq3
  have hu2 : Up w (((((w.alloc (.cells #[.slice A1 L.length c1] 26)).alloc (.cells #[.func (.func 71) #[] #[.pointer (some ⟨BL, 0, none⟩)]] 136)).alloc (.cells #[.slice none 0 0] 26)).alloc (.cells #[.slice none 0 0] 24)).alloc (.cells #[.slice A1 L.length c1] 26)) := (((((Up.refl w).alloc _).alloc _).alloc _).alloc _).alloc _
  have hI0 : KepIR w w.heap.size (keepL (L.take 0) PR) (.func (.func 71) #[] #[.pointer (some ⟨BL, 0, none⟩)]) (((((w.alloc (.cells #[.slice A1 L.length c1] 26)).alloc (.cells #[.func (.func 71) #[] #[.pointer (some ⟨BL, 0, none⟩)]] 136)).alloc (.cells #[.slice none 0 0] 26)).alloc (.cells #[.slice none 0 0] 24)).alloc (.cells #[.slice A1 L.length c1] 26)) := ⟨_, hq1, hq2, hq3, World.ownsRow_nil _ _ _ _, hu2⟩
  have HW0 := Lib.hid (show (((((w.alloc (.cells #[.slice A1 L.length c1] 26)).alloc (.cells #[.func (.func 71) #[] #[.pointer (some ⟨BL, 0, none⟩)]] 136)).alloc (.cells #[.slice none 0 0] 26)).alloc (.cells #[.slice none 0 0] 24)).alloc (.cells #[.slice A1 L.length c1] 26)).heap.size = w.heap.size + 5 by simp)
  refine wpIn_rangeFunc_all rfl (by omega) (gf := 143) (lb := #[.pointer (some ⟨w.heap.size + 1 + 1 + 1 + 1, 0, none⟩)]) rfl trivial (enters_of Tryz.func143 (by kernel_rfl) rfl)
    (each_all 3 2 (by omega) L (by omega) (w.heap.size + 1 + 1 + 1 + 1) w.heap.size A1 c1 _ (blk_one hq4).1 (hr1.up hu2) hA) keepB_t
    (fun W k o o' h1 _ ho hc => keepB_b W k o o' (by simp at h1; omega) (by simp at h1 ⊢; omega) ho hc) (fun _ => rfl)
    (fun k W => KepIR w w.heap.size (keepL (L.take k) PR) (.func (.func 71) #[] #[.pointer (some ⟨BL, 0, none⟩)]) W)
    (fun s W k o' h1 h2 hc hI => ?i1) (fun s W W' hI hu => kepIR_up hI hu) (fun s W W' r cs fz hI h1 hr hg => ?i3)
    hI0
    (fun x => { tmps := (.agg #[.slice A1 L.length c1] :: .func (.func 71) #[] #[.pointer (some ⟨BL, 0, none⟩)] :: .pointer (some ⟨w.heap.size, 0, none⟩) :: .pointer (some ⟨w.heap.size + 1, 0, none⟩) :: .pointer (some ⟨w.heap.size + 1 + 1, 0, none⟩) :: .pointer (some ⟨w.heap.size + 1 + 1 + 1, 0, none⟩) :: .int .u64 (x.1 : Int) :: .string ⟨x.2.toArray⟩ :: undef :: undef :: undef :: undef :: .agg #[.slice A1 L.length c1] :: .func (.func 143) #[] #[.pointer (some ⟨w.heap.size + 1 + 1 + 1 + 1, 0, none⟩)] :: .int .u64 (x.1 : Int) :: .string ⟨x.2.toArray⟩ :: undef :: undef :: undef :: undef :: undef :: undef :: undef :: undef :: undef :: undef :: undef :: undef :: undef :: undef :: undef :: undef :: undef :: undef :: undef :: undef :: undef :: undef :: undef :: undef :: []).toArray, defers := [] }) ?assign ?body ?done
  case i1 =>
    rw [HW0.out] at h1 h2
    refine kepIR_grown hI (grownBy_putObj' W k o') h1 (fun v ho e => ?_)
    have := (ho.lt k e).1
    omega
  case i3 =>
    rw [HW0.out] at h1
    refine kepIR_grown hI hg (by omega) (fun v ho e => ?_)
    rcases ho.2 with ⟨rfl, _⟩ | ⟨g, cap, cur, rfl, _, hh, _⟩
    · cases e
    · injection e with e
      have e : g = r := e
      subst e
      rw [hh] at hr
      injection hr with hr
      injection hr with _ hr _
      exact absurd hr (by decide)
  case assign =>
    intro lp x W K hK
    gi_wp2
    exact hK
  case body =>
    rintro lp k x W hx hI hsz
    rw [HW0.out] at hsz ⊢
    clear hq0 hq1 hq2 hq3 hq4 hu2 hI0 HW0
    obtain ⟨hkl, hkx⟩ := List.getElem?_eq_some_iff.1 hx
    have hst := keep_succ L PR hkl
    rw [hkx] at hst
    have hml : (keepL (L.take k) PR).length ≤ k := by have := keep_len (L.take k) PR; rw [List.length_take] at this; omega
    have hid := hg.id x (by rw [← hkx]; exact List.getElem_mem _)
    have HI := Lib.hid hI
    obtain ⟨v, g1, g3, g4, g5, g6⟩ := hI
    obtain ⟨x1, xt⟩ := x
    simp only at hst hid ⊢
    have TF := fun w => Lib.hid (tof_any x1 hid w)
    have RUW := fun W' (h : Up W W') => RU (zoomN x1 : Int) ((tileXY x1).1 : Int) ((tileXY x1).2 : Int) W' (g6.trans h)
    generalize (zoomN x1 : Int) = tz at *
    generalize ((tileXY x1).1 : Int) = tx at *
    generalize ((tileXY x1).2 : Int) = ty at *
    generalize hbb : PR tz tx ty = bb at *
    have c1' := (blk_one g1).1
    have HG1 := Lib.hid g1
    have HG4 := Lib.hid g4
    have HG5 := Lib.hid g5
    have HG6 := Lib.hid g6
    clear g1 g3 g4 g5 g6 RU hx hkx hid hbb
    have hsz' : w.heap.size + 7 ≤ W.heap.size := by omega
    gi_wp2
    refine ⟨trivial, (CallsIn.inRound lp (callsIn_wide.2 (TF _).out)).mono ?_⟩
    rintro e W1 ⟨rfl, hu1⟩
    have ha := (Up.refl W1).alloc (tiC tz tx ty)
    have hn := heap_alloc_new W1 (tiC tz tx ty)
    have hua := hu1.trans ha
    have HN := Lib.hid hn
    have d1 := (blk_one (hua.obj HG1.out)).1
    obtain ⟨t0, t1, t2⟩ := ti_cells hn
    clear c1' hn
    have RR := Lib.hid (RUW _ hua).out
    clear RUW
    gi_wp2
    refine ⟨trivial, (CallsIn.inRound lp (callsIn_wide.2 RR.out)).mono ?_⟩
    rintro e W2 ⟨rfl, hu2⟩
    have hu12 := hua.trans hu2
    have hsz2 := Nat.le_trans hsz' hu12.le
    obtain ⟨d4, _⟩ := blk_one (hu12.obj HG4.out)
    clear d1 t0 t1 t2 RR
    cases bb with
    | true =>
      rw [if_pos rfl] at hst
      have HST := Lib.hid hst
      clear hst
      have HO1 := Lib.hid (own_up HG5.out hu12)
      have HF4 := Lib.hid (hu12.obj HG4.out)
      obtain ⟨A3, c3, rfl, _⟩ := Rd.of_own HO1.out
      gi_wp2_with (gi_at_builtin; refine app_oneIn W2 rfl _ _ 24 rfl (w.heap.size + 7) 37 i0 _ 2 24 Tryz.underlying24 hi hz0 hz1 hz2 rfl (by decide) _ _ _ HO1.out rfl #[.int .u64 (x1 : Int), .string ⟨xt.toArray⟩] rfl rfl (by simp [Value.oneCell']) (by omega) (by omega) (by omega) ?_; intro g' cap' w6 ho6 hg0 hb6 hk6; have g46 := (hb6.block (w.heap.size + 1 + 1 + 1) (by omega)).trans HF4.out; obtain ⟨c46, f46⟩ := blk_one g46)
      have HIu := kepIR_up HI.out hu12
      obtain ⟨v', g1, g3, g4, g5, g6⟩ := HIu
      have hset : ∀ j, j ≠ w.heap.size + 1 + 1 + 1 → (w6.setCell ⟨w.heap.size + 1 + 1 + 1, 0, none⟩ (.slice (some ⟨g', 0, none⟩) ((keepL (L.take k) PR).length + 1) cap')).heap[j]? = w6.heap[j]? := fun j hj => Below.heap_setCell w6 ⟨w.heap.size + 1 + 1 + 1, 0, none⟩ _ j (by simp; omega)
      have hbl : ∀ j, j < w.heap.size + 7 → j ≠ w.heap.size + 1 + 1 + 1 → (w6.setCell ⟨w.heap.size + 1 + 1 + 1, 0, none⟩ (.slice (some ⟨g', 0, none⟩) ((keepL (L.take k) PR).length + 1) cap')).heap[j]? = W2.heap[j]? := fun j hj hne => (hset j hne).trans (hb6.block j hj)
      refine ⟨fun j h1 h2 => (hbl j (by omega) (by omega)).trans (hu12.block (by omega)), keepB_t (keepB_up hu12 (by omega) (by intro q hq; simp at hq; omega)) (keepB_t (hk6 _ _ _ (by decide) (by omega) (by intro q hq; simp at hq; omega)) (keepB_grown (grown_set w6 (w.heap.size + 1 + 1 + 1) _) g46 (by decide) (by have := hb6.size; omega) (by omega) (by intro q hq; simp at hq; have := hb6.size; omega))), ?_⟩
      refine ⟨_, (hbl _ (by omega) (by omega)).trans g1, (hbl _ (by omega) (by omega)).trans g3, heap_setCell_same w6 (w.heap.size + 1 + 1 + 1) 0 _ _ _ g46, ?_, Up.of ((Below.trans g6.below (Below.mono hb6 (by omega))).setCell (p := ⟨w.heap.size + 1 + 1 + 1, 0, none⟩) (by simp; omega) _)⟩
      rw [HST.out, List.length_append, itV_app]
      exact ho6.kept (grown_set w6 (w.heap.size + 1 + 1 + 1) _) (.inr (by intro e; injection e with e; have e : g' = w.heap.size + 1 + 1 + 1 := e; omega))
    | false =>
      rw [if_neg (by simp), List.append_nil] at hst
      gi_wp2
      rw [hst]
      exact ⟨fun j h1 h2 => hu12.block (by omega), keepB_up hu12 (by omega) (by intro q hq; simp at hq; omega), kepIR_up HI.out hu12⟩
  case done =>
    rintro W hI hD
    rw [List.take_length] at hI
    rw [HW0.out] at hD ⊢
    clear hq0 hq1 hq2 hq3 hq4 hu2 hI0 HW0 RU
    have hgs := good_keep hg PR
    obtain ⟨v, g1, g3, g4, g5, g6⟩ := hI
    obtain ⟨A3, c3, rfl, r3⟩ := Rd.of_own g5
    have c4 := (blk_one g4).1
    have OF := Lib.hid (of_any (keepL L PR) (good_fit hgs) hgs.len A3 c3 W r3)
    have HG3 := Lib.hid g3
    have HG6 := Lib.hid g6
    clear g1 g3 g4 g5 r3
    gi_wp2
    refine ⟨trivial, (callsIn_wide.2 OF.out).mono ?_⟩
    rintro e w5 ⟨M', hp, hs, A6, c6, rfl, r6, hu5⟩
    obtain rfl : M' = keepL L PR := srt_perm hgs.srt hs hp
    generalize keepL L PR = S at *
    have n6 := new1 w5 26 (.slice A6 S.length c6)
    have HB3 := Lib.hid (n6.1.obj (hu5.obj HG3.out))
    have hD6 := n6.1.obj (hu5.obj hD)
    have k6 := n6.2.1
    have HR6 := Lib.hid (r6.up n6.1)
    have HU6 := Lib.hid (HG6.out.trans (hu5.trans n6.1))
    obtain ⟨k3, f3⟩ := blk_one HB3.out
    clear hp hs r6 OF c4 n6
    gi_wp2
    have HB5 := Lib.hid (heap_setCell_same _ (w.heap.size + 1 + 1) 0 _ 26 (.slice A6 S.length c6) HB3.out)
    have HR5 := Lib.hid (HR6.out.far HB3.out (.slice A6 S.length c6))
    refine ⟨by simp, .inl ⟨_, _, rfl, run_takeDeferred ((Below.heap_setCell _ ⟨w.heap.size + 1 + 1, 0, none⟩ _ _ (by simp)).trans hD6), ?_⟩⟩
    have HB7 := (World.putObj_heap_other (o := .deferred none) (show w.heap.size + 1 + 1 ≠ w.heap.size + 5 by omega)).trans HB5.out
    have d7 := (blk_one HB7).1
    refine ⟨.agg #[.slice A6 S.length c6], by simp [results, Tryz.results70, go_sem, d7], A6, c6, rfl, ?_, ?_⟩
    · exact HR5.out.put ((Below.heap_setCell _ ⟨w.heap.size + 1 + 1, 0, none⟩ _ _ (by simp)).trans hD6)
    · exact Up.of ((HU6.out.set (p := ⟨w.heap.size + 1 + 1, 0, none⟩) (by simp; omega) _).below.grown (grownBy_putObj' _ _ _) (HU6.out.set (p := ⟨w.heap.size + 1 + 1, 0, none⟩) (by simp; omega) _).le (fun j e => by cases e; omega))
/-- what stands in the round of extract.keep -/
def KepIZ (w : World) (N : Nat) (S : Items) (f : Value) (W : World) : Prop := ∃ v, W.heap[N + 1]? = some (.cells #[f] 136 (0, 0)) ∧ W.heap[N + 1 + 1]? = some (.cells #[.slice none 0 0] 26 (0, 0)) ∧ W.heap[N + 1 + 1 + 1]? = some (.cells #[v] 24 (0, 0)) ∧
  W.ownsRow (N + 7) 37 2 v S.length (itV S) ∧ Up w W
theorem kepIZ_up {w : World} {N : Nat} {S : Items} {f : Value} {W W' : World} (h : KepIZ w N S f W) (hu : Up W W') : KepIZ w N S f W' := by
  obtain ⟨v, g1, g3, g4, g5, g6⟩ := h
  exact ⟨v, hu.obj g1, hu.obj g3, hu.obj g4, own_up g5 hu, g6.trans hu⟩
theorem kepIZ_grown {w : World} {S : Items} {f : Value} {W W' : World} {r : Nat} (h : KepIZ w w.heap.size S f W) (hg : W.grownBy W' (some r)) (h1 : w.heap.size + 5 ≤ r) (hr : ∀ v : Value, W.ownsRow (w.heap.size + 7) 37 2 v S.length (itV S) → v.ownBlock ≠ some r) : KepIZ w w.heap.size S f W' := by
  obtain ⟨v, g1, g3, g4, g5, g6⟩ := h
  have k : ∀ (j : Nat) (o : Obj), j < w.heap.size + 5 → W.heap[j]? = some o → W'.heap[j]? = some o := fun j o hj ho => (hg.block _ (Array.getElem?_eq_some_iff.1 ho).1 (by intro e; injection e with e; omega)).trans ho
  refine ⟨v, k _ _ (by omega) g1, k _ _ (by omega) g3, k _ _ (by omega) g4, g5.kept hg ?_, Up.of (g6.below.grown hg g6.le (fun j e => by cases e; omega))⟩
  cases hv : v.ownBlock with
  | none => exact .inl rfl
  | some g => exact .inr (fun e => hr v g5 (hv.trans e))
set_option maxHeartbeats 16000000 in
theorem keepZ_any (L : Items) (hg : Gz.Good L) (lo hj : Int) (BL BH : Nat) (A1 : Option Addr) (c1 : Nat) (w : World) (hr1 : Rd w 2 A1 L.length c1 (itV L)) (hL : w.cell? ⟨BL, 0, none⟩ = some (.int .i64 lo)) (hH : w.cell? ⟨BH, 0, none⟩ = some (.int .i64 hj)) :
    Calls Tryz.prog 70 #[.agg #[.slice A1 L.length c1], .func (.func 77) #[] #[.pointer (some ⟨BL, 0, none⟩), .pointer (some ⟨BH, 0, none⟩)]] w (ChaE w (keepL L (zoomR lo hj))) := by
  have hl := hg.len
  have hA := hr1.lowI
  obtain ⟨i0, hi, hz0, hz1, hz2⟩ := info_parts infoCI
  have RU : ∀ (z x y : Int) W, Up w W → Hid (Calls Tryz.prog 77 #[tiA z x y, .pointer (some ⟨BL, 0, none⟩), .pointer (some ⟨BH, 0, none⟩)] W fun e W' => e = .returned (.bool ((zoomR lo hj) z x y)) ∧ Up W W') := fun z x y W hu => Lib.hid (ezoom1_any lo hj z x y BL BH W (hu.cell hL) (hu.cell hH))
  clear hL hH
  generalize hPR : (zoomR lo hj) = PR at *
  clear hPR
  refine (callsIn_wide (n := 3)).1 ?_
  refine callsIn_of_wp_marks Tryz.func70 rfl trivial ?_ rfl
  simp only [Tryz.ntmps70, List.size_toArray, List.length_cons, List.length_nil, Nat.reduceAdd, Nat.reduceSub, Array.replicate_succ, Array.replicate_zero, List.push_toArray, List.append_toArray, List.nil_append, List.cons_append]
  gi_wp2
  refine ⟨trivial, (callsIn_wide.2 (each_any _ _ _ _)).mono ?_⟩
  rintro e w2 ⟨rfl, rfl⟩
  gi_wp2
  have hq0 := heap_alloc_new w (.cells #[.slice A1 L.length c1] 26)
  have hq1 := heap_alloc_new (w.alloc (.cells #[.slice A1 L.length c1] 26)) (.cells #[.func (.func 77) #[] #[.pointer (some ⟨BL, 0, none⟩), .pointer (some ⟨BH, 0, none⟩)]] 136)
  have hq2 := heap_alloc_new ((w.alloc (.cells #[.slice A1 L.length c1] 26)).alloc (.cells #[.func (.func 77) #[] #[.pointer (some ⟨BL, 0, none⟩), .pointer (some ⟨BH, 0, none⟩)]] 136)) (.cells #[.slice none 0 0] 26)
  have hq3 := heap_alloc_new (((w.alloc (.cells #[.slice A1 L.length c1] 26)).alloc (.cells #[.func (.func 77) #[] #[.pointer (some ⟨BL, 0, none⟩), .pointer (some ⟨BH, 0, none⟩)]] 136)).alloc (.cells #[.slice none 0 0] 26)) (.cells #[.slice none 0 0] 24)
  have hq4 := heap_alloc_new ((((w.alloc (.cells #[.slice A1 L.length c1] 26)).alloc (.cells #[.func (.func 77) #[] #[.pointer (some ⟨BL, 0, none⟩), .pointer (some ⟨BH, 0, none⟩)]] 136)).alloc (.cells #[.slice none 0 0] 26)).alloc (.cells #[.slice none 0 0] 24)) (.cells #[.slice A1 L.length c1] 26)
  simp only [World.size_alloc] at hq1 hq2 hq3 hq4
  replace hq0 := (((((Up.refl _).alloc (.cells #[.func (.func 77) #[] #[.pointer (some ⟨BL, 0, none⟩), .pointer (some ⟨BH, 0, none⟩)]] 136)).alloc (.cells #[.slice none 0 0] 26)).alloc (.cells #[.slice none 0 0] 24)).alloc (.cells #[.slice A1 L.length c1] 26)).obj hq0
  replace hq1 := ((((Up.refl _).alloc (.cells #[.slice none 0 0] 26)).alloc (.cells #[.slice none 0 0] 24)).alloc (.cells #[.slice A1 L.length c1] 26)).obj hq1
  replace hq2 := (((Up.refl _).alloc (.cells #[.slice none 0 0] 24)).alloc (.cells #[.slice A1 L.length c1] 26)).obj hq2
  replace hq3 := ((Up.refl _).alloc (.cells #[.slice A1 L.length c1] 26)).obj hq3
  have hu2 : Up w (((((w.alloc (.cells #[.slice A1 L.length c1] 26)).alloc (.cells #[.func (.func 77) #[] #[.pointer (some ⟨BL, 0, none⟩), .pointer (some ⟨BH, 0, none⟩)]] 136)).alloc (.cells #[.slice none 0 0] 26)).alloc (.cells #[.slice none 0 0] 24)).alloc (.cells #[.slice A1 L.length c1] 26)) := (((((Up.refl w).alloc _).alloc _).alloc _).alloc _).alloc _
  have hI0 : KepIZ w w.heap.size (keepL (L.take 0) PR) (.func (.func 77) #[] #[.pointer (some ⟨BL, 0, none⟩), .pointer (some ⟨BH, 0, none⟩)]) (((((w.alloc (.cells #[.slice A1 L.length c1] 26)).alloc (.cells #[.func (.func 77) #[] #[.pointer (some ⟨BL, 0, none⟩), .pointer (some ⟨BH, 0, none⟩)]] 136)).alloc (.cells #[.slice none 0 0] 26)).alloc (.cells #[.slice none 0 0] 24)).alloc (.cells #[.slice A1 L.length c1] 26)) := ⟨_, hq1, hq2, hq3, World.ownsRow_nil _ _ _ _, hu2⟩
  have HW0 := Lib.hid (show (((((w.alloc (.cells #[.slice A1 L.length c1] 26)).alloc (.cells #[.func (.func 77) #[] #[.pointer (some ⟨BL, 0, none⟩), .pointer (some ⟨BH, 0, none⟩)]] 136)).alloc (.cells #[.slice none 0 0] 26)).alloc (.cells #[.slice none 0 0] 24)).alloc (.cells #[.slice A1 L.length c1] 26)).heap.size = w.heap.size + 5 by simp)
  refine wpIn_rangeFunc_all rfl (by omega) (gf := 143) (lb := #[.pointer (some ⟨w.heap.size + 1 + 1 + 1 + 1, 0, none⟩)]) rfl trivial (enters_of Tryz.func143 (by kernel_rfl) rfl)
    (each_all 3 2 (by omega) L (by omega) (w.heap.size + 1 + 1 + 1 + 1) w.heap.size A1 c1 _ (blk_one hq4).1 (hr1.up hu2) hA) keepB_t
    (fun W k o o' h1 _ ho hc => keepB_b W k o o' (by simp at h1; omega) (by simp at h1 ⊢; omega) ho hc) (fun _ => rfl)
    (fun k W => KepIZ w w.heap.size (keepL (L.take k) PR) (.func (.func 77) #[] #[.pointer (some ⟨BL, 0, none⟩), .pointer (some ⟨BH, 0, none⟩)]) W)
    (fun s W k o' h1 h2 hc hI => ?i1) (fun s W W' hI hu => kepIZ_up hI hu) (fun s W W' r cs fz hI h1 hr hg => ?i3)
    hI0
    (fun x => { tmps := (.agg #[.slice A1 L.length c1] :: .func (.func 77) #[] #[.pointer (some ⟨BL, 0, none⟩), .pointer (some ⟨BH, 0, none⟩)] :: .pointer (some ⟨w.heap.size, 0, none⟩) :: .pointer (some ⟨w.heap.size + 1, 0, none⟩) :: .pointer (some ⟨w.heap.size + 1 + 1, 0, none⟩) :: .pointer (some ⟨w.heap.size + 1 + 1 + 1, 0, none⟩) :: .int .u64 (x.1 : Int) :: .string ⟨x.2.toArray⟩ :: undef :: undef :: undef :: undef :: .agg #[.slice A1 L.length c1] :: .func (.func 143) #[] #[.pointer (some ⟨w.heap.size + 1 + 1 + 1 + 1, 0, none⟩)] :: .int .u64 (x.1 : Int) :: .string ⟨x.2.toArray⟩ :: undef :: undef :: undef :: undef :: undef :: undef :: undef :: undef :: undef :: undef :: undef :: undef :: undef :: undef :: undef :: undef :: undef :: undef :: undef :: undef :: undef :: undef :: undef :: undef :: []).toArray, defers := [] }) ?assign ?body ?done
  case i1 =>
    rw [HW0.out] at h1 h2
    refine kepIZ_grown hI (grownBy_putObj' W k o') h1 (fun v ho e => ?_)
    have := (ho.lt k e).1
    omega
  case i3 =>
    rw [HW0.out] at h1
    refine kepIZ_grown hI hg (by omega) (fun v ho e => ?_)
    rcases ho.2 with ⟨rfl, _⟩ | ⟨g, cap, cur, rfl, _, hh, _⟩
    · cases e
    · injection e with e
      have e : g = r := e
      subst e
      rw [hh] at hr
      injection hr with hr
      injection hr with _ hr _
      exact absurd hr (by decide)
  case assign =>
    intro lp x W K hK
    gi_wp2
    exact hK
  case body =>
    rintro lp k x W hx hI hsz
    rw [HW0.out] at hsz ⊢
    clear hq0 hq1 hq2 hq3 hq4 hu2 hI0 HW0
    obtain ⟨hkl, hkx⟩ := List.getElem?_eq_some_iff.1 hx
    have hst := keep_succ L PR hkl
    rw [hkx] at hst
    have hml : (keepL (L.take k) PR).length ≤ k := by have := keep_len (L.take k) PR; rw [List.length_take] at this; omega
    have hid := hg.id x (by rw [← hkx]; exact List.getElem_mem _)
    have HI := Lib.hid hI
    obtain ⟨v, g1, g3, g4, g5, g6⟩ := hI
    obtain ⟨x1, xt⟩ := x
    simp only at hst hid ⊢
    have TF := fun w => Lib.hid (tof_any x1 hid w)
    have RUW := fun W' (h : Up W W') => RU (zoomN x1 : Int) ((tileXY x1).1 : Int) ((tileXY x1).2 : Int) W' (g6.trans h)
    generalize (zoomN x1 : Int) = tz at *
    generalize ((tileXY x1).1 : Int) = tx at *
    generalize ((tileXY x1).2 : Int) = ty at *
    generalize hbb : PR tz tx ty = bb at *
    have c1' := (blk_one g1).1
    have HG1 := Lib.hid g1
    have HG4 := Lib.hid g4
    have HG5 := Lib.hid g5
    have HG6 := Lib.hid g6
    clear g1 g3 g4 g5 g6 RU hx hkx hid hbb
    have hsz' : w.heap.size + 7 ≤ W.heap.size := by omega
    gi_wp2
    refine ⟨trivial, (CallsIn.inRound lp (callsIn_wide.2 (TF _).out)).mono ?_⟩
    rintro e W1 ⟨rfl, hu1⟩
    have ha := (Up.refl W1).alloc (tiC tz tx ty)
    have hn := heap_alloc_new W1 (tiC tz tx ty)
    have hua := hu1.trans ha
    have HN := Lib.hid hn
    have d1 := (blk_one (hua.obj HG1.out)).1
    obtain ⟨t0, t1, t2⟩ := ti_cells hn
    clear c1' hn
    have RR := Lib.hid (RUW _ hua).out
    clear RUW
    gi_wp2
    refine ⟨trivial, (CallsIn.inRound lp (callsIn_wide.2 RR.out)).mono ?_⟩
    rintro e W2 ⟨rfl, hu2⟩
    have hu12 := hua.trans hu2
    have hsz2 := Nat.le_trans hsz' hu12.le
    obtain ⟨d4, _⟩ := blk_one (hu12.obj HG4.out)
    clear d1 t0 t1 t2 RR
    cases bb with
    | true =>
      rw [if_pos rfl] at hst
      have HST := Lib.hid hst
      clear hst
      have HO1 := Lib.hid (own_up HG5.out hu12)
      have HF4 := Lib.hid (hu12.obj HG4.out)
      obtain ⟨A3, c3, rfl, _⟩ := Rd.of_own HO1.out
      gi_wp2_with (gi_at_builtin; refine app_oneIn W2 rfl _ _ 24 rfl (w.heap.size + 7) 37 i0 _ 2 24 Tryz.underlying24 hi hz0 hz1 hz2 rfl (by decide) _ _ _ HO1.out rfl #[.int .u64 (x1 : Int), .string ⟨xt.toArray⟩] rfl rfl (by simp [Value.oneCell']) (by omega) (by omega) (by omega) ?_; intro g' cap' w6 ho6 hg0 hb6 hk6; have g46 := (hb6.block (w.heap.size + 1 + 1 + 1) (by omega)).trans HF4.out; obtain ⟨c46, f46⟩ := blk_one g46)
      have HIu := kepIZ_up HI.out hu12
      obtain ⟨v', g1, g3, g4, g5, g6⟩ := HIu
      have hset : ∀ j, j ≠ w.heap.size + 1 + 1 + 1 → (w6.setCell ⟨w.heap.size + 1 + 1 + 1, 0, none⟩ (.slice (some ⟨g', 0, none⟩) ((keepL (L.take k) PR).length + 1) cap')).heap[j]? = w6.heap[j]? := fun j hj => Below.heap_setCell w6 ⟨w.heap.size + 1 + 1 + 1, 0, none⟩ _ j (by simp; omega)
      have hbl : ∀ j, j < w.heap.size + 7 → j ≠ w.heap.size + 1 + 1 + 1 → (w6.setCell ⟨w.heap.size + 1 + 1 + 1, 0, none⟩ (.slice (some ⟨g', 0, none⟩) ((keepL (L.take k) PR).length + 1) cap')).heap[j]? = W2.heap[j]? := fun j hj hne => (hset j hne).trans (hb6.block j hj)
      refine ⟨fun j h1 h2 => (hbl j (by omega) (by omega)).trans (hu12.block (by omega)), keepB_t (keepB_up hu12 (by omega) (by intro q hq; simp at hq; omega)) (keepB_t (hk6 _ _ _ (by decide) (by omega) (by intro q hq; simp at hq; omega)) (keepB_grown (grown_set w6 (w.heap.size + 1 + 1 + 1) _) g46 (by decide) (by have := hb6.size; omega) (by omega) (by intro q hq; simp at hq; have := hb6.size; omega))), ?_⟩
      refine ⟨_, (hbl _ (by omega) (by omega)).trans g1, (hbl _ (by omega) (by omega)).trans g3, heap_setCell_same w6 (w.heap.size + 1 + 1 + 1) 0 _ _ _ g46, ?_, Up.of ((Below.trans g6.below (Below.mono hb6 (by omega))).setCell (p := ⟨w.heap.size + 1 + 1 + 1, 0, none⟩) (by simp; omega) _)⟩
      rw [HST.out, List.length_append, itV_app]
      exact ho6.kept (grown_set w6 (w.heap.size + 1 + 1 + 1) _) (.inr (by intro e; injection e with e; have e : g' = w.heap.size + 1 + 1 + 1 := e; omega))
    | false =>
      rw [if_neg (by simp), List.append_nil] at hst
      gi_wp2
      rw [hst]
      exact ⟨fun j h1 h2 => hu12.block (by omega), keepB_up hu12 (by omega) (by intro q hq; simp at hq; omega), kepIZ_up HI.out hu12⟩
  case done =>
    rintro W hI hD
    rw [List.take_length] at hI
    rw [HW0.out] at hD ⊢
    clear hq0 hq1 hq2 hq3 hq4 hu2 hI0 HW0 RU
    have hgs := good_keep hg PR
    obtain ⟨v, g1, g3, g4, g5, g6⟩ := hI
    obtain ⟨A3, c3, rfl, r3⟩ := Rd.of_own g5
    have c4 := (blk_one g4).1
    have OF := Lib.hid (of_any (keepL L PR) (good_fit hgs) hgs.len A3 c3 W r3)
    have HG3 := Lib.hid g3
    have HG6 := Lib.hid g6
    clear g1 g3 g4 g5 r3
    gi_wp2
    refine ⟨trivial, (callsIn_wide.2 OF.out).mono ?_⟩
    rintro e w5 ⟨M', hp, hs, A6, c6, rfl, r6, hu5⟩
    obtain rfl : M' = keepL L PR := srt_perm hgs.srt hs hp
    generalize keepL L PR = S at *
    have n6 := new1 w5 26 (.slice A6 S.length c6)
    have HB3 := Lib.hid (n6.1.obj (hu5.obj HG3.out))
    have hD6 := n6.1.obj (hu5.obj hD)
    have k6 := n6.2.1
    have HR6 := Lib.hid (r6.up n6.1)
    have HU6 := Lib.hid (HG6.out.trans (hu5.trans n6.1))
    obtain ⟨k3, f3⟩ := blk_one HB3.out
    clear hp hs r6 OF c4 n6
    gi_wp2
    have HB5 := Lib.hid (heap_setCell_same _ (w.heap.size + 1 + 1) 0 _ 26 (.slice A6 S.length c6) HB3.out)
    have HR5 := Lib.hid (HR6.out.far HB3.out (.slice A6 S.length c6))
    refine ⟨by simp, .inl ⟨_, _, rfl, run_takeDeferred ((Below.heap_setCell _ ⟨w.heap.size + 1 + 1, 0, none⟩ _ _ (by simp)).trans hD6), ?_⟩⟩
    have HB7 := (World.putObj_heap_other (o := .deferred none) (show w.heap.size + 1 + 1 ≠ w.heap.size + 5 by omega)).trans HB5.out
    have d7 := (blk_one HB7).1
    refine ⟨.agg #[.slice A6 S.length c6], by simp [results, Tryz.results70, go_sem, d7], A6, c6, rfl, ?_, ?_⟩
    · exact HR5.out.put ((Below.heap_setCell _ ⟨w.heap.size + 1 + 1, 0, none⟩ _ _ (by simp)).trans hD6)
    · exact Up.of ((HU6.out.set (p := ⟨w.heap.size + 1 + 1, 0, none⟩) (by simp; omega) _).below.grown (grownBy_putObj' _ _ _) (HU6.out.set (p := ⟨w.heap.size + 1 + 1, 0, none⟩) (by simp; omega) _).le (fun j e => by cases e; omega))
end Go.Proofs.YtkfococpanailaaGreatDoor
