/- Walk: leaves.Cut. -/
import Derived.Test.YtcfmidmokciofaaGreatDoorKM21
import Derived.Test.YtcfmidmokciofaaGreatDoorKM20
import Derived.Test.YtcfmidmokciofaaGreatDoorKM11
namespace Go.Proofs.YtcfmidmokciofaaGreatDoor
open Go.RowKit Go.Gz Go.Shelf

set_option maxRecDepth 100000
attribute [local go_sem] Oper.semAt_some
theorem infoSl : (Tryz.prog.info? 38).map (fun i => (i.zero, i.size, i.bytes)) = some (some (.slice none 0 0), 1, 24) := by kernel_rfl
theorem own_low {w : World} {b b' : Nat} {e : TypeId} {size n : Nat} {v : Value} {xs : List Value} (h : w.ownsRow b e size v n xs) (hb : b' ≤ b) : w.ownsRow b' e size v n xs := by
  refine ⟨h.1, ?_⟩
  rcases h.2 with g | ⟨g, cap, cur, g1, g2, g3⟩
  · exact .inl g
  · exact .inr ⟨g, cap, cur, g1, by omega, g3⟩
theorem own_cell {w : World} {b : Nat} {e : TypeId} {size n : Nat} {v : Value} {xs : List Value} (h : w.ownsRow b e size v n xs) : v.oneCell' = true := by
  rcases h.2 with ⟨rfl, _⟩ | ⟨g, cap, cur, rfl, _⟩ <;> rfl
/-- slices of entries, each of memory of its own -/
def RowsO (W : World) (base : Nat) (vs : List Value) (cs : List Ents) : Prop := vs.length = cs.length ∧ ∀ (i : Nat) v c, vs[i]? = some v → cs[i]? = some c → W.ownsRow base 72 4 v c.length (entV c)
theorem rowsO_grown {W W' : World} {base r : Nat} {t : TypeId} {cur : Array Value} {fz : Nat × Nat} {vs : List Value} {cs : List Ents} (h : RowsO W base vs cs) (hg : W.grownBy W' (some r)) (hr : W.heap[r]? = some (.cells cur t fz)) (ht : t ≠ 72) : RowsO W' base vs cs := by
  refine ⟨h.1, fun i v c hv hc => ?_⟩
  have ho := h.2 i v c hv hc
  refine ho.kept hg ?_
  rcases ho.2 with ⟨rfl, _⟩ | ⟨g, cap, cur', rfl, _, hh, _⟩
  · exact .inl rfl
  · right
    intro e
    injection e with e
    have e : g = r := e
    subst e
    rw [hh] at hr
    injection hr with hr
    injection hr with _ hr _
    exact ht hr.symm
theorem rowsO_up {W W' : World} {base : Nat} {vs : List Value} {cs : List Ents} (h : RowsO W base vs cs) (hu : Up W W') : RowsO W' base vs cs := ⟨h.1, fun i v c hv hc => own_up (h.2 i v c hv hc) hu⟩
theorem rowsO_put {W : World} {base k : Nat} {o' : Obj} {vs : List Value} {cs : List Ents} (h : RowsO W base vs cs) (hk : k < base) : RowsO (W.putObj k o') base vs cs := by
  refine ⟨h.1, fun i v c hv hc => ?_⟩
  have ho := h.2 i v c hv hc
  refine ho.kept (grownBy_putObj' W k o') ?_
  cases hvv : v.ownBlock with
  | none => exact .inl rfl
  | some g => have := (ho.lt g hvv).1; right; intro e; injection e with e; omega
/-- pieces laid, each in memory of its own -/
def CutE (w : World) (cs : List Ents) (en : Ending) (w' : World) : Prop := ∃ v vs, en = .returned v ∧ w'.ownsRow w.heap.size 38 1 v cs.length vs ∧ RowsO w' w.heap.size vs cs ∧ Up w w'
set_option maxHeartbeats 8000000 in
theorem cut_any (l : Ents) (h0 : l ≠ []) (hl : l.length ≤ 10000) (sz : Nat) (hs : 0 < sz) (hs2 : sz ≤ 4096) (A : Option Addr) (c : Nat) (w : World) (hr : Rd w 4 A l.length c (entV l)) :
    Calls Tryz.prog 59 #[.slice A l.length c, .int .i64 sz] w (CutE w (cutL sz l)) := by
  have hA := hr.low
  have hlp := List.length_pos_iff.2 h0
  obtain ⟨b, o, rfl, _⟩ := hr.2.2.2.2 hlp
  obtain ⟨i0, hi, hz0, hz1, hz2⟩ := info_parts infoSl
  have hlt : ¬ (sz : Int) < 1 := by omega
  have HR := Lib.hid hr
  refine (callsIn_wide (n := 3)).1 ?_
  refine callsIn_of_wp_marks Tryz.func59 rfl trivial ?_ rfl
  simp only [Tryz.ntmps59, List.size_toArray, List.length_cons, List.length_nil, Nat.reduceAdd, Nat.reduceSub, Array.replicate_succ, Array.replicate_zero, List.push_toArray, List.append_toArray, List.nil_append, List.cons_append]
  gi_wp2
  refine ⟨trivial, (callsIn_wide.2 (chunk_any _ _ _ _ hs _)).mono ?_⟩
  rintro e w2 ⟨rfl, rfl⟩
  gi_wp2
  have hq0 := heap_alloc_new w (.cells #[.slice none 0 0] 132)
  have hq1 := heap_alloc_new (w.alloc (.cells #[.slice none 0 0] 132)) (.cells #[.slice (some ⟨b, o, none⟩) l.length c] 38)
  have hq2 := heap_alloc_new ((w.alloc (.cells #[.slice none 0 0] 132)).alloc (.cells #[.slice (some ⟨b, o, none⟩) l.length c] 38)) (.cells #[.int .i64 sz] 3)
  rw [World.size_alloc] at hq1
  rw [World.size_alloc, World.size_alloc] at hq2
  have hu2 : Up w (((w.alloc (.cells #[.slice none 0 0] 132)).alloc (.cells #[.slice (some ⟨b, o, none⟩) l.length c] 38)).alloc (.cells #[.int .i64 sz] 3)) := (((Up.refl w).alloc _).alloc _).alloc _
  have hq0' := (((Up.refl _).alloc (.cells #[.slice (some ⟨b, o, none⟩) l.length c] 38)).alloc (.cells #[.int .i64 sz] 3)).obj hq0
  have hq1' := ((Up.refl _).alloc (.cells #[.int .i64 sz] 3)).obj hq1
  have HK := Lib.hid (fun k => cut_get l hs k)
  have hKl : (cutL sz l).length ≤ 10000 := by
    have := flat_len (cut_ne l hs)
    rw [cut_flat l hs] at this
    omega
  refine wpIn_rangeFunc_all rfl (by omega) (gf := 168) (lb := #[.pointer (some ⟨w.heap.size + 1, 0, none⟩), .pointer (some ⟨w.heap.size + 1 + 1, 0, none⟩)]) rfl trivial (enters_of Tryz.func168 (by kernel_rfl) rfl)
    (chunks_all 3 2 (by omega) l (by omega) sz hs hs2 (w.heap.size + 1) (w.heap.size + 1 + 1) w.heap.size b o c _ (blk_one hq1').1 (blk_one hq2).1 hr.2.1) keepB_t
    (fun W k o o' h1 _ ho hc => keepB_b W k o o' (by simp at h1; omega) (by simp at h1 ⊢; omega) ho hc) (fun _ => rfl)
    (fun k W => ∃ v vs, W.heap[w.heap.size]? = some (.cells #[v] 132 (0, 0)) ∧ W.ownsRow (w.heap.size + 5) 38 1 v k vs ∧ RowsO W (w.heap.size + 5) vs ((cutL sz l).take k) ∧ Up w W)
    (fun s W k o' h1 h2 _ hI => ?i1) (fun s W W' hI hu => ?i2) (fun s W W' r cs fz hI h1 hr hg => ?i3)
    ⟨.slice none 0 0, [], hq0', World.ownsRow_nil _ _ _ _, ⟨by simp, fun i v c hv hc => by simp at hv⟩, hu2⟩
    (fun k => { tmps := #[.slice (some ⟨b, o, none⟩) l.length c, .int .i64 sz, undef, undef, .slice none 0 0, .pointer (some ⟨w.heap.size, 0, none⟩), pieceV b o sz l.length k, .int .i64 sz, .bool false, .slice (some ⟨b, o, none⟩) l.length c, .int .i64 sz, .func (.func 168) #[] #[.pointer (some ⟨w.heap.size + 1, 0, none⟩), .pointer (some ⟨w.heap.size + 1 + 1, 0, none⟩)], pieceV b o sz l.length k, undef, undef, undef, undef, undef, undef], defers := [] }) ?assign ?body ?done
  case i1 =>
    simp at h1 h2
    obtain ⟨v, vs, g1, g2, g4, g3⟩ := hI
    have hg := grownBy_putObj' W k o'
    refine ⟨v, vs, (World.putObj_heap_other (by omega)).trans g1, g2.kept hg ?_, rowsO_put g4 (by omega), Up.of (g3.below.grown hg g3.le (fun j e => by cases e; omega))⟩
    cases hv : v.ownBlock with
    | none => exact .inl rfl
    | some g => have := (g2.lt g hv).1; right; intro e; injection e with e; omega
  case i2 =>
    obtain ⟨v, vs, g1, g2, g4, g3⟩ := hI
    exact ⟨v, vs, hu.obj g1, own_up g2 hu, rowsO_up g4 hu, g3.trans hu⟩
  case i3 =>
    simp at h1
    obtain ⟨v, vs, g1, g2, g4, g3⟩ := hI
    refine ⟨v, vs, (hg.block _ (Array.getElem?_eq_some_iff.1 g1).1 (by intro e; injection e with e; omega)).trans g1, g2.kept hg ?_, rowsO_grown g4 hg hr (by decide), Up.of (g3.below.grown hg g3.le (fun j e => by cases e; omega))⟩
    rcases g2.2 with ⟨rfl, _⟩ | ⟨g, cap, cur, rfl, _, hh, _⟩
    · exact .inl rfl
    · right
      intro e
      injection e with e
      have e : g = r := e
      subst e
      rw [hh] at hr
      injection hr with hr
      injection hr with _ hr _
      exact absurd hr (by decide)
  case assign =>
    intro lp k W K hK
    gi_wp2
    exact hK
  case body =>
    rintro lp k x W hx ⟨v, vs, g1, g2, g4, g3⟩ hsz
    simp at hsz
    have hxk := List.getElem?_eq_some_iff.1 hx
    obtain ⟨hkl, hkx⟩ := hxk
    rw [List.length_range] at hkl
    rw [List.getElem_range] at hkx
    subst hkx
    have hmx : Tryz.prog.follows .mixedOrders = true := mixed
    obtain ⟨hc, hf⟩ := blk_one g1
    have kd := ((Up.refl W).drew).cell hc
    have hkq := (HK.out k).1.2 hkl
    have hpc := piece_rd (HR.out.up (g3.trans (Up.refl W).drew)) hkq hs
    have hcg := (HK.out k).2 hkl
    rw [← hcg] at hpc
    have hlen : (cutL sz l)[k].length = min sz (l.length - k * sz) := by rw [hcg, List.length_take, List.length_drop]
    have hpv : pieceV b o sz l.length k = .slice (some ⟨b, o + k * sz * 4, none⟩) (cutL sz l)[k].length (min sz (l.length - k * sz)) := by unfold pieceV; rw [hlen]
    have hst : (cutL sz l).take (k + 1) = (cutL sz l).take k ++ [(cutL sz l)[k]] := List.take_succ_eq_append_getElem hkl
    rw [hpv]
    obtain ⟨ck, hck⟩ : ∃ ck, (cutL sz l)[k] = ck := ⟨_, rfl⟩
    have hckl : ck.length ≤ 4096 := by rw [← hck, hlen]; omega
    rw [hck] at hpc hlen hst ⊢
    obtain ⟨cc, hcc⟩ : ∃ cc, min sz (l.length - k * sz) = cc := ⟨_, rfl⟩
    rw [hcc] at hpc ⊢
    clear hpv hcg hck hlen
    have HRW := Lib.hid hpc
    have CL := fun w hrr => Lib.hid (cloneEn_any (some ⟨b, o + k * sz * 4, none⟩) ck.length cc (entV ck) (entV_one _) (by omega) w hrr)
    have FIN := Lib.hid (fun (a' : Act) (v5 : Value) (w5 w6 : World) (g' cap' : Nat) (row : Option Nat) (ho5 : w5.ownsRow W.drew.heap.size 72 4 v5 ck.length (entV ck)) (hu5 : Up W.drew w5)
        (ho6 : w6.ownsRow (w.heap.size + 5) 38 1 (.slice (some ⟨g', 0, none⟩) (k + 1) cap') (k + 1) (vs ++ [v5])) (hg0 : w.heap.size + 5 ≤ g') (hb6 : Below (w.heap.size + 5) w5 w6)
        (hk6 : ∀ T n₀ Bs, T ≠ 38 → n₀ ≤ w.heap.size + 5 → (∀ x ∈ Bs, x < w.heap.size + 5) → KeepB T n₀ Bs w5 w6) (hg6 : w5.grownBy w6 row) (hr6 : ∀ r, row = some r → ∃ cur fz, w5.heap[r]? = some (.cells cur 38 fz))
        (g46 : w6.heap[w.heap.size]? = some (.cells #[v] 132 (0, 0))) => (by
      have hW5 : W.heap.size ≤ w5.heap.size := hu5.le
      have hs6 := hg6.size
      refine ⟨fun j h1 h2 => ?_, ?_, ?_⟩
      · simp at h1 h2
        exact (Below.heap_setCell w6 ⟨w.heap.size, 0, none⟩ _ j (by simp; omega)).trans ((hb6.block j (by omega)).trans (((Up.refl W).drew.trans hu5).block (by omega)))
      · refine keepB_t (keepB_up ((Up.refl W).drew.trans hu5) (by omega) (by simp; omega)) (keepB_t (hk6 _ _ _ (by decide) (by omega) (by simp)) (keepB_grown (grown_set w6 w.heap.size _) g46 (by decide) (by omega) (by omega) (by simp; omega)))
      · refine ⟨_, vs ++ [v5], heap_setCell_same w6 w.heap.size 0 _ _ _ g46, ho6.kept (grown_set w6 w.heap.size _) (.inr (by intro e; injection e with e; have e : g' = w.heap.size := e; omega)), ?_, Up.of ((Below.trans (g3.trans ((Up.refl W).drew.trans hu5)).below (Below.mono hb6 (by omega))).setCell (p := ⟨w.heap.size, 0, none⟩) (by simp) _)⟩
        rw [hst]
        have r5 : RowsO w5 (w.heap.size + 5) (vs ++ [v5]) ((cutL sz l).take k ++ [ck]) := by
          have r4 := rowsO_up g4 ((Up.refl W).drew.trans hu5)
          refine ⟨by rw [List.length_append, List.length_append, r4.1]; rfl, fun i v c hv hc => ?_⟩
          have hl4 := r4.1
          rcases Nat.lt_or_ge i vs.length with hi | hi
          · rw [List.getElem?_append_left hi] at hv
            rw [List.getElem?_append_left (by omega)] at hc
            exact r4.2 i v c hv hc
          · rw [List.getElem?_append_right hi] at hv
            rw [List.getElem?_append_right (by omega)] at hc
            have hi0 : i - vs.length = 0 := by
              have := (List.getElem?_eq_some_iff.1 hv).1
              simpa using this
            rw [hi0] at hv
            rw [← hl4, hi0] at hc
            simp at hv hc
            subst hv hc
            exact own_low ho5 (show w.heap.size + 5 ≤ W.heap.size by omega)
        have r6 : RowsO w6 (w.heap.size + 5) (vs ++ [v5]) ((cutL sz l).take k ++ [ck]) := by
          cases row with
          | none => exact rowsO_up r5 (Up.of ((Below.refl w5.heap.size w5).grown hg6 (Nat.le_refl _) (fun j e => by cases e)))
          | some r =>
            obtain ⟨cur, fz, hr⟩ := hr6 r rfl
            exact rowsO_grown r5 hg6 hr (by decide)
        exact rowsO_grown r6 (grown_set w6 w.heap.size _) g46 (by decide) :
      twoPost (((w.alloc (.cells #[.slice none 0 0] 132)).alloc (.cells #[.slice (some ⟨b, o, none⟩) l.length c] 38)).alloc (.cells #[.int .i64 sz] 3)).heap.size (KeepB 3 w.heap.size [w.heap.size + 1, w.heap.size + 1 + 1])
        (fun W => ∃ v vs, W.heap[w.heap.size]? = some (.cells #[v] 132 (0, 0)) ∧ W.ownsRow (w.heap.size + 5) 38 1 v (k + 1) vs ∧ RowsO W (w.heap.size + 5) vs ((cutL sz l).take (k + 1)) ∧ Up w W) W .normal a' (w6.setCell ⟨w.heap.size, 0, none⟩ (.slice (some ⟨g', 0, none⟩) (k + 1) cap'))))
    gi_wp2
    refine wpIn_region_any hmx ?_
    (try change wpAnyIn _ _ _ _ _ _ _ _ _ (World.drew _))
    refine wpAnyIn_ready (rs := [0, 1]) (by kernel_rfl) (by simp) ?_
    refine AllReadyIn.cons (o := ⟨_, _, _, _, _, _⟩) rfl (fun K hK => ?_) ?_
    · go_simp
      refine hK _ _ ?_
      clear hK K
      (try simp only [Act.put, tz1, tz2, tz3])
      refine wpAnyIn_ready (rs := [1]) (by kernel_rfl) (by simp) ?_
      refine AllReadyIn.cons (o := ⟨_, _, _, _, _, _⟩) rfl (fun K hK => ?_) ?_
      · go_simp
        refine hK _ _ ?_
        clear hK K
        (try simp only [Act.put, tz1, tz2, tz3])
        refine wpAnyIn_ready (rs := [2]) (by kernel_rfl) (by simp) ?_
        refine AllReadyIn.cons (o := ⟨_, _, _, _, _, _⟩) rfl (fun K hK => ?_) ?_
        · go_simp
          refine ⟨trivial, (CallsIn.inRound lp (callsIn_wide.2 (CL _ HRW.out).out)).mono ?_⟩
          rintro e w5 ⟨v5, rfl, ho5, hu5⟩
          obtain ⟨A5, c5, rfl, r5⟩ := Rd.of_own ho5
          have k5 := hu5.cell kd
          have k6 := ((Up.refl w5).alloc (.cells #[.slice A5 ck.length c5] 38)).cell k5
          have hle5 := hu5.le
          refine hK _ _ ?_
          clear hK K
          (try simp only [Act.put, tz1, tz2, tz3])
          refine wpAnyIn_ready (rs := [3]) (by kernel_rfl) (by simp) ?_
          refine AllReadyIn.cons (o := ⟨_, _, _, _, _, _⟩) rfl (fun K hK => ?_) ?_
          · go_simp
            refine hK _ _ ?_
            clear hK K
            (try simp only [Act.put, tz1, tz2, tz3])
            refine wpAnyIn_ready (rs := [4]) (by kernel_rfl) (by simp) ?_
            refine AllReadyIn.cons (o := ⟨_, _, _, _, _, _⟩) rfl (fun K hK => ?_) ?_
            · refine stepIn_app_one w5 rfl _ _ 132 rfl (w.heap.size + 5) 38 i0 _ 1 24 Tryz.underlying132 hi hz0 hz1 hz2 rfl (by decide) v k vs (own_up g2 ((Up.refl W).drew.trans hu5)) rfl #[.slice A5 ck.length c5] rfl rfl (by simp [Value.oneCell']) (by omega) (by omega) (by simp at hle5; omega) ?_
              intro g' cap' w6 row ho6 hg0 hb6 hk6 hg6 hr6
              have g46 := (hb6.block w.heap.size (by omega)).trans ((Up.refl W).drew.trans hu5 |>.obj g1)
              obtain ⟨c46, f46⟩ := blk_one g46
              refine hK _ _ ?_
              clear hK K
              (try simp only [Act.put, tz1, tz2, tz3])
              refine wpAnyIn_ready (rs := [5]) (by kernel_rfl) (by simp) ?_
              refine AllReadyIn.cons (o := ⟨_, _, _, _, _, _⟩) rfl (fun K hK => ?_) ?_
              · go_simp
                refine hK _ _ ?_
                clear hK K
                (try simp only [Act.put, tz1, tz2, tz3])
                refine wpAnyIn_done (by kernel_rfl) ?_ _
                exact FIN.out { tmps := #[], defers := [] } _ _ _ _ _ _ ho5 hu5 ho6 hg0 hb6 hk6 hg6 hr6 g46
              exact AllReadyIn.nil
            exact AllReadyIn.nil
          exact AllReadyIn.nil
        exact AllReadyIn.nil
      exact AllReadyIn.nil
    refine AllReadyIn.cons (o := ⟨_, _, _, _, _, _⟩) rfl (fun K hK => ?_) ?_
    · go_simp
      refine hK _ _ ?_
      clear hK K
      (try simp only [Act.put, tz1, tz2, tz3])
      refine wpAnyIn_ready (rs := [0, 2]) (by kernel_rfl) (by simp) ?_
      refine AllReadyIn.cons (o := ⟨_, _, _, _, _, _⟩) rfl (fun K hK => ?_) ?_
      · go_simp
        refine hK _ _ ?_
        clear hK K
        (try simp only [Act.put, tz1, tz2, tz3])
        refine wpAnyIn_ready (rs := [2]) (by kernel_rfl) (by simp) ?_
        refine AllReadyIn.cons (o := ⟨_, _, _, _, _, _⟩) rfl (fun K hK => ?_) ?_
        · go_simp
          refine ⟨trivial, (CallsIn.inRound lp (callsIn_wide.2 (CL _ HRW.out).out)).mono ?_⟩
          rintro e w5 ⟨v5, rfl, ho5, hu5⟩
          obtain ⟨A5, c5, rfl, r5⟩ := Rd.of_own ho5
          have k5 := hu5.cell kd
          have k6 := ((Up.refl w5).alloc (.cells #[.slice A5 ck.length c5] 38)).cell k5
          have hle5 := hu5.le
          refine hK _ _ ?_
          clear hK K
          (try simp only [Act.put, tz1, tz2, tz3])
          refine wpAnyIn_ready (rs := [3]) (by kernel_rfl) (by simp) ?_
          refine AllReadyIn.cons (o := ⟨_, _, _, _, _, _⟩) rfl (fun K hK => ?_) ?_
          · go_simp
            refine hK _ _ ?_
            clear hK K
            (try simp only [Act.put, tz1, tz2, tz3])
            refine wpAnyIn_ready (rs := [4]) (by kernel_rfl) (by simp) ?_
            refine AllReadyIn.cons (o := ⟨_, _, _, _, _, _⟩) rfl (fun K hK => ?_) ?_
            · refine stepIn_app_one w5 rfl _ _ 132 rfl (w.heap.size + 5) 38 i0 _ 1 24 Tryz.underlying132 hi hz0 hz1 hz2 rfl (by decide) v k vs (own_up g2 ((Up.refl W).drew.trans hu5)) rfl #[.slice A5 ck.length c5] rfl rfl (by simp [Value.oneCell']) (by omega) (by omega) (by simp at hle5; omega) ?_
              intro g' cap' w6 row ho6 hg0 hb6 hk6 hg6 hr6
              have g46 := (hb6.block w.heap.size (by omega)).trans ((Up.refl W).drew.trans hu5 |>.obj g1)
              obtain ⟨c46, f46⟩ := blk_one g46
              refine hK _ _ ?_
              clear hK K
              (try simp only [Act.put, tz1, tz2, tz3])
              refine wpAnyIn_ready (rs := [5]) (by kernel_rfl) (by simp) ?_
              refine AllReadyIn.cons (o := ⟨_, _, _, _, _, _⟩) rfl (fun K hK => ?_) ?_
              · go_simp
                refine hK _ _ ?_
                clear hK K
                (try simp only [Act.put, tz1, tz2, tz3])
                refine wpAnyIn_done (by kernel_rfl) ?_ _
                exact FIN.out { tmps := #[], defers := [] } _ _ _ _ _ _ ho5 hu5 ho6 hg0 hb6 hk6 hg6 hr6 g46
              exact AllReadyIn.nil
            exact AllReadyIn.nil
          exact AllReadyIn.nil
        exact AllReadyIn.nil
      refine AllReadyIn.cons (o := ⟨_, _, _, _, _, _⟩) rfl (fun K hK => ?_) ?_
      · go_simp
        refine ⟨trivial, (CallsIn.inRound lp (callsIn_wide.2 (CL _ HRW.out).out)).mono ?_⟩
        rintro e w5 ⟨v5, rfl, ho5, hu5⟩
        obtain ⟨A5, c5, rfl, r5⟩ := Rd.of_own ho5
        have k5 := hu5.cell kd
        have k6 := ((Up.refl w5).alloc (.cells #[.slice A5 ck.length c5] 38)).cell k5
        have hle5 := hu5.le
        refine hK _ _ ?_
        clear hK K
        (try simp only [Act.put, tz1, tz2, tz3])
        refine wpAnyIn_ready (rs := [0, 3]) (by kernel_rfl) (by simp) ?_
        refine AllReadyIn.cons (o := ⟨_, _, _, _, _, _⟩) rfl (fun K hK => ?_) ?_
        · go_simp
          refine hK _ _ ?_
          clear hK K
          (try simp only [Act.put, tz1, tz2, tz3])
          refine wpAnyIn_ready (rs := [3]) (by kernel_rfl) (by simp) ?_
          refine AllReadyIn.cons (o := ⟨_, _, _, _, _, _⟩) rfl (fun K hK => ?_) ?_
          · go_simp
            refine hK _ _ ?_
            clear hK K
            (try simp only [Act.put, tz1, tz2, tz3])
            refine wpAnyIn_ready (rs := [4]) (by kernel_rfl) (by simp) ?_
            refine AllReadyIn.cons (o := ⟨_, _, _, _, _, _⟩) rfl (fun K hK => ?_) ?_
            · refine stepIn_app_one w5 rfl _ _ 132 rfl (w.heap.size + 5) 38 i0 _ 1 24 Tryz.underlying132 hi hz0 hz1 hz2 rfl (by decide) v k vs (own_up g2 ((Up.refl W).drew.trans hu5)) rfl #[.slice A5 ck.length c5] rfl rfl (by simp [Value.oneCell']) (by omega) (by omega) (by simp at hle5; omega) ?_
              intro g' cap' w6 row ho6 hg0 hb6 hk6 hg6 hr6
              have g46 := (hb6.block w.heap.size (by omega)).trans ((Up.refl W).drew.trans hu5 |>.obj g1)
              obtain ⟨c46, f46⟩ := blk_one g46
              refine hK _ _ ?_
              clear hK K
              (try simp only [Act.put, tz1, tz2, tz3])
              refine wpAnyIn_ready (rs := [5]) (by kernel_rfl) (by simp) ?_
              refine AllReadyIn.cons (o := ⟨_, _, _, _, _, _⟩) rfl (fun K hK => ?_) ?_
              · go_simp
                refine hK _ _ ?_
                clear hK K
                (try simp only [Act.put, tz1, tz2, tz3])
                refine wpAnyIn_done (by kernel_rfl) ?_ _
                exact FIN.out { tmps := #[], defers := [] } _ _ _ _ _ _ ho5 hu5 ho6 hg0 hb6 hk6 hg6 hr6 g46
              exact AllReadyIn.nil
            exact AllReadyIn.nil
          exact AllReadyIn.nil
        refine AllReadyIn.cons (o := ⟨_, _, _, _, _, _⟩) rfl (fun K hK => ?_) ?_
        · go_simp
          refine hK _ _ ?_
          clear hK K
          (try simp only [Act.put, tz1, tz2, tz3])
          refine wpAnyIn_ready (rs := [0]) (by kernel_rfl) (by simp) ?_
          refine AllReadyIn.cons (o := ⟨_, _, _, _, _, _⟩) rfl (fun K hK => ?_) ?_
          · go_simp
            refine hK _ _ ?_
            clear hK K
            (try simp only [Act.put, tz1, tz2, tz3])
            refine wpAnyIn_ready (rs := [4]) (by kernel_rfl) (by simp) ?_
            refine AllReadyIn.cons (o := ⟨_, _, _, _, _, _⟩) rfl (fun K hK => ?_) ?_
            · refine stepIn_app_one w5 rfl _ _ 132 rfl (w.heap.size + 5) 38 i0 _ 1 24 Tryz.underlying132 hi hz0 hz1 hz2 rfl (by decide) v k vs (own_up g2 ((Up.refl W).drew.trans hu5)) rfl #[.slice A5 ck.length c5] rfl rfl (by simp [Value.oneCell']) (by omega) (by omega) (by simp at hle5; omega) ?_
              intro g' cap' w6 row ho6 hg0 hb6 hk6 hg6 hr6
              have g46 := (hb6.block w.heap.size (by omega)).trans ((Up.refl W).drew.trans hu5 |>.obj g1)
              obtain ⟨c46, f46⟩ := blk_one g46
              refine hK _ _ ?_
              clear hK K
              (try simp only [Act.put, tz1, tz2, tz3])
              refine wpAnyIn_ready (rs := [5]) (by kernel_rfl) (by simp) ?_
              refine AllReadyIn.cons (o := ⟨_, _, _, _, _, _⟩) rfl (fun K hK => ?_) ?_
              · go_simp
                refine hK _ _ ?_
                clear hK K
                (try simp only [Act.put, tz1, tz2, tz3])
                refine wpAnyIn_done (by kernel_rfl) ?_ _
                exact FIN.out { tmps := #[], defers := [] } _ _ _ _ _ _ ho5 hu5 ho6 hg0 hb6 hk6 hg6 hr6 g46
              exact AllReadyIn.nil
            exact AllReadyIn.nil
          exact AllReadyIn.nil
        exact AllReadyIn.nil
      exact AllReadyIn.nil
    exact AllReadyIn.nil
  case done =>
    rintro W ⟨v, vs, g1, g2, g4, g3⟩ hD
    rw [List.length_range] at g2 g4
    rw [List.take_length] at g4
    obtain ⟨hc, hf⟩ := blk_one g1
    obtain ⟨A2, c2, rfl, r2⟩ := Rd.of_own g2
    simp only [World.size_alloc] at hD ⊢
    gi_wp2
    refine ⟨by simp, .inl ⟨_, _, rfl, run_takeDeferred hD, ?_⟩⟩
    refine ⟨_, results_tmp rfl _ _ _, _, vs, rfl, own_low (g2.kept (grownBy_putObj' W _ _) (.inr ?_)) (by omega), ?_, Up.of (g3.below.grown (grownBy_putObj' W _ _) g3.le (fun j e => by cases e; omega))⟩
    · intro e
      have := (g2.lt _ e).1
      omega
    · have := rowsO_put (o' := .deferred none) (k := w.heap.size + 1 + 1 + 1) g4 (by omega)
      exact ⟨this.1, fun i v c hv hc => own_low (this.2 i v c hv hc) (by omega)⟩
end Go.Proofs.YtcfmidmokciofaaGreatDoor
/- Walk: leaves.Split. -/
namespace Go.Proofs.YtcfmidmokciofaaGreatDoor
open Go.RowKit Go.Gz Go.Shelf

set_option maxRecDepth 100000
attribute [local go_sem] Oper.semAt_some
theorem any_run {l : Ents} (hrun : ∀ e ∈ l, 1 ≤ e.run) : (l.any fun e => e.run == 0) = false := by
  rw [List.any_eq_false]
  intro e he
  have := hrun e he
  simp; omega
theorem strC_by (l : Bs) : Lib.strCells ⟨l.toArray⟩ = byV l := rfl
theorem entV_snoc (l : Ents) (e : Ent) : entV (l ++ [e]) = entV l ++ [.int .u64 (e.id : Int), .int .u64 (e.off : Int), .int .u32 (e.len : Int), .int .u32 (e.run : Int)] := by
  simp [entV, entC]
theorem flat_snoc (l : List Ents) (c : Ents) : (l ++ [c]).flatMap dirB = l.flatMap dirB ++ dirB c := by simp
theorem flat_le50 {n : Nat} {l : Ents} (hn : 0 < n) (hr : rowE l = 0) (hok : ∀ e ∈ l, okE e) (hl : l.length ≤ 1024) (k : Nat) : (((cutL n l).take k).flatMap dirB).length ≤ 51200 := by
  have h1 := (cut_dirs hn hr hok hl ((cutL n l).take k) (fun c hc => List.mem_of_mem_take hc)).1
  have h2 : ((cutL n l).take k).flatten.length ≤ l.length := by
    conv => rhs; rw [← cut_flat l hn, ← List.take_append_drop k (cutL n l), List.flatten_append, List.length_append]
    omega
  omega
theorem cut_pos {n : Nat} {l : Ents} (hn : 0 < n) (h0 : l ≠ []) : cutL n l ≠ [] := by
  intro h
  have := cut_flat l hn
  rw [h] at this
  exact h0 this.symm
theorem flat_pos {cs : List Ents} (h : cs ≠ []) : cs.flatMap dirB ≠ [] := by
  cases cs with
  | nil => exact absurd rfl h
  | cons c r =>
    intro h2
    have := congrArg List.length h2
    have hp := dirB_pos c
    rw [List.flatMap_cons, List.length_append, List.length_nil] at this
    omega
/-- a root and its leaves' text -/
def SplitE (w : World) (r : Ents) (t : Bs) (n : Nat) (en : Ending) (w' : World) : Prop := ∃ A c, en = .returned (.tuple #[.slice A r.length c, .string ⟨t.toArray⟩, .int .i64 n, .int .i64 0]) ∧ Rd w' 4 A r.length c (entV r) ∧ Up w w'
set_option maxHeartbeats 4000000 in
theorem split_small (l : Ents) (hok : ∀ e ∈ l, okE e) (hl : l.length ≤ 1024) (hrow : rowE l = 0) (hrun : ∀ e ∈ l, 1 ≤ e.run) (b : Nat) (hb : 512 ≤ b) (hb2 : b ≤ 16257) (hs : sizeD l ≤ b) (A : Option Addr) (c : Nat) (w : World) (hr : Rd w 4 A l.length c (entV l)) :
    Calls Tryz.prog 24 #[.slice A l.length c, .int .i64 b] w (SplitE w l [] 0) := by
  have RW := fun w hr => Lib.hid (row_any l hok (by omega) A c w hr)
  have SZ := fun w hr => Lib.hid (dsize_any l hok (by omega) A c w hr)
  have HP := fun w hr => Lib.hid (hasp_any l (by omega) A c w hr)
  have CL := fun w hr => Lib.hid (cloneEn_any A l.length c (entV l) (entV_one _) (by omega) w hr)
  rw [hrow] at RW
  rw [any_run hrun] at HP
  have h1 : decide ((b : Int) < 1) = false := decide_eq_false (by omega)
  have h2 : decide ((16257 : Int) < b) = false := decide_eq_false (by omega)
  have h3 : (sizeD l : Int) ≤ b := by omega
  generalize sizeD l = sz at *
  clear hrow hok hrun
  go_enter Tryz.func24, Tryz.ntmps24
  go_wp2_with fail
  go_step3
  go_wp2_with fail
  refine (RW _ hr).out.mono ?_
  rintro e w1 ⟨rfl, hu1⟩
  go_wp2_with fail
  refine (HP _ (hr.up hu1)).out.mono ?_
  rintro e w2 ⟨rfl, hu2⟩
  go_wp2_with fail
  refine (SZ _ (hr.up (hu1.trans hu2))).out.mono ?_
  rintro e w3 ⟨rfl, hu3⟩
  go_wp2_with fail
  refine (CL _ (hr.up ((hu1.trans hu2).trans hu3))).out.mono ?_
  rintro e w4 ⟨v4, rfl, ho4, hu4⟩
  obtain ⟨A4, c4, rfl, r4⟩ := Rd.of_own ho4
  go_wp2_with fail
  rw [Exit.noGoto_ret]
  refine bodyPost_ret (v := .tuple #[.slice A4 l.length c4, .string ⟨#[]⟩, .int .i64 0, .int .i64 0]) (by simp [results, Tryz.results24, go_sem]) rfl ?_
  exact ⟨A4, c4, rfl, r4, ((hu1.trans hu2).trans hu3).trans hu4⟩
set_option maxHeartbeats 8000000 in
theorem split_big (l : Ents) (hok : ∀ e ∈ l, okE e) (hl : l.length ≤ 1024) (hrow : rowE l = 0) (hrun : ∀ e ∈ l, 1 ≤ e.run) (b : Nat) (hb : 512 ≤ b) (hb2 : b ≤ 16257) (hs : ¬ sizeD l ≤ b) (A : Option Addr) (c : Nat) (w : World) (hr : Rd w 4 A l.length c (entV l)) (h0 : l ≠ []) :
    Calls Tryz.prog 24 #[.slice A l.length c, .int .i64 b] w (SplitE w (splitV l b).2.1 (splitV l b).2.2.1 (splitV l b).2.2.2) := by
  have RW := fun w hr => Lib.hid (row_any l hok (by omega) A c w hr)
  have SZ := fun w hr => Lib.hid (dsize_any l hok (by omega) A c w hr)
  have HP := fun w hr => Lib.hid (hasp_any l (by omega) A c w hr)
  have hsp := (split_ok hb hb2 hrow hok hl hrun).1
  have hsv : splitV l b = splitS sizesL l b := by
    unfold splitV
    rw [if_neg (by omega), if_neg (by omega), if_neg (by rw [any_run hrun]; simp), if_neg hs]
  rw [hsv] at hsp ⊢
  rw [hrow] at RW
  rw [any_run hrun] at HP
  have h1 : decide ((b : Int) < 1) = false := decide_eq_false (by omega)
  have h2 : decide ((16257 : Int) < b) = false := decide_eq_false (by omega)
  have h3 : ¬ (sizeD l : Int) ≤ b := by omega
  generalize sizeD l = sz at *
  have HR := Lib.hid hr
  have CT := fun n hn hn2 w hr => Lib.hid (cut_any l h0 (by omega) n hn hn2 A c w hr)
  have ST := fun n (hn : 0 < n) => Lib.hid (split_step (b := b) hn hrow hok hl)
  have OK := fun n (hn : 0 < n) c hc => Lib.hid (cut_ok hn hrow hok hl (c := c) hc)
  obtain ⟨i0, hi0, hz0, hz1, hz2⟩ := info_parts infoEn
  obtain ⟨i1, hi1, hy0, hy1, hy2⟩ := info_parts infoU8
  have HSP := Lib.hid hsp
  have HROW := Lib.hid hrow
  have HOK := Lib.hid hok
  clear hrow hok hrun hsp hsv
  go_enter Tryz.func24, Tryz.ntmps24
  go_wp2_with fail
  go_step3
  go_wp2_with fail
  refine (RW _ hr).out.mono ?_
  rintro e w1 ⟨rfl, hu1⟩
  go_wp2_with fail
  refine (HP _ (hr.up hu1)).out.mono ?_
  rintro e w2 ⟨rfl, hu2⟩
  go_wp2_with fail
  refine (SZ _ (hr.up (hu1.trans hu2))).out.mono ?_
  rintro e w3 ⟨rfl, hu3⟩
  have hu := (hu1.trans hu2).trans hu3
  clear hu1 hu2 hu3
  go_wp2_with fail
  go_step3
  go_wp2_with fail
  go_loopg [9] 13 (fun gk s wr => ∃ i, i + gk = 13 ∧ s = .int .i64 ((2 ^ i : Nat) : Int) ∧ splitS (sizesL.drop i) l b = splitS sizesL l b ∧ Up w wr)
  case atStart => exact ⟨0, rfl, rfl, rfl, hu⟩
  case round =>
    obtain ⟨i, hi, rfl, hd, hu4⟩ := hrel
    have hi13 : i < 13 := by
      refine Nat.lt_of_not_le fun h => ?_
      obtain rfl : i = 13 := by omega
      have := HSP.out
      rw [← hd] at this
      exact absurd this (by rw [show sizesL.drop 13 = [] from rfl]; unfold splitS; decide)
    obtain ⟨m, rfl⟩ : ∃ m, gk = m + 1 := ⟨gk - 1, by omega⟩
    have hst : splitS (sizesL.drop i) l b = match splitAt (2 ^ i) l b with
      | some st => (0, st.1, st.2, 2 ^ i)
      | none => splitS (sizesL.drop (i + 1)) l b := by
      have : ∀ i : Fin 13, sizesL.drop i.val = 2 ^ i.val :: sizesL.drop (i.val + 1) := by decide
      rw [this ⟨i, hi13⟩]
      rfl
    have hn0 : 0 < 2 ^ i := Nat.pow_pos (by omega)
    have hn1 : 2 ^ i ≤ 4096 := Nat.pow_le_pow_right (n := 2) (by omega) (show i ≤ 12 by omega)
    have hn2 : 2 ^ (i + 1) = 2 ^ i * 2 := Nat.pow_succ ..
    rw [hst, (ST _ hn0).out] at hd
    obtain ⟨n, hn⟩ : ∃ n, 2 ^ i = n := ⟨_, rfl⟩
    rw [hn] at hn0 hn1 hn2 hd ⊢
    have HN2 := Lib.hid hn2
    have CT' := fun w hr => (CT n hn0 hn1 w hr)
    have OK' := fun c hc => (OK n hn0 c hc)
    have hcl : (cutL n l).length ≤ 1024 := by
      have := flat_len (cut_ne l hn0)
      rw [cut_flat l hn0] at this
      omega
    have FL := fun k => Lib.hid (flat_le50 hn0 HROW.out HOK.out hl k)
    have DL := fun c hc => Lib.hid ((cut_dirs hn0 HROW.out HOK.out hl (cutL n l) (fun c hc => hc)).2 c hc)
    have RO := Lib.hid (root_okE hn0 HROW.out HOK.out hl)
    have FNE := Lib.hid (flat_pos (cut_pos (n := n) hn0 h0))
    clear HROW HOK
    generalize cutL n l = cs at *
    have HD := Lib.hid hd
    have HU4 := Lib.hid hu4
    have hnI : (n : Int) ≤ 4096 := by omega
    clear hst hd hu4 hn hn2 CT ST OK hu
    go_wp2_with fail
    refine (CT' _ (HR.out.up HU4.out)).out.mono ?_
    rintro e w5 ⟨v5, vs, rfl, ho5, hrows, hu5⟩
    obtain ⟨A5, c5, rfl, r5⟩ := Rd.of_own ho5
    have HU5 := Lib.hid (HU4.out.trans hu5)
    have HROWS := Lib.hid hrows
    have HR5 := Lib.hid r5
    clear ho5 hrows hu5 r5 CT'
    go_wp2_with fail
    go_loopg [10, 11, 43] cs.length (fun gj rv tv s wx => ∃ k tl : Nat, k + gj = cs.length ∧ s = .int .i64 k ∧ tl = ((cs.take k).flatMap dirB).length ∧ wx.ownsRow w5.heap.size 72 4 rv k (entV (roots 0 (cs.take k))) ∧ wx.ownsRow w5.heap.size 5 1 tv tl (byV ((cs.take k).flatMap dirB)) ∧ Up w5 wx)
    case atStart => exact ⟨0, 0, by omega, rfl, rfl, by simpa [roots, entV_nil] using World.ownsRow_nil _ _ _ _, by simpa [byV] using World.ownsRow_nil _ _ _ _, Up.refl w5⟩
    case round =>
      rename World => wx
      obtain ⟨k, tl, hk, rfl, htl, ho1, ho2, hu6⟩ := hrel
      have HTL := Lib.hid htl
      obtain ⟨A7, c7, rfl, r7⟩ := Rd.of_own ho2
      have HR7 := Lib.hid r7
      clear r7
      have HO1 := Lib.hid ho1
      have HO2 := Lib.hid ho2
      have HU6 := Lib.hid hu6
      clear ho1 ho2 hu6 htl
      by_cases hlt : k < cs.length
      · obtain ⟨m2, rfl⟩ : ∃ m, gk = m + 1 := ⟨gk - 1, by omega⟩
        obtain ⟨b5, o5, u, rfl, g1, g2⟩ := HR5.out.one hlt
        have hmem := List.getElem_mem hlt
        have ho := HROWS.out.2 k u cs[k] g1 (List.getElem?_eq_getElem hlt)
        obtain ⟨q1, q2, q3, q4⟩ := (OK' _ hmem).out
        have hdl := (DL _ hmem).out
        have hfl := (FL k).out
        have hts : cs.take (k + 1) = cs.take k ++ [cs[k]] := List.take_succ_eq_append_getElem hlt
        have HTS := Lib.hid hts
        obtain ⟨ck, hck⟩ : ∃ ck, cs[k] = ck := ⟨_, rfl⟩
        rw [hck] at ho q1 q2 q3 q4 hdl HTS
        obtain ⟨x, t, rfl⟩ : ∃ x t, ck = x :: t := by
          cases ck with
          | nil => exact absurd rfl q4
          | cons x t => exact ⟨x, t, rfl⟩
        obtain ⟨A6, c6, rfl, r6⟩ := Rd.of_own ho
        have d0 := HU6.out.cell g2
        replace r6 := r6.up HU6.out
        obtain ⟨b6, o6, rfl, f0, f1, f2, f3⟩ := r6.ent (k := 0) (by simp)
        clear f1 f2 f3
        simp only [Nat.zero_mul, Nat.add_zero, List.getElem_cons_zero] at f0
        have DE := Lib.hid (denc_any (x :: t) q3 (by omega) _ _ wx r6)
        rw [q1, show encB (x :: t) = dirB (x :: t) by unfold encB; rw [if_pos q1]] at DE
        have hw1 : IntKind.u64.wrap ((((cs.take k).flatMap dirB).length : Nat) : Int) = ((((cs.take k).flatMap dirB).length : Nat) : Int) := IntWalk.u64_in _ (by omega)
        have hw2 : IntKind.u32.wrap (((dirB (x :: t)).length : Nat) : Int) = (((dirB (x :: t)).length : Nat) : Int) := IntWalk.u32_in _ (by omega)
        have hltI : (k : Int) < (cs.length : Int) := by omega
        have HRT := Lib.hid (roots_snoc (cs.take k) (x :: t) 0)
        have HFS := Lib.hid (flat_snoc (cs.take k) (x :: t))
        rw [Nat.zero_add, show ((x :: t).headD zE) = x from rfl] at HRT
        obtain ⟨n2, hn2⟩ : ∃ n2, (x :: t).length = n2 := ⟨_, rfl⟩
        rw [hn2] at d0 DE
        have hn2p : 0 < n2 := by rw [← hn2]; simp
        clear ho q1 q2 q3 q4 hts hck hmem g1 g2 r6 hn2
        generalize x :: t = ck at *
        generalize dirB ck = ds at *
        generalize cs.take k = p at *
        generalize p.flatMap dirB = pf at *
        obtain rfl : tl = pf.length := HTL.out
        have HSZ := Lib.hid (show (ByteArray.mk ds.toArray).size = ds.length by simp [ByteArray.size])
        go_wp2_with fail
        refine DE.out.mono ?_
        rintro e w6 ⟨rfl, hu7⟩
        replace f0 := hu7.cell f0
        have o1 := own_up HO1.out hu7
        have o2 := own_up HO2.out hu7
        have HUW := Lib.hid (HU6.out.trans hu7)
        clear HO1 HO2 hu7
        go_wp2_with (first
          | (at_builtin; refine app_one w6 rfl _ _ 38 rfl w5.heap.size 72 i0 _ 4 24 Tryz.underlying38 hi0 hz0 hz1 hz2 rfl (by decide) _ _ _ o1 rfl #[.int .u64 (x.id : Int), .int .u64 ((pf.length : Nat) : Int), .int .u32 ((ds.length : Nat) : Int), .int .u32 0] rfl rfl (by simp [Value.oneCell']) (by omega) (by omega) (by have := HUW.out.le; omega) ?_; intro v7 w7 ho7 hg7 hb7)
          | (at_builtin; have HOX := own_other o2 hg7 (own_row o1) (by decide); refine Lib.wpList_append_own_string w7 rfl _ _ 44 9 rfl w5.heap.size 5 i1 Tryz.underlying44 Tryz.underlying9 hi1 hy0 hy1 hy2 _ _ _ rfl HOX ⟨ds.toArray⟩ rfl (by rw [HSZ.out]; unfold maxLen; omega) (by rw [HSZ.out]; omega) (by have := HUW.out.le; have := hb7.size; omega) ?_; intro v8 w8 ho8 hg8 _))
        go_roundg m2
        case measure => omega
        case rel =>
          have hU7 := HUW.out.base (Nat.le_refl _) hb7
          have hs7 := hb7.size
          have hU8 : Up w5 w8 := hU7.base (Nat.le_refl _) ((Below.refl w5.heap.size w7).grown hg8 hU7.le (fun j hj => (HOX.lt j hj).1))
          refine ⟨k + 1, (pf ++ ds).length, by omega, by go_num, by rw [HTS.out, HFS.out], ?_, ?_, hU8⟩
          · rw [HTS.out, HRT.out, entV_snoc]
            exact own_other ho7 hg8 (own_row HOX) (by decide)
          · rw [HTS.out, HFS.out, List.length_append, byV_app]
            rw [strC_by, HSZ.out] at ho8
            exact ho8
      · obtain rfl : k = cs.length := by omega
        rw [List.take_length] at HO1 HO2 HR7 HTL
        obtain ⟨A9, c9, rfl, r9⟩ := Rd.of_own HO1.out
        have hrl := roots_len cs 0
        have hro := RO.out
        have hfl := (FL cs.length).out
        rw [List.take_length] at hfl
        have DS := fun w hr => Lib.hid (dsize_any (roots 0 cs) hro (by omega) A9 c9 w hr)
        simp only [roots_len] at DS
        generalize roots 0 cs = rl at *
        generalize cs.flatMap dirB = fs at *
        obtain rfl : tl = fs.length := HTL.out
        have r10 := HR7.out
        obtain rfl : gk = 0 := by omega
        have HRL := Lib.hid hrl
        clear hlt hk hrl
        generalize hT : splitS sizesL l b = T at *
        by_cases hbs : b < sizeD rl
        · have hd := HD.out
          rw [if_pos hbs] at hd
          have HD2 := Lib.hid hd
          have hbI : (b : Int) < (sizeD rl : Int) := by omega
          have e2 : IntKind.i64.wrap ((n : Int) * 2) = ((n * 2 : Nat) : Int) := by rw [IntWalk.i64_in _ (by omega)]; omega
          generalize sizeD rl = szr at *
          clear hd HD r10
          go_wp2_with fail
          refine (DS _ r9).out.mono ?_
          rintro e w6 ⟨rfl, hu7⟩
          go_wp2_with fail
          go_roundg m
          case measure => omega
          case rel => exact ⟨i + 1, by omega, by rw [HN2.out]; simp, HD2.out, (HU5.out.trans HU6.out).trans hu7⟩
        · have hd := HD.out
          rw [if_neg hbs] at hd
          have hd : (0, rl, fs, n) = T := hd
          subst hd
          have hbI : ¬ (b : Int) < (sizeD rl : Int) := by omega
          generalize sizeD rl = szr at *
          clear HD
          go_wp2_with fail
          refine (DS _ r9).out.mono ?_
          rintro e w6 ⟨rfl, hu7⟩
          have MK := Lib.hid (fun w' (h : Up w6 w') => (⟨h, ((r10.up hu7).up h).str FNE.out⟩ : Up w6 w' ∧ (convert 44 9 (.slice A7 fs.length c7)).run Tryz.prog w' = .ok (.string ⟨fs.toArray⟩) w'))
          go_wp2_with fail
          go_region_held3 (fun w' => Up w6 w' ∧ (convert 44 9 (.slice A7 fs.length c7)).run Tryz.prog w' = .ok (.string ⟨fs.toArray⟩) w')
            (first
              | assumption
              | exact MK.out _ (Up.refl _).drew)
            (fail)
          go_wp2_with fail
          (try rw [Exit.noGoto_ret])
          refine bodyPost_ret (v := .tuple #[.slice A9 cs.length c9, .string ⟨fs.toArray⟩, .int .i64 n, .int .i64 0]) (by simp [results, Tryz.results24, go_sem]) rfl ?_
          refine ⟨A9, c9, by rw [HRL.out], ?_, ((HU5.out.trans HU6.out).trans hu7).drew⟩
          rw [HRL.out]
          exact (r9.up hu7).up (Up.refl _).drew
theorem split_any (l : Ents) (hok : ∀ e ∈ l, okE e) (hl : l.length ≤ 1024) (hrow : rowE l = 0) (hrun : ∀ e ∈ l, 1 ≤ e.run) (b : Nat) (hb : 512 ≤ b) (hb2 : b ≤ 16257) (A : Option Addr) (c : Nat) (w : World) (hr : Rd w 4 A l.length c (entV l)) :
    Calls Tryz.prog 24 #[.slice A l.length c, .int .i64 b] w (SplitE w (splitV l b).2.1 (splitV l b).2.2.1 (splitV l b).2.2.2) := by
  by_cases hs : sizeD l ≤ b
  · have hsv : splitV l b = (0, l, [], 0) := by
      unfold splitV
      rw [if_neg (by omega), if_neg (by omega), if_neg (by rw [any_run hrun]; simp), if_pos hs]
    rw [hsv]
    exact split_small l hok hl hrow hrun b hb hb2 hs A c w hr
  · refine split_big l hok hl hrow hrun b hb hb2 hs A c w hr ?_
    rintro rfl
    exact hs (by have : sizeD [] ≤ 512 := by decide +kernel
                 omega)
end Go.Proofs.YtcfmidmokciofaaGreatDoor
