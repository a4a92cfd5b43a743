/- Walks: dirs.Size, dirs.Encode: ranges over dirs.numbers. -/
import Derived.Test.YtcfmidmokciofaaGreatDoorKM16
import Derived.Test.YtcfmidmokciofaaGreatDoorKM11
import Derived.Test.YtcfmidmokciofaaGreatDoorKM20
namespace Go.Proofs.YtcfmidmokciofaaGreatDoor
open Go.RowKit Go.Gz Go.Shelf

set_option maxRecDepth 100000
attribute [local go_sem] Oper.semAt_some
set_option maxHeartbeats 4000000 in
/-- bytes as a text -/
theorem Rd.str {w : World} {A : Option Addr} {c : Nat} {l : Bs} (h : Rd w 1 A l.length c (byV l)) (h0 : l ≠ []) : (convert 44 9 (.slice A l.length c)).run Tryz.prog w = .ok (.string ⟨l.toArray⟩) w := by
  obtain ⟨b, o, rfl, hc⟩ := h.2.2.2.2 (List.length_pos_iff.2 h0)
  refine Go.run_convert_bytes_back w 44 9 5 ⟨b, o, none⟩ c l Tryz.underlying44 Tryz.underlying5 Tryz.underlying9 (fun j hj => ?_)
  rw [add_plain]
  exact hc j _ (by unfold byV; rw [List.getElem?_map, List.getElem?_eq_getElem hj]; rfl)
theorem Rd.low {w : World} {l : Ents} {A : Option Addr} {c : Nat} (hr : Rd w 4 A l.length c (entV l)) : ∀ a, A = some a → 0 < l.length → a.block < w.heap.size := fun a ha hn => by
  obtain ⟨b, o, e, hc⟩ := hr.2.2.2.2 hn
  rw [ha] at e; injection e with e; subst e
  obtain ⟨u, hu⟩ : ∃ u, (entV l)[0]? = some u := ⟨_, List.getElem?_eq_getElem (by rw [entV_len]; omega)⟩
  exact World.block_lt_of_cell? _ _ (hc 0 u hu)
theorem dsize_any (l : Ents) (hok : ∀ e ∈ l, okE e) (hl : l.length ≤ 1000000) (A : Option Addr) (c : Nat) (w : World) (hr : Rd w 4 A l.length c (entV l)) :
    Calls Tryz.prog 57 #[.slice A l.length c] w fun e w' => e = .returned (.int .i64 (sizeD l : Nat)) ∧ Up w w' := by
  have hA := hr.low
  have RW := fun w hr => Lib.hid (row_any l hok hl A c w hr)
  by_cases hrow : rowE l = 0
  · rw [hrow] at RW
    have hs : sizeD l = sizeL (nums l) := by unfold sizeD; rw [if_neg (by omega), dirB_len]
    refine (callsIn_wide (n := 3)).1 ?_
    refine callsIn_of_wp_marks Tryz.func57 rfl trivial ?_ rfl
    simp only [Tryz.ntmps57, List.size_toArray, List.length_cons, List.length_nil, Nat.reduceAdd, Nat.reduceSub, Array.replicate_succ, Array.replicate_zero, List.push_toArray, List.append_toArray, List.nil_append, List.cons_append]
    gi_wp2
    refine ⟨trivial, (callsIn_wide.2 (RW _ hr).out).mono ?_⟩
    rintro e w1 ⟨rfl, hu1⟩
    gi_wp2
    refine ⟨trivial, (callsIn_wide.2 (numbers_any _ _ _ _)).mono ?_⟩
    rintro e w2 ⟨rfl, rfl⟩
    gi_wp2
    have hb0 := heap_alloc_new w1 (.cells #[.int .i64 0] 3)
    have hb1 := heap_alloc_new (w1.alloc (.cells #[.int .i64 0] 3)) (.cells #[.slice A l.length c] 38)
    rw [World.size_alloc] at hb1
    have hu2 : Up w ((w1.alloc (.cells #[.int .i64 0] 3)).alloc (.cells #[.slice A l.length c] 38)) := (hu1.alloc _).alloc _
    have hb0' := ((Up.refl _).alloc (.cells #[.slice A l.length c] 38)).obj hb0
    have hle := hu1.le
    have hsum : sizeL (nums l) ≤ 170000 := by
      have := size_le _ (nums_lt hrow hok)
      rw [nums_len] at this
      have := row_len hrow
      omega
    have SZ := fun x (hx : x < 18446744073709551616) w => Lib.hid (vsize_any x hx w)
    refine wpIn_rangeFunc_all rfl (by omega) (gf := 140) (lb := #[.pointer (some ⟨w1.heap.size + 1, 0, none⟩)]) rfl trivial (enters_of Tryz.func140 (by kernel_rfl) rfl)
      (numbers_all 2 (by omega) l hrow hok (w1.heap.size + 1) w.heap.size A c _ (blk_one hb1).1 (hr.up hu2) hA hu2.le) keepB_t
      (fun W k o o' h1 _ ho hc => keepB_b W k o o' (by simp at h1; omega) (by simp at h1 ⊢; omega) ho hc) (fun _ => rfl)
      (fun k W => W.heap[w1.heap.size]? = some (.cells #[.int .i64 (sizeL ((nums l).take k) : Nat)] 3 (0, 0)) ∧ Up w W)
      (fun s W k o' h1 _ _ hI => ?i1) (fun s W W' hI hu => ⟨hu.obj hI.1, hI.2.trans hu⟩) (fun s W W' r cs fz hI h1 hr hg => ?i3)
      ⟨by simpa [sizeL] using hb0', hu2⟩
      (fun x => { tmps := #[.slice A l.length c, undef, .int .i64 0, .pointer (some ⟨w1.heap.size, 0, none⟩), .int .u64 x, .slice A l.length c, .int .i64 0, .bool false, .slice A l.length c, .func (.func 140) #[] #[.pointer (some ⟨w1.heap.size + 1, 0, none⟩)], .int .u64 x, undef, undef, undef, undef, undef], defers := [] }) ?assign ?body ?done
    case i1 =>
      simp at h1
      exact ⟨(World.putObj_heap_other (by omega)).trans hI.1, Up.of (hI.2.below.grown (grownBy_putObj' W k o') hI.2.le (fun j e => by cases e; omega))⟩
    case i3 =>
      simp at h1
      exact ⟨(hg.block _ (Array.getElem?_eq_some_iff.1 hI.1).1 (by intro e; injection e with e; omega)).trans hI.1, Up.of (hI.2.below.grown hg hI.2.le (fun j e => by cases e; omega))⟩
    case assign =>
      intro lp x W K hK
      gi_wp2
      exact hK
    case body =>
      rintro lp k x W hx ⟨hI, hU⟩ hsz
      obtain ⟨hc, hf⟩ := blk_one hI
      have hd : 1 ≤ 3 - 1 - 1 := by omega
      have hmx : Tryz.prog.follows .mixedOrders = true := mixed
      have hk := List.getElem?_eq_some_iff.1 hx
      have hxl := nums_lt hrow hok x (by rw [← hk.2]; exact List.getElem_mem _)
      have hst : sizeL ((nums l).take (k + 1)) = sizeL ((nums l).take k) + (vB x).length := by
        rw [List.take_succ_eq_append_getElem hk.1, hk.2, sizeL_app]; simp [sizeL]
      have htot : sizeL ((nums l).take (k + 1)) ≤ sizeL (nums l) := by
        conv => rhs; rw [← List.take_append_drop (k + 1) (nums l)]
        rw [sizeL_app]; omega
      have e1 : IntKind.i64.wrap (((sizeL ((nums l).take k) : Nat) : Int) + ((vB x).length : Int)) = ((sizeL ((nums l).take k) : Nat) : Int) + ((vB x).length : Int) := IntWalk.i64_in _ (by omega)
      have SX := SZ x hxl
      clear hx hk
      generalize sizeL ((nums l).take k) = s0 at *
      generalize sizeL ((nums l).take (k + 1)) = s1 at *
      generalize (vB x).length = vl at *
      have fin := Lib.hid (show twoPost ((w1.alloc (.cells #[.int .i64 0] 3)).alloc (.cells #[.slice A l.length c] 38)).heap.size (KeepB 72 w.heap.size [w1.heap.size + 1])
          (fun W => W.heap[w1.heap.size]? = some (.cells #[.int .i64 (s1 : Nat)] 3 (0, 0)) ∧ Up w W) W .normal { tmps := #[], defers := [] } (W.setCell ⟨w1.heap.size, 0, none⟩ (.int .i64 ((s0 : Int) + (vl : Int)))).drew by
        simp at hsz
        refine ⟨fun j h1 h2 => ?_, ?_, ?_, ?_⟩
        · simp at h1
          exact Below.heap_setCell W ⟨w1.heap.size, 0, none⟩ _ j (by simp; omega)
        · exact keepB_t (keepB_grown (grown_set W w1.heap.size _) hI (by decide) hU.le (by omega) (by simp; omega)) (keepB_up ((Up.refl _).drew) (by simp; have := hU.le; omega) (by simp; omega))
        · have h := heap_setCell_same W w1.heap.size 0 _ _ (.int .i64 ((s0 : Int) + (vl : Int))) hI
          rw [hst]
          rw [show ((s0 + vl : Nat) : Int) = (s0 : Int) + (vl : Int) by omega]
          exact h
        · exact (hU.set (by simp; omega) _).drew)
      gi_wp2
      gi_region_with_o (refine ⟨trivial, ?_⟩; gi_at_call 111; refine (CallsIn.inRound lp (callsIn_wide.2 (SX _).out)).mono ?_; rintro e w' ⟨rfl, rfl⟩)
      all_goals gi_wp2
      all_goals exact fin.out
    case done =>
      rintro W ⟨hI, hU⟩ hD
      obtain ⟨hc, hf⟩ := blk_one hI
      gi_wp2
      refine ⟨by simp, .inl ⟨_, _, rfl, run_takeDeferred hD, ?_⟩⟩
      refine ⟨_, results_tmp rfl _ _ _, by rw [hs]; rfl, Up.of (hU.below.grown (grownBy_putObj' W _ _) hU.le (fun j e => by cases e; simp; omega))⟩
  · have hs : sizeD l = 0 := by unfold sizeD; rw [if_pos hrow]
    rw [hs]
    have hb : (rowE l != 0) = true := by rw [bne_iff_ne]; exact hrow
    generalize rowE l = rv at *
    clear hrow
    refine (callsIn_wide (n := 3)).1 ?_
    refine callsIn_of_wp_marks Tryz.func57 rfl trivial ?_ rfl
    simp only [Tryz.ntmps57, List.size_toArray, List.length_cons, List.length_nil, Nat.reduceAdd, Nat.reduceSub, Array.replicate_succ, Array.replicate_zero, List.push_toArray, List.append_toArray, List.nil_append, List.cons_append]
    gi_wp2
    refine ⟨trivial, (callsIn_wide.2 (RW _ hr).out).mono ?_⟩
    rintro e w1 ⟨rfl, hu1⟩
    gi_wp2
    exact ⟨_, results_tmp rfl _ _ _, rfl, hu1⟩
set_option maxHeartbeats 4000000 in
theorem denc_any (l : Ents) (hok : ∀ e ∈ l, okE e) (hl : l.length ≤ 1000000) (A : Option Addr) (c : Nat) (w : World) (hr : Rd w 4 A l.length c (entV l)) :
    Calls Tryz.prog 38 #[.slice A l.length c] w fun e w' => e = .returned (.tuple #[.string ⟨(encB l).toArray⟩, .int .i64 (encE l)]) ∧ Up w w' := by
  have hA := hr.low
  have RW := fun w hr => Lib.hid (row_any l hok hl A c w hr)
  have SZ := fun w hr => Lib.hid (dsize_any l hok hl A c w hr)
  by_cases hrow : rowE l = 0
  · rw [hrow] at RW
    have hs : sizeD l = sizeL (nums l) := by unfold sizeD; rw [if_neg (by omega), dirB_len]
    rw [hs] at SZ
    by_cases hbig : 65536 < sizeL (nums l)
    · have he : encE l = 5 := by unfold encE; rw [if_neg (by omega), dirB_len, if_pos hbig]
      have hB : encB l = [] := by unfold encB; rw [he]; rfl
      rw [he, hB]
      have hbI : (65536 : Int) < ((sizeL (nums l) : Nat) : Int) := by omega
      generalize sizeL (nums l) = sz at *
      refine (callsIn_wide (n := 3)).1 ?_
      refine callsIn_of_wp_marks Tryz.func38 rfl trivial ?_ rfl
      simp only [Tryz.ntmps38, List.size_toArray, List.length_cons, List.length_nil, Nat.reduceAdd, Nat.reduceSub, Array.replicate_succ, Array.replicate_zero, List.push_toArray, List.append_toArray, List.nil_append, List.cons_append]
      gi_wp2
      refine ⟨trivial, (callsIn_wide.2 (RW _ hr).out).mono ?_⟩
      rintro e w1 ⟨rfl, hu1⟩
      gi_wp2
      refine ⟨trivial, (callsIn_wide.2 (SZ _ (hr.up hu1)).out).mono ?_⟩
      rintro e w2 ⟨rfl, hu2⟩
      gi_wp2
      exact ⟨_, results_tmp2 rfl _ _ _, rfl, hu1.trans hu2⟩
    · have he : encE l = 0 := by unfold encE; rw [if_neg (by omega), dirB_len, if_neg hbig]
      have hB : encB l = dirB l := by unfold encB; rw [if_pos he]
      rw [he, hB]
      have hbI : decide ((65536 : Int) < ((sizeL (nums l) : Nat) : Int)) = false := decide_eq_false (by omega)
      have AL := fun A c w hr => Lib.hid (all_any (nums l) (nums_lt hrow hok) (by rw [nums_len]; have := row_len hrow; omega) A c w hr)
      rw [show (nums l).flatMap vB = dirB l from rfl] at AL
      have HNE := Lib.hid (List.length_pos_iff.1 (dirB_pos l))
      generalize dirB l = db at *
      obtain ⟨i0, hi, hz0, hz1, hz2⟩ := info_parts infoU64
      generalize sizeL (nums l) = sz at *
      refine (callsIn_wide (n := 3)).1 ?_
      refine callsIn_of_wp_marks Tryz.func38 rfl trivial ?_ rfl
      simp only [Tryz.ntmps38, List.size_toArray, List.length_cons, List.length_nil, Nat.reduceAdd, Nat.reduceSub, Array.replicate_succ, Array.replicate_zero, List.push_toArray, List.append_toArray, List.nil_append, List.cons_append]
      gi_wp2
      refine ⟨trivial, (callsIn_wide.2 (RW _ hr).out).mono ?_⟩
      rintro e w0 ⟨rfl, hu0⟩
      gi_wp2
      refine ⟨trivial, (callsIn_wide.2 (SZ _ (hr.up hu0)).out).mono ?_⟩
      rintro e w1 ⟨rfl, hu1'⟩
      have hu1 := hu0.trans hu1'
      gi_wp2
      refine ⟨trivial, (callsIn_wide.2 (numbers_any _ _ _ _)).mono ?_⟩
      rintro e w2 ⟨rfl, rfl⟩
      gi_wp2
      have hb0 := heap_alloc_new w1 (.cells #[.slice none 0 0] 181)
      have hb1 := heap_alloc_new (w1.alloc (.cells #[.slice none 0 0] 181)) (.cells #[.slice A l.length c] 38)
      rw [World.size_alloc] at hb1
      have hu2 : Up w ((w1.alloc (.cells #[.slice none 0 0] 181)).alloc (.cells #[.slice A l.length c] 38)) := (hu1.alloc _).alloc _
      have hb0' := ((Up.refl _).alloc (.cells #[.slice A l.length c] 38)).obj hb0
      have hle := hu1.le
      have HNL := Lib.hid (nums_len l)
      have HRL := Lib.hid (row_len hrow)
      refine wpIn_rangeFunc_all rfl (by omega) (gf := 140) (lb := #[.pointer (some ⟨w1.heap.size + 1, 0, none⟩)]) rfl trivial (enters_of Tryz.func140 (by kernel_rfl) rfl)
        (numbers_all 2 (by omega) l hrow hok (w1.heap.size + 1) w.heap.size A c _ (blk_one hb1).1 (hr.up hu2) hA hu2.le) keepB_t
        (fun W k o o' h1 _ ho hc => keepB_b W k o o' (by simp at h1; omega) (by simp at h1 ⊢; omega) ho hc) (fun _ => rfl)
        (fun k W => ∃ v, W.heap[w1.heap.size]? = some (.cells #[v] 181 (0, 0)) ∧ W.ownsRow (w1.heap.size + 4) 54 1 v k (nuV ((nums l).take k)) ∧ Up w W)
        (fun s W k o' h1 h2 _ hI => ?i1) (fun s W W' hI hu => ?i2) (fun s W W' r cs fz hI h1 hr hg => ?i3)
        ⟨.slice none 0 0, hb0', by simpa [nuV] using World.ownsRow_nil _ _ _ _, hu2⟩
        (fun x => { tmps := #[.slice A l.length c, undef, .string ⟨#[]⟩, .int .i64 0, .int .i64 0, .pointer (some ⟨w1.heap.size, 0, none⟩), .int .u64 x, .slice A l.length c, .int .i64 0, .int .i64 0, .bool false, undef, .slice A l.length c, .int .i64 sz, .bool false, .slice A l.length c, .func (.func 140) #[] #[.pointer (some ⟨w1.heap.size + 1, 0, none⟩)], .int .u64 x, undef, undef, undef, undef, undef, undef, undef], defers := [] }) ?assign ?body ?done
      case i1 =>
        simp at h1 h2
        obtain ⟨v, g1, g2, g3⟩ := hI
        have hg := grownBy_putObj' W k o'
        refine ⟨v, (World.putObj_heap_other (by omega)).trans g1, g2.kept hg ?_, Up.of (g3.below.grown hg g3.le (fun j e => by cases e; omega))⟩
        cases hv : v.ownBlock with
        | none => exact .inl rfl
        | some g => have := (g2.lt g hv).1; right; intro e; injection e with e; omega
      case i2 =>
        obtain ⟨v, g1, g2, g3⟩ := hI
        exact ⟨v, hu.obj g1, own_up g2 hu, g3.trans hu⟩
      case i3 =>
        simp at h1
        obtain ⟨v, g1, g2, g3⟩ := hI
        refine ⟨v, (hg.block _ (Array.getElem?_eq_some_iff.1 g1).1 (by intro e; injection e with e; omega)).trans g1, g2.kept hg ?_, Up.of (g3.below.grown hg g3.le (fun j e => by cases e; omega))⟩
        rcases g2.2 with ⟨rfl, _⟩ | ⟨g, cap, cur, rfl, _, hh, _⟩
        · exact .inl rfl
        · right
          intro e
          injection e with e
          have e : g = r := e
          subst e
          rw [hh] at hr
          injection hr with hr
          injection hr with _ hr _
          exact absurd hr (by decide)
      case assign =>
        intro lp x W K hK
        gi_wp2
        exact hK
      case body =>
        rintro lp k x W hx ⟨v, g1, g2, g3⟩ hsz
        simp at hsz
        obtain ⟨hc, hf⟩ := blk_one g1
        have hk := List.getElem?_eq_some_iff.1 hx
        have hkl : k ≤ 20000 := by have := hk.1; have := HNL.out; have := HRL.out; omega
        have hst : (nums l).take (k + 1) = (nums l).take k ++ [x] := by rw [List.take_succ_eq_append_getElem hk.1, hk.2]
        have HST := Lib.hid hst
        clear hst hx hk
        generalize (nums l).take k = Lk at *
        gi_wp2_with (gi_at_builtin; refine app_oneIn W rfl _ _ 181 rfl (w1.heap.size + 4) 54 i0 _ 1 8 Tryz.underlying181 hi hz0 hz1 hz2 rfl (by decide) _ _ _ g2 rfl #[.int .u64 x] rfl rfl (by simp [Value.oneCell']) (by omega) (by omega) (by omega) ?_; intro g' cap' w3 ho3 hg3 hb3 hk3; have g4 := (hb3.block w1.heap.size (by omega)).trans g1; obtain ⟨c4, f4⟩ := blk_one g4)
        refine ⟨fun j h1 h2 => ?_, ?_, ?_⟩
        · (try simp at h1)
          exact (Below.heap_setCell w3 ⟨w1.heap.size, 0, none⟩ _ j (by simp; omega)).trans (hb3.block j (by omega))
        · have hs3 := hb3.size
          exact keepB_t (hk3 72 w.heap.size [w1.heap.size + 1] (by decide) (by omega) (by simp)) (keepB_grown (grown_set w3 w1.heap.size _) g4 (by decide) (by omega) (by omega) (by simp; omega))
        · refine ⟨_, heap_setCell_same w3 w1.heap.size 0 _ _ _ g4, ?_, Up.of ((Below.trans g3.below (Below.mono hb3 (by omega))).setCell (p := ⟨w1.heap.size, 0, none⟩) (by simp; omega) _)⟩
          rw [HST.out, nuV_app]
          exact ho3.kept (grown_set w3 w1.heap.size _) (.inr (by intro e; injection e with e; have e : g' = w1.heap.size := e; omega))
      case done =>
        rintro W ⟨v, g1, g2, g3⟩ hD
        rw [List.take_length] at g2
        obtain ⟨hc, hf⟩ := blk_one g1
        obtain ⟨A2, c2, rfl, r2⟩ := Rd.of_own g2
        gi_wp2
        refine ⟨trivial, (callsIn_wide.2 (AL _ _ _ r2).out).mono ?_⟩
        rintro e w5 ⟨v5, rfl, ho5, hu5⟩
        obtain ⟨A5, c5, rfl, r5⟩ := Rd.of_own ho5
        have hcv := r5.str HNE.out
        have hD5 := hu5.obj hD
        have HUU := Lib.hid (g3.trans hu5)
        have hD6 : w5.heap[w1.heap.size + 1 + 1]? = some (.deferred (some [])) := by simpa using hD5
        gi_wp2
        refine ⟨by simp, .inl ⟨_, _, rfl, run_takeDeferred hD6, ?_⟩⟩
        exact ⟨_, results_tmp2 rfl _ _ _, rfl, Up.of (HUU.out.below.grown (grownBy_putObj' w5 _ _) HUU.out.le (fun j e => by cases e; omega))⟩
  · have he : encE l = rowE l := by unfold encE; rw [if_pos hrow]
    have hB : encB l = [] := by unfold encB; rw [if_neg (by rw [he]; exact hrow)]
    rw [he, hB]
    have hb : (rowE l != 0) = true := by rw [bne_iff_ne]; exact hrow
    generalize rowE l = rv at *
    clear hrow
    refine (callsIn_wide (n := 3)).1 ?_
    refine callsIn_of_wp_marks Tryz.func38 rfl trivial ?_ rfl
    simp only [Tryz.ntmps38, List.size_toArray, List.length_cons, List.length_nil, Nat.reduceAdd, Nat.reduceSub, Array.replicate_succ, Array.replicate_zero, List.push_toArray, List.append_toArray, List.nil_append, List.cons_append]
    gi_wp2
    refine ⟨trivial, (callsIn_wide.2 (RW _ hr).out).mono ?_⟩
    rintro e w1 ⟨rfl, hu1⟩
    gi_wp2
    exact ⟨_, results_tmp2 rfl _ _ _, rfl, hu1⟩
end Go.Proofs.YtcfmidmokciofaaGreatDoor
/- Walks: slices.ContainsFunc with leaves.pointer; slices.Chunk; leaves.Cut. -/
namespace Go.Proofs.YtcfmidmokciofaaGreatDoor
open Go.RowKit Go.Gz Go.Shelf

set_option maxRecDepth 100000
attribute [local go_sem] Oper.semAt_some
theorem ptr_any (e : Ent) (w : World) :
    Calls Tryz.prog 56 #[entA e] w fun en w' => en = .returned (.bool (e.run == 0)) ∧ Up w w' := by
  obtain ⟨id, off, len, run⟩ := e
  simp only [entA] at *
  have h0 : ((run : Int) == 0) = (run == 0) := by
    rw [Bool.eq_iff_iff, beq_iff_eq, beq_iff_eq]; omega
  have H0 := Lib.hid h0
  clear h0
  go_enter Tryz.func56, Tryz.ntmps56
  go_wp2_with fail
  go_ret
  exact ⟨ret_bool H0.out, (Up.refl w).alloc _⟩
/-- the place of the first pointer, or -1 -/
def fpE : Ents → Nat → Int
  | [], _ => -1
  | e :: r, k => if e.run == 0 then (k : Int) else fpE r (k + 1)
theorem fp_any (l : Ents) : ∀ k, (fpE l k ≥ 0) ↔ (l.any fun e => e.run == 0) = true := by
  induction l with
  | nil => intro k; simp [fpE]
  | cons e r ih =>
    intro k
    unfold fpE
    rw [List.any_cons]
    cases h : e.run == 0
    · simp only [Bool.false_or]; exact ih (k + 1)
    · simp
set_option maxHeartbeats 2000000 in
theorem ixf_any (l : Ents) (hl : l.length ≤ 1000000) (A : Option Addr) (c : Nat) (w : World) (hr : Rd w 4 A l.length c (entV l)) :
    Calls Tryz.prog 110 #[.slice A l.length c, .func (.func 56) #[] #[]] w fun e w' => e = .returned (.int .i64 (fpE l 0)) ∧ Up w w' := by
  have HR := Lib.hid hr
  generalize hT : fpE l 0 = T at *
  have HT := Lib.hid hT
  clear hr hT
  go_enter Tryz.func110, Tryz.ntmps110
  go_wp2_with fail
  go_loopg [8] l.length (fun gk i wr => ∃ k : Nat, k + gk = l.length ∧ i = .int .i64 k ∧ fpE (l.drop k) k = T ∧ Up w wr)
  case atStart => exact ⟨0, by omega, rfl, by simpa using HT.out, Up.refl w⟩
  case round =>
    obtain ⟨k, hk, rfl, hd, hu⟩ := hrel
    have HU := Lib.hid hu
    by_cases hlt : k < l.length
    · obtain ⟨m, rfl⟩ : ∃ m, gk = m + 1 := ⟨gk - 1, by omega⟩
      obtain ⟨B, o, rfl, d0, d1, d2, d3⟩ := (HR.out.up hu).ent hlt
      rw [List.drop_eq_getElem_cons hlt] at hd
      unfold fpE at hd
      obtain ⟨x, hx⟩ : ∃ x, l[k]'hlt = x := ⟨_, rfl⟩
      rw [hx] at d0 d1 d2 d3 hd
      have PT := fun w => Lib.hid (ptr_any x w)
      obtain ⟨bv, hbv⟩ : ∃ bv, (x.run == 0) = bv := ⟨_, rfl⟩
      rw [hbv] at PT hd
      obtain ⟨id, off, len, run⟩ := x
      simp only [entA] at *
      have HD := Lib.hid hd
      have hltI : (k : Int) < (l.length : Int) := by omega
      clear hx hbv hd hu
      cases bv
      · go_wp2_with fail
        refine (PT _).out.mono ?_
        rintro e w1 ⟨rfl, hu1⟩
        go_wp2_with fail
        go_roundg m
        case measure => omega
        case rel => exact ⟨k + 1, by omega, by go_num, by simpa using HD.out, HU.out.trans hu1⟩
      · go_wp2_with fail
        refine (PT _).out.mono ?_
        rintro e w1 ⟨rfl, hu1⟩
        go_wp2_with fail
        go_ret
        exact ⟨ret_int (by simpa using HD.out), HU.out.trans hu1⟩
    · obtain rfl : k = l.length := by omega
      rw [List.drop_length] at hd
      have hd : T = -1 := hd.symm
      subst hd
      clear hlt
      go_wp2_with fail
      go_ret
      exact ⟨rfl, HU.out⟩
theorem hasp_any (l : Ents) (hl : l.length ≤ 1000000) (A : Option Addr) (c : Nat) (w : World) (hr : Rd w 4 A l.length c (entV l)) :
    Calls Tryz.prog 55 #[.slice A l.length c, .func (.func 56) #[] #[]] w fun e w' => e = .returned (.bool (l.any fun e => e.run == 0)) ∧ Up w w' := by
  have IX := fun w hr => Lib.hid (ixf_any l hl A c w hr)
  have hf := fp_any l 0
  generalize fpE l 0 = T at *
  obtain ⟨bv, hbv⟩ : ∃ bv, (l.any fun e => e.run == 0) = bv := ⟨_, rfl⟩
  rw [hbv] at hf ⊢
  have HR := Lib.hid hr
  have HF := Lib.hid (show decide (0 ≤ T) = bv by rw [Bool.eq_iff_iff, decide_eq_true_eq]; exact hf)
  clear hf hbv hr
  go_enter Tryz.func55, Tryz.ntmps55
  go_wp2_with fail
  refine (IX _ HR.out).out.mono ?_
  rintro e w1 ⟨rfl, hu1⟩
  go_wp2_with fail
  go_ret
  exact ⟨ret_bool HF.out, hu1⟩
end Go.Proofs.YtcfmidmokciofaaGreatDoor
/- Walks: slices.Chunk, its iterator; leaves.Cut. -/
namespace Go.Proofs.YtcfmidmokciofaaGreatDoor
open Go.RowKit Go.Gz Go.Shelf

set_option maxRecDepth 100000
attribute [local go_sem] Oper.semAt_some
/-- the k-th piece of a slice of so many entries -/
def pieceV (b o sz len k : Nat) : Value := .slice (some ⟨b, o + k * sz * 4, none⟩) (min sz (len - k * sz)) (min sz (len - k * sz))
theorem piece_rd {w : World} {l : Ents} {b o c : Nat} (h : Rd w 4 (some ⟨b, o, none⟩) l.length c (entV l)) {sz k : Nat} (hk : k * sz < l.length) (hs : 0 < sz) :
    Rd w 4 (some ⟨b, o + k * sz * 4, none⟩) ((l.drop (k * sz)).take sz).length (min sz (l.length - k * sz)) (entV ((l.drop (k * sz)).take sz)) := by
  have hr := h.cut (lo := k * sz) (hi := k * sz + min sz (l.length - k * sz)) (mx := k * sz + min sz (l.length - k * sz)) (by omega) (by omega) (Nat.le_refl _) (by have := h.2.1; omega)
  rw [if_neg (by omega)] at hr
  simp only [Option.map_some, add_plain] at hr
  rw [entV_take, entV_drop, List.length_take, List.length_drop]
  rw [show k * sz + min sz (l.length - k * sz) - k * sz = min sz (l.length - k * sz) by omega] at hr
  have e : ((entV l).drop (k * sz * 4)).take (min sz (l.length - k * sz) * 4) = ((entV l).drop (k * sz * 4)).take (sz * 4) := by
    rcases Nat.le_total sz (l.length - k * sz) with g | g
    · rw [Nat.min_eq_left g]
    · rw [Nat.min_eq_right g, List.take_of_length_le (by rw [List.length_drop, entV_len, ← Nat.sub_mul]; exact Nat.le_refl _), List.take_of_length_le (by rw [List.length_drop, entV_len, ← Nat.sub_mul]; exact Nat.mul_le_mul_right _ g)]
  rw [e] at hr
  exact hr
theorem run_lhm (b o n c lo hi : Nat) (h1 : lo < hi) (h2 : hi ≤ c) (w : World) :
    (Instr.slice 38 (.slice (some ⟨b, o, none⟩) n c) (some (.int .i64 (lo : Int))) (some (.int .i64 (hi : Int))) (some (.int .i64 (hi : Int)))).run Tryz.prog w = .ok (.slice (some ⟨b, o + lo * 4, none⟩) (hi - lo) (hi - lo)) w := by
  obtain ⟨i0, hi0, _, hz1, _⟩ := info_parts infoEn
  have ht := Tryz.underlying38
  rw [run_slice_lhm w 38 (some ⟨b, o, none⟩) n c (by rw [elem_of ht]; exact ht) _ _ _ _ _ _ (by omega) (by omega) (by omega) (by omega), elem_of ht, size_run hi0 hz1]
  simp [Result.andThen, sliced, add_plain]
  omega
theorem run_lo (b o n c lo : Nat) (h1 : lo < n) (h2 : n ≤ c) (w : World) :
    (Instr.slice 38 (.slice (some ⟨b, o, none⟩) n c) (some (.int .i64 (lo : Int))) none none).run Tryz.prog w = .ok (.slice (some ⟨b, o + lo * 4, none⟩) (n - lo) (c - lo)) w := by
  obtain ⟨i0, hi0, _, hz1, _⟩ := info_parts infoEn
  have ht := Tryz.underlying38
  rw [run_slice_l w 38 (some ⟨b, o, none⟩) n c (by rw [elem_of ht]; exact ht) _ _ (by omega) (by omega), elem_of ht, size_run hi0 hz1]
  simp [Result.andThen, sliced, add_plain]
  omega
theorem chunk_any (A : Option Addr) (n c sz : Nat) (hs : 0 < sz) (w : World) :
    Calls Tryz.prog 112 #[.slice A n c, .int .i64 sz] w fun e w' => e = .returned (.func (.func 168) #[] #[.pointer (some ⟨w.heap.size, 0, none⟩), .pointer (some ⟨w.heap.size + 1, 0, none⟩)]) ∧
      w' = (w.alloc (.cells #[.slice A n c] 38)).alloc (.cells #[.int .i64 sz] 3) := by
  have hlt : ¬ (sz : Int) < 1 := by omega
  go_enter Tryz.func112, Tryz.ntmps112
  go_wp2_with fail
  go_ret
  exact ⟨rfl, rfl⟩
set_option maxHeartbeats 4000000 in
theorem chunks_all (T : TypeId) (n : Nat) (hn : 1 ≤ n) (l : Ents) (hl : l.length ≤ 1000000) (sz : Nat) (hs : 0 < sz) (hs2 : sz ≤ 4096) (B1 B2 n₀ b o : Nat) (c : Nat) (w : World) (hb1 : w.cell? ⟨B1, 0, none⟩ = some (.slice (some ⟨b, o, none⟩) l.length c)) (hb2 : w.cell? ⟨B2, 0, none⟩ = some (.int .i64 sz)) (hc : l.length ≤ c) :
    SeqAll Fence.wide n Tryz.prog 168 #[.pointer (some ⟨B1, 0, none⟩), .pointer (some ⟨B2, 0, none⟩)] (fun k : Nat => #[pieceV b o sz l.length k]) (KeepB T n₀ [B1, B2]) (List.range (cutL sz l).length) T w := by
  intro lp J W hu hJ hT hY h0
  have hc1 := hu.cell hb1
  have hc2 := hu.cell hb2
  have RL := Lib.hid (fun lo hi (h1 : lo < hi) (h2 : hi ≤ c) w => run_lhm b o l.length c lo hi h1 h2 w)
  refine callsIn_of_wp Tryz.func168 rfl trivial ?_ rfl
  simp only [Tryz.ntmps168, List.size_toArray, List.length_cons, List.length_nil, Nat.reduceAdd, Nat.reduceSub, Array.replicate_succ, Array.replicate_zero, List.push_toArray, List.append_toArray, List.nil_append, List.cons_append]
  have hmx : Tryz.prog.follows .mixedOrders = true := mixed
  have CG := Lib.hid (fun k => (cut_get l hs k).1)
  gi_wp2
  gi_loopw [4] (fun i wr => ∃ k q : Nat, k * sz = q ∧ i = .int .i64 q ∧ k ≤ (cutL sz l).length ∧ J k wr ∧ wr.cell? ⟨B1, 0, none⟩ = some (.slice (some ⟨b, o, none⟩) l.length c) ∧ wr.cell? ⟨B2, 0, none⟩ = some (.int .i64 sz))
    (fun i _ => l.length - (intOf i).toNat)
  case atStart => exact ⟨0, 0, by omega, rfl, by omega, h0, hc1, hc2⟩
  case round =>
    obtain ⟨k, q, hq, rfl, hk, hJk, d1, d2⟩ := hrel
    by_cases hlt : q < l.length
    · have hkK : k < (cutL sz l).length := (CG.out k).1 (by omega)
      have hltI : (q : Int) < (l.length : Int) := by omega
      obtain ⟨m, hm⟩ : ∃ m, min sz (l.length - q) = m := ⟨_, rfl⟩
      have YY := Lib.hid (fun W1 => hY k k W1 (by rw [List.getElem?_range hkK]))
      have hpv : pieceV b o sz l.length k = .slice (some ⟨b, o + q * 4, none⟩) m m := by unfold pieceV; rw [hq, hm]
      rw [hpv] at YY
      have R1 := fun w => run_lo b o l.length c q hlt hc w
      have R2 := fun w => RL.out q (q + m) (by omega) (by omega) w
      rw [show q + m - q = m by omega] at R2
      have e0 : ((l.length - q : Nat) : Int) = (l.length : Int) - (q : Int) := by omega
      have e1 : IntKind.i64.wrap ((q : Int) + (m : Int)) = ((q + m : Nat) : Int) := by rw [IntWalk.i64_in _ (by omega)]; omega
      have e2 : min (sz : Int) ((l.length - q : Nat) : Int) = (m : Int) := by omega
      have e3 : IntKind.i64.wrap ((q : Int) + (sz : Int)) = ((q + sz : Nat) : Int) := by rw [IntWalk.i64_in _ (by omega)]; omega
      have dd1 := ((Up.refl wr).drew).cell d1
      have dd2 := ((Up.refl wr).drew).cell d2
      clear e0
      gi_wp2
      gi_region_with_o (fail)
      all_goals
        have hJ2 := hJ _ _ _ hJk ((Up.refl wr).drew)
        obtain ⟨fn2, tmps2, assign2, body2, hy2, hR2⟩ := YY.out wr.drew hJ2
        (try dsimp only at hy2)
        gi_wp2
        refine hR2.mono ?_
        rintro e W3 ⟨rfl, hJ3, hk3⟩
        have g1 := (hk3.cell ⟨B1, 0, none⟩ (.inr (by simp))).trans dd1
        have g2 := (hk3.cell ⟨B2, 0, none⟩ (.inr (by simp))).trans dd2
        gi_wp2
        exact ⟨⟨k + 1, q + sz, by rw [Nat.add_mul]; omega, rfl, by omega, hJ3, g1, g2⟩, by simp [intOf]; omega⟩
    · have hkK : (cutL sz l).length = k := by
        have := CG.out k
        omega
      gi_wp2
      go_end0
      exact ⟨⟨_, rfl⟩, by rw [List.length_range, hkK]; exact hJk⟩
end Go.Proofs.YtcfmidmokciofaaGreatDoor
