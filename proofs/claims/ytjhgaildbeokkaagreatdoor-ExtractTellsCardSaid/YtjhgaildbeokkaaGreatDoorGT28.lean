/- Walks: dirs.Size, dirs.Encode: ranges over dirs.numbers. -/
import Derived.Test.YtjhgaildbeokkaaGreatDoorGT21
import Derived.Test.YtjhgaildbeokkaaGreatDoorGT06
import Derived.Test.YtjhgaildbeokkaaGreatDoorGT07
namespace Go.Proofs.YtjhgaildbeokkaaGreatDoor
open Go.RowKit Go.Gz Go.Shelf

set_option maxRecDepth 100000
attribute [local go_sem] Oper.semAt_some
set_option maxHeartbeats 4000000 in
/-- bytes as a text -/
theorem Rd.str {w : World} {A : Option Addr} {c : Nat} {l : Bs} (h : Rd w 1 A l.length c (byV l)) (h0 : l ≠ []) : (convert 150 9 (.slice A l.length c)).run Tryz.prog w = .ok (.string ⟨l.toArray⟩) w := by
  obtain ⟨b, o, rfl, hc⟩ := h.2.2.2.2 (List.length_pos_iff.2 h0);refine Go.run_convert_bytes_back w 150 9 5 ⟨b, o, none⟩ c l Tryz.underlying150 Tryz.underlying5 Tryz.underlying9 (fun j hj => ?_);rw [add_plain];exact hc j _ (by unfold byV; rw [List.getElem?_map, List.getElem?_eq_getElem hj]; rfl)
theorem Rd.low {w : World} {l : Ents} {A : Option Addr} {c : Nat} (hr : Rd w 4 A l.length c (entV l)) : ∀ a, A = some a → 0 < l.length → a.block < w.heap.size := fun a ha hn => by
  obtain ⟨b, o, e, hc⟩ := hr.2.2.2.2 hn;rw [ha] at e; injection e with e; subst e;obtain ⟨u, hu⟩ : ∃ u, (entV l)[0]? = some u := ⟨_, List.getElem?_eq_getElem (by rw [entV_len]; omega)⟩;exact World.block_lt_of_cell? _ _ (hc 0 u hu)
theorem dsize_any (l : Ents) (hok : ∀ e ∈ l, okE e) (hl : l.length ≤ 1000000) (A : Option Addr) (c : Nat) (w : World) (hr : Rd w 4 A l.length c (entV l)) :
    Calls Tryz.prog 113 #[.slice A l.length c] w fun e w' => e = .returned (.int .i64 (sizeD l : Nat)) ∧ Up w w' := by
  have hA := hr.low;have RW := fun w hr => Lib.hid (row_any l hok hl A c w hr);by_cases hrow : rowE l = 0
  · rw [hrow] at RW;have hs : sizeD l = sizeL (nums l) := by unfold sizeD; rw [if_neg (by omega), dirB_len]
    refine (callsIn_wide (n := 3)).1 ?_;refine callsIn_of_wp_marks Tryz.func113 rfl trivial ?_ rfl;simp only [Tryz.ntmps113, List.size_toArray, List.length_cons, List.length_nil, Nat.reduceAdd, Nat.reduceSub, Array.replicate_succ, Array.replicate_zero, List.push_toArray, List.append_toArray, List.nil_append, List.cons_append];gi_wp2;refine ⟨trivial, (callsIn_wide.2 (RW _ hr).out).mono ?_⟩;rintro e w1 ⟨rfl, hu1⟩;gi_wp2;refine ⟨trivial, (callsIn_wide.2 (numbers_any _ _ _ _)).mono ?_⟩;rintro e w2 ⟨rfl, rfl⟩;gi_wp2;have hb0 := heap_alloc_new w1 (.cells #[.int .i64 0] 3);have hb1 := heap_alloc_new (w1.alloc (.cells #[.int .i64 0] 3)) (.cells #[.slice A l.length c] 52);rw [World.size_alloc] at hb1;have hu2 : Up w ((w1.alloc (.cells #[.int .i64 0] 3)).alloc (.cells #[.slice A l.length c] 52)) := (hu1.alloc _).alloc _;have hb0' := ((Up.refl _).alloc (.cells #[.slice A l.length c] 52)).obj hb0;have hle := hu1.le;have hsum : sizeL (nums l) ≤ 170000 := by
      have := size_le _ (nums_lt hrow hok);rw [nums_len] at this;have := row_len hrow;omega
    have SZ := fun x (hx : x < 18446744073709551616) w => Lib.hid (vsize_any x hx w)
    refine wpIn_rangeFunc_all rfl (by omega) (gf := 187) (lb := #[.pointer (some ⟨w1.heap.size + 1, 0, none⟩)]) rfl trivial (enters_of Tryz.func187 (by kernel_rfl) rfl)
      (numbers_all 2 (by omega) l hrow hok (w1.heap.size + 1) w.heap.size A c _ (blk_one hb1).1 (hr.up hu2) hA hu2.le) keepB_t
      (fun W k o o' h1 _ ho hc => keepB_b W k o o' (by simp at h1; omega) (by simp at h1 ⊢; omega) ho hc) (fun _ => rfl)
      (fun k W => W.heap[w1.heap.size]? = some (.cells #[.int .i64 (sizeL ((nums l).take k) : Nat)] 3 (0, 0)) ∧ Up w W)
      (fun s W k o' h1 _ _ hI => ?i1) (fun s W W' hI hu => ⟨hu.obj hI.1, hI.2.trans hu⟩) (fun s W W' r cs fz hI h1 hr hg => ?i3)
      ⟨by simpa [sizeL] using hb0', hu2⟩
      (fun x => { tmps := #[.slice A l.length c, undef, .int .i64 0, .pointer (some ⟨w1.heap.size, 0, none⟩), .int .u64 x, .slice A l.length c, .int .i64 0, .bool false, .slice A l.length c, .func (.func 187) #[] #[.pointer (some ⟨w1.heap.size + 1, 0, none⟩)], .int .u64 x, undef, undef, undef, undef, undef], defers := [] }) ?assign ?body ?done
    case i1 =>
      simp at h1;exact ⟨(World.putObj_heap_other (by omega)).trans hI.1, Up.of (hI.2.below.grown (grownBy_putObj' W k o') hI.2.le (fun j e => by cases e; omega))⟩
    case i3 =>
      simp at h1;exact ⟨(hg.block _ (Array.getElem?_eq_some_iff.1 hI.1).1 (by intro e; injection e with e; omega)).trans hI.1, Up.of (hI.2.below.grown hg hI.2.le (fun j e => by cases e; omega))⟩
    case assign =>
      intro lp x W K hK;gi_wp2;exact hK
    case body =>
      rintro lp k x W hx ⟨hI, hU⟩ hsz;obtain ⟨hc, hf⟩ := blk_one hI;have hd : 1 ≤ 3 - 1 - 1 := by omega
      have hmx : Tryz.prog.follows .mixedOrders = true := mixed;have hk := List.getElem?_eq_some_iff.1 hx;have hxl := nums_lt hrow hok x (by rw [← hk.2]; exact List.getElem_mem _);have hst : sizeL ((nums l).take (k + 1)) = sizeL ((nums l).take k) + (vB x).length := by
        rw [List.take_succ_eq_append_getElem hk.1, hk.2, sizeL_app]; simp [sizeL]
      have htot : sizeL ((nums l).take (k + 1)) ≤ sizeL (nums l) := by
        conv => rhs; rw [← List.take_append_drop (k + 1) (nums l)]
        rw [sizeL_app]; omega
      have e1 : IntKind.i64.wrap (((sizeL ((nums l).take k) : Nat) : Int) + ((vB x).length : Int)) = ((sizeL ((nums l).take k) : Nat) : Int) + ((vB x).length : Int) := IntWalk.i64_in _ (by omega);have SX := SZ x hxl;clear hx hk;generalize sizeL ((nums l).take k) = s0 at *;generalize sizeL ((nums l).take (k + 1)) = s1 at *;generalize (vB x).length = vl at *
      have fin := Lib.hid (show twoPost ((w1.alloc (.cells #[.int .i64 0] 3)).alloc (.cells #[.slice A l.length c] 52)).heap.size (KeepB 148 w.heap.size [w1.heap.size + 1])
          (fun W => W.heap[w1.heap.size]? = some (.cells #[.int .i64 (s1 : Nat)] 3 (0, 0)) ∧ Up w W) W .normal { tmps := #[], defers := [] } (W.setCell ⟨w1.heap.size, 0, none⟩ (.int .i64 ((s0 : Int) + (vl : Int)))).drew by
        simp at hsz;refine ⟨fun j h1 h2 => ?_, ?_, ?_, ?_⟩
        · simp at h1;exact Below.heap_setCell W ⟨w1.heap.size, 0, none⟩ _ j (by simp; omega)
        · exact keepB_t (keepB_grown (grown_set W w1.heap.size _) hI (by decide) hU.le (by omega) (by simp; omega)) (keepB_up ((Up.refl _).drew) (by simp; have := hU.le; omega) (by simp; omega))
        · have h := heap_setCell_same W w1.heap.size 0 _ _ (.int .i64 ((s0 : Int) + (vl : Int))) hI;rw [hst];rw [show ((s0 + vl : Nat) : Int) = (s0 : Int) + (vl : Int) by omega];exact h
        · exact (hU.set (by simp; omega) _).drew)
      gi_wp2;gi_region_with_o (refine ⟨trivial, ?_⟩; gi_at_call 185; refine (CallsIn.inRound lp (callsIn_wide.2 (SX _).out)).mono ?_; rintro e w' ⟨rfl, rfl⟩)
      all_goals gi_wp2
      all_goals exact fin.out
    case done =>
      rintro W ⟨hI, hU⟩ hD;obtain ⟨hc, hf⟩ := blk_one hI;gi_wp2;refine ⟨by simp, .inl ⟨_, _, rfl, run_takeDeferred hD, ?_⟩⟩;refine ⟨_, results_tmp rfl _ _ _, by rw [hs]; rfl, Up.of (hU.below.grown (grownBy_putObj' W _ _) hU.le (fun j e => by cases e; simp; omega))⟩
  · have hs : sizeD l = 0 := by unfold sizeD; rw [if_pos hrow]
    rw [hs];have hb : (rowE l != 0) = true := by rw [bne_iff_ne]; exact hrow
    generalize rowE l = rv at *;clear hrow;refine (callsIn_wide (n := 3)).1 ?_;refine callsIn_of_wp_marks Tryz.func113 rfl trivial ?_ rfl;simp only [Tryz.ntmps113, List.size_toArray, List.length_cons, List.length_nil, Nat.reduceAdd, Nat.reduceSub, Array.replicate_succ, Array.replicate_zero, List.push_toArray, List.append_toArray, List.nil_append, List.cons_append];gi_wp2;refine ⟨trivial, (callsIn_wide.2 (RW _ hr).out).mono ?_⟩;rintro e w1 ⟨rfl, hu1⟩;gi_wp2;exact ⟨_, results_tmp rfl _ _ _, rfl, hu1⟩
set_option maxHeartbeats 4000000 in
theorem denc_any (l : Ents) (hok : ∀ e ∈ l, okE e) (hl : l.length ≤ 1000000) (A : Option Addr) (c : Nat) (w : World) (hr : Rd w 4 A l.length c (entV l)) :
    Calls Tryz.prog 52 #[.slice A l.length c] w fun e w' => e = .returned (.tuple #[.string ⟨(encB l).toArray⟩, .int .i64 (encE l)]) ∧ Up w w' := by
  have hA := hr.low;have RW := fun w hr => Lib.hid (row_any l hok hl A c w hr);have SZ := fun w hr => Lib.hid (dsize_any l hok hl A c w hr);by_cases hrow : rowE l = 0
  · rw [hrow] at RW;have hs : sizeD l = sizeL (nums l) := by unfold sizeD; rw [if_neg (by omega), dirB_len]
    rw [hs] at SZ;by_cases hbig : 65536 < sizeL (nums l)
    · have he : encE l = 5 := by unfold encE; rw [if_neg (by omega), dirB_len, if_pos hbig]
      have hB : encB l = [] := by unfold encB; rw [he]; rfl
      rw [he, hB];have hbI : (65536 : Int) < ((sizeL (nums l) : Nat) : Int) := by omega
      generalize sizeL (nums l) = sz at *;refine (callsIn_wide (n := 3)).1 ?_;refine callsIn_of_wp_marks Tryz.func52 rfl trivial ?_ rfl;simp only [Tryz.ntmps52, List.size_toArray, List.length_cons, List.length_nil, Nat.reduceAdd, Nat.reduceSub, Array.replicate_succ, Array.replicate_zero, List.push_toArray, List.append_toArray, List.nil_append, List.cons_append];gi_wp2;refine ⟨trivial, (callsIn_wide.2 (RW _ hr).out).mono ?_⟩;rintro e w1 ⟨rfl, hu1⟩;gi_wp2;refine ⟨trivial, (callsIn_wide.2 (SZ _ (hr.up hu1)).out).mono ?_⟩;rintro e w2 ⟨rfl, hu2⟩;gi_wp2;exact ⟨_, results_tmp2 rfl _ _ _, rfl, hu1.trans hu2⟩
    · have he : encE l = 0 := by unfold encE; rw [if_neg (by omega), dirB_len, if_neg hbig]
      have hB : encB l = dirB l := by unfold encB; rw [if_pos he]
      rw [he, hB];have hbI : decide ((65536 : Int) < ((sizeL (nums l) : Nat) : Int)) = false := decide_eq_false (by omega);have AL := fun A c w hr => Lib.hid (all_any (nums l) (nums_lt hrow hok) (by rw [nums_len]; have := row_len hrow; omega) A c w hr);rw [show (nums l).flatMap vB = dirB l from rfl] at AL;have HNE := Lib.hid (List.length_pos_iff.1 (dirB_pos l));generalize dirB l = db at *;obtain ⟨i0, hi, hz0, hz1, hz2⟩ := info_parts infoU64;generalize sizeL (nums l) = sz at *;refine (callsIn_wide (n := 3)).1 ?_;refine callsIn_of_wp_marks Tryz.func52 rfl trivial ?_ rfl;simp only [Tryz.ntmps52, List.size_toArray, List.length_cons, List.length_nil, Nat.reduceAdd, Nat.reduceSub, Array.replicate_succ, Array.replicate_zero, List.push_toArray, List.append_toArray, List.nil_append, List.cons_append];gi_wp2;refine ⟨trivial, (callsIn_wide.2 (RW _ hr).out).mono ?_⟩;rintro e w0 ⟨rfl, hu0⟩;gi_wp2;refine ⟨trivial, (callsIn_wide.2 (SZ _ (hr.up hu0)).out).mono ?_⟩;rintro e w1 ⟨rfl, hu1'⟩;have hu1 := hu0.trans hu1';gi_wp2;refine ⟨trivial, (callsIn_wide.2 (numbers_any _ _ _ _)).mono ?_⟩;rintro e w2 ⟨rfl, rfl⟩;gi_wp2;have hb0 := heap_alloc_new w1 (.cells #[.slice none 0 0] 216);have hb1 := heap_alloc_new (w1.alloc (.cells #[.slice none 0 0] 216)) (.cells #[.slice A l.length c] 52);rw [World.size_alloc] at hb1;have hu2 : Up w ((w1.alloc (.cells #[.slice none 0 0] 216)).alloc (.cells #[.slice A l.length c] 52)) := (hu1.alloc _).alloc _;have hb0' := ((Up.refl _).alloc (.cells #[.slice A l.length c] 52)).obj hb0;have hle := hu1.le;have HNL := Lib.hid (nums_len l);have HRL := Lib.hid (row_len hrow)
      refine wpIn_rangeFunc_all rfl (by omega) (gf := 187) (lb := #[.pointer (some ⟨w1.heap.size + 1, 0, none⟩)]) rfl trivial (enters_of Tryz.func187 (by kernel_rfl) rfl)
        (numbers_all 2 (by omega) l hrow hok (w1.heap.size + 1) w.heap.size A c _ (blk_one hb1).1 (hr.up hu2) hA hu2.le) keepB_t
        (fun W k o o' h1 _ ho hc => keepB_b W k o o' (by simp at h1; omega) (by simp at h1 ⊢; omega) ho hc) (fun _ => rfl)
        (fun k W => ∃ v, W.heap[w1.heap.size]? = some (.cells #[v] 216 (0, 0)) ∧ W.ownsRow (w1.heap.size + 4) 40 1 v k (nuV ((nums l).take k)) ∧ Up w W)
        (fun s W k o' h1 h2 _ hI => ?i1) (fun s W W' hI hu => ?i2) (fun s W W' r cs fz hI h1 hr hg => ?i3)
        ⟨.slice none 0 0, hb0', by simpa [nuV] using World.ownsRow_nil _ _ _ _, hu2⟩
        (fun x => { tmps := #[.slice A l.length c, undef, .string ⟨#[]⟩, .int .i64 0, .int .i64 0, .pointer (some ⟨w1.heap.size, 0, none⟩), .int .u64 x, .slice A l.length c, .int .i64 0, .int .i64 0, .bool false, undef, .slice A l.length c, .int .i64 sz, .bool false, .slice A l.length c, .func (.func 187) #[] #[.pointer (some ⟨w1.heap.size + 1, 0, none⟩)], .int .u64 x, undef, undef, undef, undef, undef, undef, undef], defers := [] }) ?assign ?body ?done
      case i1 =>
        simp at h1 h2;obtain ⟨v, g1, g2, g3⟩ := hI;have hg := grownBy_putObj' W k o';refine ⟨v, (World.putObj_heap_other (by omega)).trans g1, g2.kept hg ?_, Up.of (g3.below.grown hg g3.le (fun j e => by cases e; omega))⟩;cases hv : v.ownBlock with
        | none => exact .inl rfl
        | some g => have := (g2.lt g hv).1; right; intro e; injection e with e; omega
      case i2 =>
        obtain ⟨v, g1, g2, g3⟩ := hI;exact ⟨v, hu.obj g1, own_up g2 hu, g3.trans hu⟩
      case i3 =>
        simp at h1;obtain ⟨v, g1, g2, g3⟩ := hI;refine ⟨v, (hg.block _ (Array.getElem?_eq_some_iff.1 g1).1 (by intro e; injection e with e; omega)).trans g1, g2.kept hg ?_, Up.of (g3.below.grown hg g3.le (fun j e => by cases e; omega))⟩;rcases g2.2 with ⟨rfl, _⟩ | ⟨g, cap, cur, rfl, _, hh, _⟩
        · exact .inl rfl
        · right;intro e;injection e with e;have e : g = r := e;subst e;rw [hh] at hr;injection hr with hr;injection hr with _ hr _;exact absurd hr (by decide)
      case assign =>
        intro lp x W K hK;gi_wp2;exact hK
      case body =>
        rintro lp k x W hx ⟨v, g1, g2, g3⟩ hsz;simp at hsz;obtain ⟨hc, hf⟩ := blk_one g1;have hk := List.getElem?_eq_some_iff.1 hx;have hkl : k ≤ 20000 := by have := hk.1; have := HNL.out; have := HRL.out; omega
        have hst : (nums l).take (k + 1) = (nums l).take k ++ [x] := by rw [List.take_succ_eq_append_getElem hk.1, hk.2]
        have HST := Lib.hid hst;clear hst hx hk;generalize (nums l).take k = Lk at *;gi_wp2_with (gi_at_builtin; refine app_oneIn W rfl _ _ 216 rfl (w1.heap.size + 4) 40 i0 _ 1 8 Tryz.underlying216 hi hz0 hz1 hz2 rfl (by decide) _ _ _ g2 rfl #[.int .u64 x] rfl rfl (by simp [Value.oneCell']) (by omega) (by omega) (by omega) ?_; intro g' cap' w3 ho3 hg3 hb3 hk3; have g4 := (hb3.block w1.heap.size (by omega)).trans g1; obtain ⟨c4, f4⟩ := blk_one g4)
        refine ⟨fun j h1 h2 => ?_, ?_, ?_⟩
        · (try simp at h1);exact (Below.heap_setCell w3 ⟨w1.heap.size, 0, none⟩ _ j (by simp; omega)).trans (hb3.block j (by omega))
        · have hs3 := hb3.size;exact keepB_t (hk3 148 w.heap.size [w1.heap.size + 1] (by decide) (by omega) (by simp)) (keepB_grown (grown_set w3 w1.heap.size _) g4 (by decide) (by omega) (by omega) (by simp; omega))
        · refine ⟨_, heap_setCell_same w3 w1.heap.size 0 _ _ _ g4, ?_, Up.of ((Below.trans g3.below (Below.mono hb3 (by omega))).setCell (p := ⟨w1.heap.size, 0, none⟩) (by simp; omega) _)⟩;rw [HST.out, nuV_app];exact ho3.kept (grown_set w3 w1.heap.size _) (.inr (by intro e; injection e with e; have e : g' = w1.heap.size := e; omega))
      case done =>
        rintro W ⟨v, g1, g2, g3⟩ hD;rw [List.take_length] at g2;obtain ⟨hc, hf⟩ := blk_one g1;obtain ⟨A2, c2, rfl, r2⟩ := Rd.of_own g2;gi_wp2;refine ⟨trivial, (callsIn_wide.2 (AL _ _ _ r2).out).mono ?_⟩;rintro e w5 ⟨v5, rfl, ho5, hu5⟩;obtain ⟨A5, c5, rfl, r5⟩ := Rd.of_own ho5;have hcv := r5.str HNE.out;have hD5 := hu5.obj hD;have HUU := Lib.hid (g3.trans hu5);have hD6 : w5.heap[w1.heap.size + 1 + 1]? = some (.deferred (some [])) := by simpa using hD5
        gi_wp2;refine ⟨by simp, .inl ⟨_, _, rfl, run_takeDeferred hD6, ?_⟩⟩;exact ⟨_, results_tmp2 rfl _ _ _, rfl, Up.of (HUU.out.below.grown (grownBy_putObj' w5 _ _) HUU.out.le (fun j e => by cases e; omega))⟩
  · have he : encE l = rowE l := by unfold encE; rw [if_pos hrow]
    have hB : encB l = [] := by unfold encB; rw [if_neg (by rw [he]; exact hrow)]
    rw [he, hB];have hb : (rowE l != 0) = true := by rw [bne_iff_ne]; exact hrow
    generalize rowE l = rv at *;clear hrow;refine (callsIn_wide (n := 3)).1 ?_;refine callsIn_of_wp_marks Tryz.func52 rfl trivial ?_ rfl;simp only [Tryz.ntmps52, List.size_toArray, List.length_cons, List.length_nil, Nat.reduceAdd, Nat.reduceSub, Array.replicate_succ, Array.replicate_zero, List.push_toArray, List.append_toArray, List.nil_append, List.cons_append];gi_wp2;refine ⟨trivial, (callsIn_wide.2 (RW _ hr).out).mono ?_⟩;rintro e w1 ⟨rfl, hu1⟩;gi_wp2;exact ⟨_, results_tmp2 rfl _ _ _, rfl, hu1⟩
end Go.Proofs.YtjhgaildbeokkaaGreatDoor
