/- Walks: slices.Grow of nothing, slices.Concat of two rows of items. -/
import Derived.Test.YtgoelpjkfofbbaaGreatDoorG40
import Derived.Shelf.Spec.SlicesGrow
namespace Go.Proofs.YtgoelpjkfofbbaaGreatDoor
open Go.RowKit Go.Gz Go.Maps Go.Shelf

set_option maxRecDepth 100000
def NewRow (w : World) (v : Value) (L : Items) (w' : World) : Prop := w'.ownsRow w.heap.size 47 2 v L.length (itV L) ∧ Up w w'
theorem grow0_any (w : World) :
    Calls Tryz.prog 64 #[.slice none 0 0, .int .i64 0] w fun e w' => e = .returned (.slice none 0 0) ∧ w = w' := by
  go_enter Tryz.func64, Tryz.ntmps64
  go_wp2_with fail
  go_ret
  exact ⟨rfl, rfl⟩
set_option maxHeartbeats 4000000 in
theorem grow1_any (n : Nat) (h1 : 1 ≤ n) (hn : n ≤ 100000) (w : World) :
    Calls Tryz.prog 64 #[.slice none 0 0, .int .i64 (n : Int)] w fun e w' => ∃ v, e = .returned v ∧ NewRow w v [] w' := by
  obtain ⟨i0, hi, hz0, hz1, hz2⟩ := info_parts infoCI
  have hbytes : n * i0.bytes ≤ 140737488355328 := by rw [hz2]; omega
  have hrz : ∀ ty, (Builtin.append_ #[28, 3] ty #[.slice none 0 0, .int .i64 (n : Int)]).run Tryz.prog w =
      .ok (.slice (some ⟨w.heap.size, 0, none⟩) n (grownCap w n 0 47)) (w.drew.alloc (.cells (([] : List Value).toArray ++ Builtin.zeroCells (#[.int .u64 0, .string ⟨#[]⟩] : Array Value) n ++ Builtin.zeroCells (#[.int .u64 0, .string ⟨#[]⟩] : Array Value) (grownCap w n 0 47 - n)) 47)) := fun ty => by
    have h := Lib.run_append_grow_zeros w 28 3 ty 47 i0 _ .i64 .i64 Tryz.underlying28 Tryz.underlying3 hi hz0 none 0 0 [] (run_firstCells_none w.drew i0.size 0 0 0) n (by omega) (by rw [hz1]; decide) (by omega) (by omega) (by omega) (by
      rw [Nat.zero_add]; exact growslice_fits (by omega) hbytes)
    rw [Nat.zero_add] at h
    exact h
  have hGn : n ≤ grownCap w n 0 47 := grownCap_ge w _ _ _
  have hGm : grownCap w n 0 47 ≤ maxLen := grownCap_le_maxLen w n 0 47 (by unfold maxLen; omega)
  generalize grownCap w n 0 47 = G at *
  have hG63 : G ≤ 9223372036854775807 := by unfold maxLen at hGm; omega
  have h2 : ¬ (n : Int) < 0 := by omega
  have h3 : (0 : Int) < (n : Int) := by omega
  have HGM := Lib.hid hGm
  clear hGm
  go_enter Tryz.func64, Tryz.ntmps64
  go_wp2_with (at_builtin; refine Lib.wpList_append_run _ rfl _ _ _ _ rfl _ _ rfl rfl _ _ (hrz _) ?_)
  all_goals
    go_ret
    refine ⟨_, rfl, ⟨rfl, .inr ⟨w.heap.size, G, _, rfl, Nat.le_refl _, heap_alloc_new w.drew _, Nat.zero_le _, HGM.out, ?_, ?_⟩⟩, (Up.refl w).drew.alloc _⟩
    · simp only [Array.size_append, size_zeroCells, List.size_toArray, List.length_nil, List.length_cons]
      omega
    · simp [itV]
def NewE (w : World) (L : Items) (e : Ending) (w' : World) : Prop := ∃ v, e = .returned v ∧ NewRow w v L w'
theorem grow_any (n : Nat) (hn : n ≤ 100000) (w : World) :
    Calls Tryz.prog 64 #[.slice none 0 0, .int .i64 (n : Int)] w (NewE w []) := by
  by_cases h : n = 0
  · subst h
    refine (grow0_any w).mono ?_
    rintro e w' ⟨rfl, rfl⟩
    exact ⟨_, rfl, World.ownsRow_nil _ _ _ _, Up.refl w⟩
  · exact (grow1_any n (by omega) hn w).mono fun _ _ ⟨v, h1, h2⟩ => ⟨v, h1, h2⟩
set_option maxHeartbeats 8000000 in
theorem concat_any (L1 L2 : Items) (hl1 : L1.length ≤ 10000) (hl2 : L2.length ≤ 10000) (A1 A2 : Option Addr) (c1 c2 bk : Nat) (w : World) (h0 : w.cell? ⟨bk, 0, none⟩ = some (.slice A1 L1.length c1)) (h1 : w.cell? ⟨bk, 1, none⟩ = some (.slice A2 L2.length c2)) (r1 : Rd w 2 A1 L1.length c1 (itV L1)) (r2 : Rd w 2 A2 L2.length c2 (itV L2)) :
    Calls Tryz.prog 37 #[.slice (some ⟨bk, 0, none⟩) 2 2] w (NewE w (L1 ++ L2)) := by
  obtain ⟨i0, hi, hz0, hz1, hz2⟩ := info_parts infoCI
  have GR := fun n h w => Lib.hid (grow_any n h w)
  have R1 := Lib.hid r1
  have R2 := Lib.hid r2
  have H1 := Lib.hid h1
  have b1 : IntKind.i64.wrap ((L1.length : Int) + (L2.length : Int)) = ((L1.length + L2.length : Nat) : Int) := by rw [IntWalk.i64_in _ (by omega)]; omega
  have b2 : ¬ ((L1.length + L2.length : Nat) : Int) < 0 := by omega
  have b3 : ¬ (L1.length : Int) < 0 := by omega
  have b4 : IntKind.i64.wrap (L1.length : Int) = (L1.length : Int) := IntWalk.i64_in _ (by omega)
  have HG : ∀ w, Hid (Calls Tryz.prog 64 #[.slice none 0 0, .int .i64 ((L1.length + L2.length : Nat) : Int)] w (NewE w [])) := fun w => GR _ (by omega) w
  generalize ((L1.length + L2.length : Nat) : Int) = nn at *
  clear r1 r2 GR
  go_enter Tryz.func37, Tryz.ntmps37
  go_wp2_with fail
  refine wp_loop_rounds 3 ?_
  rw [rounds_succ]
  go_wp2_with fail
  rw [rounds_succ]
  go_wp2_with fail
  rw [rounds_succ]
  go_wp2_with fail
  with_reducible refine (HG _).out.mono ?_
  rintro e w1 ⟨v, rfl, ho, hu⟩
  have HO := Lib.hid ho
  have HU := Lib.hid hu
  have k0 := hu.cell h0
  have k1 := hu.cell h1
  obtain ⟨Av, cv, rfl, hrd⟩ := Rd.of_own ho
  have hs1 := hu.le
  clear ho hu h0 h1 hrd
  go_wp2_with fail
  refine wp_loop_rounds 3 ?_
  rw [rounds_succ]
  go_wp2_with (at_builtin; refine wpList_append_rd _ rfl _ _ 28 (by rfl) (w.heap.size) 47 i0 _ 2 24 Tryz.underlying28 hi hz0 hz1 hz2 rfl (by decide) (.slice Av 0 cv) 0 (itV []) (by rfl) HO.out A1 L1.length c1 (itV L1) (by rfl) (R1.out.up HU.out) (itV_one _) (by omega) (by omega) hs1 ?_; intro v2 w2 ho2 hb2)
  have HU2 := Lib.hid (Up.of (Below.trans HU.out.below hb2))
  have l1 := HU2.out.cell H1.out
  have hs2 := HU2.out.le
  rw [show itV [] ++ itV L1 = itV L1 from rfl, Nat.zero_add] at ho2
  obtain ⟨Av2, cv2, rfl, hrd2⟩ := Rd.of_own ho2
  have HO2 := Lib.hid ho2
  clear ho2 hb2 hrd2 k0 k1
  rw [rounds_succ]
  go_wp2_with (at_builtin; refine wpList_append_rd _ rfl _ _ 28 (by rfl) (w.heap.size) 47 i0 _ 2 24 Tryz.underlying28 hi hz0 hz1 hz2 rfl (by decide) (.slice Av2 L1.length cv2) L1.length (itV L1) (by rfl) HO2.out A2 L2.length c2 (itV L2) (by rfl) (R2.out.up HU2.out) (itV_one _) (by omega) (by omega) hs2 ?_; intro v3 w3 ho3 hb3)
  have HU3 := Lib.hid (Up.of (Below.trans HU2.out.below hb3))
  have HO3 := Lib.hid ho3
  clear ho3 hb3 l1
  rw [rounds_succ]
  go_wp2_with fail
  go_ret
  refine ⟨_, rfl, ?_, HU3.out⟩
  rw [itV_app, List.length_append]
  exact HO3.out
/-! ### Del -/
theorem del_eq (L : Items) (id : Nat) (hs : Srt L) : delL L id = L.take (posL L id) ++ L.drop (posL L id + (memL L id).toNat) := by
  cases hm : memL L id with
  | false => rw [del_none hm]; simp
  | true =>
    obtain ⟨hp, hx⟩ := get_pos id L hs hm
    have e : L = L.take (posL L id) ++ L[posL L id] :: L.drop (posL L id + 1) := by
      rw [← List.drop_eq_getElem_cons hp, List.take_append_drop]
    have hne : ∀ j (hj : j < L.length), j ≠ posL L id → L[j].1 ≠ id := by
      intro j hj hne he
      have h1 := hx
      have : L[posL L id].1 = id := by rw [hx]
      rcases Nat.lt_or_ge j (posL L id) with g | g
      · have := hs j _ hj hp g; omega
      · have := hs (posL L id) j hp hj (by omega); omega
    have d1 : delL (L.take (posL L id)) id = L.take (posL L id) := by
      unfold delL
      rw [List.filter_eq_self]
      intro y hy
      obtain ⟨j, hj, rfl⟩ := List.getElem_of_mem hy
      rw [List.length_take] at hj
      rw [List.getElem_take]
      have := hne j (by omega) (by omega)
      simpa using this
    have d2 : delL (L.drop (posL L id + 1)) id = L.drop (posL L id + 1) := by
      unfold delL
      rw [List.filter_eq_self]
      intro y hy
      obtain ⟨j, hj, rfl⟩ := List.getElem_of_mem hy
      rw [List.length_drop] at hj
      rw [List.getElem_drop]
      have := hne (posL L id + 1 + j) (by omega) (by omega)
      simpa using this
    show delL L id = L.take (posL L id) ++ L.drop (posL L id + 1)
    conv => lhs; rw [e]
    unfold delL at d1 d2 ⊢
    rw [List.filter_append, d1, List.filter_cons, if_neg (by rw [hx]; simp), d2]
def DelE (w : World) (M : Items) (e : Ending) (w' : World) : Prop := ∃ A c, e = .returned (.agg #[.slice A M.length c]) ∧ Rd w' 2 A M.length c (itV M) ∧ Up w w'
set_option maxHeartbeats 8000000 in
theorem cdel_any (L : Items) (hl : L.length ≤ 10000) (id : Nat) (A : Option Addr) (c : Nat) (hs : Srt L) (w : World) (hr : Rd w 2 A L.length c (itV L)) :
    Calls Tryz.prog 15 #[.agg #[.slice A L.length c], .int .u64 id] w (DelE w (delL L id)) := by
  obtain ⟨i0, hi, hz0, hz1, hz2⟩ := info_parts infoCI
  have PL := fun w hr => Lib.hid (place12_any L (by omega) id A c hs w hr)
  have HR := Lib.hid hr
  have HS := Lib.hid hs
  have HD := Lib.hid (del_eq L id hs)
  have n0 := new1 w 30 (.slice A L.length c)
  have n1 := new1 (w.alloc (.cells #[.slice A L.length c] 30)) 30 (.slice none 0 0)
  have hsz : (w.alloc (.cells #[.slice A L.length c] 30)).heap.size = w.heap.size + 1 := by simp
  rw [hsz] at n1
  have HU := Lib.hid (n0.1.trans n1.1)
  have hc0 := n1.1.cell n0.2.1
  have hb1 := n1.2.2
  have hlc := hr.2.1
  clear hsz hr hs n0 n1
  cases hm : memL L id with
  | false =>
    rw [hm] at PL HD
    have HD2 : Hid (delL L id = L) := Lib.hid (by rw [HD.out]; simp)
    rw [HD2.out]
    clear hm HD HD2
    generalize posL L id = p at *
    go_enter Tryz.func15, Tryz.ntmps15
    go_wp2_with fail
    refine (PL _ (HR.out.up HU.out)).out.mono ?_
    rintro e w1 ⟨rfl, hu1⟩
    replace hc0 := hu1.cell hc0
    have HB1 := Lib.hid (hu1.obj hb1)
    obtain ⟨hx1, hf1⟩ := blk_one HB1.out
    have HU1 := Lib.hid (HU.out.trans hu1)
    clear hu1 hb1
    go_wp2_with fail
    have hb5 := heap_setCell_same w1 (w.heap.size + 1) 0 #[.slice none 0 0] 30 (.slice A L.length c) HB1.out
    have d0 := (blk_one hb5).1
    refine bodyPost_ret (v := .agg #[.slice A L.length c]) (by simp [results, Tryz.results15, go_sem, d0]) rfl ⟨A, c, rfl, ?_, HU1.out.set (by simp) _⟩
    exact HR.out.up ((Up.refl w).trans (HU1.out.set (by simp) _))
  | true =>
    obtain ⟨hp1, _⟩ := get_pos id L HS.out hm
    rw [hm] at PL HD
    have hp := pos_le L id
    obtain ⟨A2, c2, e2, r2⟩ := HR.out.cut_h (t := 28) (k := posL L id) Tryz.underlying28 hi hz1 hp
    obtain ⟨A3, c3, e3, r3⟩ := HR.out.cut_l (t := 28) (k := posL L id + 1) Tryz.underlying28 hi hz1 hp1
    rw [← itV_take] at r2
    rw [← itV_drop] at r3
    rw [show ((posL L id + 1 : Nat) : Int) = (posL L id : Int) + 1 from by omega] at e3
    have b5 : IntKind.i64.wrap ((posL L id : Int) + 1) = (posL L id : Int) + 1 := IntWalk.i64_in _ (by omega)
    have HD2 : Hid (delL L id = L.take (posL L id) ++ L.drop (posL L id + 1)) := HD
    rw [HD2.out]
    have R2 := Lib.hid r2
    have R3 := Lib.hid r3
    clear hm HD HD2 r2 r3
    generalize posL L id = p at *
    have hl2 : (L.take p).length = p := by rw [List.length_take]; omega
    have hl3 : (L.drop (p + 1)).length = L.length - (p + 1) := List.length_drop
    have CO := fun bk w h0 h1 r1 r2 => Lib.hid (concat_any (L.take p) (L.drop (p + 1)) (by omega) (by omega) A2 A3 c2 c3 bk w h0 h1 r1 r2)
    simp only [hl2, hl3] at CO
    have HL2 := Lib.hid hl2
    have HL3 := Lib.hid hl3
    obtain ⟨N, hN⟩ : ∃ N, L.take p ++ L.drop (p + 1) = N := ⟨_, rfl⟩
    rw [hN] at CO ⊢
    clear hl2 hl3 hN
    go_enter Tryz.func15, Tryz.ntmps15
    go_wp2_with fail
    refine (PL _ (HR.out.up HU.out)).out.mono ?_
    rintro e w1 ⟨rfl, hu1⟩
    replace hc0 := hu1.cell hc0
    replace hb1 := hu1.obj hb1
    have hlt1 := (Array.getElem?_eq_some_iff.1 hb1).1
    have HU1 := Lib.hid (HU.out.trans hu1)
    clear hu1
    go_wp2_with fail
    have q := heap_alloc_new w1.drew (.cells #[.slice A2 p c2, .slice A3 (L.length - (p + 1)) c3] 28)
    have Q0 := Lib.hid (blkc q 0 _ rfl)
    have Q1 := Lib.hid (blkc q 1 _ rfl)
    clear q
    have HWA := Lib.hid (fun (o : Obj) => (HU1.out.trans ((Up.refl w1).drew.alloc o)))
    go_region_law (first
      | (go_simp
         go_at_call 37
         refine (CO w1.heap.size _ Q0.out Q1.out (R2.out.up (HWA.out _)) (R3.out.up (HWA.out _))).out.mono ?_
         rintro e w2 ⟨v2, rfl, ho2, hu2⟩
         dsimp only
         obtain ⟨A4, c4, rfl, r4⟩ := Rd.of_own ho2
         have HR4 := Lib.hid r4
         have HU2 := Lib.hid (((Up.refl w1).drew.alloc _).trans hu2)
         have hb2 := (((Up.refl w1).drew.alloc _).trans hu2).obj hb1
         obtain ⟨hx2, hf2⟩ := blk_one hb2
         have HB2 := Lib.hid hb2
         clear ho2 hu2 r4 hb2))
    all_goals go_wp2_with fail
    all_goals
      have hb5 := heap_setCell_same w2 (w.heap.size + 1) 0 #[.slice none 0 0] 30 (.slice A4 N.length c4) HB2.out
      have d0 := (blk_one hb5).1
      refine bodyPost_ret (v := .agg #[.slice A4 N.length c4]) (by simp [results, Tryz.results15, go_sem, d0]) rfl ⟨A4, c4, rfl, ?_, (HU1.out.trans HU2.out).set (by simp) _⟩
      exact Rd.far (L := N) HR4.out HB2.out _
end Go.Proofs.YtgoelpjkfofbbaaGreatDoor
/- Appends of items onto a row of the call's own, by their run. -/
namespace Go.Proofs.YtgoelpjkfofbbaaGreatDoor
open Go.RowKit Go.Gz Go.Maps Go.Shelf

set_option maxRecDepth 100000
/-- a row of the call's own, the world being W when it began -/
structure RowS (W : World) (L : Items) (v : Value) (w : World) : Prop where
  own : w.ownsRow W.heap.size 47 2 v L.length (itV L)
  up : Up W w
theorem RowS.alloc {W : World} {L : Items} {v : Value} {w : World} (h : RowS W L v w) (o : Obj) : RowS W L v (w.alloc o) := ⟨h.own.alloc o, h.up.alloc o⟩
theorem rowS_zero {W w : World} {b : Nat} (hu : Up W w) (hb : W.heap.size ≤ b) (h : w.heap[b]? = some (.cells #[] 47 (0, 0))) : RowS W [] (.slice (some ⟨b, 0, none⟩) 0 0) w :=
  ⟨⟨rfl, .inr ⟨b, 0, #[], rfl, hb, h, Nat.le_refl _, by unfold maxLen; omega, by simp, by simp [itV]⟩⟩, hu⟩
theorem RowS.app {W : World} {X Y : Items} {v : Value} {w : World} (h : RowS W X v w) {A : Option Addr} {c : Nat} (hr : Rd w 2 A Y.length c (itV Y)) (hn : X.length + Y.length ≤ 10000) :
    ∃ v' w', (∀ ty, (Builtin.append_ #[28, 28] ty #[v, .slice A Y.length c]).run Tryz.prog w = .ok v' w') ∧ RowS W (X ++ Y) v' w' ∧ (∀ (j : Nat) (o : Obj), w.heap[j]? = some o → (∀ cs fz, o ≠ .cells cs 47 fz) → w'.heap[j]? = some o) := by
  obtain ⟨i0, hi, hz0, hz1, hz2⟩ := info_parts infoCI
  have hbase : W.heap.size ≤ w.heap.size := h.up.le
  have key : ∃ v' w', (∀ ty, (Builtin.append_ #[28, 28] ty #[v, .slice A Y.length c]).run Tryz.prog w = .ok v' w') ∧ w'.ownsRow W.heap.size 47 2 v' (X.length + Y.length) (itV X ++ itV Y) ∧ w.grownBy w' v.ownBlock := by
    rcases A with _ | ad
    · have hm : Y.length = 0 := by have := hr.2.1; have := hr.2.2.2.1 rfl; omega
      have hY : itV Y = [] := List.eq_nil_of_length_eq_zero (by rw [itV_len, hm])
      rw [hm, hY]
      exact ⟨v, w, fun ty => run_append_of_nil w W.heap.size 28 ty 47 i0 2 Tryz.underlying28 hi v X.length (itV X) h.own c, by simpa using h.own, World.grownBy.refl w _⟩
    · have hcells : ∀ j u, (itV Y)[j]? = some u → w.cell? (ad.add j) = some u := by
        intro j u hu
        rcases Nat.eq_zero_or_pos Y.length with h0 | h0
        · have : itV Y = [] := List.eq_nil_of_length_eq_zero (by rw [itV_len, h0])
          rw [this] at hu; simp at hu
        · obtain ⟨b, o', h, hc⟩ := hr.2.2.2.2 h0
          injection h with h
          subst h
          rw [add_plain]
          exact hc j u hu
      have hmul : (X.length + Y.length) * 24 ≤ 140737488355328 := by omega
      obtain ⟨v', w', hrun, h2, h3, _⟩ := run_append_own_at (P := Tryz.prog) w W.heap.size 28 28 47 i0 _ 2 24 Tryz.underlying28 hi hz0 hz1 hz2 rfl (by decide) v X.length (itV X) h.own ad Y.length c (itV Y) hr.1 hcells (itV_one _) (by unfold maxLen; omega) hmul hbase
      exact ⟨v', w', fun ty => hrun, h2, h3⟩
  obtain ⟨v', w', hrun, h2, h3⟩ := key
  have own : ∀ g, v.ownBlock = some g → W.heap.size ≤ g ∧ ∃ cur fz, w.heap[g]? = some (.cells cur 47 fz) := by
    intro g hgb
    rcases h.own.2 with ⟨rfl, _⟩ | ⟨g', cap, cur, rfl, hgb', hgh, _⟩
    · cases hgb
    · injection hgb with hgb; have : g' = g := hgb; subst this; exact ⟨hgb', cur, _, hgh⟩
  refine ⟨v', w', hrun, ⟨by rw [List.length_append, itV_app]; exact h2, Up.of (Below.grown h.up.below h3 h.up.le (fun j hj => (own j hj).1))⟩, fun j o ho hne => ?_⟩
  rw [h3.block j (Array.getElem?_eq_some_iff.1 ho).1 (fun e => by
    obtain ⟨_, cur, fz, hh⟩ := own j e.symm
    rw [ho] at hh; injection hh with hh; exact hne _ _ hh), ho]
end Go.Proofs.YtgoelpjkfofbbaaGreatDoor
