/- Walks: chart.Get, chart.Put. -/
import Derived.Test.YtkfococpanailaaGreatDoorGB06
import Derived.Deep.RegionHeld3
namespace Go.Proofs.YtkfococpanailaaGreatDoor
open Go.RowKit Go.Gz

set_option maxRecDepth 100000
set_option maxHeartbeats 1000000 in
theorem cget12_any (L : Items) (hl : L.length ≤ 1000000) (id : Nat) (A : Option Addr) (c : Nat) (hs : Srt L) (w : World) (hr : Rd w 2 A L.length c (itV L)) :
    Calls Tryz.prog 16 #[.agg #[.slice A L.length c], .int .u64 id] w fun e w' => e = .returned (.tuple #[.string ⟨((getL L id).getD []).toArray⟩, .bool (getL L id).isSome]) ∧ Up w w' := by
  have PL := fun w hr => Lib.hid (place12_any L hl id A c hs w hr)
  have HR := Lib.hid hr
  have hm := mem_get L id
  have hg := get_pos id L hs
  clear hr hs
  by_cases hh : memL L id = true
  · obtain ⟨hp, hx⟩ := hg hh
    rw [hh] at PL hm
    have HS := Lib.hid hm.symm
    generalize posL L id = p at *
    have HX := Lib.hid hx
    have hpI : (p : Int) < (L.length : Int) := by omega
    have n0 := new1 w 26 (.slice A L.length c)
    have HU := Lib.hid n0.1
    have hc0 := n0.2.1
    clear n0 hg hh hm hx
    go_enter Tryz.func16, Tryz.ntmps16
    go_wp2_with fail
    refine (PL _ (HR.out.up HU.out)).out.mono ?_
    rintro e w1 ⟨rfl, hu1⟩
    replace hc0 := hu1.cell hc0
    obtain ⟨B, o, rfl, hc1, hc2⟩ := (HR.out.up (HU.out.trans hu1)).item hp
    rw [HX.out] at hc1 hc2
    simp only at hc1 hc2
    have HU1 := Lib.hid (HU.out.trans hu1)
    clear hu1
    go_wp2_with fail
    go_ret2
    exact ⟨ret_two rfl (bool_eq HS.out.symm), HU1.out⟩
  · have hh : memL L id = false := by simpa using hh
    rw [hh] at PL hm
    have HS := Lib.hid hm.symm
    have HG := Lib.hid (show getL L id = none by cases h : getL L id with | none => rfl | some x => rw [h] at hm; cases hm)
    generalize posL L id = p at *
    have n0 := new1 w 26 (.slice A L.length c)
    have HU := Lib.hid n0.1
    have hc0 := n0.2.1
    clear n0 hg hh hm
    go_enter Tryz.func16, Tryz.ntmps16
    go_wp2_with fail
    refine (PL _ (HR.out.up HU.out)).out.mono ?_
    rintro e w1 ⟨rfl, hu1⟩
    have HU1 := Lib.hid (HU.out.trans hu1)
    clear hu1
    go_wp2_with fail
    go_ret2
    exact ⟨ret_two (str_eq (by rw [HG.out]; rfl)) (bool_eq HS.out.symm), HU1.out⟩
theorem own_set {w : World} {base k n size : Nat} {e : TypeId} {v : Value} {xs : List Value} (h : w.ownsRow base e size v n xs) (hk : k < base) (x : Value) : (w.setCell ⟨k, 0, none⟩ x).ownsRow base e size v n xs := by
  refine h.kept (row := some k) ⟨rfl, rfl, rfl, by simp, fun j hj hne => Below.heap_setCell w ⟨k, 0, none⟩ x j (fun e => hne (by rw [e]))⟩ ?_
  cases hv : v.ownBlock with
  | none => exact .inl rfl
  | some g => have := (h.lt g hv).1; right; intro e; injection e with e; omega
theorem cput_fin {w : World} {base p q n : Nat} {e : TypeId} {v : Value} {L N : Items} {x : Gz.Item} (hp : p ≤ L.length) (hN : N = L.take p ++ x :: L.drop q) (hn : n = p + 1 + (L.length - q))
    (h : w.ownsRow base e 2 v n (itV (L.take p) ++ [Value.int .u64 (x.1 : Int), .string ⟨x.2.toArray⟩] ++ itV (L.drop q))) : w.ownsRow base e 2 v N.length (itV N) := by
  have e1 : n = N.length := by rw [hN, hn, List.length_append, List.length_cons, List.length_take, List.length_drop]; omega
  have e2 : itV (L.take p) ++ [Value.int .u64 (x.1 : Int), .string ⟨x.2.toArray⟩] ++ itV (L.drop q) = itV N := by
    rw [hN, itV_app, itV_cons]; simp
  rw [e1, e2] at h
  exact h
theorem infoCI : (Tryz.prog.info? 37).map (fun i => (i.zero, i.size, i.bytes)) = some (some (.agg #[.int .u64 0, .string ⟨#[]⟩]), 2, 24) := by kernel_rfl
def CPutEnd (w : World) (M : Items) (E : Int) (e : Ending) (w' : World) : Prop := ∃ A c, e = .returned (.tuple #[.agg #[.slice A M.length c], .int .i64 E]) ∧ Rd w' 2 A M.length c (itV M) ∧ Up w w'
set_option maxHeartbeats 4000000 in
theorem cput12_ok (L : Items) (hl : L.length ≤ 100000) (id : Nat) (s : Bs) (A : Option Addr) (c : Nat) (hs : Srt L) (w : World) (hr : Rd w 2 A L.length c (itV L)) (full : Bool) (hw : wrongE id s full = 0)
    (hm : (memL L id = true ∧ full = false) ∨ (memL L id = false ∧ decide ((2048 : Int) ≤ (L.length : Int)) = full)) :
    Calls Tryz.prog 33 #[.agg #[.slice A L.length c], .int .u64 id, .string ⟨s.toArray⟩] w (CPutEnd w (insL L id s) 0) := by
  obtain ⟨i0, hi, hz0, hz1, hz2⟩ := info_parts infoCI
  have PL := fun w hr => Lib.hid (place12_any L (by omega) id A c hs w hr)
  have WR := fun w => Lib.hid (wrong12_any id s full w)
  rw [hw] at WR
  have HR := Lib.hid hr
  have HS := Lib.hid hs
  have HI := Lib.hid (ins_eq id s L hs)
  have hp := pos_le L id
  have n0 := new1 w 26 (.slice A L.length c)
  have n1 := new1 (w.alloc (.cells #[.slice A L.length c] 26)) 26 (.slice none 0 0)
  have hsz : (w.alloc (.cells #[.slice A L.length c] 26)).heap.size = w.heap.size + 1 := by simp
  rw [hsz] at n1
  have HU := Lib.hid (n0.1.trans n1.1)
  have hc0 := n1.1.cell n0.2.1
  have hb1 := n1.2.2
  have hpc : (posL L id : Int) ≤ (c : Int) := by have := hr.2.1; omega
  clear hsz hr hs hw n0 n1
  rcases hm with ⟨hm, rfl⟩ | ⟨hm, hf⟩
  · obtain ⟨hp1, _⟩ := get_pos id L HS.out hm
    rw [hm] at PL HI
    clear hm
    obtain ⟨A3, c3, e3, r3⟩ := HR.out.cut_l (t := 24) (k := posL L id + 1) Tryz.underlying24 hi hz1 hp1
    rw [← itV_drop] at r3
    rw [show ((posL L id + 1 : Nat) : Int) = (posL L id : Int) + 1 from by omega] at e3
    have R3 := Lib.hid r3
    have r2 := HR.out.front (k := posL L id) (m := posL L id) hp (Nat.le_refl _) (by omega)
    rw [← itV_take] at r2
    have R2 := Lib.hid r2
    clear r3 r2
    generalize posL L id = p at *
    go_enter Tryz.func33, Tryz.ntmps33
    go_wp2_with fail
    refine (PL _ (HR.out.up HU.out)).out.mono ?_
    rintro e w1 ⟨rfl, hu1⟩
    replace hc0 := hu1.cell hc0
    replace hb1 := hu1.obj hb1
    have hlt1 := (Array.getElem?_eq_some_iff.1 hb1).1
    have HU1 := Lib.hid (HU.out.trans hu1)
    clear hu1
    go_wp2_with fail
    refine (WR _).out.mono ?_
    rintro e w2 ⟨rfl, rfl⟩
    go_wp2_with fail
    have hca := ((Up.refl w1).alloc (.cells #[.int .u64 id, .string ⟨s.toArray⟩] 37)).cell hc0
    go_region_law (first
      | (refine step_append_full _ rfl _ _ 24 (by rfl) 37 i0 _ 2 24 Tryz.underlying24 hi hz0 hz1 hz2 rfl (by decide) A p (itV (L.take p)) (by rfl) (R2.out.up (HU1.out.trans ((Up.refl w1).alloc _).drew))
            ⟨w1.heap.size, 0, none⟩ 1 1 [.int .u64 id, .string ⟨s.toArray⟩] (by rfl) (by rfl) (World.news_of_block (cs := #[.int .u64 id, .string ⟨s.toArray⟩]) (t := 37) (fr := (0, 0)) (heap_alloc_new w1 _)) (by simp [Value.oneCell']) (by decide) (by omega) (by omega) ?_
         intro v3 w3 ho3 hu3
         have hu3' : Up w1 w3 := ((Up.refl w1).alloc _).drew.trans hu3
         have HU3 := Lib.hid hu3'
         have HV3 := Lib.hid hu3
         have HO3 := Lib.hid ho3
         have hc3 := hu3'.cell hc0
         have hb3 := hu3'.obj hb1
         clear ho3 hu3 hu3')
      | (refine step_append_rd _ rfl _ _ 24 (by rfl) _ 37 i0 _ 2 24 Tryz.underlying24 hi hz0 hz1 hz2 rfl (by decide) v3 _ _ (by rfl) HO3.out A3 _ c3 _ (by rfl) (R3.out.up (HU1.out.trans HU3.out)) (itV_one _) (by omega) (by omega) HV3.out.le ?_
         intro v4 w4 ho4 hb4
         have hb4' := (hb4.block (w.heap.size + 1) (by simp; omega)).trans hb3
         obtain ⟨hx4, hf4⟩ := blk_one hb4'
         obtain ⟨A4, c4, rfl, r4⟩ := Rd.of_own ho4
         have HO4 := Lib.hid ho4
         have HX4 := Lib.hid hb4'
         have HU4 := Lib.hid (Up.of (Below.trans (HU1.out.trans HU3.out).below (Below.mono hb4 (by have := HU1.out.le; simp; omega))))
         clear ho4 hb4 r4 hb4'))
    all_goals go_wp2_with fail
    all_goals
      have hb5 := heap_setCell_same w4 (w.heap.size + 1) 0 #[.slice none 0 0] 26 (.slice A4 (p + 1 + (L.length - (p + 1))) c4) HX4.out
      have d0 := (blk_one hb5).1
      have hf := cput_fin (N := insL L id s) hp HI.out rfl (own_set HO4.out (k := w.heap.size + 1) (by simp; omega) (.slice A4 (p + 1 + (L.length - (p + 1))) c4))
      obtain ⟨A5, c5, e5, r5⟩ := Rd.of_own hf
      injection e5 with e5 e6 e7
      refine bodyPost_ret (v := .tuple #[.agg #[.slice A4 (p + 1 + (L.length - (p + 1))) c4], .int .i64 0]) (by simp [results, Tryz.results33, go_sem, d0]) rfl ⟨A5, c5, ?_, r5, HU4.out.set (by simp) _⟩
      rw [e5, e6, e7]
  · rw [hm] at PL HI
    rw [show posL L id + false.toNat = posL L id from rfl] at HI
    clear hm
    obtain ⟨A3, c3, e3, r3⟩ := HR.out.cut_l (t := 24) (k := posL L id) Tryz.underlying24 hi hz1 hp
    rw [← itV_drop] at r3
    have R3 := Lib.hid r3
    have r2 := HR.out.front (k := posL L id) (m := posL L id) hp (Nat.le_refl _) (by omega)
    rw [← itV_take] at r2
    have R2 := Lib.hid r2
    clear r3 r2
    generalize posL L id = p at *
    go_enter Tryz.func33, Tryz.ntmps33
    go_wp2_with fail
    refine (PL _ (HR.out.up HU.out)).out.mono ?_
    rintro e w1 ⟨rfl, hu1⟩
    replace hc0 := hu1.cell hc0
    replace hb1 := hu1.obj hb1
    have hlt1 := (Array.getElem?_eq_some_iff.1 hb1).1
    have HU1 := Lib.hid (HU.out.trans hu1)
    clear hu1
    go_wp2_with fail
    refine (WR _).out.mono ?_
    rintro e w2 ⟨rfl, rfl⟩
    go_wp2_with fail
    have hca := ((Up.refl w1).alloc (.cells #[.int .u64 id, .string ⟨s.toArray⟩] 37)).cell hc0
    go_region_law (first
      | (refine step_append_full _ rfl _ _ 24 (by rfl) 37 i0 _ 2 24 Tryz.underlying24 hi hz0 hz1 hz2 rfl (by decide) A p (itV (L.take p)) (by rfl) (R2.out.up (HU1.out.trans ((Up.refl w1).alloc _).drew))
            ⟨w1.heap.size, 0, none⟩ 1 1 [.int .u64 id, .string ⟨s.toArray⟩] (by rfl) (by rfl) (World.news_of_block (cs := #[.int .u64 id, .string ⟨s.toArray⟩]) (t := 37) (fr := (0, 0)) (heap_alloc_new w1 _)) (by simp [Value.oneCell']) (by decide) (by omega) (by omega) ?_
         intro v3 w3 ho3 hu3
         have hu3' : Up w1 w3 := ((Up.refl w1).alloc _).drew.trans hu3
         have HU3 := Lib.hid hu3'
         have HV3 := Lib.hid hu3
         have HO3 := Lib.hid ho3
         have hc3 := hu3'.cell hc0
         have hb3 := hu3'.obj hb1
         clear ho3 hu3 hu3')
      | (refine step_append_rd _ rfl _ _ 24 (by rfl) _ 37 i0 _ 2 24 Tryz.underlying24 hi hz0 hz1 hz2 rfl (by decide) v3 _ _ (by rfl) HO3.out A3 _ c3 _ (by rfl) (R3.out.up (HU1.out.trans HU3.out)) (itV_one _) (by omega) (by omega) HV3.out.le ?_
         intro v4 w4 ho4 hb4
         have hb4' := (hb4.block (w.heap.size + 1) (by simp; omega)).trans hb3
         obtain ⟨hx4, hf4⟩ := blk_one hb4'
         obtain ⟨A4, c4, rfl, r4⟩ := Rd.of_own ho4
         have HO4 := Lib.hid ho4
         have HX4 := Lib.hid hb4'
         have HU4 := Lib.hid (Up.of (Below.trans (HU1.out.trans HU3.out).below (Below.mono hb4 (by have := HU1.out.le; simp; omega))))
         clear ho4 hb4 r4 hb4'))
    all_goals go_wp2_with fail
    all_goals
      have hb5 := heap_setCell_same w4 (w.heap.size + 1) 0 #[.slice none 0 0] 26 (.slice A4 (p + 1 + (L.length - p)) c4) HX4.out
      have d0 := (blk_one hb5).1
      have hf := cput_fin (N := insL L id s) hp HI.out rfl (own_set HO4.out (k := w.heap.size + 1) (by simp; omega) (.slice A4 (p + 1 + (L.length - p)) c4))
      obtain ⟨A5, c5, e5, r5⟩ := Rd.of_own hf
      injection e5 with e5 e6 e7
      refine bodyPost_ret (v := .tuple #[.agg #[.slice A4 (p + 1 + (L.length - p)) c4], .int .i64 0]) (by simp [results, Tryz.results33, go_sem, d0]) rfl ⟨A5, c5, ?_, r5, HU4.out.set (by simp) _⟩
      rw [e5, e6, e7]
set_option maxHeartbeats 2000000 in
theorem cput12_bad (L : Items) (hl : L.length ≤ 100000) (id : Nat) (s : Bs) (A : Option Addr) (c : Nat) (hs : Srt L) (w : World) (hr : Rd w 2 A L.length c (itV L)) (full : Bool) (E : Int) (hw : wrongE id s full = E) (hE : E ≠ 0)
    (hm : (memL L id = true ∧ full = false) ∨ (memL L id = false ∧ decide ((2048 : Int) ≤ (L.length : Int)) = full)) :
    Calls Tryz.prog 33 #[.agg #[.slice A L.length c], .int .u64 id, .string ⟨s.toArray⟩] w (CPutEnd w L E) := by
  have PL := fun w hr => Lib.hid (place12_any L (by omega) id A c hs w hr)
  have WR := fun w => Lib.hid (wrong12_any id s full w)
  rw [hw] at WR
  have HR := Lib.hid hr
  have hp := pos_le L id
  have hbE : (E != 0) = true := by rw [bne_iff_ne]; exact hE
  have n0 := new1 w 26 (.slice A L.length c)
  have n1 := new1 (w.alloc (.cells #[.slice A L.length c] 26)) 26 (.slice none 0 0)
  have hsz : (w.alloc (.cells #[.slice A L.length c] 26)).heap.size = w.heap.size + 1 := by simp
  rw [hsz] at n1
  have HU := Lib.hid (n0.1.trans n1.1)
  have hc0 := n1.1.cell n0.2.1
  have hb1 := n1.2.2
  clear hsz hr hs hw n0 n1 hE
  rcases hm with ⟨hm, rfl⟩ | ⟨hm, hf⟩
  all_goals
    rw [hm] at PL
    clear hm
    generalize posL L id = p at *
    go_enter Tryz.func33, Tryz.ntmps33
    go_wp2_with fail
    refine (PL _ (HR.out.up HU.out)).out.mono ?_
    rintro e w1 ⟨rfl, hu1⟩
    replace hc0 := hu1.cell hc0
    have HB1 := Lib.hid (hu1.obj hb1)
    obtain ⟨hx1, hf1⟩ := blk_one HB1.out
    have HU1 := Lib.hid (HU.out.trans hu1)
    clear hu1 hb1
    go_wp2_with fail
    refine (WR _).out.mono ?_
    rintro e w2 ⟨rfl, rfl⟩
    go_wp2_with fail
    have hb5 := heap_setCell_same w1 (w.heap.size + 1) 0 #[.slice none 0 0] 26 (.slice A L.length c) HB1.out
    have d0 := (blk_one hb5).1
    refine bodyPost_ret (v := .tuple #[.agg #[.slice A L.length c], .int .i64 E]) (by simp [results, Tryz.results33, go_sem, d0]) rfl ⟨A, c, rfl, ?_, HU1.out.set (by simp) _⟩
    exact HR.out.up ((Up.refl w).trans (HU1.out.set (by simp) _))
theorem cput12_any (L : Items) (hl : L.length ≤ 100000) (id : Nat) (s : Bs) (A : Option Addr) (c : Nat) (hs : Srt L) (w : World) (hr : Rd w 2 A L.length c (itV L)) :
    Calls Tryz.prog 33 #[.agg #[.slice A L.length c], .int .u64 id, .string ⟨s.toArray⟩] w (CPutEnd w (putL L id s) (putE L id s)) := by
  have hm := mem_get L id
  have key : ∃ full, putE L id s = wrongE id s full ∧ ((memL L id = true ∧ full = false) ∨ (memL L id = false ∧ decide ((2048 : Int) ≤ (L.length : Int)) = full)) := by
    unfold putE
    rw [← hm]
    cases h : memL L id
    · refine ⟨_, rfl, .inr ⟨rfl, ?_⟩⟩
      rw [Bool.eq_iff_iff]; simp; omega
    · exact ⟨_, rfl, .inl ⟨rfl, rfl⟩⟩
  obtain ⟨full, h1, h2⟩ := key
  by_cases hE : putE L id s = 0
  · rw [hE, show putL L id s = insL L id s by unfold putL; rw [if_pos hE]]
    exact cput12_ok L hl id s A c hs w hr full (by rw [← h1]; exact hE) h2
  · rw [show putL L id s = L by unfold putL; rw [if_neg hE]]
    exact cput12_bad L hl id s A c hs w hr full _ h1.symm hE h2
end Go.Proofs.YtkfococpanailaaGreatDoor
/- Appends of items onto a row of the call's own, by their run. -/
namespace Go.Proofs.YtkfococpanailaaGreatDoor
open Go.RowKit Go.Gz Go.Maps Go.Shelf

set_option maxRecDepth 100000
/-- a row of the call's own, the world being W when it began -/
structure RowS (W : World) (L : Items) (v : Value) (w : World) : Prop where
  own : w.ownsRow W.heap.size 37 2 v L.length (itV L)
  up : Up W w
theorem RowS.alloc {W : World} {L : Items} {v : Value} {w : World} (h : RowS W L v w) (o : Obj) : RowS W L v (w.alloc o) := ⟨h.own.alloc o, h.up.alloc o⟩
theorem rowS_zero {W w : World} {b : Nat} (hu : Up W w) (hb : W.heap.size ≤ b) (h : w.heap[b]? = some (.cells #[] 37 (0, 0))) : RowS W [] (.slice (some ⟨b, 0, none⟩) 0 0) w :=
  ⟨⟨rfl, .inr ⟨b, 0, #[], rfl, hb, h, Nat.le_refl _, by unfold maxLen; omega, by simp, by simp [itV]⟩⟩, hu⟩
theorem RowS.app {W : World} {X Y : Items} {v : Value} {w : World} (h : RowS W X v w) {A : Option Addr} {c : Nat} (hr : Rd w 2 A Y.length c (itV Y)) (hn : X.length + Y.length ≤ 10000) :
    ∃ v' w', (∀ ty, (Builtin.append_ #[24, 24] ty #[v, .slice A Y.length c]).run Tryz.prog w = .ok v' w') ∧ RowS W (X ++ Y) v' w' ∧ (∀ (j : Nat) (o : Obj), w.heap[j]? = some o → (∀ cs fz, o ≠ .cells cs 37 fz) → w'.heap[j]? = some o) := by
  obtain ⟨i0, hi, hz0, hz1, hz2⟩ := info_parts infoCI
  have hbase : W.heap.size ≤ w.heap.size := h.up.le
  have key : ∃ v' w', (∀ ty, (Builtin.append_ #[24, 24] ty #[v, .slice A Y.length c]).run Tryz.prog w = .ok v' w') ∧ w'.ownsRow W.heap.size 37 2 v' (X.length + Y.length) (itV X ++ itV Y) ∧ w.grownBy w' v.ownBlock := by
    rcases A with _ | ad
    · have hm : Y.length = 0 := by have := hr.2.1; have := hr.2.2.2.1 rfl; omega
      have hY : itV Y = [] := List.eq_nil_of_length_eq_zero (by rw [itV_len, hm])
      rw [hm, hY]
      exact ⟨v, w, fun ty => run_append_of_nil w W.heap.size 24 ty 37 i0 2 Tryz.underlying24 hi v X.length (itV X) h.own c, by simpa using h.own, World.grownBy.refl w _⟩
    · have hcells : ∀ j u, (itV Y)[j]? = some u → w.cell? (ad.add j) = some u := by
        intro j u hu
        rcases Nat.eq_zero_or_pos Y.length with h0 | h0
        · have : itV Y = [] := List.eq_nil_of_length_eq_zero (by rw [itV_len, h0])
          rw [this] at hu; simp at hu
        · obtain ⟨b, o', h, hc⟩ := hr.2.2.2.2 h0
          injection h with h
          subst h
          rw [add_plain]
          exact hc j u hu
      have hmul : (X.length + Y.length) * 24 ≤ 140737488355328 := by omega
      obtain ⟨v', w', hrun, h2, h3, _⟩ := run_append_own_at (P := Tryz.prog) w W.heap.size 24 24 37 i0 _ 2 24 Tryz.underlying24 hi hz0 hz1 hz2 rfl (by decide) v X.length (itV X) h.own ad Y.length c (itV Y) hr.1 hcells (itV_one _) (by unfold maxLen; omega) hmul hbase
      exact ⟨v', w', fun ty => hrun, h2, h3⟩
  obtain ⟨v', w', hrun, h2, h3⟩ := key
  have own : ∀ g, v.ownBlock = some g → W.heap.size ≤ g ∧ ∃ cur fz, w.heap[g]? = some (.cells cur 37 fz) := by
    intro g hgb
    rcases h.own.2 with ⟨rfl, _⟩ | ⟨g', cap, cur, rfl, hgb', hgh, _⟩
    · cases hgb
    · injection hgb with hgb; have : g' = g := hgb; subst this; exact ⟨hgb', cur, _, hgh⟩
  refine ⟨v', w', hrun, ⟨by rw [List.length_append, itV_app]; exact h2, Up.of (Below.grown h.up.below h3 h.up.le (fun j hj => (own j hj).1))⟩, fun j o ho hne => ?_⟩
  rw [h3.block j (Array.getElem?_eq_some_iff.1 ho).1 (fun e => by
    obtain ⟨_, cur, fz, hh⟩ := own j e.symm
    rw [ho] at hh; injection hh with hh; exact hne _ _ hh), ho]
end Go.Proofs.YtkfococpanailaaGreatDoor
