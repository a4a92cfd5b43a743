/- Walk: chart.Of at one item. -/
import Derived.Test.YteeenbhmdacdiaaDoorWplay35
import Derived.Test.YteeenbhmdacdiaaDoorShelf
namespace Go.Proofs.YteeenbhmdacdiaaDoor
open Go.RowKit Go.Gz Go.Maps

set_option maxRecDepth 100000
theorem ins1_any (v f : Value) (w : World) :
    Calls Tryd.prog 113 #[v, .int .i64 0, .int .i64 1, f] w fun e w' => e = .returned (.tuple #[]) ∧ w = w' := by
  go_enter Tryd.func113, Tryd.ntmps113
  go_wp2_with fail
  refine wp_loop_rounds 1 ?_
  rw [rounds_succ]
  go_wp2_with fail
  go_end0
  exact ⟨rfl, rfl⟩
theorem pdq1_any (v f : Value) (n : Int) (w : World) :
    Calls Tryd.prog 99 #[v, .int .i64 0, .int .i64 1, .int .i64 n, f] w fun e w' => e = .returned (.tuple #[]) ∧ w = w' := by
  go_enter Tryd.func99, Tryd.ntmps99
  go_wp2_with fail
  refine wp_loop_rounds 1 ?_
  rw [rounds_succ]
  go_wp2_with (go_at_call 113; refine (ins1_any _ _ _).mono ?_; rintro e w' ⟨rfl, rfl⟩)
  refine bodyPost_ret (results_none rfl _ _ _) rfl ?_
  exact ⟨rfl, rfl⟩
theorem sort1_any (A : Option Addr) (c : Nat) (f : Value) (w : World) :
    Calls Tryd.prog 79 #[.slice A 1 c, f] w fun e w' => e = .returned (.tuple #[]) ∧ w = w' := by
  have B := fun w => Lib.hid (Tryd.bits_Len 1 w (by decide) (by decide))
  go_enter Tryd.func79, Tryd.ntmps79
  go_wp2_with fail
  refine (B _).out.mono ?_
  rintro e w' ⟨rfl, rfl⟩
  go_wp2_with fail
  refine (pdq1_any _ _ _ _).mono ?_
  rintro e w' ⟨rfl, rfl⟩
  go_wp2_with fail
  go_end0
  exact ⟨rfl, rfl⟩
theorem lawU : Keyed Tryd.prog 85 := int_keyed Tryd.underlying85
def OfEnd (w : World) (M : Items) (e : Ending) (w' : World) : Prop := ∃ A c, e = .returned (.tuple #[.agg #[.slice A M.length c], .int .i64 0]) ∧ Rd w' 2 A M.length c (itV M) ∧ Up w w'
theorem newT2 (w1 : World) (t : TypeId) (u v : Value) :
    Up w1 (w1.alloc (.cells #[u, v] t)) ∧ (w1.alloc (.cells #[u, v] t)).cell? ⟨w1.heap.size, 0, none⟩ = some u ∧ (w1.alloc (.cells #[u, v] t)).cell? ⟨w1.heap.size, 1, none⟩ = some v := by
  have hb := heap_alloc_new w1 (.cells #[u, v] t)
  exact ⟨(Up.refl _).alloc _, blk_cell hb 0 _ rfl, blk_cell hb 1 _ rfl⟩
theorem of_at1 {k : Lit} {v : Int} (h : (DataW.map (H := Unit) []).atKey k (.lit (.int .i64 0)) = .lit (.int .i64 v)) : v = 0 := by
  injection h with h; injection h with _ h; exact h.symm
theorem of_at2 {k v : Int} (h : ((DataW.map (H := Unit) []).put (.int .u64 k) (.lit (.int .i64 1))).atKey (.int .u64 k) (.lit (.int .i64 0)) = .lit (.int .i64 v)) : v = 1 := by
  rw [atKey_put_same isMap_empty (by first | exact trivial | simp [WideAt.IsKeyLit])] at h
  injection h with h; injection h with _ h; exact h.symm
set_option maxHeartbeats 4000000 in
theorem of1_any (b : Nat) (w : World) (hc0 : w.cell? ⟨b, 0, none⟩ = some (.int .u64 0)) (hc1 : w.cell? ⟨b, 1, none⟩ = some (.string ⟨#[120]⟩)) :
    Calls Tryd.prog 62 #[.slice (some ⟨b, 0, none⟩) 1 1] w (OfEnd w [(0, [120])]) := by
  obtain ⟨i0, hi, hz0, hz1, hz2⟩ := info_parts infoCI
  have hmm := @run_makeMap Tryd.prog
  have WR := fun w => Lib.hid (wrong12_any 0 [120] false w)
  rw [show wrongE 0 [120] false = 0 by decide] at WR
  have n0 := new1 w 69 (.slice none 0 0)
  have HU0 := Lib.hid (n0.1.alloc (.map #[] 0))
  have hm0 := (World.ownsMap_made (H := Unit) (w.alloc (.cells #[.slice none 0 0] 69)) Tryd.prog 85 (plainElem Tryd.prog 3))
  have hsz : (w.alloc (.cells #[.slice none 0 0] 69)).heap.size = w.heap.size + 1 := by simp
  rw [hsz] at hm0
  have HM0 := Lib.hid hm0
  clear hm0 hsz
  have HB0 := Lib.hid (((Up.refl _).alloc (.map #[] 0)).obj n0.2.2)
  have x0 := newT2 ((w.alloc (.cells #[.slice none 0 0] 69)).alloc (.map #[] 0)) 118 (.int .u64 0) (.string ⟨#[120]⟩)
  rw [show ((w.alloc (.cells #[.slice none 0 0] 69)).alloc (.map #[] 0)).heap.size = w.heap.size + 2 by simp] at x0
  have E0 := Lib.hid x0.2.1
  have E1 := Lib.hid x0.2.2
  have E2 := Lib.hid (x0.1.obj HB0.out)
  clear x0
  have d0 := HU0.out.cell hc0
  have d1 := HU0.out.cell hc1
  have HKEY := Lib.hid (keyOf_int_mk (q := .u64) (a := 0) Tryd.underlying85 (by decide))
  clear n0 hc0 hc1
  go_enter Tryd.func62, Tryd.ntmps62
  go_wp2_with fail
  refine wp_loop_rounds 2 ?_
  rw [rounds_succ]
  go_wp2_with (first
    | (at_lookup; refine wpList_lookup_own_int _ rfl _ _ 142 rfl 85 3 .i64 lawU Tryd.underlying142 Tryd.underlying3 (zeroI _) (w.heap.size + 1) 1 _ rfl HO1.out _ _ rfl HKEY.out ?_; intro c2 hat2 hwc2; have hcc2 := of_at2 hat2; clear hat2 hwc2; subst hcc2)
    | (at_lookup; go_loud (refine wpList_lookup_own_int _ rfl _ _ 142 rfl 85 3 .i64 lawU Tryd.underlying142 Tryd.underlying3 (zeroI _) (w.heap.size + 1) 0 _ rfl (HM0.out.alloc _) _ _ rfl HKEY.out ?_); intro c1 hat1 hwc1; have hcc1 := of_at1 hat1; clear hat1 hwc1; subst hcc1)
    | (at_mapUpdate; refine wpList_mapUpdate_own _ rfl _ _ _ 142 rfl 85 3 lawU Tryd.underlying142 _ (w.heap.size + 1) 0 _ rfl (HM0.out.alloc _) (by unfold maxLen; omega) _ _ _ rfl rfl HKEY.out _ [] (plainElem_int Tryd.underlying3 (by decide)) ?_; intro w1 hown1 hgrow1; have HO1 := Lib.hid hown1; have e0 := hgrow1.cell E0.out (by simp); have e1 := hgrow1.cell E1.out (by simp); have HB1 := Lib.hid ((hgrow1.block w.heap.size (by simp; omega) (by simp)).trans E2.out); have HU1 := Lib.hid (Up.of (Below.grown (HU0.out.alloc (.cells #[.int .u64 0, .string ⟨#[120]⟩] 118)).below hgrow1 (HU0.out.alloc _).le (fun j hj => by cases hj; omega))); clear hown1 hgrow1))
  refine (WR _).out.mono ?_
  rintro e w2 ⟨rfl, rfl⟩
  go_wp2_with (at_builtin; refine app_one w1 rfl _ _ 67 rfl w1.heap.size 118 i0 _ 2 24 Tryd.underlying67 hi hz0 hz1 hz2 rfl (by decide) (.slice none 0 0) 0 [] (World.ownsRow_nil _ _ _ _) rfl #[.int .u64 0, .string ⟨#[120]⟩] rfl rfl (by simp [Value.oneCell']) (by omega) (by omega) (Nat.le_refl _) ?_; intro v3 w3 ho3 hg3 hb3)
  obtain ⟨A3, c3, rfl, r3⟩ := Rd.of_own ho3
  have HR3 := Lib.hid (show Rd w3 2 A3 1 c3 (itV [(0, [120])]) from r3)
  have HU3 := Lib.hid (HU1.out.trans (Up.of hb3))
  have HB3 := Lib.hid ((Up.of hb3).obj HB1.out)
  obtain ⟨y0, y1⟩ := blk_one HB3.out
  clear r3 ho3 hg3 hb3
  rw [rounds_succ]
  go_wp2_with fail
  refine (sort1_any _ _ _ _).mono ?_
  rintro e w4 ⟨rfl, rfl⟩
  go_wp2_with fail
  have hb5 := heap_setCell_same w3 w.heap.size 0 #[.slice none 0 0] 69 (.slice A3 1 c3) HB3.out
  have d5 := (blk_one hb5).1
  refine bodyPost_ret (v := .tuple #[.agg #[.slice A3 1 c3], .int .i64 0]) (by simp [results, Tryd.results62, go_sem, d5]) rfl ⟨A3, c3, rfl, ?_, HU3.out.set (by simp) _⟩
  exact Rd.far (L := [(0, [120])]) HR3.out HB3.out _
end Go.Proofs.YteeenbhmdacdiaaDoor
