/- Walks: layout.Sections, With, Glue, of parts that may be. -/
import Derived.Test.YtcfmidmokciofaaGreatDoorKM30
import Derived.Test.YtcfmidmokciofaaGreatDoorShelf
namespace Go.Proofs.YtcfmidmokciofaaGreatDoor
open Go.RowKit Go.Gz Go.Shelf

set_option maxRecDepth 100000
theorem len_ix0 (n0 n1 n2 n3 : Nat) (w : World) : (Instr.index 186 (.agg #[.int .u64 (n0 : Int), .int .u64 (n1 : Int), .int .u64 (n2 : Int), .int .u64 (n3 : Int)]) (.int .i64 0)).run Tryz.prog w = .ok (.int .u64 (n0 : Int)) w := by kernel_rfl
theorem len_ix1 (n0 n1 n2 n3 : Nat) (w : World) : (Instr.index 186 (.agg #[.int .u64 (n0 : Int), .int .u64 (n1 : Int), .int .u64 (n2 : Int), .int .u64 (n3 : Int)]) (.int .i64 1)).run Tryz.prog w = .ok (.int .u64 (n1 : Int)) w := by kernel_rfl
theorem len_ix2 (n0 n1 n2 n3 : Nat) (w : World) : (Instr.index 186 (.agg #[.int .u64 (n0 : Int), .int .u64 (n1 : Int), .int .u64 (n2 : Int), .int .u64 (n3 : Int)]) (.int .i64 2)).run Tryz.prog w = .ok (.int .u64 (n2 : Int)) w := by kernel_rfl
theorem len_ix3 (n0 n1 n2 n3 : Nat) (w : World) : (Instr.index 186 (.agg #[.int .u64 (n0 : Int), .int .u64 (n1 : Int), .int .u64 (n2 : Int), .int .u64 (n3 : Int)]) (.int .i64 3)).run Tryz.prog w = .ok (.int .u64 (n3 : Int)) w := by kernel_rfl
theorem ba_app (a b : Bs) : Value.string ((⟨a.toArray⟩ : ByteArray) ++ ⟨b.toArray⟩) = .string ⟨(a ++ b).toArray⟩ := by
  congr 1
theorem th_blk {w : World} {b : Nat} {cs : Array Value} {t : TypeId} (h : w.heap[b]? = some (.cells cs t (0, 0))) : w.there b 0 cs.size := fun j hj => by
  rw [Nat.zero_add]
  exact ⟨by rw [cell_of_row _ b j cs t (0, 0) h]; simp [hj], frozen_of_row _ b j cs t h⟩
theorem up_setCells {w : World} {b : Nat} : ∀ (vs : List Value) {W : World} {o : Nat}, Up w W → w.heap.size ≤ b → Up w (W.setCells b o vs)
  | [], _, _, h, _ => h
  | v :: r, _, o, h, hb => up_setCells r (h.set (p := ⟨b, o, none⟩) hb v) hb
theorem grown_setO' (W : World) (b o : Nat) (v : Value) : W.grownBy (W.setCell ⟨b, o, none⟩ v) (some b) :=
  ⟨rfl, rfl, rfl, by simp, fun j _ hne => Below.heap_setCell W ⟨b, o, none⟩ v j (fun e => hne (by rw [e]))⟩
set_option maxHeartbeats 8000000 in
theorem lsect_any (n0 n1 n2 n3 : Nat) (h : 127 + n0 + n1 + n2 + n3 ≤ 1099511627776) (w : World) :
    Calls Tryz.prog 90 #[.agg #[.int .u64 (n0 : Int), .int .u64 (n1 : Int), .int .u64 (n2 : Int), .int .u64 (n3 : Int)]] w fun e w' => e = .returned (.tuple #[.agg #[.int .u64 127, .int .u64 (n0 : Int), .int .u64 ((127 + n0 : Nat) : Int), .int .u64 (n1 : Int), .int .u64 ((127 + n0 + n1 : Nat) : Int), .int .u64 (n2 : Int), .int .u64 ((127 + n0 + n1 + n2 : Nat) : Int), .int .u64 (n3 : Int)], .int .u64 ((127 + n0 + n1 + n2 + n3 : Nat) : Int), .int .i64 0]) ∧ Up w w' := by
  obtain ⟨a1, h1⟩ : ∃ a, 127 + n0 = a := ⟨_, rfl⟩
  rw [h1] at h ⊢
  obtain ⟨a2, h2⟩ : ∃ a, a1 + n1 = a := ⟨_, rfl⟩
  rw [h2] at h ⊢
  obtain ⟨a3, h3⟩ : ∃ a, a2 + n2 = a := ⟨_, rfl⟩
  rw [h3] at h ⊢
  obtain ⟨a4, h4⟩ : ∃ a, a3 + n3 = a := ⟨_, rfl⟩
  rw [h4] at h ⊢
  have t0 : ¬ (1099511627649 : Int) < (n0 : Int) := by omega
  have s1 : IntKind.u64.wrap (127 + (n0 : Int)) = (a1 : Int) := by rw [IntWalk.u64_in _ (by omega)]; omega
  obtain ⟨x1, hx1⟩ : ∃ x : Int, 1099511627776 - (a1 : Int) = x := ⟨_, rfl⟩
  have d1 : IntKind.u64.wrap (1099511627776 - (a1 : Int)) = x1 := by rw [IntWalk.u64_in _ (by omega)]; exact hx1
  have t1 : ¬ x1 < (n1 : Int) := by omega
  have s2 : IntKind.u64.wrap ((a1 : Int) + (n1 : Int)) = (a2 : Int) := by rw [IntWalk.u64_in _ (by omega)]; omega
  obtain ⟨x2, hx2⟩ : ∃ x : Int, 1099511627776 - (a2 : Int) = x := ⟨_, rfl⟩
  have d2 : IntKind.u64.wrap (1099511627776 - (a2 : Int)) = x2 := by rw [IntWalk.u64_in _ (by omega)]; exact hx2
  have t2 : ¬ x2 < (n2 : Int) := by omega
  have s3 : IntKind.u64.wrap ((a2 : Int) + (n2 : Int)) = (a3 : Int) := by rw [IntWalk.u64_in _ (by omega)]; omega
  obtain ⟨x3, hx3⟩ : ∃ x : Int, 1099511627776 - (a3 : Int) = x := ⟨_, rfl⟩
  have d3 : IntKind.u64.wrap (1099511627776 - (a3 : Int)) = x3 := by rw [IntWalk.u64_in _ (by omega)]; exact hx3
  have t3 : ¬ x3 < (n3 : Int) := by omega
  have s4 : IntKind.u64.wrap ((a3 : Int) + (n3 : Int)) = (a4 : Int) := by rw [IntWalk.u64_in _ (by omega)]; omega
  clear h h1 h2 h3 h4 hx1 hx2 hx3
  have n4 := new4 w 186 (.int .u64 (n0 : Int)) (.int .u64 (n1 : Int)) (.int .u64 (n2 : Int)) (.int .u64 (n3 : Int))
  have hu0 : Up (w.alloc (.cells #[.int .u64 (n0 : Int), .int .u64 (n1 : Int), .int .u64 (n2 : Int), .int .u64 (n3 : Int)] 186)) (((w.alloc (.cells #[.int .u64 (n0 : Int), .int .u64 (n1 : Int), .int .u64 (n2 : Int), .int .u64 (n3 : Int)] 186)).alloc (.cells #[.int .u64 0, .int .u64 0, .int .u64 0, .int .u64 0, .int .u64 0, .int .u64 0, .int .u64 0, .int .u64 0] 160)).alloc (.cells #[.int .u64 0, .int .u64 0, .int .u64 0, .int .u64 0, .int .u64 0, .int .u64 0, .int .u64 0, .int .u64 0] 160)) := ((Up.refl _).alloc _).alloc _
  have c0 := hu0.cell n4.2.1
  have c1 := hu0.cell n4.2.2.1
  have c2 := hu0.cell n4.2.2.2.1
  have c3 := hu0.cell n4.2.2.2.2
  have HU := Lib.hid (n4.1.trans hu0)
  have hb := heap_alloc_new ((w.alloc (.cells #[.int .u64 (n0 : Int), .int .u64 (n1 : Int), .int .u64 (n2 : Int), .int .u64 (n3 : Int)] 186)).alloc (.cells #[.int .u64 0, .int .u64 0, .int .u64 0, .int .u64 0, .int .u64 0, .int .u64 0, .int .u64 0, .int .u64 0] 160)) (.cells #[.int .u64 0, .int .u64 0, .int .u64 0, .int .u64 0, .int .u64 0, .int .u64 0, .int .u64 0, .int .u64 0] 160)
  have hbr := heap_alloc_new (w.alloc (.cells #[.int .u64 (n0 : Int), .int .u64 (n1 : Int), .int .u64 (n2 : Int), .int .u64 (n3 : Int)] 186)) (.cells #[.int .u64 0, .int .u64 0, .int .u64 0, .int .u64 0, .int .u64 0, .int .u64 0, .int .u64 0, .int .u64 0] 160)
  simp only [World.size_alloc] at hb hbr
  replace hbr := ((Up.refl _).alloc (.cells #[.int .u64 0, .int .u64 0, .int .u64 0, .int .u64 0, .int .u64 0, .int .u64 0, .int .u64 0, .int .u64 0] 160)).obj hbr
  have HB := Lib.hid (And.intro hb hbr)
  clear n4 hu0 hb hbr
  go_enter Tryz.func90, Tryz.ntmps90
  go_wp2_with fail
  clear c0 c1 c2 c3
  refine wp_loop_rounds 5 ?_
  obtain ⟨w0, hw0⟩ : ∃ x, (((w.alloc (.cells #[.int .u64 (n0 : Int), .int .u64 (n1 : Int), .int .u64 (n2 : Int), .int .u64 (n3 : Int)] 186)).alloc (.cells #[.int .u64 0, .int .u64 0, .int .u64 0, .int .u64 0, .int .u64 0, .int .u64 0, .int .u64 0, .int .u64 0] 160)).alloc (.cells #[.int .u64 0, .int .u64 0, .int .u64 0, .int .u64 0, .int .u64 0, .int .u64 0, .int .u64 0, .int .u64 0] 160)) = x := ⟨_, rfl⟩
  rw [hw0] at HU HB ⊢
  clear hw0
  rw [rounds_succ]
  have hb := HB.out.1
  have hb' := heap_setCell_same w0 (w.heap.size + 1 + 1) 0 _ _ (.int .u64 127) hb
  have p0 := blkc hb 0 _ rfl
  have f0 := blkf hb 0
  have p1 := blkc hb' 1 _ rfl
  have f1 := blkf hb' 1
  have ix := len_ix0 n0 n1 n2 n3 w0
  have HB2 := Lib.hid (show ((w0.setCell ⟨w.heap.size + 1 + 1, 0, none⟩ (.int .u64 127)).setCell ⟨w.heap.size + 1 + 1, 1, none⟩ (.int .u64 (n0 : Int))).heap[w.heap.size + 1 + 1]? = some (.cells #[.int .u64 127, .int .u64 (n0 : Int), .int .u64 0, .int .u64 0, .int .u64 0, .int .u64 0, .int .u64 0, .int .u64 0] 160 (0, 0)) ∧ ((w0.setCell ⟨w.heap.size + 1 + 1, 0, none⟩ (.int .u64 127)).setCell ⟨w.heap.size + 1 + 1, 1, none⟩ (.int .u64 (n0 : Int))).heap[w.heap.size + 1]? = some (.cells #[.int .u64 0, .int .u64 0, .int .u64 0, .int .u64 0, .int .u64 0, .int .u64 0, .int .u64 0, .int .u64 0] 160 (0, 0)) from ⟨heap_setCell_same _ (w.heap.size + 1 + 1) 1 _ _ (.int .u64 (n0 : Int)) hb', ((grown_setO' _ _ _ _).block _ (by simp; exact (Array.getElem?_eq_some_iff.1 HB.out.2).1) (by intro e; injection e with e; omega)).trans (((grown_setO' _ _ _ _).block _ (Array.getElem?_eq_some_iff.1 HB.out.2).1 (by intro e; injection e with e; omega)).trans HB.out.2)⟩)
  have HU2 := Lib.hid (Up.of ((HU.out.below.setCell (p := ⟨w.heap.size + 1 + 1, 0, none⟩) (by simp; omega) (.int .u64 127)).setCell (p := ⟨w.heap.size + 1 + 1, 1, none⟩) (by simp; omega) (.int .u64 (n0 : Int))))
  clear hb hb'
  go_wp2_with fail
  obtain ⟨w1, hw⟩ : ∃ x, ((w0.setCell ⟨w.heap.size + 1 + 1, 0, none⟩ (.int .u64 127)).setCell ⟨w.heap.size + 1 + 1, 1, none⟩ (.int .u64 (n0 : Int))) = x := ⟨_, rfl⟩
  rw [hw] at HU2 HB2 ⊢
  clear hw p0 p1 f0 f1 ix HU HB
  rename Hid (Up w w1) => HU
  have HB := HB2
  clear HB2
  rw [rounds_succ]
  have hb := HB.out.1
  have hb' := heap_setCell_same w1 (w.heap.size + 1 + 1) 2 _ _ (.int .u64 (a1 : Int)) hb
  have p0 := blkc hb 2 _ rfl
  have f0 := blkf hb 2
  have p1 := blkc hb' 3 _ rfl
  have f1 := blkf hb' 3
  have ix := len_ix1 n0 n1 n2 n3 w1
  have HB2 := Lib.hid (show ((w1.setCell ⟨w.heap.size + 1 + 1, 2, none⟩ (.int .u64 (a1 : Int))).setCell ⟨w.heap.size + 1 + 1, 3, none⟩ (.int .u64 (n1 : Int))).heap[w.heap.size + 1 + 1]? = some (.cells #[.int .u64 127, .int .u64 (n0 : Int), .int .u64 (a1 : Int), .int .u64 (n1 : Int), .int .u64 0, .int .u64 0, .int .u64 0, .int .u64 0] 160 (0, 0)) ∧ ((w1.setCell ⟨w.heap.size + 1 + 1, 2, none⟩ (.int .u64 (a1 : Int))).setCell ⟨w.heap.size + 1 + 1, 3, none⟩ (.int .u64 (n1 : Int))).heap[w.heap.size + 1]? = some (.cells #[.int .u64 0, .int .u64 0, .int .u64 0, .int .u64 0, .int .u64 0, .int .u64 0, .int .u64 0, .int .u64 0] 160 (0, 0)) from ⟨heap_setCell_same _ (w.heap.size + 1 + 1) 3 _ _ (.int .u64 (n1 : Int)) hb', ((grown_setO' _ _ _ _).block _ (by simp; exact (Array.getElem?_eq_some_iff.1 HB.out.2).1) (by intro e; injection e with e; omega)).trans (((grown_setO' _ _ _ _).block _ (Array.getElem?_eq_some_iff.1 HB.out.2).1 (by intro e; injection e with e; omega)).trans HB.out.2)⟩)
  have HU2 := Lib.hid (Up.of ((HU.out.below.setCell (p := ⟨w.heap.size + 1 + 1, 2, none⟩) (by simp; omega) (.int .u64 (a1 : Int))).setCell (p := ⟨w.heap.size + 1 + 1, 3, none⟩) (by simp; omega) (.int .u64 (n1 : Int))))
  clear hb hb'
  go_wp2_with fail
  obtain ⟨w2, hw⟩ : ∃ x, ((w1.setCell ⟨w.heap.size + 1 + 1, 2, none⟩ (.int .u64 (a1 : Int))).setCell ⟨w.heap.size + 1 + 1, 3, none⟩ (.int .u64 (n1 : Int))) = x := ⟨_, rfl⟩
  rw [hw] at HU2 HB2 ⊢
  clear hw p0 p1 f0 f1 ix HU HB
  rename Hid (Up w w2) => HU
  have HB := HB2
  clear HB2
  rw [rounds_succ]
  have hb := HB.out.1
  have hb' := heap_setCell_same w2 (w.heap.size + 1 + 1) 4 _ _ (.int .u64 (a2 : Int)) hb
  have p0 := blkc hb 4 _ rfl
  have f0 := blkf hb 4
  have p1 := blkc hb' 5 _ rfl
  have f1 := blkf hb' 5
  have ix := len_ix2 n0 n1 n2 n3 w2
  have HB2 := Lib.hid (show ((w2.setCell ⟨w.heap.size + 1 + 1, 4, none⟩ (.int .u64 (a2 : Int))).setCell ⟨w.heap.size + 1 + 1, 5, none⟩ (.int .u64 (n2 : Int))).heap[w.heap.size + 1 + 1]? = some (.cells #[.int .u64 127, .int .u64 (n0 : Int), .int .u64 (a1 : Int), .int .u64 (n1 : Int), .int .u64 (a2 : Int), .int .u64 (n2 : Int), .int .u64 0, .int .u64 0] 160 (0, 0)) ∧ ((w2.setCell ⟨w.heap.size + 1 + 1, 4, none⟩ (.int .u64 (a2 : Int))).setCell ⟨w.heap.size + 1 + 1, 5, none⟩ (.int .u64 (n2 : Int))).heap[w.heap.size + 1]? = some (.cells #[.int .u64 0, .int .u64 0, .int .u64 0, .int .u64 0, .int .u64 0, .int .u64 0, .int .u64 0, .int .u64 0] 160 (0, 0)) from ⟨heap_setCell_same _ (w.heap.size + 1 + 1) 5 _ _ (.int .u64 (n2 : Int)) hb', ((grown_setO' _ _ _ _).block _ (by simp; exact (Array.getElem?_eq_some_iff.1 HB.out.2).1) (by intro e; injection e with e; omega)).trans (((grown_setO' _ _ _ _).block _ (Array.getElem?_eq_some_iff.1 HB.out.2).1 (by intro e; injection e with e; omega)).trans HB.out.2)⟩)
  have HU2 := Lib.hid (Up.of ((HU.out.below.setCell (p := ⟨w.heap.size + 1 + 1, 4, none⟩) (by simp; omega) (.int .u64 (a2 : Int))).setCell (p := ⟨w.heap.size + 1 + 1, 5, none⟩) (by simp; omega) (.int .u64 (n2 : Int))))
  clear hb hb'
  go_wp2_with fail
  obtain ⟨w3, hw⟩ : ∃ x, ((w2.setCell ⟨w.heap.size + 1 + 1, 4, none⟩ (.int .u64 (a2 : Int))).setCell ⟨w.heap.size + 1 + 1, 5, none⟩ (.int .u64 (n2 : Int))) = x := ⟨_, rfl⟩
  rw [hw] at HU2 HB2 ⊢
  clear hw p0 p1 f0 f1 ix HU HB
  rename Hid (Up w w3) => HU
  have HB := HB2
  clear HB2
  rw [rounds_succ]
  have hb := HB.out.1
  have hb' := heap_setCell_same w3 (w.heap.size + 1 + 1) 6 _ _ (.int .u64 (a3 : Int)) hb
  have p0 := blkc hb 6 _ rfl
  have f0 := blkf hb 6
  have p1 := blkc hb' 7 _ rfl
  have f1 := blkf hb' 7
  have ix := len_ix3 n0 n1 n2 n3 w3
  have HB2 := Lib.hid (show ((w3.setCell ⟨w.heap.size + 1 + 1, 6, none⟩ (.int .u64 (a3 : Int))).setCell ⟨w.heap.size + 1 + 1, 7, none⟩ (.int .u64 (n3 : Int))).heap[w.heap.size + 1 + 1]? = some (.cells #[.int .u64 127, .int .u64 (n0 : Int), .int .u64 (a1 : Int), .int .u64 (n1 : Int), .int .u64 (a2 : Int), .int .u64 (n2 : Int), .int .u64 (a3 : Int), .int .u64 (n3 : Int)] 160 (0, 0)) ∧ ((w3.setCell ⟨w.heap.size + 1 + 1, 6, none⟩ (.int .u64 (a3 : Int))).setCell ⟨w.heap.size + 1 + 1, 7, none⟩ (.int .u64 (n3 : Int))).heap[w.heap.size + 1]? = some (.cells #[.int .u64 0, .int .u64 0, .int .u64 0, .int .u64 0, .int .u64 0, .int .u64 0, .int .u64 0, .int .u64 0] 160 (0, 0)) from ⟨heap_setCell_same _ (w.heap.size + 1 + 1) 7 _ _ (.int .u64 (n3 : Int)) hb', ((grown_setO' _ _ _ _).block _ (by simp; exact (Array.getElem?_eq_some_iff.1 HB.out.2).1) (by intro e; injection e with e; omega)).trans (((grown_setO' _ _ _ _).block _ (Array.getElem?_eq_some_iff.1 HB.out.2).1 (by intro e; injection e with e; omega)).trans HB.out.2)⟩)
  have HU2 := Lib.hid (Up.of ((HU.out.below.setCell (p := ⟨w.heap.size + 1 + 1, 6, none⟩) (by simp; omega) (.int .u64 (a3 : Int))).setCell (p := ⟨w.heap.size + 1 + 1, 7, none⟩) (by simp; omega) (.int .u64 (n3 : Int))))
  clear hb hb'
  go_wp2_with fail
  obtain ⟨w4, hw⟩ : ∃ x, ((w3.setCell ⟨w.heap.size + 1 + 1, 6, none⟩ (.int .u64 (a3 : Int))).setCell ⟨w.heap.size + 1 + 1, 7, none⟩ (.int .u64 (n3 : Int))) = x := ⟨_, rfl⟩
  rw [hw] at HU2 HB2 ⊢
  clear hw p0 p1 f0 f1 ix HU HB
  rename Hid (Up w w4) => HU
  have HB := HB2
  clear HB2
  rw [rounds_succ]
  have HTH := Lib.hid (th_blk HB.out.2)
  go_wp2_with (first
    | (refine wpList_load_mid rfl 160 _ rfl (w.heap.size + 1 + 1) 0 rfl [.int .u64 127, .int .u64 (n0 : Int), .int .u64 (a1 : Int), .int .u64 (n1 : Int), .int .u64 (a2 : Int), .int .u64 (n2 : Int), .int .u64 (a3 : Int), .int .u64 (n3 : Int)] _ (rg_blk HB.out.1) Tryz.underlying160 rfl (by kernel_rfl) ?_)
    | (refine wpList_store_mid rfl 160 _ _ rfl (w.heap.size + 1) 0 #[.int .u64 127, .int .u64 (n0 : Int), .int .u64 (a1 : Int), .int .u64 (n1 : Int), .int .u64 (a2 : Int), .int .u64 (n2 : Int), .int .u64 (a3 : Int), .int .u64 (n3 : Int)] rfl rfl HTH.out (by kernel_rfl) (by simp [Value.oneCell']) ?_))
  have hrg := World.rangeAt_setCells_same w4 (w.heap.size + 1) 0 [.int .u64 127, .int .u64 (n0 : Int), .int .u64 (a1 : Int), .int .u64 (n1 : Int), .int .u64 (a2 : Int), .int .u64 (n2 : Int), .int .u64 (a3 : Int), .int .u64 (n3 : Int)] HTH.out
  have k0 := hrg 0 _ rfl
  have k1 := hrg 1 _ rfl
  have k2 := hrg 2 _ rfl
  have k3 := hrg 3 _ rfl
  have k4 := hrg 4 _ rfl
  have k5 := hrg 5 _ rfl
  have k6 := hrg 6 _ rfl
  have k7 := hrg 7 _ rfl
  simp only [Nat.zero_add] at k0 k1 k2 k3 k4 k5 k6 k7
  change bodyPost _ _ _ _ _ _
  refine bodyPost_ret (v := .tuple #[.agg #[.int .u64 127, .int .u64 (n0 : Int), .int .u64 (a1 : Int), .int .u64 (n1 : Int), .int .u64 (a2 : Int), .int .u64 (n2 : Int), .int .u64 (a3 : Int), .int .u64 (n3 : Int)], .int .u64 (a4 : Int), .int .i64 0]) (by simp [results, Tryz.results90, go_sem, k0, k1, k2, k3, k4, k5, k6, k7]) rfl ?_
  exact ⟨rfl, up_setCells _ HU.out (by omega)⟩
theorem results_cell_mid {P : Program} {fn : Func} {p : Tmp} {ty : TypeId} (h : fn.results = #[.cell p ty]) (tmps : Array Value) (w : World) (b : Nat) (cs : List Value) (d : TypeDesc)
    (hp : tmps.getD p undef = .pointer (some ⟨b, 0, none⟩)) (hc : w.rangeAt b 0 cs) (hu : P.underlying ty = some d) (hd : d.isRow = true) (hi : (P.info? ty).map (·.size) = some cs.length) :
    (results fn tmps).run P w = .ok (.agg cs.toArray) w := by
  have hp' : tmps[p]?.getD undef = .pointer (some ⟨b, 0, none⟩) := by simpa using hp
  simp [results, h, hp', asAddr, run_loadVar_mid w b 0 ty cs d hc hu hd hi]
set_option maxHeartbeats 8000000 in
theorem lwith_any (p0 p1 p2 p3 p4 p5 p6 p7 : Nat) (r0 r1 m0 m1 l0 l1 d0 d1 adr ent con : Nat) (clu : Bool) (inn out kind : Nat) (minz maxz minlon minlat maxlon maxlat zoom lon lat : Int) (w : World) :
    Calls Tryz.prog 92 #[.agg #[.int .u64 (p0 : Int), .int .u64 (p1 : Int), .int .u64 (p2 : Int), .int .u64 (p3 : Int), .int .u64 (p4 : Int), .int .u64 (p5 : Int), .int .u64 (p6 : Int), .int .u64 (p7 : Int), .int .u64 (adr : Int), .int .u64 (ent : Int), .int .u64 (con : Int), .bool clu, .int .u8 (inn : Int), .int .u8 (out : Int), .int .u8 (kind : Int), .int .i64 minz, .int .i64 maxz, .int .i64 minlon, .int .i64 minlat, .int .i64 maxlon, .int .i64 maxlat, .int .i64 zoom, .int .i64 lon, .int .i64 lat], .agg #[.int .u64 (r0 : Int), .int .u64 (r1 : Int), .int .u64 (m0 : Int), .int .u64 (m1 : Int), .int .u64 (l0 : Int), .int .u64 (l1 : Int), .int .u64 (d0 : Int), .int .u64 (d1 : Int)]] w fun e w' => e = .returned (.agg #[.int .u64 (r0 : Int), .int .u64 (r1 : Int), .int .u64 (m0 : Int), .int .u64 (m1 : Int), .int .u64 (l0 : Int), .int .u64 (l1 : Int), .int .u64 (d0 : Int), .int .u64 (d1 : Int), .int .u64 (adr : Int), .int .u64 (ent : Int), .int .u64 (con : Int), .bool clu, .int .u8 (inn : Int), .int .u8 (out : Int), .int .u8 (kind : Int), .int .i64 minz, .int .i64 maxz, .int .i64 minlon, .int .i64 minlat, .int .i64 maxlon, .int .i64 maxlat, .int .i64 zoom, .int .i64 lon, .int .i64 lat]) ∧ Up w w' := by
  have hmx : Tryz.prog.follows .mixedOrders = true := mixed
  have b0 := heap_alloc_new w (.cells #[.int .u64 (p0 : Int), .int .u64 (p1 : Int), .int .u64 (p2 : Int), .int .u64 (p3 : Int), .int .u64 (p4 : Int), .int .u64 (p5 : Int), .int .u64 (p6 : Int), .int .u64 (p7 : Int), .int .u64 (adr : Int), .int .u64 (ent : Int), .int .u64 (con : Int), .bool clu, .int .u8 (inn : Int), .int .u8 (out : Int), .int .u8 (kind : Int), .int .i64 minz, .int .i64 maxz, .int .i64 minlon, .int .i64 minlat, .int .i64 maxlon, .int .i64 maxlat, .int .i64 zoom, .int .i64 lon, .int .i64 lat] 83)
  have b1 := heap_alloc_new (w.alloc (.cells #[.int .u64 (p0 : Int), .int .u64 (p1 : Int), .int .u64 (p2 : Int), .int .u64 (p3 : Int), .int .u64 (p4 : Int), .int .u64 (p5 : Int), .int .u64 (p6 : Int), .int .u64 (p7 : Int), .int .u64 (adr : Int), .int .u64 (ent : Int), .int .u64 (con : Int), .bool clu, .int .u8 (inn : Int), .int .u8 (out : Int), .int .u8 (kind : Int), .int .i64 minz, .int .i64 maxz, .int .i64 minlon, .int .i64 minlat, .int .i64 maxlon, .int .i64 maxlat, .int .i64 zoom, .int .i64 lon, .int .i64 lat] 83)) (.cells #[.int .u64 (r0 : Int), .int .u64 (r1 : Int), .int .u64 (m0 : Int), .int .u64 (m1 : Int), .int .u64 (l0 : Int), .int .u64 (l1 : Int), .int .u64 (d0 : Int), .int .u64 (d1 : Int)] 160)
  have b2 := heap_alloc_new ((w.alloc (.cells #[.int .u64 (p0 : Int), .int .u64 (p1 : Int), .int .u64 (p2 : Int), .int .u64 (p3 : Int), .int .u64 (p4 : Int), .int .u64 (p5 : Int), .int .u64 (p6 : Int), .int .u64 (p7 : Int), .int .u64 (adr : Int), .int .u64 (ent : Int), .int .u64 (con : Int), .bool clu, .int .u8 (inn : Int), .int .u8 (out : Int), .int .u8 (kind : Int), .int .i64 minz, .int .i64 maxz, .int .i64 minlon, .int .i64 minlat, .int .i64 maxlon, .int .i64 maxlat, .int .i64 zoom, .int .i64 lon, .int .i64 lat] 83)).alloc (.cells #[.int .u64 (r0 : Int), .int .u64 (r1 : Int), .int .u64 (m0 : Int), .int .u64 (m1 : Int), .int .u64 (l0 : Int), .int .u64 (l1 : Int), .int .u64 (d0 : Int), .int .u64 (d1 : Int)] 160)) (.cells #[.int .u64 0, .int .u64 0, .int .u64 0, .int .u64 0, .int .u64 0, .int .u64 0, .int .u64 0, .int .u64 0, .int .u64 0, .int .u64 0, .int .u64 0, .bool false, .int .u8 0, .int .u8 0, .int .u8 0, .int .i64 0, .int .i64 0, .int .i64 0, .int .i64 0, .int .i64 0, .int .i64 0, .int .i64 0, .int .i64 0, .int .i64 0] 83)
  simp only [World.size_alloc] at b1 b2
  replace b0 := (((Up.refl _).alloc (.cells #[.int .u64 (r0 : Int), .int .u64 (r1 : Int), .int .u64 (m0 : Int), .int .u64 (m1 : Int), .int .u64 (l0 : Int), .int .u64 (l1 : Int), .int .u64 (d0 : Int), .int .u64 (d1 : Int)] 160)).alloc (.cells #[.int .u64 0, .int .u64 0, .int .u64 0, .int .u64 0, .int .u64 0, .int .u64 0, .int .u64 0, .int .u64 0, .int .u64 0, .int .u64 0, .int .u64 0, .bool false, .int .u8 0, .int .u8 0, .int .u8 0, .int .i64 0, .int .i64 0, .int .i64 0, .int .i64 0, .int .i64 0, .int .i64 0, .int .i64 0, .int .i64 0, .int .i64 0] 83)).obj b0
  replace b1 := ((Up.refl _).alloc (.cells #[.int .u64 0, .int .u64 0, .int .u64 0, .int .u64 0, .int .u64 0, .int .u64 0, .int .u64 0, .int .u64 0, .int .u64 0, .int .u64 0, .int .u64 0, .bool false, .int .u8 0, .int .u8 0, .int .u8 0, .int .i64 0, .int .i64 0, .int .i64 0, .int .i64 0, .int .i64 0, .int .i64 0, .int .i64 0, .int .i64 0, .int .i64 0] 83)).obj b1
  have HB0 := Lib.hid (And.intro b0 (And.intro b1 b2))
  have HU := Lib.hid ((((Up.refl w).alloc (.cells #[.int .u64 (p0 : Int), .int .u64 (p1 : Int), .int .u64 (p2 : Int), .int .u64 (p3 : Int), .int .u64 (p4 : Int), .int .u64 (p5 : Int), .int .u64 (p6 : Int), .int .u64 (p7 : Int), .int .u64 (adr : Int), .int .u64 (ent : Int), .int .u64 (con : Int), .bool clu, .int .u8 (inn : Int), .int .u8 (out : Int), .int .u8 (kind : Int), .int .i64 minz, .int .i64 maxz, .int .i64 minlon, .int .i64 minlat, .int .i64 maxlon, .int .i64 maxlat, .int .i64 zoom, .int .i64 lon, .int .i64 lat] 83)).alloc (.cells #[.int .u64 (r0 : Int), .int .u64 (r1 : Int), .int .u64 (m0 : Int), .int .u64 (m1 : Int), .int .u64 (l0 : Int), .int .u64 (l1 : Int), .int .u64 (d0 : Int), .int .u64 (d1 : Int)] 160)).alloc (.cells #[.int .u64 0, .int .u64 0, .int .u64 0, .int .u64 0, .int .u64 0, .int .u64 0, .int .u64 0, .int .u64 0, .int .u64 0, .int .u64 0, .int .u64 0, .bool false, .int .u8 0, .int .u8 0, .int .u8 0, .int .i64 0, .int .i64 0, .int .i64 0, .int .i64 0, .int .i64 0, .int .i64 0, .int .i64 0, .int .i64 0, .int .i64 0] 83))
  clear b0 b1 b2
  have MK := Lib.hid (fun (w' : World) (h : w'.heap[w.heap.size + 1]? = some (.cells #[.int .u64 (r0 : Int), .int .u64 (r1 : Int), .int .u64 (m0 : Int), .int .u64 (m1 : Int), .int .u64 (l0 : Int), .int .u64 (l1 : Int), .int .u64 (d0 : Int), .int .u64 (d1 : Int)] 160 (0, 0))) => (⟨h, blkc h 0 _ rfl, blkc h 1 _ rfl, blkc h 2 _ rfl, blkc h 3 _ rfl, blkc h 4 _ rfl, blkc h 5 _ rfl, blkc h 6 _ rfl, blkc h 7 _ rfl⟩ : w'.heap[w.heap.size + 1]? = some (.cells #[.int .u64 (r0 : Int), .int .u64 (r1 : Int), .int .u64 (m0 : Int), .int .u64 (m1 : Int), .int .u64 (l0 : Int), .int .u64 (l1 : Int), .int .u64 (d0 : Int), .int .u64 (d1 : Int)] 160 (0, 0)) ∧ w'.cell? ⟨(w.heap.size + 1), 0, none⟩ = some (.int .u64 (r0 : Int)) ∧ w'.cell? ⟨(w.heap.size + 1), 1, none⟩ = some (.int .u64 (r1 : Int)) ∧ w'.cell? ⟨(w.heap.size + 1), 2, none⟩ = some (.int .u64 (m0 : Int)) ∧ w'.cell? ⟨(w.heap.size + 1), 3, none⟩ = some (.int .u64 (m1 : Int)) ∧ w'.cell? ⟨(w.heap.size + 1), 4, none⟩ = some (.int .u64 (l0 : Int)) ∧ w'.cell? ⟨(w.heap.size + 1), 5, none⟩ = some (.int .u64 (l1 : Int)) ∧ w'.cell? ⟨(w.heap.size + 1), 6, none⟩ = some (.int .u64 (d0 : Int)) ∧ w'.cell? ⟨(w.heap.size + 1), 7, none⟩ = some (.int .u64 (d1 : Int))))
  go_enter Tryz.func92, Tryz.ntmps92
  go_wp2_with fail
  obtain ⟨W, hW⟩ : ∃ x, (((w.alloc (.cells #[.int .u64 (p0 : Int), .int .u64 (p1 : Int), .int .u64 (p2 : Int), .int .u64 (p3 : Int), .int .u64 (p4 : Int), .int .u64 (p5 : Int), .int .u64 (p6 : Int), .int .u64 (p7 : Int), .int .u64 (adr : Int), .int .u64 (ent : Int), .int .u64 (con : Int), .bool clu, .int .u8 (inn : Int), .int .u8 (out : Int), .int .u8 (kind : Int), .int .i64 minz, .int .i64 maxz, .int .i64 minlon, .int .i64 minlat, .int .i64 maxlon, .int .i64 maxlat, .int .i64 zoom, .int .i64 lon, .int .i64 lat] 83)).alloc (.cells #[.int .u64 (r0 : Int), .int .u64 (r1 : Int), .int .u64 (m0 : Int), .int .u64 (m1 : Int), .int .u64 (l0 : Int), .int .u64 (l1 : Int), .int .u64 (d0 : Int), .int .u64 (d1 : Int)] 160)).alloc (.cells #[.int .u64 0, .int .u64 0, .int .u64 0, .int .u64 0, .int .u64 0, .int .u64 0, .int .u64 0, .int .u64 0, .int .u64 0, .int .u64 0, .int .u64 0, .bool false, .int .u8 0, .int .u8 0, .int .u8 0, .int .i64 0, .int .i64 0, .int .i64 0, .int .i64 0, .int .i64 0, .int .i64 0, .int .i64 0, .int .i64 0, .int .i64 0] 83)) = x := ⟨_, rfl⟩
  rw [hW] at HB0 HU ⊢
  clear hW
  refine wp_region_held_drew (S := fun w' => w'.heap[w.heap.size + 1]? = some (.cells #[.int .u64 (r0 : Int), .int .u64 (r1 : Int), .int .u64 (m0 : Int), .int .u64 (m1 : Int), .int .u64 (l0 : Int), .int .u64 (l1 : Int), .int .u64 (d0 : Int), .int .u64 (d1 : Int)] 160 (0, 0)) ∧ w'.cell? ⟨(w.heap.size + 1), 0, none⟩ = some (.int .u64 (r0 : Int)) ∧ w'.cell? ⟨(w.heap.size + 1), 1, none⟩ = some (.int .u64 (r1 : Int)) ∧ w'.cell? ⟨(w.heap.size + 1), 2, none⟩ = some (.int .u64 (m0 : Int)) ∧ w'.cell? ⟨(w.heap.size + 1), 3, none⟩ = some (.int .u64 (m1 : Int)) ∧ w'.cell? ⟨(w.heap.size + 1), 4, none⟩ = some (.int .u64 (l0 : Int)) ∧ w'.cell? ⟨(w.heap.size + 1), 5, none⟩ = some (.int .u64 (l1 : Int)) ∧ w'.cell? ⟨(w.heap.size + 1), 6, none⟩ = some (.int .u64 (d0 : Int)) ∧ w'.cell? ⟨(w.heap.size + 1), 7, none⟩ = some (.int .u64 (d1 : Int))) (by kernel_rfl) ?_ (fun hHeld => ?_)
  · exact MK.out _ HB0.out.2.1
  have HB := Lib.hid (show W.drew.heap[w.heap.size]? = some (.cells #[.int .u64 (p0 : Int), .int .u64 (p1 : Int), .int .u64 (p2 : Int), .int .u64 (p3 : Int), .int .u64 (p4 : Int), .int .u64 (p5 : Int), .int .u64 (p6 : Int), .int .u64 (p7 : Int), .int .u64 (adr : Int), .int .u64 (ent : Int), .int .u64 (con : Int), .bool clu, .int .u8 (inn : Int), .int .u8 (out : Int), .int .u8 (kind : Int), .int .i64 minz, .int .i64 maxz, .int .i64 minlon, .int .i64 minlat, .int .i64 maxlon, .int .i64 maxlat, .int .i64 zoom, .int .i64 lon, .int .i64 lat] 83 (0, 0)) ∧ W.drew.heap[w.heap.size + 1]? = some (.cells #[.int .u64 (r0 : Int), .int .u64 (r1 : Int), .int .u64 (m0 : Int), .int .u64 (m1 : Int), .int .u64 (l0 : Int), .int .u64 (l1 : Int), .int .u64 (d0 : Int), .int .u64 (d1 : Int)] 160 (0, 0)) ∧ W.drew.heap[w.heap.size + 1 + 1]? = some (.cells #[.int .u64 0, .int .u64 0, .int .u64 0, .int .u64 0, .int .u64 0, .int .u64 0, .int .u64 0, .int .u64 0, .int .u64 0, .int .u64 0, .int .u64 0, .bool false, .int .u8 0, .int .u8 0, .int .u8 0, .int .i64 0, .int .i64 0, .int .i64 0, .int .i64 0, .int .i64 0, .int .i64 0, .int .i64 0, .int .i64 0, .int .i64 0] 83 (0, 0)) from HB0.out)
  have HUD := Lib.hid (HU.out.trans (Up.refl W).drew)
  clear HB0 HU
  generalize W.drew = X at *
  refine tk 0 rfl ?_
  (try simp only [Act.put, tz1, tz2, tz3])
  refine tk 1 rfl ?_
  (try simp only [Act.put, tz1, tz2, tz3])
  refine tk 2 rfl ?_
  (try simp only [Act.put, tz1, tz2, tz3])
  refine tk 3 rfl ?_
  (try simp only [Act.put, tz1, tz2, tz3])
  refine tk 4 rfl ?_
  (try simp only [Act.put, tz1, tz2, tz3])
  refine tk 5 rfl ?_
  (try simp only [Act.put, tz1, tz2, tz3])
  refine tk 6 rfl ?_
  (try simp only [Act.put, tz1, tz2, tz3])
  refine tk 7 rfl ?_
  (try simp only [Act.put, tz1, tz2, tz3])
  refine tk 8 rfl ?_
  (try simp only [Act.put, tz1, tz2, tz3])
  have hb := HB.out.1
  have hb' := heap_setCell_same X (w.heap.size) 0 _ _ (.int .u64 (r0 : Int)) hb
  have p0' := blkc hb 0 _ rfl
  have f0 := blkf hb 0
  have p1' := blkc hb' 1 _ rfl
  have f1 := blkf hb' 1
  have hoth : ∀ j, j ≠ w.heap.size → j < X.heap.size → ((X.setCell ⟨w.heap.size, 0, none⟩ (.int .u64 (r0 : Int))).setCell ⟨w.heap.size, 1, none⟩ (.int .u64 (r1 : Int))).heap[j]? = X.heap[j]? := fun j hj hl => ((grown_setO' _ _ _ _).block _ (by simp; exact hl) (by intro e; injection e with e; exact hj e)).trans ((grown_setO' _ _ _ _).block _ hl (by intro e; injection e with e; exact hj e))
  have HB2 := Lib.hid (show ((X.setCell ⟨w.heap.size, 0, none⟩ (.int .u64 (r0 : Int))).setCell ⟨w.heap.size, 1, none⟩ (.int .u64 (r1 : Int))).heap[w.heap.size]? = some (.cells #[.int .u64 (r0 : Int), .int .u64 (r1 : Int), .int .u64 (p2 : Int), .int .u64 (p3 : Int), .int .u64 (p4 : Int), .int .u64 (p5 : Int), .int .u64 (p6 : Int), .int .u64 (p7 : Int), .int .u64 (adr : Int), .int .u64 (ent : Int), .int .u64 (con : Int), .bool clu, .int .u8 (inn : Int), .int .u8 (out : Int), .int .u8 (kind : Int), .int .i64 minz, .int .i64 maxz, .int .i64 minlon, .int .i64 minlat, .int .i64 maxlon, .int .i64 maxlat, .int .i64 zoom, .int .i64 lon, .int .i64 lat] 83 (0, 0)) ∧ ((X.setCell ⟨w.heap.size, 0, none⟩ (.int .u64 (r0 : Int))).setCell ⟨w.heap.size, 1, none⟩ (.int .u64 (r1 : Int))).heap[w.heap.size + 1]? = some (.cells #[.int .u64 (r0 : Int), .int .u64 (r1 : Int), .int .u64 (m0 : Int), .int .u64 (m1 : Int), .int .u64 (l0 : Int), .int .u64 (l1 : Int), .int .u64 (d0 : Int), .int .u64 (d1 : Int)] 160 (0, 0)) ∧ ((X.setCell ⟨w.heap.size, 0, none⟩ (.int .u64 (r0 : Int))).setCell ⟨w.heap.size, 1, none⟩ (.int .u64 (r1 : Int))).heap[w.heap.size + 1 + 1]? = some (.cells #[.int .u64 0, .int .u64 0, .int .u64 0, .int .u64 0, .int .u64 0, .int .u64 0, .int .u64 0, .int .u64 0, .int .u64 0, .int .u64 0, .int .u64 0, .bool false, .int .u8 0, .int .u8 0, .int .u8 0, .int .i64 0, .int .i64 0, .int .i64 0, .int .i64 0, .int .i64 0, .int .i64 0, .int .i64 0, .int .i64 0, .int .i64 0] 83 (0, 0)) from ⟨heap_setCell_same _ (w.heap.size) 1 _ _ (.int .u64 (r1 : Int)) hb', (hoth _ (by omega) (Array.getElem?_eq_some_iff.1 HB.out.2.1).1).trans HB.out.2.1, (hoth _ (by omega) (Array.getElem?_eq_some_iff.1 HB.out.2.2).1).trans HB.out.2.2⟩)
  have HUD2 := Lib.hid (Up.of ((HUD.out.below.setCell (p := ⟨w.heap.size, 0, none⟩) (by simp) (.int .u64 (r0 : Int))).setCell (p := ⟨w.heap.size, 1, none⟩) (by simp) (.int .u64 (r1 : Int))))
  clear hb hb' hoth
  refine rd1 9 rfl (fun K hK => ?_)
  clear hHeld
  go_simp
  refine hK.out _ _ (MK.out _ HB2.out.2.1) (fun hHeld => ?_)
  clear hK K p0' f0 p1' f1 HB HUD
  obtain ⟨X2, hX⟩ : ∃ x, ((X.setCell ⟨w.heap.size, 0, none⟩ (.int .u64 (r0 : Int))).setCell ⟨w.heap.size, 1, none⟩ (.int .u64 (r1 : Int))) = x := ⟨_, rfl⟩
  rw [hX] at HB2 HUD2 hHeld ⊢
  clear hX X
  have HB := HB2
  have HUD := HUD2
  clear HB2 HUD2
  rename World => X
  (try simp only [Act.put, tz1, tz2, tz3])
  refine tk 10 rfl ?_
  (try simp only [Act.put, tz1, tz2, tz3])
  have hb := HB.out.1
  have hb' := heap_setCell_same X (w.heap.size) 2 _ _ (.int .u64 (m0 : Int)) hb
  have p0' := blkc hb 2 _ rfl
  have f0 := blkf hb 2
  have p1' := blkc hb' 3 _ rfl
  have f1 := blkf hb' 3
  have hoth : ∀ j, j ≠ w.heap.size → j < X.heap.size → ((X.setCell ⟨w.heap.size, 2, none⟩ (.int .u64 (m0 : Int))).setCell ⟨w.heap.size, 3, none⟩ (.int .u64 (m1 : Int))).heap[j]? = X.heap[j]? := fun j hj hl => ((grown_setO' _ _ _ _).block _ (by simp; exact hl) (by intro e; injection e with e; exact hj e)).trans ((grown_setO' _ _ _ _).block _ hl (by intro e; injection e with e; exact hj e))
  have HB2 := Lib.hid (show ((X.setCell ⟨w.heap.size, 2, none⟩ (.int .u64 (m0 : Int))).setCell ⟨w.heap.size, 3, none⟩ (.int .u64 (m1 : Int))).heap[w.heap.size]? = some (.cells #[.int .u64 (r0 : Int), .int .u64 (r1 : Int), .int .u64 (m0 : Int), .int .u64 (m1 : Int), .int .u64 (p4 : Int), .int .u64 (p5 : Int), .int .u64 (p6 : Int), .int .u64 (p7 : Int), .int .u64 (adr : Int), .int .u64 (ent : Int), .int .u64 (con : Int), .bool clu, .int .u8 (inn : Int), .int .u8 (out : Int), .int .u8 (kind : Int), .int .i64 minz, .int .i64 maxz, .int .i64 minlon, .int .i64 minlat, .int .i64 maxlon, .int .i64 maxlat, .int .i64 zoom, .int .i64 lon, .int .i64 lat] 83 (0, 0)) ∧ ((X.setCell ⟨w.heap.size, 2, none⟩ (.int .u64 (m0 : Int))).setCell ⟨w.heap.size, 3, none⟩ (.int .u64 (m1 : Int))).heap[w.heap.size + 1]? = some (.cells #[.int .u64 (r0 : Int), .int .u64 (r1 : Int), .int .u64 (m0 : Int), .int .u64 (m1 : Int), .int .u64 (l0 : Int), .int .u64 (l1 : Int), .int .u64 (d0 : Int), .int .u64 (d1 : Int)] 160 (0, 0)) ∧ ((X.setCell ⟨w.heap.size, 2, none⟩ (.int .u64 (m0 : Int))).setCell ⟨w.heap.size, 3, none⟩ (.int .u64 (m1 : Int))).heap[w.heap.size + 1 + 1]? = some (.cells #[.int .u64 0, .int .u64 0, .int .u64 0, .int .u64 0, .int .u64 0, .int .u64 0, .int .u64 0, .int .u64 0, .int .u64 0, .int .u64 0, .int .u64 0, .bool false, .int .u8 0, .int .u8 0, .int .u8 0, .int .i64 0, .int .i64 0, .int .i64 0, .int .i64 0, .int .i64 0, .int .i64 0, .int .i64 0, .int .i64 0, .int .i64 0] 83 (0, 0)) from ⟨heap_setCell_same _ (w.heap.size) 3 _ _ (.int .u64 (m1 : Int)) hb', (hoth _ (by omega) (Array.getElem?_eq_some_iff.1 HB.out.2.1).1).trans HB.out.2.1, (hoth _ (by omega) (Array.getElem?_eq_some_iff.1 HB.out.2.2).1).trans HB.out.2.2⟩)
  have HUD2 := Lib.hid (Up.of ((HUD.out.below.setCell (p := ⟨w.heap.size, 2, none⟩) (by simp) (.int .u64 (m0 : Int))).setCell (p := ⟨w.heap.size, 3, none⟩) (by simp) (.int .u64 (m1 : Int))))
  clear hb hb' hoth
  refine rd1 11 rfl (fun K hK => ?_)
  clear hHeld
  go_simp
  refine hK.out _ _ (MK.out _ HB2.out.2.1) (fun hHeld => ?_)
  clear hK K p0' f0 p1' f1 HB HUD
  obtain ⟨X2, hX⟩ : ∃ x, ((X.setCell ⟨w.heap.size, 2, none⟩ (.int .u64 (m0 : Int))).setCell ⟨w.heap.size, 3, none⟩ (.int .u64 (m1 : Int))) = x := ⟨_, rfl⟩
  rw [hX] at HB2 HUD2 hHeld ⊢
  clear hX X
  have HB := HB2
  have HUD := HUD2
  clear HB2 HUD2
  rename World => X
  (try simp only [Act.put, tz1, tz2, tz3])
  refine tk 12 rfl ?_
  (try simp only [Act.put, tz1, tz2, tz3])
  have hb := HB.out.1
  have hb' := heap_setCell_same X (w.heap.size) 4 _ _ (.int .u64 (l0 : Int)) hb
  have p0' := blkc hb 4 _ rfl
  have f0 := blkf hb 4
  have p1' := blkc hb' 5 _ rfl
  have f1 := blkf hb' 5
  have hoth : ∀ j, j ≠ w.heap.size → j < X.heap.size → ((X.setCell ⟨w.heap.size, 4, none⟩ (.int .u64 (l0 : Int))).setCell ⟨w.heap.size, 5, none⟩ (.int .u64 (l1 : Int))).heap[j]? = X.heap[j]? := fun j hj hl => ((grown_setO' _ _ _ _).block _ (by simp; exact hl) (by intro e; injection e with e; exact hj e)).trans ((grown_setO' _ _ _ _).block _ hl (by intro e; injection e with e; exact hj e))
  have HB2 := Lib.hid (show ((X.setCell ⟨w.heap.size, 4, none⟩ (.int .u64 (l0 : Int))).setCell ⟨w.heap.size, 5, none⟩ (.int .u64 (l1 : Int))).heap[w.heap.size]? = some (.cells #[.int .u64 (r0 : Int), .int .u64 (r1 : Int), .int .u64 (m0 : Int), .int .u64 (m1 : Int), .int .u64 (l0 : Int), .int .u64 (l1 : Int), .int .u64 (p6 : Int), .int .u64 (p7 : Int), .int .u64 (adr : Int), .int .u64 (ent : Int), .int .u64 (con : Int), .bool clu, .int .u8 (inn : Int), .int .u8 (out : Int), .int .u8 (kind : Int), .int .i64 minz, .int .i64 maxz, .int .i64 minlon, .int .i64 minlat, .int .i64 maxlon, .int .i64 maxlat, .int .i64 zoom, .int .i64 lon, .int .i64 lat] 83 (0, 0)) ∧ ((X.setCell ⟨w.heap.size, 4, none⟩ (.int .u64 (l0 : Int))).setCell ⟨w.heap.size, 5, none⟩ (.int .u64 (l1 : Int))).heap[w.heap.size + 1]? = some (.cells #[.int .u64 (r0 : Int), .int .u64 (r1 : Int), .int .u64 (m0 : Int), .int .u64 (m1 : Int), .int .u64 (l0 : Int), .int .u64 (l1 : Int), .int .u64 (d0 : Int), .int .u64 (d1 : Int)] 160 (0, 0)) ∧ ((X.setCell ⟨w.heap.size, 4, none⟩ (.int .u64 (l0 : Int))).setCell ⟨w.heap.size, 5, none⟩ (.int .u64 (l1 : Int))).heap[w.heap.size + 1 + 1]? = some (.cells #[.int .u64 0, .int .u64 0, .int .u64 0, .int .u64 0, .int .u64 0, .int .u64 0, .int .u64 0, .int .u64 0, .int .u64 0, .int .u64 0, .int .u64 0, .bool false, .int .u8 0, .int .u8 0, .int .u8 0, .int .i64 0, .int .i64 0, .int .i64 0, .int .i64 0, .int .i64 0, .int .i64 0, .int .i64 0, .int .i64 0, .int .i64 0] 83 (0, 0)) from ⟨heap_setCell_same _ (w.heap.size) 5 _ _ (.int .u64 (l1 : Int)) hb', (hoth _ (by omega) (Array.getElem?_eq_some_iff.1 HB.out.2.1).1).trans HB.out.2.1, (hoth _ (by omega) (Array.getElem?_eq_some_iff.1 HB.out.2.2).1).trans HB.out.2.2⟩)
  have HUD2 := Lib.hid (Up.of ((HUD.out.below.setCell (p := ⟨w.heap.size, 4, none⟩) (by simp) (.int .u64 (l0 : Int))).setCell (p := ⟨w.heap.size, 5, none⟩) (by simp) (.int .u64 (l1 : Int))))
  clear hb hb' hoth
  refine rd1 13 rfl (fun K hK => ?_)
  clear hHeld
  go_simp
  refine hK.out _ _ (MK.out _ HB2.out.2.1) (fun hHeld => ?_)
  clear hK K p0' f0 p1' f1 HB HUD
  obtain ⟨X2, hX⟩ : ∃ x, ((X.setCell ⟨w.heap.size, 4, none⟩ (.int .u64 (l0 : Int))).setCell ⟨w.heap.size, 5, none⟩ (.int .u64 (l1 : Int))) = x := ⟨_, rfl⟩
  rw [hX] at HB2 HUD2 hHeld ⊢
  clear hX X
  have HB := HB2
  have HUD := HUD2
  clear HB2 HUD2
  rename World => X
  (try simp only [Act.put, tz1, tz2, tz3])
  refine tk 14 rfl ?_
  (try simp only [Act.put, tz1, tz2, tz3])
  have hb := HB.out.1
  have hb' := heap_setCell_same X (w.heap.size) 6 _ _ (.int .u64 (d0 : Int)) hb
  have p0' := blkc hb 6 _ rfl
  have f0 := blkf hb 6
  have p1' := blkc hb' 7 _ rfl
  have f1 := blkf hb' 7
  have hoth : ∀ j, j ≠ w.heap.size → j < X.heap.size → ((X.setCell ⟨w.heap.size, 6, none⟩ (.int .u64 (d0 : Int))).setCell ⟨w.heap.size, 7, none⟩ (.int .u64 (d1 : Int))).heap[j]? = X.heap[j]? := fun j hj hl => ((grown_setO' _ _ _ _).block _ (by simp; exact hl) (by intro e; injection e with e; exact hj e)).trans ((grown_setO' _ _ _ _).block _ hl (by intro e; injection e with e; exact hj e))
  have HB2 := Lib.hid (show ((X.setCell ⟨w.heap.size, 6, none⟩ (.int .u64 (d0 : Int))).setCell ⟨w.heap.size, 7, none⟩ (.int .u64 (d1 : Int))).heap[w.heap.size]? = some (.cells #[.int .u64 (r0 : Int), .int .u64 (r1 : Int), .int .u64 (m0 : Int), .int .u64 (m1 : Int), .int .u64 (l0 : Int), .int .u64 (l1 : Int), .int .u64 (d0 : Int), .int .u64 (d1 : Int), .int .u64 (adr : Int), .int .u64 (ent : Int), .int .u64 (con : Int), .bool clu, .int .u8 (inn : Int), .int .u8 (out : Int), .int .u8 (kind : Int), .int .i64 minz, .int .i64 maxz, .int .i64 minlon, .int .i64 minlat, .int .i64 maxlon, .int .i64 maxlat, .int .i64 zoom, .int .i64 lon, .int .i64 lat] 83 (0, 0)) ∧ ((X.setCell ⟨w.heap.size, 6, none⟩ (.int .u64 (d0 : Int))).setCell ⟨w.heap.size, 7, none⟩ (.int .u64 (d1 : Int))).heap[w.heap.size + 1]? = some (.cells #[.int .u64 (r0 : Int), .int .u64 (r1 : Int), .int .u64 (m0 : Int), .int .u64 (m1 : Int), .int .u64 (l0 : Int), .int .u64 (l1 : Int), .int .u64 (d0 : Int), .int .u64 (d1 : Int)] 160 (0, 0)) ∧ ((X.setCell ⟨w.heap.size, 6, none⟩ (.int .u64 (d0 : Int))).setCell ⟨w.heap.size, 7, none⟩ (.int .u64 (d1 : Int))).heap[w.heap.size + 1 + 1]? = some (.cells #[.int .u64 0, .int .u64 0, .int .u64 0, .int .u64 0, .int .u64 0, .int .u64 0, .int .u64 0, .int .u64 0, .int .u64 0, .int .u64 0, .int .u64 0, .bool false, .int .u8 0, .int .u8 0, .int .u8 0, .int .i64 0, .int .i64 0, .int .i64 0, .int .i64 0, .int .i64 0, .int .i64 0, .int .i64 0, .int .i64 0, .int .i64 0] 83 (0, 0)) from ⟨heap_setCell_same _ (w.heap.size) 7 _ _ (.int .u64 (d1 : Int)) hb', (hoth _ (by omega) (Array.getElem?_eq_some_iff.1 HB.out.2.1).1).trans HB.out.2.1, (hoth _ (by omega) (Array.getElem?_eq_some_iff.1 HB.out.2.2).1).trans HB.out.2.2⟩)
  have HUD2 := Lib.hid (Up.of ((HUD.out.below.setCell (p := ⟨w.heap.size, 6, none⟩) (by simp) (.int .u64 (d0 : Int))).setCell (p := ⟨w.heap.size, 7, none⟩) (by simp) (.int .u64 (d1 : Int))))
  clear hb hb' hoth
  refine rd1 15 rfl (fun K hK => ?_)
  clear hHeld
  go_simp
  refine hK.out _ _ (MK.out _ HB2.out.2.1) (fun hHeld => ?_)
  clear hK K p0' f0 p1' f1 HB HUD
  obtain ⟨X2, hX⟩ : ∃ x, ((X.setCell ⟨w.heap.size, 6, none⟩ (.int .u64 (d0 : Int))).setCell ⟨w.heap.size, 7, none⟩ (.int .u64 (d1 : Int))) = x := ⟨_, rfl⟩
  rw [hX] at HB2 HUD2 hHeld ⊢
  clear hX X
  have HB := HB2
  have HUD := HUD2
  clear HB2 HUD2
  rename World => X
  (try simp only [Act.put, tz1, tz2, tz3])
  refine wpAnyH_done (by kernel_rfl) ?_ _
  clear hHeld
  have HTH := Lib.hid (th_blk HB.out.2.2)
  go_wp2_with (first
    | (refine wpList_load_mid rfl 83 _ rfl (w.heap.size) 0 rfl [.int .u64 (r0 : Int), .int .u64 (r1 : Int), .int .u64 (m0 : Int), .int .u64 (m1 : Int), .int .u64 (l0 : Int), .int .u64 (l1 : Int), .int .u64 (d0 : Int), .int .u64 (d1 : Int), .int .u64 (adr : Int), .int .u64 (ent : Int), .int .u64 (con : Int), .bool clu, .int .u8 (inn : Int), .int .u8 (out : Int), .int .u8 (kind : Int), .int .i64 minz, .int .i64 maxz, .int .i64 minlon, .int .i64 minlat, .int .i64 maxlon, .int .i64 maxlat, .int .i64 zoom, .int .i64 lon, .int .i64 lat] _ (rg_blk HB.out.1) Tryz.underlying83 rfl (by kernel_rfl) ?_)
    | (refine wpList_store_mid rfl 83 _ _ rfl (w.heap.size + 1 + 1) 0 #[.int .u64 (r0 : Int), .int .u64 (r1 : Int), .int .u64 (m0 : Int), .int .u64 (m1 : Int), .int .u64 (l0 : Int), .int .u64 (l1 : Int), .int .u64 (d0 : Int), .int .u64 (d1 : Int), .int .u64 (adr : Int), .int .u64 (ent : Int), .int .u64 (con : Int), .bool clu, .int .u8 (inn : Int), .int .u8 (out : Int), .int .u8 (kind : Int), .int .i64 minz, .int .i64 maxz, .int .i64 minlon, .int .i64 minlat, .int .i64 maxlon, .int .i64 maxlat, .int .i64 zoom, .int .i64 lon, .int .i64 lat] rfl rfl HTH.out (by kernel_rfl) (by simp [Value.oneCell']) ?_))
  exact ⟨rfl, _, results_cell_mid rfl _ _ (w.heap.size + 1 + 1) [.int .u64 (r0 : Int), .int .u64 (r1 : Int), .int .u64 (m0 : Int), .int .u64 (m1 : Int), .int .u64 (l0 : Int), .int .u64 (l1 : Int), .int .u64 (d0 : Int), .int .u64 (d1 : Int), .int .u64 (adr : Int), .int .u64 (ent : Int), .int .u64 (con : Int), .bool clu, .int .u8 (inn : Int), .int .u8 (out : Int), .int .u8 (kind : Int), .int .i64 minz, .int .i64 maxz, .int .i64 minlon, .int .i64 minlat, .int .i64 maxlon, .int .i64 maxlat, .int .i64 zoom, .int .i64 lon, .int .i64 lat] _ rfl (World.rangeAt_setCells_same X (w.heap.size + 1 + 1) 0 [.int .u64 (r0 : Int), .int .u64 (r1 : Int), .int .u64 (m0 : Int), .int .u64 (m1 : Int), .int .u64 (l0 : Int), .int .u64 (l1 : Int), .int .u64 (d0 : Int), .int .u64 (d1 : Int), .int .u64 (adr : Int), .int .u64 (ent : Int), .int .u64 (con : Int), .bool clu, .int .u8 (inn : Int), .int .u8 (out : Int), .int .u8 (kind : Int), .int .i64 minz, .int .i64 maxz, .int .i64 minlon, .int .i64 minlat, .int .i64 maxlon, .int .i64 maxlat, .int .i64 zoom, .int .i64 lon, .int .i64 lat] HTH.out) Tryz.underlying83 rfl (by kernel_rfl), rfl, up_setCells _ HUD.out (by omega)⟩
theorem str_ix0 (a b c d : ByteArray) (w : World) : (Instr.index 99 (.agg #[.string a, .string b, .string c, .string d]) (.int .i64 0)).run Tryz.prog w = .ok (.string a) w := by kernel_rfl
theorem str_ix1 (a b c d : ByteArray) (w : World) : (Instr.index 99 (.agg #[.string a, .string b, .string c, .string d]) (.int .i64 1)).run Tryz.prog w = .ok (.string b) w := by kernel_rfl
theorem str_ix2 (a b c d : ByteArray) (w : World) : (Instr.index 99 (.agg #[.string a, .string b, .string c, .string d]) (.int .i64 2)).run Tryz.prog w = .ok (.string c) w := by kernel_rfl
theorem str_ix3 (a b c d : ByteArray) (w : World) : (Instr.index 99 (.agg #[.string a, .string b, .string c, .string d]) (.int .i64 3)).run Tryz.prog w = .ok (.string d) w := by kernel_rfl
set_option maxHeartbeats 16000000 in
theorem lglue_any (p0 p1 p2 p3 p4 p5 p6 p7 : Nat) (adr ent con : Nat) (clu : Bool) (inn out kind : Nat) (minz maxz minlon minlat maxlon maxlat zoom lon lat : Int) (a b c d : Bs) (hl : 127 + a.length + b.length + c.length + d.length ≤ 1099511627776) (hE : hdrE (withH ⟨p0, p1, p2, p3, p4, p5, p6, p7, adr, ent, con, clu, inn, out, kind, minz, maxz, minlon, minlat, maxlon, maxlat, zoom, lon, lat⟩ a.length b.length c.length d.length) = 0) (ok : adr < 18446744073709551616 ∧ ent < 18446744073709551616 ∧ con < 18446744073709551616) (w : World) :
    Calls Tryz.prog 39 #[.agg #[.int .u64 (p0 : Int), .int .u64 (p1 : Int), .int .u64 (p2 : Int), .int .u64 (p3 : Int), .int .u64 (p4 : Int), .int .u64 (p5 : Int), .int .u64 (p6 : Int), .int .u64 (p7 : Int), .int .u64 (adr : Int), .int .u64 (ent : Int), .int .u64 (con : Int), .bool clu, .int .u8 (inn : Int), .int .u8 (out : Int), .int .u8 (kind : Int), .int .i64 minz, .int .i64 maxz, .int .i64 minlon, .int .i64 minlat, .int .i64 maxlon, .int .i64 maxlat, .int .i64 zoom, .int .i64 lon, .int .i64 lat], .agg #[.string ⟨a.toArray⟩, .string ⟨b.toArray⟩, .string ⟨c.toArray⟩, .string ⟨d.toArray⟩]] w fun e w' => e = .returned (.tuple #[.string ⟨(hdrB (withH ⟨p0, p1, p2, p3, p4, p5, p6, p7, adr, ent, con, clu, inn, out, kind, minz, maxz, minlon, minlat, maxlon, maxlat, zoom, lon, lat⟩ a.length b.length c.length d.length) ++ (a ++ (b ++ (c ++ d)))).toArray⟩, .int .i64 0]) ∧ Up w w' := by
  have EN := fun w => Lib.hid (henc_any (withH ⟨p0, p1, p2, p3, p4, p5, p6, p7, adr, ent, con, clu, inn, out, kind, minz, maxz, minlon, minlat, maxlon, maxlat, zoom, lon, lat⟩ a.length b.length c.length d.length) hE ⟨ok.1, ok.2.1, ok.2.2⟩ w)
  have hbl := hdrB_len (withH ⟨p0, p1, p2, p3, p4, p5, p6, p7, adr, ent, con, clu, inn, out, kind, minz, maxz, minlon, minlat, maxlon, maxlat, zoom, lon, lat⟩ a.length b.length c.length d.length)
  generalize hdrB (withH ⟨p0, p1, p2, p3, p4, p5, p6, p7, adr, ent, con, clu, inn, out, kind, minz, maxz, minlon, minlat, maxlon, maxlat, zoom, lon, lat⟩ a.length b.length c.length d.length) = hd at *
  simp only [withH, hdrV] at EN
  have JN : ∀ (bk : Nat) (w : World), w.rangeAt bk 0 [.string ⟨a.toArray⟩, .string ⟨b.toArray⟩, .string ⟨c.toArray⟩, .string ⟨d.toArray⟩] → bk < w.heap.size → Hid (Calls Tryz.prog 93 #[.slice (some ⟨bk, 0, none⟩) 4 4, .string ⟨#[]⟩] w fun e w' => e = .returned (.string ⟨(a ++ (b ++ (c ++ d))).toArray⟩) ∧ Up w w') := fun bk w hrg hb => by
    have h := Tryz.strings_Join bk 0 4 [⟨a.toArray⟩, ⟨b.toArray⟩, ⟨c.toArray⟩, ⟨d.toArray⟩] ⟨#[]⟩ w (fun j x hj => hrg j (.string x) (by rw [show ([.string ⟨a.toArray⟩, .string ⟨b.toArray⟩, .string ⟨c.toArray⟩, .string ⟨d.toArray⟩] : List Value) = ([⟨a.toArray⟩, ⟨b.toArray⟩, ⟨c.toArray⟩, ⟨d.toArray⟩] : List ByteArray).map Value.string from rfl, List.getElem?_map, hj]; rfl)) hb (by simp) (by simp) (by simp [Lib.join]; omega)
    rw [show Lib.join (([⟨a.toArray⟩, ⟨b.toArray⟩, ⟨c.toArray⟩, ⟨d.toArray⟩] : List ByteArray).map (·.data.toList)) (⟨#[]⟩ : ByteArray).data.toList = a ++ (b ++ (c ++ d)) by simp [Lib.join, List.intercalate, List.intersperse]] at h
    exact Lib.hid h
  have LS := fun w => Lib.hid (lsect_any a.length b.length c.length d.length hl w)
  have LW := fun w => Lib.hid (lwith_any p0 p1 p2 p3 p4 p5 p6 p7 127 a.length (127 + a.length) b.length (127 + a.length + b.length) c.length (127 + a.length + b.length + c.length) d.length adr ent con clu inn out kind minz maxz minlon minlat maxlon maxlat zoom lon lat w)
  have hJ0 : ¬ (9223372036854775807 < 127 + (a.length + (b.length + (c.length + d.length)))) := by omega
  have e_a : IntKind.u64.wrap ((a.length : Nat) : Int) = ((a.length : Nat) : Int) := IntWalk.u64_in _ (by omega)
  have e_b : IntKind.u64.wrap ((b.length : Nat) : Int) = ((b.length : Nat) : Int) := IntWalk.u64_in _ (by omega)
  have e_c : IntKind.u64.wrap ((c.length : Nat) : Int) = ((c.length : Nat) : Int) := IntWalk.u64_in _ (by omega)
  have e_d : IntKind.u64.wrap ((d.length : Nat) : Int) = ((d.length : Nat) : Int) := IntWalk.u64_in _ (by omega)
  clear hE hl
  generalize 127 + a.length = x1 at *
  generalize x1 + b.length = x2 at *
  generalize x2 + c.length = x3 at *
  generalize x3 + d.length = x4 at *
  generalize hla : a.length = la at *
  generalize hlb : b.length = lb at *
  generalize hlc : c.length = lc at *
  generalize hld : d.length = ld at *
  have b0 := heap_alloc_new w (.cells #[.int .u64 (p0 : Int), .int .u64 (p1 : Int), .int .u64 (p2 : Int), .int .u64 (p3 : Int), .int .u64 (p4 : Int), .int .u64 (p5 : Int), .int .u64 (p6 : Int), .int .u64 (p7 : Int), .int .u64 (adr : Int), .int .u64 (ent : Int), .int .u64 (con : Int), .bool clu, .int .u8 (inn : Int), .int .u8 (out : Int), .int .u8 (kind : Int), .int .i64 minz, .int .i64 maxz, .int .i64 minlon, .int .i64 minlat, .int .i64 maxlon, .int .i64 maxlat, .int .i64 zoom, .int .i64 lon, .int .i64 lat] 83)
  have b1 := heap_alloc_new (w.alloc (.cells #[.int .u64 (p0 : Int), .int .u64 (p1 : Int), .int .u64 (p2 : Int), .int .u64 (p3 : Int), .int .u64 (p4 : Int), .int .u64 (p5 : Int), .int .u64 (p6 : Int), .int .u64 (p7 : Int), .int .u64 (adr : Int), .int .u64 (ent : Int), .int .u64 (con : Int), .bool clu, .int .u8 (inn : Int), .int .u8 (out : Int), .int .u8 (kind : Int), .int .i64 minz, .int .i64 maxz, .int .i64 minlon, .int .i64 minlat, .int .i64 maxlon, .int .i64 maxlat, .int .i64 zoom, .int .i64 lon, .int .i64 lat] 83)) (.cells #[.string ⟨a.toArray⟩, .string ⟨b.toArray⟩, .string ⟨c.toArray⟩, .string ⟨d.toArray⟩] 99)
  have b2 := heap_alloc_new ((w.alloc (.cells #[.int .u64 (p0 : Int), .int .u64 (p1 : Int), .int .u64 (p2 : Int), .int .u64 (p3 : Int), .int .u64 (p4 : Int), .int .u64 (p5 : Int), .int .u64 (p6 : Int), .int .u64 (p7 : Int), .int .u64 (adr : Int), .int .u64 (ent : Int), .int .u64 (con : Int), .bool clu, .int .u8 (inn : Int), .int .u8 (out : Int), .int .u8 (kind : Int), .int .i64 minz, .int .i64 maxz, .int .i64 minlon, .int .i64 minlat, .int .i64 maxlon, .int .i64 maxlat, .int .i64 zoom, .int .i64 lon, .int .i64 lat] 83)).alloc (.cells #[.string ⟨a.toArray⟩, .string ⟨b.toArray⟩, .string ⟨c.toArray⟩, .string ⟨d.toArray⟩] 99)) (.cells #[.int .u64 0, .int .u64 0, .int .u64 0, .int .u64 0] 186)
  simp only [World.size_alloc] at b1 b2
  replace b0 := (((Up.refl _).alloc (.cells #[.string ⟨a.toArray⟩, .string ⟨b.toArray⟩, .string ⟨c.toArray⟩, .string ⟨d.toArray⟩] 99)).alloc (.cells #[.int .u64 0, .int .u64 0, .int .u64 0, .int .u64 0] 186)).obj b0
  replace b1 := ((Up.refl _).alloc (.cells #[.int .u64 0, .int .u64 0, .int .u64 0, .int .u64 0] 186)).obj b1
  have HB := Lib.hid (And.intro b0 (And.intro b1 b2))
  have HU := Lib.hid ((((Up.refl w).alloc (.cells #[.int .u64 (p0 : Int), .int .u64 (p1 : Int), .int .u64 (p2 : Int), .int .u64 (p3 : Int), .int .u64 (p4 : Int), .int .u64 (p5 : Int), .int .u64 (p6 : Int), .int .u64 (p7 : Int), .int .u64 (adr : Int), .int .u64 (ent : Int), .int .u64 (con : Int), .bool clu, .int .u8 (inn : Int), .int .u8 (out : Int), .int .u8 (kind : Int), .int .i64 minz, .int .i64 maxz, .int .i64 minlon, .int .i64 minlat, .int .i64 maxlon, .int .i64 maxlat, .int .i64 zoom, .int .i64 lon, .int .i64 lat] 83)).alloc (.cells #[.string ⟨a.toArray⟩, .string ⟨b.toArray⟩, .string ⟨c.toArray⟩, .string ⟨d.toArray⟩] 99)).alloc (.cells #[.int .u64 0, .int .u64 0, .int .u64 0, .int .u64 0] 186))
  have q0 := blkc b1 0 _ rfl
  have q1 := blkc b1 1 _ rfl
  have q2 := blkc b1 2 _ rfl
  have q3 := blkc b1 3 _ rfl
  clear b0 b1 b2
  have HL := Lib.hid (And.intro hla (And.intro hlb (And.intro hlc hld)))
  go_enter Tryz.func39, Tryz.ntmps39
  go_wp2_with fail
  refine wp_loop_rounds 5 ?_
  obtain ⟨X, hW⟩ : ∃ x, (((w.alloc (.cells #[.int .u64 (p0 : Int), .int .u64 (p1 : Int), .int .u64 (p2 : Int), .int .u64 (p3 : Int), .int .u64 (p4 : Int), .int .u64 (p5 : Int), .int .u64 (p6 : Int), .int .u64 (p7 : Int), .int .u64 (adr : Int), .int .u64 (ent : Int), .int .u64 (con : Int), .bool clu, .int .u8 (inn : Int), .int .u8 (out : Int), .int .u8 (kind : Int), .int .i64 minz, .int .i64 maxz, .int .i64 minlon, .int .i64 minlat, .int .i64 maxlon, .int .i64 maxlat, .int .i64 zoom, .int .i64 lon, .int .i64 lat] 83)).alloc (.cells #[.string ⟨a.toArray⟩, .string ⟨b.toArray⟩, .string ⟨c.toArray⟩, .string ⟨d.toArray⟩] 99)).alloc (.cells #[.int .u64 0, .int .u64 0, .int .u64 0, .int .u64 0] 186)) = x := ⟨_, rfl⟩
  rw [hW] at HB HU ⊢
  clear hW q0 q1 q2 q3
  rw [rounds_succ]
  have hb := HB.out.2.2
  have z0 := blkc hb 0 _ rfl
  have f0 := blkf hb 0
  have ix := str_ix0 ⟨a.toArray⟩ ⟨b.toArray⟩ ⟨c.toArray⟩ ⟨d.toArray⟩ X
  have hoth : ∀ j, j ≠ w.heap.size + 1 + 1 → j < X.heap.size → (X.setCell ⟨w.heap.size + 1 + 1, 0, none⟩ (.int .u64 (la : Int))).heap[j]? = X.heap[j]? := fun j hj hl => (grown_setO' _ _ _ _).block _ hl (by intro e; injection e with e; exact hj e)
  have HB2 := Lib.hid (show (X.setCell ⟨w.heap.size + 1 + 1, 0, none⟩ (.int .u64 (la : Int))).heap[w.heap.size]? = some (.cells #[.int .u64 (p0 : Int), .int .u64 (p1 : Int), .int .u64 (p2 : Int), .int .u64 (p3 : Int), .int .u64 (p4 : Int), .int .u64 (p5 : Int), .int .u64 (p6 : Int), .int .u64 (p7 : Int), .int .u64 (adr : Int), .int .u64 (ent : Int), .int .u64 (con : Int), .bool clu, .int .u8 (inn : Int), .int .u8 (out : Int), .int .u8 (kind : Int), .int .i64 minz, .int .i64 maxz, .int .i64 minlon, .int .i64 minlat, .int .i64 maxlon, .int .i64 maxlat, .int .i64 zoom, .int .i64 lon, .int .i64 lat] 83 (0, 0)) ∧ (X.setCell ⟨w.heap.size + 1 + 1, 0, none⟩ (.int .u64 (la : Int))).heap[w.heap.size + 1]? = some (.cells #[.string ⟨a.toArray⟩, .string ⟨b.toArray⟩, .string ⟨c.toArray⟩, .string ⟨d.toArray⟩] 99 (0, 0)) ∧ (X.setCell ⟨w.heap.size + 1 + 1, 0, none⟩ (.int .u64 (la : Int))).heap[w.heap.size + 1 + 1]? = some (.cells #[.int .u64 (la : Int), .int .u64 0, .int .u64 0, .int .u64 0] 186 (0, 0)) from ⟨(hoth _ (by omega) (Array.getElem?_eq_some_iff.1 HB.out.1).1).trans HB.out.1, (hoth _ (by omega) (Array.getElem?_eq_some_iff.1 HB.out.2.1).1).trans HB.out.2.1, heap_setCell_same _ (w.heap.size + 1 + 1) 0 _ _ (.int .u64 (la : Int)) hb⟩)
  have HU2 := Lib.hid (Up.of (HU.out.below.setCell (p := ⟨w.heap.size + 1 + 1, 0, none⟩) (by simp; omega) (.int .u64 (la : Int))))
  clear hb hoth
  have hll := HL.out.1
  go_wp2_with fail
  clear hll
  obtain ⟨X2, hX⟩ : ∃ x, (X.setCell ⟨w.heap.size + 1 + 1, 0, none⟩ (.int .u64 (la : Int))) = x := ⟨_, rfl⟩
  rw [hX] at HB2 HU2 ⊢
  clear hX z0 f0 ix HB HU X
  have HB := HB2
  have HU := HU2
  clear HB2 HU2
  rename World => X
  rw [rounds_succ]
  have hb := HB.out.2.2
  have z0 := blkc hb 1 _ rfl
  have f0 := blkf hb 1
  have ix := str_ix1 ⟨a.toArray⟩ ⟨b.toArray⟩ ⟨c.toArray⟩ ⟨d.toArray⟩ X
  have hoth : ∀ j, j ≠ w.heap.size + 1 + 1 → j < X.heap.size → (X.setCell ⟨w.heap.size + 1 + 1, 1, none⟩ (.int .u64 (lb : Int))).heap[j]? = X.heap[j]? := fun j hj hl => (grown_setO' _ _ _ _).block _ hl (by intro e; injection e with e; exact hj e)
  have HB2 := Lib.hid (show (X.setCell ⟨w.heap.size + 1 + 1, 1, none⟩ (.int .u64 (lb : Int))).heap[w.heap.size]? = some (.cells #[.int .u64 (p0 : Int), .int .u64 (p1 : Int), .int .u64 (p2 : Int), .int .u64 (p3 : Int), .int .u64 (p4 : Int), .int .u64 (p5 : Int), .int .u64 (p6 : Int), .int .u64 (p7 : Int), .int .u64 (adr : Int), .int .u64 (ent : Int), .int .u64 (con : Int), .bool clu, .int .u8 (inn : Int), .int .u8 (out : Int), .int .u8 (kind : Int), .int .i64 minz, .int .i64 maxz, .int .i64 minlon, .int .i64 minlat, .int .i64 maxlon, .int .i64 maxlat, .int .i64 zoom, .int .i64 lon, .int .i64 lat] 83 (0, 0)) ∧ (X.setCell ⟨w.heap.size + 1 + 1, 1, none⟩ (.int .u64 (lb : Int))).heap[w.heap.size + 1]? = some (.cells #[.string ⟨a.toArray⟩, .string ⟨b.toArray⟩, .string ⟨c.toArray⟩, .string ⟨d.toArray⟩] 99 (0, 0)) ∧ (X.setCell ⟨w.heap.size + 1 + 1, 1, none⟩ (.int .u64 (lb : Int))).heap[w.heap.size + 1 + 1]? = some (.cells #[.int .u64 (la : Int), .int .u64 (lb : Int), .int .u64 0, .int .u64 0] 186 (0, 0)) from ⟨(hoth _ (by omega) (Array.getElem?_eq_some_iff.1 HB.out.1).1).trans HB.out.1, (hoth _ (by omega) (Array.getElem?_eq_some_iff.1 HB.out.2.1).1).trans HB.out.2.1, heap_setCell_same _ (w.heap.size + 1 + 1) 1 _ _ (.int .u64 (lb : Int)) hb⟩)
  have HU2 := Lib.hid (Up.of (HU.out.below.setCell (p := ⟨w.heap.size + 1 + 1, 1, none⟩) (by simp; omega) (.int .u64 (lb : Int))))
  clear hb hoth
  have hll := HL.out.2.1
  go_wp2_with fail
  clear hll
  obtain ⟨X2, hX⟩ : ∃ x, (X.setCell ⟨w.heap.size + 1 + 1, 1, none⟩ (.int .u64 (lb : Int))) = x := ⟨_, rfl⟩
  rw [hX] at HB2 HU2 ⊢
  clear hX z0 f0 ix HB HU X
  have HB := HB2
  have HU := HU2
  clear HB2 HU2
  rename World => X
  rw [rounds_succ]
  have hb := HB.out.2.2
  have z0 := blkc hb 2 _ rfl
  have f0 := blkf hb 2
  have ix := str_ix2 ⟨a.toArray⟩ ⟨b.toArray⟩ ⟨c.toArray⟩ ⟨d.toArray⟩ X
  have hoth : ∀ j, j ≠ w.heap.size + 1 + 1 → j < X.heap.size → (X.setCell ⟨w.heap.size + 1 + 1, 2, none⟩ (.int .u64 (lc : Int))).heap[j]? = X.heap[j]? := fun j hj hl => (grown_setO' _ _ _ _).block _ hl (by intro e; injection e with e; exact hj e)
  have HB2 := Lib.hid (show (X.setCell ⟨w.heap.size + 1 + 1, 2, none⟩ (.int .u64 (lc : Int))).heap[w.heap.size]? = some (.cells #[.int .u64 (p0 : Int), .int .u64 (p1 : Int), .int .u64 (p2 : Int), .int .u64 (p3 : Int), .int .u64 (p4 : Int), .int .u64 (p5 : Int), .int .u64 (p6 : Int), .int .u64 (p7 : Int), .int .u64 (adr : Int), .int .u64 (ent : Int), .int .u64 (con : Int), .bool clu, .int .u8 (inn : Int), .int .u8 (out : Int), .int .u8 (kind : Int), .int .i64 minz, .int .i64 maxz, .int .i64 minlon, .int .i64 minlat, .int .i64 maxlon, .int .i64 maxlat, .int .i64 zoom, .int .i64 lon, .int .i64 lat] 83 (0, 0)) ∧ (X.setCell ⟨w.heap.size + 1 + 1, 2, none⟩ (.int .u64 (lc : Int))).heap[w.heap.size + 1]? = some (.cells #[.string ⟨a.toArray⟩, .string ⟨b.toArray⟩, .string ⟨c.toArray⟩, .string ⟨d.toArray⟩] 99 (0, 0)) ∧ (X.setCell ⟨w.heap.size + 1 + 1, 2, none⟩ (.int .u64 (lc : Int))).heap[w.heap.size + 1 + 1]? = some (.cells #[.int .u64 (la : Int), .int .u64 (lb : Int), .int .u64 (lc : Int), .int .u64 0] 186 (0, 0)) from ⟨(hoth _ (by omega) (Array.getElem?_eq_some_iff.1 HB.out.1).1).trans HB.out.1, (hoth _ (by omega) (Array.getElem?_eq_some_iff.1 HB.out.2.1).1).trans HB.out.2.1, heap_setCell_same _ (w.heap.size + 1 + 1) 2 _ _ (.int .u64 (lc : Int)) hb⟩)
  have HU2 := Lib.hid (Up.of (HU.out.below.setCell (p := ⟨w.heap.size + 1 + 1, 2, none⟩) (by simp; omega) (.int .u64 (lc : Int))))
  clear hb hoth
  have hll := HL.out.2.2.1
  go_wp2_with fail
  clear hll
  obtain ⟨X2, hX⟩ : ∃ x, (X.setCell ⟨w.heap.size + 1 + 1, 2, none⟩ (.int .u64 (lc : Int))) = x := ⟨_, rfl⟩
  rw [hX] at HB2 HU2 ⊢
  clear hX z0 f0 ix HB HU X
  have HB := HB2
  have HU := HU2
  clear HB2 HU2
  rename World => X
  rw [rounds_succ]
  have hb := HB.out.2.2
  have z0 := blkc hb 3 _ rfl
  have f0 := blkf hb 3
  have ix := str_ix3 ⟨a.toArray⟩ ⟨b.toArray⟩ ⟨c.toArray⟩ ⟨d.toArray⟩ X
  have hoth : ∀ j, j ≠ w.heap.size + 1 + 1 → j < X.heap.size → (X.setCell ⟨w.heap.size + 1 + 1, 3, none⟩ (.int .u64 (ld : Int))).heap[j]? = X.heap[j]? := fun j hj hl => (grown_setO' _ _ _ _).block _ hl (by intro e; injection e with e; exact hj e)
  have HB2 := Lib.hid (show (X.setCell ⟨w.heap.size + 1 + 1, 3, none⟩ (.int .u64 (ld : Int))).heap[w.heap.size]? = some (.cells #[.int .u64 (p0 : Int), .int .u64 (p1 : Int), .int .u64 (p2 : Int), .int .u64 (p3 : Int), .int .u64 (p4 : Int), .int .u64 (p5 : Int), .int .u64 (p6 : Int), .int .u64 (p7 : Int), .int .u64 (adr : Int), .int .u64 (ent : Int), .int .u64 (con : Int), .bool clu, .int .u8 (inn : Int), .int .u8 (out : Int), .int .u8 (kind : Int), .int .i64 minz, .int .i64 maxz, .int .i64 minlon, .int .i64 minlat, .int .i64 maxlon, .int .i64 maxlat, .int .i64 zoom, .int .i64 lon, .int .i64 lat] 83 (0, 0)) ∧ (X.setCell ⟨w.heap.size + 1 + 1, 3, none⟩ (.int .u64 (ld : Int))).heap[w.heap.size + 1]? = some (.cells #[.string ⟨a.toArray⟩, .string ⟨b.toArray⟩, .string ⟨c.toArray⟩, .string ⟨d.toArray⟩] 99 (0, 0)) ∧ (X.setCell ⟨w.heap.size + 1 + 1, 3, none⟩ (.int .u64 (ld : Int))).heap[w.heap.size + 1 + 1]? = some (.cells #[.int .u64 (la : Int), .int .u64 (lb : Int), .int .u64 (lc : Int), .int .u64 (ld : Int)] 186 (0, 0)) from ⟨(hoth _ (by omega) (Array.getElem?_eq_some_iff.1 HB.out.1).1).trans HB.out.1, (hoth _ (by omega) (Array.getElem?_eq_some_iff.1 HB.out.2.1).1).trans HB.out.2.1, heap_setCell_same _ (w.heap.size + 1 + 1) 3 _ _ (.int .u64 (ld : Int)) hb⟩)
  have HU2 := Lib.hid (Up.of (HU.out.below.setCell (p := ⟨w.heap.size + 1 + 1, 3, none⟩) (by simp; omega) (.int .u64 (ld : Int))))
  clear hb hoth
  have hll := HL.out.2.2.2
  go_wp2_with fail
  clear hll
  obtain ⟨X2, hX⟩ : ∃ x, (X.setCell ⟨w.heap.size + 1 + 1, 3, none⟩ (.int .u64 (ld : Int))) = x := ⟨_, rfl⟩
  rw [hX] at HB2 HU2 ⊢
  clear hX z0 f0 ix HB HU X
  have HB := HB2
  have HU := HU2
  clear HB2 HU2
  rename World => X
  rw [rounds_succ]
  have z0 := blkc HB.out.2.2 0 _ rfl
  have z1 := blkc HB.out.2.2 1 _ rfl
  have z2 := blkc HB.out.2.2 2 _ rfl
  have z3 := blkc HB.out.2.2 3 _ rfl
  go_wp2_with fail
  refine (LS _).out.mono ?_
  rintro e w1 ⟨rfl, hu1⟩
  clear z0 z1 z2 z3
  have n9 := heap_alloc_new w1 (.cells #[.int .u64 127, .int .u64 (la : Int), .int .u64 (x1 : Int), .int .u64 (lb : Int), .int .u64 (x2 : Int), .int .u64 (lc : Int), .int .u64 (x3 : Int), .int .u64 (ld : Int)] 160)
  have hu9 := (Up.refl w1).alloc (.cells #[.int .u64 127, .int .u64 (la : Int), .int .u64 (x1 : Int), .int .u64 (lb : Int), .int .u64 (x2 : Int), .int .u64 (lc : Int), .int .u64 (x3 : Int), .int .u64 (ld : Int)] 160)
  obtain ⟨w2, hw2⟩ : ∃ x, w1.alloc (.cells #[.int .u64 127, .int .u64 (la : Int), .int .u64 (x1 : Int), .int .u64 (lb : Int), .int .u64 (x2 : Int), .int .u64 (lc : Int), .int .u64 (x3 : Int), .int .u64 (ld : Int)] 160) = x := ⟨_, rfl⟩
  rw [hw2] at n9 hu9
  have N9 := Lib.hid n9
  have HH := Lib.hid ((hu1.trans hu9).obj HB.out.1)
  have HP := Lib.hid ((hu1.trans hu9).obj HB.out.2.1)
  have HU2 := Lib.hid (HU.out.trans (hu1.trans hu9))
  clear n9 hu9 hu1 HB HU
  go_wp2_with (first
    | (refine wpList_load_mid rfl 83 _ rfl (w.heap.size) 0 rfl [.int .u64 (p0 : Int), .int .u64 (p1 : Int), .int .u64 (p2 : Int), .int .u64 (p3 : Int), .int .u64 (p4 : Int), .int .u64 (p5 : Int), .int .u64 (p6 : Int), .int .u64 (p7 : Int), .int .u64 (adr : Int), .int .u64 (ent : Int), .int .u64 (con : Int), .bool clu, .int .u8 (inn : Int), .int .u8 (out : Int), .int .u8 (kind : Int), .int .i64 minz, .int .i64 maxz, .int .i64 minlon, .int .i64 minlat, .int .i64 maxlon, .int .i64 maxlat, .int .i64 zoom, .int .i64 lon, .int .i64 lat] _ (rg_blk HH.out) Tryz.underlying83 rfl (by kernel_rfl) ?_)
    | (refine wpList_load_mid rfl 160 _ rfl (w1.heap.size) 0 rfl [.int .u64 127, .int .u64 (la : Int), .int .u64 (x1 : Int), .int .u64 (lb : Int), .int .u64 (x2 : Int), .int .u64 (lc : Int), .int .u64 (x3 : Int), .int .u64 (ld : Int)] _ (rg_blk N9.out) Tryz.underlying160 rfl (by kernel_rfl) ?_))
  refine (LW _).out.mono ?_
  rintro e w3 ⟨rfl, hu3⟩
  go_wp2_with fail
  refine (EN _).out.mono ?_
  rintro e w4 ⟨rfl, hu4⟩
  have HP4 := Lib.hid ((hu3.trans hu4).obj HP.out)
  have HU4 := Lib.hid (HU2.out.trans (hu3.trans hu4))
  clear HP HU2 hu3 hu4 HH N9 hw2
  go_wp2_with fail
  refine (JN _ _ (rg_blk HP4.out) (Array.getElem?_eq_some_iff.1 HP4.out).1).out.mono ?_
  rintro e w5 ⟨rfl, hu5⟩
  go_wp2_with fail
  refine bodyPost_ret (results_tmp2 rfl _ _ _) rfl ?_
  exact ⟨ret_two (ba_app _ _) rfl, HU4.out.trans hu5⟩
end Go.Proofs.YtcfmidmokciofaaGreatDoor
