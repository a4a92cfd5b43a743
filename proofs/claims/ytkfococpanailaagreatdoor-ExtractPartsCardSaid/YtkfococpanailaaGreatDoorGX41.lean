/- Walk: press.head. -/
import Derived.Test.YtkfococpanailaaGreatDoorGX38
import Derived.Test.YtkfococpanailaaGreatDoorGX39
import Derived.Test.YtkfococpanailaaGreatDoorGX40
import Derived.Deep.WholeRow
namespace Go.Proofs.YtkfococpanailaaGreatDoor
open Go.RowKit Go.Gz Go.Shelf

set_option maxRecDepth 100000
theorem wpList_store_new {P : Program} {ops : Array Oper} {rest : List Oper} {op : Oper} {a : Act} {Q : Exit → Act → World → Prop} (w : World) (hgd : op.guard = none) (ty : TypeId) (x y : Operand) (ho : op.op = .store ty x y)
    (c c' : Array Value) (hx : a.eval x = .pointer (some ⟨w.heap.size, 0, none⟩)) (hy : a.eval y = .agg c') (hi : (P.info? ty).map (·.size) = some c'.size) (hcs : c.size = c'.size) (h1 : c'.all (·.oneCell') = true)
    (h : wpList P ops Q rest (a.put op.dst undef) (w.alloc (.cells c' ty))) : wpList P ops Q (op :: rest) a (w.alloc (.cells c ty)) :=
  wpList_plain hgd fun _ hK => by
    unfold Oper.wp execOp
    simp only [ho, hx, hy, Instr.storeAt, Instr.sureAddr, Sem.run_bind, Sem.run_pure, Result.andThen_ok, run_storeVar_new w ty c c' hi hcs h1]
    exact hK _ _ h
theorem build_hd (n m ct kind : Nat) (w : World) : (Instr.build 114 #[(4, .int .u64 (n : Int)), (5, .int .u64 (m : Int)), (6, .int .u64 (ct : Int)), (7, .bool true), (8, .int .u8 1), (9, .int .u8 1), (10, .int .u8 (kind : Int))]).run Tryz.prog w = .ok (.agg #[.int .u64 0, .int .u64 0, .int .u64 0, .int .u64 0, .int .u64 0, .int .u64 0, .int .u64 0, .int .u64 0, .int .u64 (n : Int), .int .u64 (m : Int), .int .u64 (ct : Int), .bool true, .int .u8 1, .int .u8 1, .int .u8 (kind : Int), .int .i64 0, .int .i64 0, .int .i64 0, .int .i64 0, .int .i64 0, .int .i64 0, .int .i64 0, .int .i64 0, .int .i64 0]) w := by kernel_rfl
set_option maxHeartbeats 8000000 in
theorem phead_any (L : Items) (hg : Gz.Good L) (hl : L.length ≤ 1000) (l : Ents) (hok : ∀ e ∈ l, okE e) (hll : l.length ≤ 1000) (kind : Nat) (A : Option Addr) (c : Nat) (A2 : Option Addr) (c2 : Nat) (w : World) (hr : Rd w 2 A L.length c (itV L)) (hr2 : Rd w 4 A2 l.length c2 (entV l)) :
    Calls Tryz.prog 62 #[.agg #[.slice A L.length c], .slice A2 l.length c2, .int .u8 (kind : Int)] w fun e w' => e = .returned (hdrV (headH L l kind)) ∧ Up w w' := by
  have LN := fun w => Lib.hid (len_any A L.length c w)
  have CT := fun w hr => Lib.hid (conts_any l hok hll A2 c2 w hr)
  have ZM := fun w hr => Lib.hid (zooms_any L hg (by omega) A c w hr)
  have HR := Lib.hid hr
  have HR2 := Lib.hid hr2
  have hcl := seenE_len l
  have hE : hdrV (headH L l kind) = .agg #[.int .u64 0, .int .u64 0, .int .u64 0, .int .u64 0, .int .u64 0, .int .u64 0, .int .u64 0, .int .u64 0, .int .u64 ((L.length : Nat) : Int), .int .u64 ((l.length : Nat) : Int), .int .u64 ((contE l : Nat) : Int), .bool true, .int .u8 1, .int .u8 1, .int .u8 (kind : Int), .int .i64 (minZ L), .int .i64 (maxZ L), .int .i64 (-1800000000), .int .i64 (-850511287), .int .i64 1800000000, .int .i64 850511287, .int .i64 (minZ L), .int .i64 0, .int .i64 0] := rfl
  rw [hE]
  clear hE hr hr2 hg hok
  generalize contE l = ct at *
  generalize minZ L = z0 at *
  generalize maxZ L = z1 at *
  generalize L.length = n at *
  generalize l.length = m at *
  have e1 : IntKind.u64.wrap (n : Int) = (n : Int) := IntWalk.u64_in _ (by omega)
  have e2 : IntKind.u64.wrap (m : Int) = (m : Int) := IntWalk.u64_in _ (by omega)
  have e3 : IntKind.u64.wrap (ct : Int) = (ct : Int) := IntWalk.u64_in _ (by omega)
  have b0 := ((Up.refl _).alloc (.cells #[.int .u64 0, .int .u64 0, .int .u64 0, .int .u64 0, .int .u64 0, .int .u64 0, .int .u64 0, .int .u64 0, .int .u64 0, .int .u64 0, .int .u64 0, .bool false, .int .u8 0, .int .u8 0, .int .u8 0, .int .i64 0, .int .i64 0, .int .i64 0, .int .i64 0, .int .i64 0, .int .i64 0, .int .i64 0, .int .i64 0, .int .i64 0] 114)).obj (heap_alloc_new w (.cells #[.slice A n c] 26))
  have b1 := heap_alloc_new (w.alloc (.cells #[.slice A n c] 26)) (.cells #[.int .u64 0, .int .u64 0, .int .u64 0, .int .u64 0, .int .u64 0, .int .u64 0, .int .u64 0, .int .u64 0, .int .u64 0, .int .u64 0, .int .u64 0, .bool false, .int .u8 0, .int .u8 0, .int .u8 0, .int .i64 0, .int .i64 0, .int .i64 0, .int .i64 0, .int .i64 0, .int .i64 0, .int .i64 0, .int .i64 0, .int .i64 0] 114)
  rw [World.size_alloc] at b1
  have hu0 : Up w ((w.alloc (.cells #[.slice A n c] 26)).alloc (.cells #[.int .u64 0, .int .u64 0, .int .u64 0, .int .u64 0, .int .u64 0, .int .u64 0, .int .u64 0, .int .u64 0, .int .u64 0, .int .u64 0, .int .u64 0, .bool false, .int .u8 0, .int .u8 0, .int .u8 0, .int .i64 0, .int .i64 0, .int .i64 0, .int .i64 0, .int .i64 0, .int .i64 0, .int .i64 0, .int .i64 0, .int .i64 0] 114)) := ((Up.refl w).alloc _).alloc _
  have c0 := (blk_one b0).1
  go_enter Tryz.func62, Tryz.ntmps62
  go_wp2_with fail
  obtain ⟨X, hX⟩ : ∃ x, ((w.alloc (.cells #[.slice A n c] 26)).alloc (.cells #[.int .u64 0, .int .u64 0, .int .u64 0, .int .u64 0, .int .u64 0, .int .u64 0, .int .u64 0, .int .u64 0, .int .u64 0, .int .u64 0, .int .u64 0, .bool false, .int .u8 0, .int .u8 0, .int .u8 0, .int .i64 0, .int .i64 0, .int .i64 0, .int .i64 0, .int .i64 0, .int .i64 0, .int .i64 0, .int .i64 0, .int .i64 0] 114)) = x := ⟨_, rfl⟩
  rw [hX] at b0 b1 hu0 c0 ⊢
  clear hX
  refine (LN _).out.mono ?_
  rintro e w1 ⟨rfl, hu1⟩
  go_wp2_with fail
  refine (CT _ (HR2.out.up (hu0.trans hu1))).out.mono ?_
  rintro e w2 ⟨rfl, hu2⟩
  have hb := build_hd n m ct kind w2
  have hu12 := hu1.trans hu2
  have b7 := heap_alloc_new w2 (.cells #[.int .u64 0, .int .u64 0, .int .u64 0, .int .u64 0, .int .u64 0, .int .u64 0, .int .u64 0, .int .u64 0, .int .u64 (n : Int), .int .u64 (m : Int), .int .u64 (ct : Int), .bool true, .int .u8 1, .int .u8 1, .int .u8 (kind : Int), .int .i64 0, .int .i64 0, .int .i64 0, .int .i64 0, .int .i64 0, .int .i64 0, .int .i64 0, .int .i64 0, .int .i64 0] 114)
  have hu7 := hu12.trans ((Up.refl w2).alloc (.cells #[.int .u64 0, .int .u64 0, .int .u64 0, .int .u64 0, .int .u64 0, .int .u64 0, .int .u64 0, .int .u64 0, .int .u64 (n : Int), .int .u64 (m : Int), .int .u64 (ct : Int), .bool true, .int .u8 1, .int .u8 1, .int .u8 (kind : Int), .int .i64 0, .int .i64 0, .int .i64 0, .int .i64 0, .int .i64 0, .int .i64 0, .int .i64 0, .int .i64 0, .int .i64 0] 114))
  have c0' := hu7.cell c0
  have HB := Lib.hid (And.intro (hu7.obj b0) (hu7.obj b1))
  have HB7 := Lib.hid b7
  have HU7 := Lib.hid (hu0.trans hu7)
  have hH7 : w.heap.size + 1 < w2.heap.size := by have := (Array.getElem?_eq_some_iff.1 b1).1; have := hu12.le; omega
  clear b0 b1 c0 b7 hu7 hu12 hu0 hu1 hu2
  go_wp2_with (refine wpList_store_new w2 rfl 114 _ _ rfl #[.int .u64 0, .int .u64 0, .int .u64 0, .int .u64 0, .int .u64 0, .int .u64 0, .int .u64 0, .int .u64 0, .int .u64 0, .int .u64 0, .int .u64 0, .bool false, .int .u8 0, .int .u8 0, .int .u8 0, .int .i64 0, .int .i64 0, .int .i64 0, .int .i64 0, .int .i64 0, .int .i64 0, .int .i64 0, .int .i64 0, .int .i64 0] #[.int .u64 0, .int .u64 0, .int .u64 0, .int .u64 0, .int .u64 0, .int .u64 0, .int .u64 0, .int .u64 0, .int .u64 (n : Int), .int .u64 (m : Int), .int .u64 (ct : Int), .bool true, .int .u8 1, .int .u8 1, .int .u8 (kind : Int), .int .i64 0, .int .i64 0, .int .i64 0, .int .i64 0, .int .i64 0, .int .i64 0, .int .i64 0, .int .i64 0, .int .i64 0] rfl rfl (by kernel_rfl) rfl (by simp [Value.oneCell']) ?_)
  obtain ⟨Y0, hY⟩ : ∃ x, w2.alloc (.cells #[.int .u64 0, .int .u64 0, .int .u64 0, .int .u64 0, .int .u64 0, .int .u64 0, .int .u64 0, .int .u64 0, .int .u64 (n : Int), .int .u64 (m : Int), .int .u64 (ct : Int), .bool true, .int .u8 1, .int .u8 1, .int .u8 (kind : Int), .int .i64 0, .int .i64 0, .int .i64 0, .int .i64 0, .int .i64 0, .int .i64 0, .int .i64 0, .int .i64 0, .int .i64 0] 114) = x := ⟨_, rfl⟩
  rw [hY] at HB7 HU7 HB c0' ⊢
  clear hY hb
  refine (ZM _ (HR.out.up HU7.out)).out.mono ?_
  rintro e y0 ⟨rfl, hu8⟩
  have HB8 := Lib.hid (And.intro (hu8.obj HB7.out) (hu8.obj HB.out.2))
  have HU8 := Lib.hid (HU7.out.trans hu8)
  clear c0' hu8 HB HB7 HU7
  obtain ⟨h7, hh7⟩ : ∃ h, w2.heap.size = h := ⟨_, rfl⟩
  rw [hh7] at HB8 hH7 ⊢
  clear hh7
  have p0 := blkc HB8.out.1 15 _ rfl
  have f0 := blkf HB8.out.1 15
  obtain ⟨y1, j0⟩ : ∃ x, y0.setCell ⟨h7, 15, none⟩ (.int .i64 z0) = x := ⟨_, rfl⟩
  have HC1 := Lib.hid (show y1.heap[h7]? = some (.cells #[.int .u64 0, .int .u64 0, .int .u64 0, .int .u64 0, .int .u64 0, .int .u64 0, .int .u64 0, .int .u64 0, .int .u64 (n : Int), .int .u64 (m : Int), .int .u64 (ct : Int), .bool true, .int .u8 1, .int .u8 1, .int .u8 (kind : Int), .int .i64 z0, .int .i64 0, .int .i64 0, .int .i64 0, .int .i64 0, .int .i64 0, .int .i64 0, .int .i64 0, .int .i64 0] 114 (0, 0)) ∧ y1.heap[w.heap.size + 1]? = some (.cells #[.int .u64 0, .int .u64 0, .int .u64 0, .int .u64 0, .int .u64 0, .int .u64 0, .int .u64 0, .int .u64 0, .int .u64 0, .int .u64 0, .int .u64 0, .bool false, .int .u8 0, .int .u8 0, .int .u8 0, .int .i64 0, .int .i64 0, .int .i64 0, .int .i64 0, .int .i64 0, .int .i64 0, .int .i64 0, .int .i64 0, .int .i64 0] 114 (0, 0)) by rw [← j0]; exact ⟨heap_setCell_same y0 h7 15 _ _ (.int .i64 z0) HB8.out.1, ((grown_setO' _ _ _ _).block _ (Array.getElem?_eq_some_iff.1 HB8.out.2).1 (by intro e; injection e with e; omega)).trans HB8.out.2⟩)
  have HV1 := Lib.hid (show Up w y1 by rw [← j0]; exact HU8.out.set (p := ⟨h7, 15, none⟩) (by simp; omega) (.int .i64 z0))
  have p1 := blkc HC1.out.1 16 _ rfl
  have f1 := blkf HC1.out.1 16
  obtain ⟨y2, j1⟩ : ∃ x, y1.setCell ⟨h7, 16, none⟩ (.int .i64 z1) = x := ⟨_, rfl⟩
  have HC2 := Lib.hid (show y2.heap[h7]? = some (.cells #[.int .u64 0, .int .u64 0, .int .u64 0, .int .u64 0, .int .u64 0, .int .u64 0, .int .u64 0, .int .u64 0, .int .u64 (n : Int), .int .u64 (m : Int), .int .u64 (ct : Int), .bool true, .int .u8 1, .int .u8 1, .int .u8 (kind : Int), .int .i64 z0, .int .i64 z1, .int .i64 0, .int .i64 0, .int .i64 0, .int .i64 0, .int .i64 0, .int .i64 0, .int .i64 0] 114 (0, 0)) ∧ y2.heap[w.heap.size + 1]? = some (.cells #[.int .u64 0, .int .u64 0, .int .u64 0, .int .u64 0, .int .u64 0, .int .u64 0, .int .u64 0, .int .u64 0, .int .u64 0, .int .u64 0, .int .u64 0, .bool false, .int .u8 0, .int .u8 0, .int .u8 0, .int .i64 0, .int .i64 0, .int .i64 0, .int .i64 0, .int .i64 0, .int .i64 0, .int .i64 0, .int .i64 0, .int .i64 0] 114 (0, 0)) by rw [← j1]; exact ⟨heap_setCell_same y1 h7 16 _ _ (.int .i64 z1) HC1.out.1, ((grown_setO' _ _ _ _).block _ (Array.getElem?_eq_some_iff.1 HC1.out.2).1 (by intro e; injection e with e; omega)).trans HC1.out.2⟩)
  have HV2 := Lib.hid (show Up w y2 by rw [← j1]; exact HV1.out.set (p := ⟨h7, 16, none⟩) (by simp; omega) (.int .i64 z1))
  have p2 := blkc HC2.out.1 21 _ rfl
  have f2 := blkf HC2.out.1 21
  have g15 := blkc HC2.out.1 15 _ rfl
  obtain ⟨y3, j2⟩ : ∃ x, y2.setCell ⟨h7, 21, none⟩ (.int .i64 z0) = x := ⟨_, rfl⟩
  have HC3 := Lib.hid (show y3.heap[h7]? = some (.cells #[.int .u64 0, .int .u64 0, .int .u64 0, .int .u64 0, .int .u64 0, .int .u64 0, .int .u64 0, .int .u64 0, .int .u64 (n : Int), .int .u64 (m : Int), .int .u64 (ct : Int), .bool true, .int .u8 1, .int .u8 1, .int .u8 (kind : Int), .int .i64 z0, .int .i64 z1, .int .i64 0, .int .i64 0, .int .i64 0, .int .i64 0, .int .i64 z0, .int .i64 0, .int .i64 0] 114 (0, 0)) ∧ y3.heap[w.heap.size + 1]? = some (.cells #[.int .u64 0, .int .u64 0, .int .u64 0, .int .u64 0, .int .u64 0, .int .u64 0, .int .u64 0, .int .u64 0, .int .u64 0, .int .u64 0, .int .u64 0, .bool false, .int .u8 0, .int .u8 0, .int .u8 0, .int .i64 0, .int .i64 0, .int .i64 0, .int .i64 0, .int .i64 0, .int .i64 0, .int .i64 0, .int .i64 0, .int .i64 0] 114 (0, 0)) by rw [← j2]; exact ⟨heap_setCell_same y2 h7 21 _ _ (.int .i64 z0) HC2.out.1, ((grown_setO' _ _ _ _).block _ (Array.getElem?_eq_some_iff.1 HC2.out.2).1 (by intro e; injection e with e; omega)).trans HC2.out.2⟩)
  have HV3 := Lib.hid (show Up w y3 by rw [← j2]; exact HV2.out.set (p := ⟨h7, 21, none⟩) (by simp; omega) (.int .i64 z0))
  have p3 := blkc HC3.out.1 17 _ rfl
  have f3 := blkf HC3.out.1 17
  obtain ⟨y4, j3⟩ : ∃ x, y3.setCell ⟨h7, 17, none⟩ (.int .i64 (-1800000000)) = x := ⟨_, rfl⟩
  have HC4 := Lib.hid (show y4.heap[h7]? = some (.cells #[.int .u64 0, .int .u64 0, .int .u64 0, .int .u64 0, .int .u64 0, .int .u64 0, .int .u64 0, .int .u64 0, .int .u64 (n : Int), .int .u64 (m : Int), .int .u64 (ct : Int), .bool true, .int .u8 1, .int .u8 1, .int .u8 (kind : Int), .int .i64 z0, .int .i64 z1, .int .i64 (-1800000000), .int .i64 0, .int .i64 0, .int .i64 0, .int .i64 z0, .int .i64 0, .int .i64 0] 114 (0, 0)) ∧ y4.heap[w.heap.size + 1]? = some (.cells #[.int .u64 0, .int .u64 0, .int .u64 0, .int .u64 0, .int .u64 0, .int .u64 0, .int .u64 0, .int .u64 0, .int .u64 0, .int .u64 0, .int .u64 0, .bool false, .int .u8 0, .int .u8 0, .int .u8 0, .int .i64 0, .int .i64 0, .int .i64 0, .int .i64 0, .int .i64 0, .int .i64 0, .int .i64 0, .int .i64 0, .int .i64 0] 114 (0, 0)) by rw [← j3]; exact ⟨heap_setCell_same y3 h7 17 _ _ (.int .i64 (-1800000000)) HC3.out.1, ((grown_setO' _ _ _ _).block _ (Array.getElem?_eq_some_iff.1 HC3.out.2).1 (by intro e; injection e with e; omega)).trans HC3.out.2⟩)
  have HV4 := Lib.hid (show Up w y4 by rw [← j3]; exact HV3.out.set (p := ⟨h7, 17, none⟩) (by simp; omega) (.int .i64 (-1800000000)))
  have p4 := blkc HC4.out.1 19 _ rfl
  have f4 := blkf HC4.out.1 19
  obtain ⟨y5, j4⟩ : ∃ x, y4.setCell ⟨h7, 19, none⟩ (.int .i64 1800000000) = x := ⟨_, rfl⟩
  have HC5 := Lib.hid (show y5.heap[h7]? = some (.cells #[.int .u64 0, .int .u64 0, .int .u64 0, .int .u64 0, .int .u64 0, .int .u64 0, .int .u64 0, .int .u64 0, .int .u64 (n : Int), .int .u64 (m : Int), .int .u64 (ct : Int), .bool true, .int .u8 1, .int .u8 1, .int .u8 (kind : Int), .int .i64 z0, .int .i64 z1, .int .i64 (-1800000000), .int .i64 0, .int .i64 1800000000, .int .i64 0, .int .i64 z0, .int .i64 0, .int .i64 0] 114 (0, 0)) ∧ y5.heap[w.heap.size + 1]? = some (.cells #[.int .u64 0, .int .u64 0, .int .u64 0, .int .u64 0, .int .u64 0, .int .u64 0, .int .u64 0, .int .u64 0, .int .u64 0, .int .u64 0, .int .u64 0, .bool false, .int .u8 0, .int .u8 0, .int .u8 0, .int .i64 0, .int .i64 0, .int .i64 0, .int .i64 0, .int .i64 0, .int .i64 0, .int .i64 0, .int .i64 0, .int .i64 0] 114 (0, 0)) by rw [← j4]; exact ⟨heap_setCell_same y4 h7 19 _ _ (.int .i64 1800000000) HC4.out.1, ((grown_setO' _ _ _ _).block _ (Array.getElem?_eq_some_iff.1 HC4.out.2).1 (by intro e; injection e with e; omega)).trans HC4.out.2⟩)
  have HV5 := Lib.hid (show Up w y5 by rw [← j4]; exact HV4.out.set (p := ⟨h7, 19, none⟩) (by simp; omega) (.int .i64 1800000000))
  have p5 := blkc HC5.out.1 18 _ rfl
  have f5 := blkf HC5.out.1 18
  obtain ⟨y6, j5⟩ : ∃ x, y5.setCell ⟨h7, 18, none⟩ (.int .i64 (-850511287)) = x := ⟨_, rfl⟩
  have HC6 := Lib.hid (show y6.heap[h7]? = some (.cells #[.int .u64 0, .int .u64 0, .int .u64 0, .int .u64 0, .int .u64 0, .int .u64 0, .int .u64 0, .int .u64 0, .int .u64 (n : Int), .int .u64 (m : Int), .int .u64 (ct : Int), .bool true, .int .u8 1, .int .u8 1, .int .u8 (kind : Int), .int .i64 z0, .int .i64 z1, .int .i64 (-1800000000), .int .i64 (-850511287), .int .i64 1800000000, .int .i64 0, .int .i64 z0, .int .i64 0, .int .i64 0] 114 (0, 0)) ∧ y6.heap[w.heap.size + 1]? = some (.cells #[.int .u64 0, .int .u64 0, .int .u64 0, .int .u64 0, .int .u64 0, .int .u64 0, .int .u64 0, .int .u64 0, .int .u64 0, .int .u64 0, .int .u64 0, .bool false, .int .u8 0, .int .u8 0, .int .u8 0, .int .i64 0, .int .i64 0, .int .i64 0, .int .i64 0, .int .i64 0, .int .i64 0, .int .i64 0, .int .i64 0, .int .i64 0] 114 (0, 0)) by rw [← j5]; exact ⟨heap_setCell_same y5 h7 18 _ _ (.int .i64 (-850511287)) HC5.out.1, ((grown_setO' _ _ _ _).block _ (Array.getElem?_eq_some_iff.1 HC5.out.2).1 (by intro e; injection e with e; omega)).trans HC5.out.2⟩)
  have HV6 := Lib.hid (show Up w y6 by rw [← j5]; exact HV5.out.set (p := ⟨h7, 18, none⟩) (by simp; omega) (.int .i64 (-850511287)))
  have p6 := blkc HC6.out.1 20 _ rfl
  have f6 := blkf HC6.out.1 20
  obtain ⟨y7, j6⟩ : ∃ x, y6.setCell ⟨h7, 20, none⟩ (.int .i64 850511287) = x := ⟨_, rfl⟩
  have HC7 := Lib.hid (show y7.heap[h7]? = some (.cells #[.int .u64 0, .int .u64 0, .int .u64 0, .int .u64 0, .int .u64 0, .int .u64 0, .int .u64 0, .int .u64 0, .int .u64 (n : Int), .int .u64 (m : Int), .int .u64 (ct : Int), .bool true, .int .u8 1, .int .u8 1, .int .u8 (kind : Int), .int .i64 z0, .int .i64 z1, .int .i64 (-1800000000), .int .i64 (-850511287), .int .i64 1800000000, .int .i64 850511287, .int .i64 z0, .int .i64 0, .int .i64 0] 114 (0, 0)) ∧ y7.heap[w.heap.size + 1]? = some (.cells #[.int .u64 0, .int .u64 0, .int .u64 0, .int .u64 0, .int .u64 0, .int .u64 0, .int .u64 0, .int .u64 0, .int .u64 0, .int .u64 0, .int .u64 0, .bool false, .int .u8 0, .int .u8 0, .int .u8 0, .int .i64 0, .int .i64 0, .int .i64 0, .int .i64 0, .int .i64 0, .int .i64 0, .int .i64 0, .int .i64 0, .int .i64 0] 114 (0, 0)) by rw [← j6]; exact ⟨heap_setCell_same y6 h7 20 _ _ (.int .i64 850511287) HC6.out.1, ((grown_setO' _ _ _ _).block _ (Array.getElem?_eq_some_iff.1 HC6.out.2).1 (by intro e; injection e with e; omega)).trans HC6.out.2⟩)
  have HV7 := Lib.hid (show Up w y7 by rw [← j6]; exact HV6.out.set (p := ⟨h7, 20, none⟩) (by simp; omega) (.int .i64 850511287))
  have HTH := Lib.hid (th_blk HC7.out.2)
  go_wp2_with (first
    | (refine wpList_load_mid rfl 114 _ rfl h7 0 rfl [.int .u64 0, .int .u64 0, .int .u64 0, .int .u64 0, .int .u64 0, .int .u64 0, .int .u64 0, .int .u64 0, .int .u64 (n : Int), .int .u64 (m : Int), .int .u64 (ct : Int), .bool true, .int .u8 1, .int .u8 1, .int .u8 (kind : Int), .int .i64 z0, .int .i64 z1, .int .i64 (-1800000000), .int .i64 (-850511287), .int .i64 1800000000, .int .i64 850511287, .int .i64 z0, .int .i64 0, .int .i64 0] _ (rg_blk HC7.out.1) Tryz.underlying114 rfl (by kernel_rfl) ?_)
    | (refine wpList_store_mid rfl 114 _ _ rfl (w.heap.size + 1) 0 #[.int .u64 0, .int .u64 0, .int .u64 0, .int .u64 0, .int .u64 0, .int .u64 0, .int .u64 0, .int .u64 0, .int .u64 (n : Int), .int .u64 (m : Int), .int .u64 (ct : Int), .bool true, .int .u8 1, .int .u8 1, .int .u8 (kind : Int), .int .i64 z0, .int .i64 z1, .int .i64 (-1800000000), .int .i64 (-850511287), .int .i64 1800000000, .int .i64 850511287, .int .i64 z0, .int .i64 0, .int .i64 0] rfl rfl HTH.out (by kernel_rfl) (by simp [Value.oneCell']) ?_))
  exact ⟨rfl, _, results_cell_mid rfl _ _ (w.heap.size + 1) [.int .u64 0, .int .u64 0, .int .u64 0, .int .u64 0, .int .u64 0, .int .u64 0, .int .u64 0, .int .u64 0, .int .u64 (n : Int), .int .u64 (m : Int), .int .u64 (ct : Int), .bool true, .int .u8 1, .int .u8 1, .int .u8 (kind : Int), .int .i64 z0, .int .i64 z1, .int .i64 (-1800000000), .int .i64 (-850511287), .int .i64 1800000000, .int .i64 850511287, .int .i64 z0, .int .i64 0, .int .i64 0] _ rfl (World.rangeAt_setCells_same y7 (w.heap.size + 1) 0 [.int .u64 0, .int .u64 0, .int .u64 0, .int .u64 0, .int .u64 0, .int .u64 0, .int .u64 0, .int .u64 0, .int .u64 (n : Int), .int .u64 (m : Int), .int .u64 (ct : Int), .bool true, .int .u8 1, .int .u8 1, .int .u8 (kind : Int), .int .i64 z0, .int .i64 z1, .int .i64 (-1800000000), .int .i64 (-850511287), .int .i64 1800000000, .int .i64 850511287, .int .i64 z0, .int .i64 0, .int .i64 0] HTH.out) Tryz.underlying114 rfl (by kernel_rfl), rfl, up_setCells _ HV7.out (by omega)⟩
end Go.Proofs.YtkfococpanailaaGreatDoor
/- Kit of the header's walks: its cells, parts of a text. -/
namespace Go.Proofs.YtkfococpanailaaGreatDoor
open Go.RowKit Go.Gz Go.Shelf

set_option maxRecDepth 100000
theorem results_cell_tmp {P : Program} {fn : Func} {p q : Tmp} {ty : TypeId} (h : fn.results = #[.cell p ty, .tmp q]) (tmps : Array Value) (w : World) (b : Nat) (cs : List Value) (d : TypeDesc)
    (hp : tmps.getD p undef = .pointer (some ⟨b, 0, none⟩)) (hc : w.rangeAt b 0 cs) (hu : P.underlying ty = some d) (hd : d.isRow = true) (hi : (P.info? ty).map (·.size) = some cs.length) :
    (results fn tmps).run P w = .ok (.tuple #[.agg cs.toArray, tmps.getD q undef]) w := by
  have hp' : tmps[p]?.getD undef = .pointer (some ⟨b, 0, none⟩) := by simpa using hp
  simp [results, h, hp', asAddr, run_loadVar_mid w b 0 ty cs d hc hu hd hi]
theorem results_cell2_tmp {P : Program} {fn : Func} {p p2 q : Tmp} {ty ty2 : TypeId} (h : fn.results = #[.cell p ty, .cell p2 ty2, .tmp q]) (tmps : Array Value) (w : World) (b : Nat) (cs : List Value) (d : TypeDesc) (b2 : Nat) (cs2 : List Value) (d2 : TypeDesc)
    (hp : tmps.getD p undef = .pointer (some ⟨b, 0, none⟩)) (hp2 : tmps.getD p2 undef = .pointer (some ⟨b2, 0, none⟩)) (hc : w.rangeAt b 0 cs) (hc2 : w.rangeAt b2 0 cs2) (hu : P.underlying ty = some d) (hd : d.isRow = true) (hi : (P.info? ty).map (·.size) = some cs.length)
    (hu2 : P.underlying ty2 = some d2) (hd2 : d2.isRow = true) (hi2 : (P.info? ty2).map (·.size) = some cs2.length) :
    (results fn tmps).run P w = .ok (.tuple #[.agg cs.toArray, .agg cs2.toArray, tmps.getD q undef]) w := by
  have hp' : tmps[p]?.getD undef = .pointer (some ⟨b, 0, none⟩) := by simpa using hp
  have hp2' : tmps[p2]?.getD undef = .pointer (some ⟨b2, 0, none⟩) := by simpa using hp2
  simp [results, h, hp', hp2', asAddr, run_loadVar_mid w b 0 ty cs d hc hu hd hi, run_loadVar_mid w b2 0 ty2 cs2 d2 hc2 hu2 hd2 hi2]
/-- a header's cells -/
abbrev HC (r0 r1 m0 m1 l0 l1 d0 d1 adr ent con : Nat) (clu : Bool) (inn out kind minz maxz : Nat) (minlon minlat maxlon maxlat : Int) (zoom : Nat) (lon lat : Int) : Array Value :=
  #[.int .u64 (r0 : Int), .int .u64 (r1 : Int), .int .u64 (m0 : Int), .int .u64 (m1 : Int), .int .u64 (l0 : Int), .int .u64 (l1 : Int), .int .u64 (d0 : Int), .int .u64 (d1 : Int), .int .u64 (adr : Int), .int .u64 (ent : Int), .int .u64 (con : Int), .bool clu, .int .u8 (inn : Int), .int .u8 (out : Int), .int .u8 (kind : Int), .int .i64 (minz : Int), .int .i64 (maxz : Int), .int .i64 minlon, .int .i64 minlat, .int .i64 maxlon, .int .i64 maxlat, .int .i64 (zoom : Int), .int .i64 lon, .int .i64 lat]
abbrev HZ : Array Value := #[.int .u64 0, .int .u64 0, .int .u64 0, .int .u64 0, .int .u64 0, .int .u64 0, .int .u64 0, .int .u64 0, .int .u64 0, .int .u64 0, .int .u64 0, .bool false, .int .u8 0, .int .u8 0, .int .u8 0, .int .i64 0, .int .i64 0, .int .i64 0, .int .i64 0, .int .i64 0, .int .i64 0, .int .i64 0, .int .i64 0, .int .i64 0]
theorem part_mk (l : Bs) (a b c : Nat) (h : a + b = c) : (⟨l.toArray⟩ : ByteArray).extract a c = ⟨(Gz.part l a b).toArray⟩ := by
  subst h
  unfold Gz.part
  apply ByteArray.ext
  rw [ByteArray.data_extract]
  apply Array.ext'
  simp [List.extract_eq_take_drop]
theorem build_sc (a b c d e f g h : Nat) (w : World) : (Instr.build 192 #[(0, .agg #[.int .u64 (a : Int), .int .u64 (b : Int)]), (1, .agg #[.int .u64 (c : Int), .int .u64 (d : Int)]), (2, .agg #[.int .u64 (e : Int), .int .u64 (f : Int)]), (3, .agg #[.int .u64 (g : Int), .int .u64 (h : Int)])]).run Tryz.prog w = .ok (.agg #[.int .u64 (a : Int), .int .u64 (b : Int), .int .u64 (c : Int), .int .u64 (d : Int), .int .u64 (e : Int), .int .u64 (f : Int), .int .u64 (g : Int), .int .u64 (h : Int)]) w := by kernel_rfl
abbrev E4 : Array Value := #[.string ⟨#[]⟩, .string ⟨#[]⟩, .string ⟨#[]⟩, .string ⟨#[]⟩]
abbrev S4 (a b c d : Bs) : Array Value := #[.string ⟨a.toArray⟩, .string ⟨b.toArray⟩, .string ⟨c.toArray⟩, .string ⟨d.toArray⟩]
theorem build_hz (w : World) : (Instr.build 114 #[]).run Tryz.prog w = .ok (.agg HZ) w := by kernel_rfl
theorem build_e4 (w : World) : (Instr.build 116 #[]).run Tryz.prog w = .ok (.agg E4) w := by kernel_rfl
end Go.Proofs.YtkfococpanailaaGreatDoor
/- Walks: header.Decode of a text that is too short; layout.Cut where the header is none. -/
namespace Go.Proofs.YtkfococpanailaaGreatDoor
open Go.RowKit Go.Gz Go.Shelf

set_option maxRecDepth 100000
set_option maxHeartbeats 8000000 in
theorem hdec_short (s : Bs) (hl : s.length < 127) (w : World) :
    Calls Tryz.prog 136 #[.string ⟨s.toArray⟩] w fun e w' => e = .returned (.tuple #[.agg HZ, .int .i64 3]) ∧ Up w w' := by
  have t0 : (s.length : Int) < 127 := by omega
  have hb := heap_alloc_new w (.cells HZ 114)
  have hu := (Up.refl w).alloc (.cells HZ 114)
  have bz := build_hz (w.alloc (.cells HZ 114))
  have th1 : (w.alloc (.cells HZ 114)).there w.heap.size 0 24 := show _ from (th_blk hb : World.there _ _ _ (HZ).size)
  have hrg := World.rangeAt_setCells_same (w.alloc (.cells HZ 114)) w.heap.size 0 (HZ).toList th1
  have hu2 : Up w ((w.alloc (.cells HZ 114)).setCells w.heap.size 0 (HZ).toList) := up_setCells _ hu (Nat.le_refl _)
  obtain ⟨X, hX⟩ : ∃ x, (w.alloc (.cells HZ 114)).setCells w.heap.size 0 (HZ).toList = x := ⟨_, rfl⟩
  rw [hX] at hrg hu2
  have HU := Lib.hid hu2
  clear hb hu hu2
  go_enter Tryz.func136, Tryz.ntmps136
  go_wp2_with (refine wpList_store_mid rfl 114 _ _ rfl w.heap.size 0 HZ rfl rfl th1 (by kernel_rfl) (by simp [Value.oneCell']) ?_; rw [hX])
  refine bodyPost_ret (results_cell_tmp rfl _ _ w.heap.size (HZ).toList _ rfl hrg Tryz.underlying114 rfl (by kernel_rfl)) rfl ?_
  exact ⟨rfl, HU.out⟩
set_option maxHeartbeats 8000000 in
theorem lcut_bad (s : Bs) (E : Int) (hE : E ≠ 0) (DC : ∀ w, Hid (Calls Tryz.prog 136 #[.string ⟨s.toArray⟩] w fun e w' => e = .returned (.tuple #[.agg HZ, .int .i64 E]) ∧ Up w w')) (w : World) :
    Calls Tryz.prog 86 #[.string ⟨s.toArray⟩] w fun e w' => e = .returned (.tuple #[.agg HZ, .agg E4, .int .i64 E]) ∧ Up w w' := by
  have hEb : (E == 0) = false := by rw [beq_eq_false_iff_ne]; exact hE
  have hu0 := ((Up.refl w).alloc (.cells HZ 114)).alloc (.cells E4 116)
  have hr0 := ((Up.refl _).alloc (.cells E4 116)).obj (heap_alloc_new w (.cells HZ 114))
  have hp0 := heap_alloc_new (w.alloc (.cells HZ 114)) (.cells E4 116)
  rw [World.size_alloc] at hp0
  have HR0 := Lib.hid hr0
  have HP0 := Lib.hid hp0
  have HU0 := Lib.hid hu0
  clear hr0 hp0 hu0
  go_enter Tryz.func86, Tryz.ntmps86
  go_wp2_with fail
  with_reducible refine (DC _).out.mono ?_
  rintro e w1 ⟨rfl, hu1⟩
  have hu2 := hu1.trans ((Up.refl w1).alloc (.cells HZ 114))
  have hr2 := hu2.obj HR0.out
  have hp2 := hu2.obj HP0.out
  have HU2 := Lib.hid (HU0.out.trans hu2)
  obtain ⟨X0, hX0⟩ : ∃ x, w1.alloc (.cells HZ 114) = x := ⟨_, rfl⟩
  rw [hX0] at hr2 hp2 HU2
  have bz := build_hz X0
  have be := build_e4 X0
  have th1 : X0.there w.heap.size 0 24 := show _ from (th_blk hr2 : World.there _ _ _ (HZ).size)
  have th2 : X0.there (w.heap.size + 1) 0 4 := show _ from (th_blk hp2 : World.there _ _ _ (E4).size)
  replace th2 := World.there_setCells th2 w.heap.size 0 (HZ).toList
  have hg1 := World.rangeAt_setCells_same X0 w.heap.size 0 (HZ).toList th1
  have hu3 := up_setCells (HZ).toList (o := 0) HU2.out (Nat.le_refl _)
  obtain ⟨X1, hX1⟩ : ∃ x, X0.setCells w.heap.size 0 (HZ).toList = x := ⟨_, rfl⟩
  rw [hX1] at th2 hg1 hu3
  have hg2 := World.rangeAt_setCells_apart hg1 (w.heap.size + 1) 0 (E4).toList (.inl (by omega))
  have hg3 := World.rangeAt_setCells_same X1 (w.heap.size + 1) 0 (E4).toList th2
  have hu4 := up_setCells (E4).toList (o := 0) (b := w.heap.size + 1) hu3 (by omega)
  obtain ⟨X2, hX2⟩ : ∃ x, X1.setCells (w.heap.size + 1) 0 (E4).toList = x := ⟨_, rfl⟩
  rw [hX2] at hg2 hg3 hu4
  have HU4 := Lib.hid hu4
  have HX0 := Lib.hid hX0
  clear hu1 hu2 hr2 hp2 hu3 hu4 hg1 HU2 HU0 HR0 HP0 hX0
  go_wp2_with (first
    | (refine wpList_store_new w1 rfl 114 _ _ rfl HZ HZ rfl rfl (by kernel_rfl) rfl (by simp [Value.oneCell']) ?_; rw [HX0.out])
    | (refine wpList_store_mid rfl 114 _ _ rfl w.heap.size 0 HZ rfl rfl th1 (by kernel_rfl) (by simp [Value.oneCell']) ?_; rw [hX1])
    | (refine wpList_store_mid rfl 116 _ _ rfl (w.heap.size + 1) 0 E4 rfl rfl th2 (by kernel_rfl) (by simp [Value.oneCell']) ?_; rw [hX2]))
  refine bodyPost_ret (results_cell2_tmp rfl _ _ w.heap.size (HZ).toList _ (w.heap.size + 1) (E4).toList _ rfl rfl hg2 hg3 Tryz.underlying114 rfl (by kernel_rfl) Tryz.underlying116 rfl (by kernel_rfl)) rfl ?_
  exact ⟨rfl, HU4.out⟩
end Go.Proofs.YtkfococpanailaaGreatDoor
