/- Walk: press.head. -/
import Derived.Test.YtgoelpjkfofbbaaGreatDoorG16
import Derived.Test.YtgoelpjkfofbbaaGreatDoorG17
import Derived.Test.YtgoelpjkfofbbaaGreatDoorG18
import Derived.Deep.WholeRow
namespace Go.Proofs.YtgoelpjkfofbbaaGreatDoor
open Go.RowKit Go.Gz Go.Shelf

set_option maxRecDepth 100000
theorem wpList_store_new {P : Program} {ops : Array Oper} {rest : List Oper} {op : Oper} {a : Act} {Q : Exit → Act → World → Prop} (w : World) (hgd : op.guard = none) (ty : TypeId) (x y : Operand) (ho : op.op = .store ty x y)
    (c c' : Array Value) (hx : a.eval x = .pointer (some ⟨w.heap.size, 0, none⟩)) (hy : a.eval y = .agg c') (hi : (P.info? ty).map (·.size) = some c'.size) (hcs : c.size = c'.size) (h1 : c'.all (·.oneCell') = true)
    (h : wpList P ops Q rest (a.put op.dst undef) (w.alloc (.cells c' ty))) : wpList P ops Q (op :: rest) a (w.alloc (.cells c ty)) :=
  wpList_plain hgd fun _ hK => by
    unfold Oper.wp execOp
    simp only [ho, hx, hy, Instr.storeAt, Instr.sureAddr, Sem.run_bind, Sem.run_pure, Result.andThen_ok, run_storeVar_new w ty c c' hi hcs h1]
    exact hK _ _ h
theorem build_hd (n m ct kind : Nat) (w : World) : (Instr.build 51 #[(4, .int .u64 (n : Int)), (5, .int .u64 (m : Int)), (6, .int .u64 (ct : Int)), (7, .bool true), (8, .int .u8 1), (9, .int .u8 1), (10, .int .u8 (kind : Int))]).run Tryz.prog w = .ok (.agg #[.int .u64 0, .int .u64 0, .int .u64 0, .int .u64 0, .int .u64 0, .int .u64 0, .int .u64 0, .int .u64 0, .int .u64 (n : Int), .int .u64 (m : Int), .int .u64 (ct : Int), .bool true, .int .u8 1, .int .u8 1, .int .u8 (kind : Int), .int .i64 0, .int .i64 0, .int .i64 0, .int .i64 0, .int .i64 0, .int .i64 0, .int .i64 0, .int .i64 0, .int .i64 0]) w := by kernel_rfl
set_option maxHeartbeats 8000000 in
theorem phead_any (L : Items) (hg : Gz.Good L) (hl : L.length ≤ 1000) (l : Ents) (hok : ∀ e ∈ l, okE e) (hll : l.length ≤ 1000) (kind : Nat) (A : Option Addr) (c : Nat) (A2 : Option Addr) (c2 : Nat) (w : World) (hr : Rd w 2 A L.length c (itV L)) (hr2 : Rd w 4 A2 l.length c2 (entV l)) :
    Calls Tryz.prog 43 #[.agg #[.slice A L.length c], .slice A2 l.length c2, .int .u8 (kind : Int)] w fun e w' => e = .returned (hdrV (headH L l kind)) ∧ Up w w' := by
  have LN := fun w => Lib.hid (len_any A L.length c w)
  have CT := fun w hr => Lib.hid (conts_any l hok hll A2 c2 w hr)
  have ZM := fun w hr => Lib.hid (zooms_any L hg (by omega) A c w hr)
  have HR := Lib.hid hr
  have HR2 := Lib.hid hr2
  have hcl := seenE_len l
  have hE : hdrV (headH L l kind) = .agg #[.int .u64 0, .int .u64 0, .int .u64 0, .int .u64 0, .int .u64 0, .int .u64 0, .int .u64 0, .int .u64 0, .int .u64 ((L.length : Nat) : Int), .int .u64 ((l.length : Nat) : Int), .int .u64 ((contE l : Nat) : Int), .bool true, .int .u8 1, .int .u8 1, .int .u8 (kind : Int), .int .i64 (minZ L), .int .i64 (maxZ L), .int .i64 (-1800000000), .int .i64 (-850511287), .int .i64 1800000000, .int .i64 850511287, .int .i64 (minZ L), .int .i64 0, .int .i64 0] := rfl
  rw [hE]
  clear hE hr hr2 hg hok
  generalize contE l = ct at *
  generalize minZ L = z0 at *
  generalize maxZ L = z1 at *
  generalize L.length = n at *
  generalize l.length = m at *
  have e1 : IntKind.u64.wrap (n : Int) = (n : Int) := IntWalk.u64_in _ (by omega)
  have e2 : IntKind.u64.wrap (m : Int) = (m : Int) := IntWalk.u64_in _ (by omega)
  have e3 : IntKind.u64.wrap (ct : Int) = (ct : Int) := IntWalk.u64_in _ (by omega)
  have b0 := ((Up.refl _).alloc (.cells #[.int .u64 0, .int .u64 0, .int .u64 0, .int .u64 0, .int .u64 0, .int .u64 0, .int .u64 0, .int .u64 0, .int .u64 0, .int .u64 0, .int .u64 0, .bool false, .int .u8 0, .int .u8 0, .int .u8 0, .int .i64 0, .int .i64 0, .int .i64 0, .int .i64 0, .int .i64 0, .int .i64 0, .int .i64 0, .int .i64 0, .int .i64 0] 51)).obj (heap_alloc_new w (.cells #[.slice A n c] 30))
  have b1 := heap_alloc_new (w.alloc (.cells #[.slice A n c] 30)) (.cells #[.int .u64 0, .int .u64 0, .int .u64 0, .int .u64 0, .int .u64 0, .int .u64 0, .int .u64 0, .int .u64 0, .int .u64 0, .int .u64 0, .int .u64 0, .bool false, .int .u8 0, .int .u8 0, .int .u8 0, .int .i64 0, .int .i64 0, .int .i64 0, .int .i64 0, .int .i64 0, .int .i64 0, .int .i64 0, .int .i64 0, .int .i64 0] 51)
  rw [World.size_alloc] at b1
  have hu0 : Up w ((w.alloc (.cells #[.slice A n c] 30)).alloc (.cells #[.int .u64 0, .int .u64 0, .int .u64 0, .int .u64 0, .int .u64 0, .int .u64 0, .int .u64 0, .int .u64 0, .int .u64 0, .int .u64 0, .int .u64 0, .bool false, .int .u8 0, .int .u8 0, .int .u8 0, .int .i64 0, .int .i64 0, .int .i64 0, .int .i64 0, .int .i64 0, .int .i64 0, .int .i64 0, .int .i64 0, .int .i64 0] 51)) := ((Up.refl w).alloc _).alloc _
  have c0 := (blk_one b0).1
  go_enter Tryz.func43, Tryz.ntmps43
  go_wp2_with fail
  obtain ⟨X, hX⟩ : ∃ x, ((w.alloc (.cells #[.slice A n c] 30)).alloc (.cells #[.int .u64 0, .int .u64 0, .int .u64 0, .int .u64 0, .int .u64 0, .int .u64 0, .int .u64 0, .int .u64 0, .int .u64 0, .int .u64 0, .int .u64 0, .bool false, .int .u8 0, .int .u8 0, .int .u8 0, .int .i64 0, .int .i64 0, .int .i64 0, .int .i64 0, .int .i64 0, .int .i64 0, .int .i64 0, .int .i64 0, .int .i64 0] 51)) = x := ⟨_, rfl⟩
  rw [hX] at b0 b1 hu0 c0 ⊢
  clear hX
  refine (LN _).out.mono ?_
  rintro e w1 ⟨rfl, hu1⟩
  go_wp2_with fail
  refine (CT _ (HR2.out.up (hu0.trans hu1))).out.mono ?_
  rintro e w2 ⟨rfl, hu2⟩
  have hb := build_hd n m ct kind w2
  have hu12 := hu1.trans hu2
  have b7 := heap_alloc_new w2 (.cells #[.int .u64 0, .int .u64 0, .int .u64 0, .int .u64 0, .int .u64 0, .int .u64 0, .int .u64 0, .int .u64 0, .int .u64 (n : Int), .int .u64 (m : Int), .int .u64 (ct : Int), .bool true, .int .u8 1, .int .u8 1, .int .u8 (kind : Int), .int .i64 0, .int .i64 0, .int .i64 0, .int .i64 0, .int .i64 0, .int .i64 0, .int .i64 0, .int .i64 0, .int .i64 0] 51)
  have hu7 := hu12.trans ((Up.refl w2).alloc (.cells #[.int .u64 0, .int .u64 0, .int .u64 0, .int .u64 0, .int .u64 0, .int .u64 0, .int .u64 0, .int .u64 0, .int .u64 (n : Int), .int .u64 (m : Int), .int .u64 (ct : Int), .bool true, .int .u8 1, .int .u8 1, .int .u8 (kind : Int), .int .i64 0, .int .i64 0, .int .i64 0, .int .i64 0, .int .i64 0, .int .i64 0, .int .i64 0, .int .i64 0, .int .i64 0] 51))
  have c0' := hu7.cell c0
  have HB := Lib.hid (And.intro (hu7.obj b0) (hu7.obj b1))
  have HB7 := Lib.hid b7
  have HU7 := Lib.hid (hu0.trans hu7)
  have hH7 : w.heap.size + 1 < w2.heap.size := by have := (Array.getElem?_eq_some_iff.1 b1).1; have := hu12.le; omega
  clear b0 b1 c0 b7 hu7 hu12 hu0 hu1 hu2
  go_wp2_with (refine wpList_store_new w2 rfl 51 _ _ rfl #[.int .u64 0, .int .u64 0, .int .u64 0, .int .u64 0, .int .u64 0, .int .u64 0, .int .u64 0, .int .u64 0, .int .u64 0, .int .u64 0, .int .u64 0, .bool false, .int .u8 0, .int .u8 0, .int .u8 0, .int .i64 0, .int .i64 0, .int .i64 0, .int .i64 0, .int .i64 0, .int .i64 0, .int .i64 0, .int .i64 0, .int .i64 0] #[.int .u64 0, .int .u64 0, .int .u64 0, .int .u64 0, .int .u64 0, .int .u64 0, .int .u64 0, .int .u64 0, .int .u64 (n : Int), .int .u64 (m : Int), .int .u64 (ct : Int), .bool true, .int .u8 1, .int .u8 1, .int .u8 (kind : Int), .int .i64 0, .int .i64 0, .int .i64 0, .int .i64 0, .int .i64 0, .int .i64 0, .int .i64 0, .int .i64 0, .int .i64 0] rfl rfl (by kernel_rfl) rfl (by simp [Value.oneCell']) ?_)
  obtain ⟨Y0, hY⟩ : ∃ x, w2.alloc (.cells #[.int .u64 0, .int .u64 0, .int .u64 0, .int .u64 0, .int .u64 0, .int .u64 0, .int .u64 0, .int .u64 0, .int .u64 (n : Int), .int .u64 (m : Int), .int .u64 (ct : Int), .bool true, .int .u8 1, .int .u8 1, .int .u8 (kind : Int), .int .i64 0, .int .i64 0, .int .i64 0, .int .i64 0, .int .i64 0, .int .i64 0, .int .i64 0, .int .i64 0, .int .i64 0] 51) = x := ⟨_, rfl⟩
  rw [hY] at HB7 HU7 HB c0' ⊢
  clear hY hb
  refine (ZM _ (HR.out.up HU7.out)).out.mono ?_
  rintro e y0 ⟨rfl, hu8⟩
  have HB8 := Lib.hid (And.intro (hu8.obj HB7.out) (hu8.obj HB.out.2))
  have HU8 := Lib.hid (HU7.out.trans hu8)
  clear c0' hu8 HB HB7 HU7
  obtain ⟨h7, hh7⟩ : ∃ h, w2.heap.size = h := ⟨_, rfl⟩
  rw [hh7] at HB8 hH7 ⊢
  clear hh7
  have p0 := blkc HB8.out.1 15 _ rfl
  have f0 := blkf HB8.out.1 15
  obtain ⟨y1, j0⟩ : ∃ x, y0.setCell ⟨h7, 15, none⟩ (.int .i64 z0) = x := ⟨_, rfl⟩
  have HC1 := Lib.hid (show y1.heap[h7]? = some (.cells #[.int .u64 0, .int .u64 0, .int .u64 0, .int .u64 0, .int .u64 0, .int .u64 0, .int .u64 0, .int .u64 0, .int .u64 (n : Int), .int .u64 (m : Int), .int .u64 (ct : Int), .bool true, .int .u8 1, .int .u8 1, .int .u8 (kind : Int), .int .i64 z0, .int .i64 0, .int .i64 0, .int .i64 0, .int .i64 0, .int .i64 0, .int .i64 0, .int .i64 0, .int .i64 0] 51 (0, 0)) ∧ y1.heap[w.heap.size + 1]? = some (.cells #[.int .u64 0, .int .u64 0, .int .u64 0, .int .u64 0, .int .u64 0, .int .u64 0, .int .u64 0, .int .u64 0, .int .u64 0, .int .u64 0, .int .u64 0, .bool false, .int .u8 0, .int .u8 0, .int .u8 0, .int .i64 0, .int .i64 0, .int .i64 0, .int .i64 0, .int .i64 0, .int .i64 0, .int .i64 0, .int .i64 0, .int .i64 0] 51 (0, 0)) by rw [← j0]; exact ⟨heap_setCell_same y0 h7 15 _ _ (.int .i64 z0) HB8.out.1, ((grown_setO' _ _ _ _).block _ (Array.getElem?_eq_some_iff.1 HB8.out.2).1 (by intro e; injection e with e; omega)).trans HB8.out.2⟩)
  have HV1 := Lib.hid (show Up w y1 by rw [← j0]; exact HU8.out.set (p := ⟨h7, 15, none⟩) (by simp; omega) (.int .i64 z0))
  have p1 := blkc HC1.out.1 16 _ rfl
  have f1 := blkf HC1.out.1 16
  obtain ⟨y2, j1⟩ : ∃ x, y1.setCell ⟨h7, 16, none⟩ (.int .i64 z1) = x := ⟨_, rfl⟩
  have HC2 := Lib.hid (show y2.heap[h7]? = some (.cells #[.int .u64 0, .int .u64 0, .int .u64 0, .int .u64 0, .int .u64 0, .int .u64 0, .int .u64 0, .int .u64 0, .int .u64 (n : Int), .int .u64 (m : Int), .int .u64 (ct : Int), .bool true, .int .u8 1, .int .u8 1, .int .u8 (kind : Int), .int .i64 z0, .int .i64 z1, .int .i64 0, .int .i64 0, .int .i64 0, .int .i64 0, .int .i64 0, .int .i64 0, .int .i64 0] 51 (0, 0)) ∧ y2.heap[w.heap.size + 1]? = some (.cells #[.int .u64 0, .int .u64 0, .int .u64 0, .int .u64 0, .int .u64 0, .int .u64 0, .int .u64 0, .int .u64 0, .int .u64 0, .int .u64 0, .int .u64 0, .bool false, .int .u8 0, .int .u8 0, .int .u8 0, .int .i64 0, .int .i64 0, .int .i64 0, .int .i64 0, .int .i64 0, .int .i64 0, .int .i64 0, .int .i64 0, .int .i64 0] 51 (0, 0)) by rw [← j1]; exact ⟨heap_setCell_same y1 h7 16 _ _ (.int .i64 z1) HC1.out.1, ((grown_setO' _ _ _ _).block _ (Array.getElem?_eq_some_iff.1 HC1.out.2).1 (by intro e; injection e with e; omega)).trans HC1.out.2⟩)
  have HV2 := Lib.hid (show Up w y2 by rw [← j1]; exact HV1.out.set (p := ⟨h7, 16, none⟩) (by simp; omega) (.int .i64 z1))
  have p2 := blkc HC2.out.1 21 _ rfl
  have f2 := blkf HC2.out.1 21
  have g15 := blkc HC2.out.1 15 _ rfl
  obtain ⟨y3, j2⟩ : ∃ x, y2.setCell ⟨h7, 21, none⟩ (.int .i64 z0) = x := ⟨_, rfl⟩
  have HC3 := Lib.hid (show y3.heap[h7]? = some (.cells #[.int .u64 0, .int .u64 0, .int .u64 0, .int .u64 0, .int .u64 0, .int .u64 0, .int .u64 0, .int .u64 0, .int .u64 (n : Int), .int .u64 (m : Int), .int .u64 (ct : Int), .bool true, .int .u8 1, .int .u8 1, .int .u8 (kind : Int), .int .i64 z0, .int .i64 z1, .int .i64 0, .int .i64 0, .int .i64 0, .int .i64 0, .int .i64 z0, .int .i64 0, .int .i64 0] 51 (0, 0)) ∧ y3.heap[w.heap.size + 1]? = some (.cells #[.int .u64 0, .int .u64 0, .int .u64 0, .int .u64 0, .int .u64 0, .int .u64 0, .int .u64 0, .int .u64 0, .int .u64 0, .int .u64 0, .int .u64 0, .bool false, .int .u8 0, .int .u8 0, .int .u8 0, .int .i64 0, .int .i64 0, .int .i64 0, .int .i64 0, .int .i64 0, .int .i64 0, .int .i64 0, .int .i64 0, .int .i64 0] 51 (0, 0)) by rw [← j2]; exact ⟨heap_setCell_same y2 h7 21 _ _ (.int .i64 z0) HC2.out.1, ((grown_setO' _ _ _ _).block _ (Array.getElem?_eq_some_iff.1 HC2.out.2).1 (by intro e; injection e with e; omega)).trans HC2.out.2⟩)
  have HV3 := Lib.hid (show Up w y3 by rw [← j2]; exact HV2.out.set (p := ⟨h7, 21, none⟩) (by simp; omega) (.int .i64 z0))
  have p3 := blkc HC3.out.1 17 _ rfl
  have f3 := blkf HC3.out.1 17
  obtain ⟨y4, j3⟩ : ∃ x, y3.setCell ⟨h7, 17, none⟩ (.int .i64 (-1800000000)) = x := ⟨_, rfl⟩
  have HC4 := Lib.hid (show y4.heap[h7]? = some (.cells #[.int .u64 0, .int .u64 0, .int .u64 0, .int .u64 0, .int .u64 0, .int .u64 0, .int .u64 0, .int .u64 0, .int .u64 (n : Int), .int .u64 (m : Int), .int .u64 (ct : Int), .bool true, .int .u8 1, .int .u8 1, .int .u8 (kind : Int), .int .i64 z0, .int .i64 z1, .int .i64 (-1800000000), .int .i64 0, .int .i64 0, .int .i64 0, .int .i64 z0, .int .i64 0, .int .i64 0] 51 (0, 0)) ∧ y4.heap[w.heap.size + 1]? = some (.cells #[.int .u64 0, .int .u64 0, .int .u64 0, .int .u64 0, .int .u64 0, .int .u64 0, .int .u64 0, .int .u64 0, .int .u64 0, .int .u64 0, .int .u64 0, .bool false, .int .u8 0, .int .u8 0, .int .u8 0, .int .i64 0, .int .i64 0, .int .i64 0, .int .i64 0, .int .i64 0, .int .i64 0, .int .i64 0, .int .i64 0, .int .i64 0] 51 (0, 0)) by rw [← j3]; exact ⟨heap_setCell_same y3 h7 17 _ _ (.int .i64 (-1800000000)) HC3.out.1, ((grown_setO' _ _ _ _).block _ (Array.getElem?_eq_some_iff.1 HC3.out.2).1 (by intro e; injection e with e; omega)).trans HC3.out.2⟩)
  have HV4 := Lib.hid (show Up w y4 by rw [← j3]; exact HV3.out.set (p := ⟨h7, 17, none⟩) (by simp; omega) (.int .i64 (-1800000000)))
  have p4 := blkc HC4.out.1 19 _ rfl
  have f4 := blkf HC4.out.1 19
  obtain ⟨y5, j4⟩ : ∃ x, y4.setCell ⟨h7, 19, none⟩ (.int .i64 1800000000) = x := ⟨_, rfl⟩
  have HC5 := Lib.hid (show y5.heap[h7]? = some (.cells #[.int .u64 0, .int .u64 0, .int .u64 0, .int .u64 0, .int .u64 0, .int .u64 0, .int .u64 0, .int .u64 0, .int .u64 (n : Int), .int .u64 (m : Int), .int .u64 (ct : Int), .bool true, .int .u8 1, .int .u8 1, .int .u8 (kind : Int), .int .i64 z0, .int .i64 z1, .int .i64 (-1800000000), .int .i64 0, .int .i64 1800000000, .int .i64 0, .int .i64 z0, .int .i64 0, .int .i64 0] 51 (0, 0)) ∧ y5.heap[w.heap.size + 1]? = some (.cells #[.int .u64 0, .int .u64 0, .int .u64 0, .int .u64 0, .int .u64 0, .int .u64 0, .int .u64 0, .int .u64 0, .int .u64 0, .int .u64 0, .int .u64 0, .bool false, .int .u8 0, .int .u8 0, .int .u8 0, .int .i64 0, .int .i64 0, .int .i64 0, .int .i64 0, .int .i64 0, .int .i64 0, .int .i64 0, .int .i64 0, .int .i64 0] 51 (0, 0)) by rw [← j4]; exact ⟨heap_setCell_same y4 h7 19 _ _ (.int .i64 1800000000) HC4.out.1, ((grown_setO' _ _ _ _).block _ (Array.getElem?_eq_some_iff.1 HC4.out.2).1 (by intro e; injection e with e; omega)).trans HC4.out.2⟩)
  have HV5 := Lib.hid (show Up w y5 by rw [← j4]; exact HV4.out.set (p := ⟨h7, 19, none⟩) (by simp; omega) (.int .i64 1800000000))
  have p5 := blkc HC5.out.1 18 _ rfl
  have f5 := blkf HC5.out.1 18
  obtain ⟨y6, j5⟩ : ∃ x, y5.setCell ⟨h7, 18, none⟩ (.int .i64 (-850511287)) = x := ⟨_, rfl⟩
  have HC6 := Lib.hid (show y6.heap[h7]? = some (.cells #[.int .u64 0, .int .u64 0, .int .u64 0, .int .u64 0, .int .u64 0, .int .u64 0, .int .u64 0, .int .u64 0, .int .u64 (n : Int), .int .u64 (m : Int), .int .u64 (ct : Int), .bool true, .int .u8 1, .int .u8 1, .int .u8 (kind : Int), .int .i64 z0, .int .i64 z1, .int .i64 (-1800000000), .int .i64 (-850511287), .int .i64 1800000000, .int .i64 0, .int .i64 z0, .int .i64 0, .int .i64 0] 51 (0, 0)) ∧ y6.heap[w.heap.size + 1]? = some (.cells #[.int .u64 0, .int .u64 0, .int .u64 0, .int .u64 0, .int .u64 0, .int .u64 0, .int .u64 0, .int .u64 0, .int .u64 0, .int .u64 0, .int .u64 0, .bool false, .int .u8 0, .int .u8 0, .int .u8 0, .int .i64 0, .int .i64 0, .int .i64 0, .int .i64 0, .int .i64 0, .int .i64 0, .int .i64 0, .int .i64 0, .int .i64 0] 51 (0, 0)) by rw [← j5]; exact ⟨heap_setCell_same y5 h7 18 _ _ (.int .i64 (-850511287)) HC5.out.1, ((grown_setO' _ _ _ _).block _ (Array.getElem?_eq_some_iff.1 HC5.out.2).1 (by intro e; injection e with e; omega)).trans HC5.out.2⟩)
  have HV6 := Lib.hid (show Up w y6 by rw [← j5]; exact HV5.out.set (p := ⟨h7, 18, none⟩) (by simp; omega) (.int .i64 (-850511287)))
  have p6 := blkc HC6.out.1 20 _ rfl
  have f6 := blkf HC6.out.1 20
  obtain ⟨y7, j6⟩ : ∃ x, y6.setCell ⟨h7, 20, none⟩ (.int .i64 850511287) = x := ⟨_, rfl⟩
  have HC7 := Lib.hid (show y7.heap[h7]? = some (.cells #[.int .u64 0, .int .u64 0, .int .u64 0, .int .u64 0, .int .u64 0, .int .u64 0, .int .u64 0, .int .u64 0, .int .u64 (n : Int), .int .u64 (m : Int), .int .u64 (ct : Int), .bool true, .int .u8 1, .int .u8 1, .int .u8 (kind : Int), .int .i64 z0, .int .i64 z1, .int .i64 (-1800000000), .int .i64 (-850511287), .int .i64 1800000000, .int .i64 850511287, .int .i64 z0, .int .i64 0, .int .i64 0] 51 (0, 0)) ∧ y7.heap[w.heap.size + 1]? = some (.cells #[.int .u64 0, .int .u64 0, .int .u64 0, .int .u64 0, .int .u64 0, .int .u64 0, .int .u64 0, .int .u64 0, .int .u64 0, .int .u64 0, .int .u64 0, .bool false, .int .u8 0, .int .u8 0, .int .u8 0, .int .i64 0, .int .i64 0, .int .i64 0, .int .i64 0, .int .i64 0, .int .i64 0, .int .i64 0, .int .i64 0, .int .i64 0] 51 (0, 0)) by rw [← j6]; exact ⟨heap_setCell_same y6 h7 20 _ _ (.int .i64 850511287) HC6.out.1, ((grown_setO' _ _ _ _).block _ (Array.getElem?_eq_some_iff.1 HC6.out.2).1 (by intro e; injection e with e; omega)).trans HC6.out.2⟩)
  have HV7 := Lib.hid (show Up w y7 by rw [← j6]; exact HV6.out.set (p := ⟨h7, 20, none⟩) (by simp; omega) (.int .i64 850511287))
  have HTH := Lib.hid (th_blk HC7.out.2)
  go_wp2_with (first
    | (refine wpList_load_mid rfl 51 _ rfl h7 0 rfl [.int .u64 0, .int .u64 0, .int .u64 0, .int .u64 0, .int .u64 0, .int .u64 0, .int .u64 0, .int .u64 0, .int .u64 (n : Int), .int .u64 (m : Int), .int .u64 (ct : Int), .bool true, .int .u8 1, .int .u8 1, .int .u8 (kind : Int), .int .i64 z0, .int .i64 z1, .int .i64 (-1800000000), .int .i64 (-850511287), .int .i64 1800000000, .int .i64 850511287, .int .i64 z0, .int .i64 0, .int .i64 0] _ (rg_blk HC7.out.1) Tryz.underlying51 rfl (by kernel_rfl) ?_)
    | (refine wpList_store_mid rfl 51 _ _ rfl (w.heap.size + 1) 0 #[.int .u64 0, .int .u64 0, .int .u64 0, .int .u64 0, .int .u64 0, .int .u64 0, .int .u64 0, .int .u64 0, .int .u64 (n : Int), .int .u64 (m : Int), .int .u64 (ct : Int), .bool true, .int .u8 1, .int .u8 1, .int .u8 (kind : Int), .int .i64 z0, .int .i64 z1, .int .i64 (-1800000000), .int .i64 (-850511287), .int .i64 1800000000, .int .i64 850511287, .int .i64 z0, .int .i64 0, .int .i64 0] rfl rfl HTH.out (by kernel_rfl) (by simp [Value.oneCell']) ?_))
  exact ⟨rfl, _, results_cell_mid rfl _ _ (w.heap.size + 1) [.int .u64 0, .int .u64 0, .int .u64 0, .int .u64 0, .int .u64 0, .int .u64 0, .int .u64 0, .int .u64 0, .int .u64 (n : Int), .int .u64 (m : Int), .int .u64 (ct : Int), .bool true, .int .u8 1, .int .u8 1, .int .u8 (kind : Int), .int .i64 z0, .int .i64 z1, .int .i64 (-1800000000), .int .i64 (-850511287), .int .i64 1800000000, .int .i64 850511287, .int .i64 z0, .int .i64 0, .int .i64 0] _ rfl (World.rangeAt_setCells_same y7 (w.heap.size + 1) 0 [.int .u64 0, .int .u64 0, .int .u64 0, .int .u64 0, .int .u64 0, .int .u64 0, .int .u64 0, .int .u64 0, .int .u64 (n : Int), .int .u64 (m : Int), .int .u64 (ct : Int), .bool true, .int .u8 1, .int .u8 1, .int .u8 (kind : Int), .int .i64 z0, .int .i64 z1, .int .i64 (-1800000000), .int .i64 (-850511287), .int .i64 1800000000, .int .i64 850511287, .int .i64 z0, .int .i64 0, .int .i64 0] HTH.out) Tryz.underlying51 rfl (by kernel_rfl), rfl, up_setCells _ HV7.out (by omega)⟩
end Go.Proofs.YtgoelpjkfofbbaaGreatDoor
