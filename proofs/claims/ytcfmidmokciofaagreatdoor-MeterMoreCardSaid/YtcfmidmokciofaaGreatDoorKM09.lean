/- Walk: the cache that keeps what was used last (lru): cut. Printed by gen_lru.py. -/
import Derived.Test.YtcfmidmokciofaaGreatDoorKM08
import Derived.Test.YtcfmidmokciofaaGreatDoorKM06
namespace Go.Proofs.YtcfmidmokciofaaGreatDoor
open Go.RowKit Go.Gz
set_option maxRecDepth 100000
/-- a key dropped -/
theorem CaR.delN {w : World} {B m most : Nat} {c : Ca} (h : CaR w B m most c) (k : NK) (hk : OkK k) (t2 ty : TypeId) :
    ∃ w', (Builtin.delete_ #[134, t2] ty #[.map (some m), kV k]).run Tryz.prog w = .ok (.tuple #[]) w' ∧ CaR w' B m most (c.del k) ∧ Tw [m] w w' := by
  obtain ⟨w', hr, hm, hg⟩ := del_map h.map k hk t2 ty
  refine ⟨w', hr, ⟨?_, hm, h.ne, h.old, h.new, okDel h.ok k⟩, Tw.grown hg (by simp)⟩
  rw [hg.block B (Array.getElem?_eq_some_iff.1 h.blk).1 (by simp only [ne_eq, Option.some.injEq]; exact h.ne)]
  exact h.blk
/-- two keys compared -/
def eqKb (a1 a2 b1 b2 : Nat) : Bool := decide (a1 = b1 ∧ a2 = b2)
theorem eqK_run (a1 a2 b1 b2 : Nat) (w : World) : (binOp .eql 77 (.agg #[.int .u64 (a1 : Int), .int .u64 (a2 : Int)]) (.agg #[.int .u64 (b1 : Int), .int .u64 (b2 : Int)])).run Tryz.prog w = .ok (.bool (eqKb a1 a2 b1 b2)) w := by
  have ht : Tryz.prog.underlying 77 = some (.struct (Tryz.prog.fieldsOf 77)) := by kernel_rfl
  have hp : Tryz.prog.stoodInHeld 77 = false := by kernel_rfl
  have hf : (Tryz.prog.fieldsOf 77).toList.map (fun f => (f.name == "_", f.type, f.offset)) = [(false, 54, 0), (false, 54, 1)] := by kernel_rfl
  have hs : Tryz.prog.cellsOf 54 = 1 := by kernel_rfl
  have hu := Tryz.underlying54
  rw [run_eql_struct, run_equalIn_agg w 9999 _ _ _ ht hp]
  generalize (Tryz.prog.fieldsOf 77).toList = fs at hf ⊢
  rcases fs with _ | ⟨f, _ | ⟨g, _ | ⟨_, _⟩⟩⟩
  · simp at hf
  · simp at hf
  · simp only [List.map_cons, List.map_nil, List.cons.injEq, Prod.mk.injEq, and_true] at hf
    obtain ⟨⟨h1, h2, h3⟩, h4, h5, h6⟩ := hf
    have n1 : f.name ≠ "_" := by simpa using h1
    have n2 : g.name ≠ "_" := by simpa using h4
    have e := fun a b => run_equalIn_int (P := Tryz.prog) w 9998 54 .u64 .u64 a b hu
    simp only [Op.eqFields, h2, h3, h5, h6, if_pos n1, if_pos n2]
    unfold eqKb
    have qb : ∀ a b : Nat, ((a : Int) == (b : Int)) = decide (a = b) := fun a b => by
      rw [Bool.eq_iff_iff, beq_iff_eq, decide_eq_true_eq]; exact Int.ofNat_inj
    by_cases q1 : a1 = b1 <;> by_cases q2 : a2 = b2 <;> simp [e, qb, q1, q2, part, Result.andThen]
  · simp at hf
attribute [local go_sem ↓] eqK_run
set_option maxHeartbeats 16000000 in
theorem lrucut_any (B m most : Nat) (c : Ca) (k : NK) (hk : OkK k) (w : World) (h : CaR w B m most c) :
    Calls Tryz.prog 120 #[.pointer (some ⟨B, 0, none⟩), kV k] w fun e w' => e = .returned (.int .i64 (c.get k).v) ∧ CaR w' B m most (c.cut k) ∧ Tw [B, m] w w' := by
  have hB := (Array.getElem?_eq_some_iff.1 h.blk).1
  have HK := Lib.hid hk
  have HML := Lib.hid (mapN_lt h.map)
  have hne := h.ne
  obtain ⟨x, hx⟩ : ∃ x, c.get k = x := ⟨_, rfl⟩
  have hxo : OkK x.o ∧ OkK x.n := by rw [← hx]; exact okGet h.ok _
  have HXO := Lib.hid hxo
  have HX := Lib.hid hx
  obtain ⟨X, hX⟩ : ∃ X, X = w.alloc (.cells #[.int .u64 (k.1 : Int), .int .u64 (k.2 : Int)] 77) := ⟨_, rfl⟩
  have hu : Up w X := by rw [hX]; exact (Up.refl w).alloc _
  have hKX : X.heap[w.heap.size]? = some (.cells #[.int .u64 (k.1 : Int), .int .u64 (k.2 : Int)] 77 (0, 0)) := by rw [hX]; exact heap_alloc_new _ _
  have hXs : X.heap.size = w.heap.size + 1 := by rw [hX]; simp
  have hCX := h.up hu
  have hL : ∀ w', Up X w' → (Instr.lookup 134 (.map (some m)) (.agg #[.int .u64 (k.1 : Int), .int .u64 (k.2 : Int)]) false).run Tryz.prog w' = .ok (.agg #[.int .i64 x.v, .int .u64 (x.o.1 : Int), .int .u64 (x.o.2 : Int), .int .u64 (x.n.1 : Int), .int .u64 (x.n.2 : Int)]) w' := fun w' hu' => by
    have := (look_map (hCX.up hu').map k hk).1
    rw [hx] at this
    exact this
  obtain ⟨f0, f1, f2, f3, f4, f5⟩ := blk6 hCX.blk
  obtain ⟨k0, k1⟩ := blkk hKX
  have MK := Lib.hid (fun w' (h : Up X w') => (⟨h, h.cell f1, h.cell k0, h.cell k1, hL _ h⟩ : Up X w' ∧ w'.cell? ⟨B, 1, none⟩ = some (.map (some m)) ∧ w'.cell? ⟨w.heap.size, 0, none⟩ = some (.int .u64 (k.1 : Int)) ∧ w'.cell? ⟨w.heap.size, 1, none⟩ = some (.int .u64 (k.2 : Int)) ∧ (Instr.lookup 134 (.map (some m)) (.agg #[.int .u64 (k.1 : Int), .int .u64 (k.2 : Int)]) false).run Tryz.prog w' = .ok (.agg #[.int .i64 x.v, .int .u64 (x.o.1 : Int), .int .u64 (x.o.2 : Int), .int .u64 (x.n.1 : Int), .int .u64 (x.n.2 : Int)]) w'))
  have HKX := Lib.hid hKX
  have HCX := Lib.hid hCX
  have HU := Lib.hid hu
  have HXS := Lib.hid hXs
  clear f0 f1 f2 f3 f4 f5 k0 k1 hL hCX hKX hu hx hk h hxo hXs
  unfold kV
  go_enter Tryz.func120, Tryz.ntmps120
  go_wp2_with fail
  rw [← hX]
  clear hX
  go_region_held3 (fun w' => Up X w' ∧ w'.cell? ⟨B, 1, none⟩ = some (.map (some m)) ∧ w'.cell? ⟨w.heap.size, 0, none⟩ = some (.int .u64 (k.1 : Int)) ∧ w'.cell? ⟨w.heap.size, 1, none⟩ = some (.int .u64 (k.2 : Int)) ∧ (Instr.lookup 134 (.map (some m)) (.agg #[.int .u64 (k.1 : Int), .int .u64 (k.2 : Int)]) false).run Tryz.prog w' = .ok (.agg #[.int .i64 x.v, .int .u64 (x.o.1 : Int), .int .u64 (x.o.2 : Int), .int .u64 (x.n.1 : Int), .int .u64 (x.n.2 : Int)]) w')
      (first
        | assumption
        | exact MK.out _ (Up.refl _).drew
        | exact MK.out _ ((Up.refl _).drew.alloc _)
        | exact MK.out _ (Up.drew (And.left (by assumption)))
        | exact MK.out _ (Up.alloc (And.left (by assumption)) _))
      (fail)
  clear MK
  all_goals
    obtain ⟨A, hA⟩ : ∃ Z, Z = (X.alloc (.cells #[.int .i64 x.v, .int .u64 (x.o.1 : Int), .int .u64 (x.o.2 : Int), .int .u64 (x.n.1 : Int), .int .u64 (x.n.2 : Int)] 288)).drew := ⟨_, rfl⟩
    have hu1 : Up X A := by rw [hA]; exact ((Up.refl X).alloc _).drew
    have hXB : A.heap[X.heap.size]? = some (.cells #[.int .i64 x.v, .int .u64 (x.o.1 : Int), .int .u64 (x.o.2 : Int), .int .u64 (x.n.1 : Int), .int .u64 (x.n.2 : Int)] 288 (0, 0)) := by rw [hA]; exact heap_alloc_new _ _
    rw [← hA]
    clear hA
    generalize X.heap.size = XB at *
    have hXK : w.heap.size < XB := by have := HXS.out; omega
    have hm := HML.out
    have hCA : CaR A.drew B m most c := (HCX.out.up hu1).up (Up.refl _).drew
    have hKA : A.drew.heap[w.heap.size]? = some (.cells #[.int .u64 (k.1 : Int), .int .u64 (k.2 : Int)] 77 (0, 0)) := hu1.obj HKX.out
    have hXA : A.drew.heap[XB]? = some (.cells #[.int .i64 x.v, .int .u64 (x.o.1 : Int), .int .u64 (x.o.2 : Int), .int .u64 (x.n.1 : Int), .int .u64 (x.n.2 : Int)] 288 (0, 0)) := hXB
    have hTA : Tw [B, m] w A.drew := Tw.up (HU.out.trans hu1).drew
    obtain ⟨D, hrun, hCD, hTD⟩ := hCA.delN k HK.out 77 0
    replace hrun : (Builtin.delete_ #[134, 77] 0 #[.map (some m), .agg #[.int .u64 (k.1 : Int), .int .u64 (k.2 : Int)]]).run Tryz.prog A.drew = .ok (.tuple #[]) D := hrun
    have HDK := Lib.hid (show D.heap[w.heap.size]? = some (.cells #[.int .u64 (k.1 : Int), .int .u64 (k.2 : Int)] 77 (0, 0)) from hTD.obj hKA (by simp; omega))
    have HDX := Lib.hid (show D.heap[XB]? = some (.cells #[.int .i64 x.v, .int .u64 (x.o.1 : Int), .int .u64 (x.o.2 : Int), .int .u64 (x.n.1 : Int), .int .u64 (x.n.2 : Int)] 288 (0, 0)) from hTD.obj hXA (by simp; omega))
    have HDC := Lib.hid hCD
    have HDT := Lib.hid (hTA.trans (hTD.mono (by simp)))
    obtain ⟨k0, k1⟩ := blkk hKA
    obtain ⟨f0, f1, f2, f3, f4, f5⟩ := blk6 hCA.blk
    clear hXB hu1 hCA hKA hXA hTA hCD hTD
    go_wp2_with fail
    go_still_tail 5, (by kernel_rfl)
    change wpList _ _ _ _ _ A.drew
    go_wp2_with fail
    clear k0 k1 f0 f1 f2 f3 f4 f5 hrun
    obtain ⟨k0, k1⟩ := blkk HDK.out
    obtain ⟨f0, f1, f2, f3, f4, f5⟩ := blk6 HDC.out.blk
    dsimp only [Ca.put, Ca.del] at f0 f1 f2 f3 f4 f5
    have MK := Lib.hid (fun w' (h : Up D w') => (⟨h, h.cell k0, h.cell k1, h.cell f2, h.cell f3⟩ : Up D w' ∧ w'.cell? ⟨w.heap.size, 0, none⟩ = some (.int .u64 (k.1 : Int)) ∧ w'.cell? ⟨w.heap.size, 1, none⟩ = some (.int .u64 (k.2 : Int)) ∧ w'.cell? ⟨B, 2, none⟩ = some (.int .u64 (c.old.1 : Int)) ∧ w'.cell? ⟨B, 3, none⟩ = some (.int .u64 (c.old.2 : Int))))
    clear k0 k1 f0 f1 f2 f3 f4 f5
    go_region_held3 (fun w' => Up D w' ∧ w'.cell? ⟨w.heap.size, 0, none⟩ = some (.int .u64 (k.1 : Int)) ∧ w'.cell? ⟨w.heap.size, 1, none⟩ = some (.int .u64 (k.2 : Int)) ∧ w'.cell? ⟨B, 2, none⟩ = some (.int .u64 (c.old.1 : Int)) ∧ w'.cell? ⟨B, 3, none⟩ = some (.int .u64 (c.old.2 : Int)))
        (first
          | assumption
          | exact MK.out _ (Up.refl _).drew
          | exact MK.out _ ((Up.refl _).drew.alloc _)
          | exact MK.out _ (Up.drew (And.left (by assumption)))
          | exact MK.out _ (Up.alloc (And.left (by assumption)) _))
        (fail)
    clear MK
    by_cases eold : k = c.old
    · -- it is the one at the end
      have hq : eqKb k.1 k.2 c.old.1 c.old.2 = true := by unfold eqKb; rw [← eold]; simp
      rw [hq]
      clear hq
      have HEold := Lib.hid eold
      clear eold
      obtain ⟨E1, hE⟩ : ∃ Z, Z = D.drew := ⟨_, rfl⟩
      have HE1C := Lib.hid (show CaR E1 B m most (c.del k) by rw [hE]; exact HDC.out.up (Up.refl _).drew)
      have HE1K := Lib.hid (show E1.heap[w.heap.size]? = some (.cells #[.int .u64 (k.1 : Int), .int .u64 (k.2 : Int)] 77 (0, 0)) by rw [hE]; exact HDK.out)
      have HE1X := Lib.hid (show E1.heap[XB]? = some (.cells #[.int .i64 x.v, .int .u64 (x.o.1 : Int), .int .u64 (x.o.2 : Int), .int .u64 (x.n.1 : Int), .int .u64 (x.n.2 : Int)] 288 (0, 0)) by rw [hE]; exact HDX.out)
      have HE1T := Lib.hid (show Tw [B, m] w E1 by rw [hE]; exact HDT.out.drew)
      rw [← hE]
      clear hE
      obtain ⟨R2, hR⟩ : ∃ Z, Z = (E1.setCell ⟨B, 2, none⟩ (.int .u64 (x.n.1 : Int))).setCell ⟨B, 3, none⟩ (.int .u64 (x.n.2 : Int)) := ⟨_, rfl⟩
      have HR2C := Lib.hid (show CaR R2 B m most { (c.del k) with old := x.n } by rw [hR]; exact HE1C.out.setOld x.n HXO.out.2)
      have hTR : Tw [B] E1 R2 := by rw [hR]; exact ((Tw.refl [B] E1).set (by simp) _ _).set (by simp) _ _
      have HR2K := Lib.hid (show R2.heap[w.heap.size]? = some (.cells #[.int .u64 (k.1 : Int), .int .u64 (k.2 : Int)] 77 (0, 0)) from hTR.obj HE1K.out (by simp; omega))
      have HR2X := Lib.hid (show R2.heap[XB]? = some (.cells #[.int .i64 x.v, .int .u64 (x.o.1 : Int), .int .u64 (x.o.2 : Int), .int .u64 (x.n.1 : Int), .int .u64 (x.n.2 : Int)] 288 (0, 0)) from hTR.obj HE1X.out (by simp; omega))
      have HR2T := Lib.hid (HE1T.out.trans (hTR.mono (by simp)))
      obtain ⟨x0, x1, x2, x3, x4, xf⟩ := blk5 HE1X.out
      obtain ⟨g2, g3, g4, g5⟩ := frzs HE1C.out
      obtain ⟨f0, f1, f2, f3, f4, f5⟩ := blk6 HE1C.out.blk
      clear xf hTR
      go_wp2_with fail
      rw [← hR]
      clear hR x0 x1 x2 x3 x4 g2 g3 g4 g5 f0 f1 f2 f3 f4 f5
      obtain ⟨k0, k1⟩ := blkk HR2K.out
      obtain ⟨f0, f1, f2, f3, f4, f5⟩ := blk6 HR2C.out.blk
      dsimp only [Ca.put, Ca.del] at f0 f1 f2 f3 f4 f5
      have MK := Lib.hid (fun w' (h : Up R2 w') => (⟨h, h.cell k0, h.cell k1, h.cell f4, h.cell f5⟩ : Up R2 w' ∧ w'.cell? ⟨w.heap.size, 0, none⟩ = some (.int .u64 (k.1 : Int)) ∧ w'.cell? ⟨w.heap.size, 1, none⟩ = some (.int .u64 (k.2 : Int)) ∧ w'.cell? ⟨B, 4, none⟩ = some (.int .u64 (c.new.1 : Int)) ∧ w'.cell? ⟨B, 5, none⟩ = some (.int .u64 (c.new.2 : Int))))
      clear k0 k1 f0 f1 f2 f3 f4 f5
      go_region_held3 (fun w' => Up R2 w' ∧ w'.cell? ⟨w.heap.size, 0, none⟩ = some (.int .u64 (k.1 : Int)) ∧ w'.cell? ⟨w.heap.size, 1, none⟩ = some (.int .u64 (k.2 : Int)) ∧ w'.cell? ⟨B, 4, none⟩ = some (.int .u64 (c.new.1 : Int)) ∧ w'.cell? ⟨B, 5, none⟩ = some (.int .u64 (c.new.2 : Int)))
          (first
            | assumption
            | exact MK.out _ (Up.refl _).drew
            | exact MK.out _ ((Up.refl _).drew.alloc _)
            | exact MK.out _ (Up.drew (And.left (by assumption)))
            | exact MK.out _ (Up.alloc (And.left (by assumption)) _))
          (fail)
      clear MK
      by_cases enew : k = c.new
      · -- it is the one at the end
        have hq : eqKb k.1 k.2 c.new.1 c.new.2 = true := by unfold eqKb; rw [← enew]; simp
        rw [hq]
        clear hq
        have HEnew := Lib.hid enew
        clear enew
        obtain ⟨E3, hE⟩ : ∃ Z, Z = R2.drew := ⟨_, rfl⟩
        have HE3C := Lib.hid (show CaR E3 B m most ({ (c.del k) with old := x.n }) by rw [hE]; exact HR2C.out.up (Up.refl _).drew)
        have HE3K := Lib.hid (show E3.heap[w.heap.size]? = some (.cells #[.int .u64 (k.1 : Int), .int .u64 (k.2 : Int)] 77 (0, 0)) by rw [hE]; exact HR2K.out)
        have HE3X := Lib.hid (show E3.heap[XB]? = some (.cells #[.int .i64 x.v, .int .u64 (x.o.1 : Int), .int .u64 (x.o.2 : Int), .int .u64 (x.n.1 : Int), .int .u64 (x.n.2 : Int)] 288 (0, 0)) by rw [hE]; exact HR2X.out)
        have HE3T := Lib.hid (show Tw [B, m] w E3 by rw [hE]; exact HR2T.out.drew)
        rw [← hE]
        clear hE
        obtain ⟨R4, hR⟩ : ∃ Z, Z = (E3.setCell ⟨B, 4, none⟩ (.int .u64 (x.o.1 : Int))).setCell ⟨B, 5, none⟩ (.int .u64 (x.o.2 : Int)) := ⟨_, rfl⟩
        have HR4C := Lib.hid (show CaR R4 B m most { ({ (c.del k) with old := x.n }) with new := x.o } by rw [hR]; exact HE3C.out.setNew x.o HXO.out.1)
        have hTR : Tw [B] E3 R4 := by rw [hR]; exact ((Tw.refl [B] E3).set (by simp) _ _).set (by simp) _ _
        have HR4K := Lib.hid (show R4.heap[w.heap.size]? = some (.cells #[.int .u64 (k.1 : Int), .int .u64 (k.2 : Int)] 77 (0, 0)) from hTR.obj HE3K.out (by simp; omega))
        have HR4X := Lib.hid (show R4.heap[XB]? = some (.cells #[.int .i64 x.v, .int .u64 (x.o.1 : Int), .int .u64 (x.o.2 : Int), .int .u64 (x.n.1 : Int), .int .u64 (x.n.2 : Int)] 288 (0, 0)) from hTR.obj HE3X.out (by simp; omega))
        have HR4T := Lib.hid (HE3T.out.trans (hTR.mono (by simp)))
        obtain ⟨x0, x1, x2, x3, x4, xf⟩ := blk5 HE3X.out
        obtain ⟨g2, g3, g4, g5⟩ := frzs HE3C.out
        obtain ⟨f0, f1, f2, f3, f4, f5⟩ := blk6 HE3C.out.blk
        clear xf hTR
        obtain ⟨y0, y1, y2, y3, y4, yf⟩ := blk5 HR4X.out
        rw [hR] at y0
        clear yf y1 y2 y3 y4
        go_wp2_with fail
        rw [← hR]
        go_ret
        refine ⟨by rw [HX.out]; rfl, ?_, HR4T.out⟩
        have hfin := HR4C.out
        simp only [Ca.cut, Ca.cutA, HX.out, if_pos HEnew.out, if_pos HEold.out]
        exact hfin
      · -- another one is at the end
        have hq : eqKb k.1 k.2 c.new.1 c.new.2 = false := by unfold eqKb; rw [decide_eq_false_iff_not]; rintro ⟨q1, q2⟩; exact enew (Prod.ext q1 q2)
        rw [hq]
        clear hq
        have HEnew := Lib.hid enew
        clear enew
        obtain ⟨E5, hE⟩ : ∃ Z, Z = R2.drew := ⟨_, rfl⟩
        have HE5C := Lib.hid (show CaR E5 B m most ({ (c.del k) with old := x.n }) by rw [hE]; exact HR2C.out.up (Up.refl _).drew)
        have HE5K := Lib.hid (show E5.heap[w.heap.size]? = some (.cells #[.int .u64 (k.1 : Int), .int .u64 (k.2 : Int)] 77 (0, 0)) by rw [hE]; exact HR2K.out)
        have HE5X := Lib.hid (show E5.heap[XB]? = some (.cells #[.int .i64 x.v, .int .u64 (x.o.1 : Int), .int .u64 (x.o.2 : Int), .int .u64 (x.n.1 : Int), .int .u64 (x.n.2 : Int)] 288 (0, 0)) by rw [hE]; exact HR2X.out)
        have HE5T := Lib.hid (show Tw [B, m] w E5 by rw [hE]; exact HR2T.out.drew)
        rw [← hE]
        clear hE
        obtain ⟨z6, hz6⟩ : ∃ z, ({ (c.del k) with old := x.n }).get x.n = z := ⟨_, rfl⟩
        have hzo : OkK z6.o ∧ OkK z6.n := by rw [← hz6]; exact okGet HE5C.out.ok _
        have HZz6 := Lib.hid hzo
        have hL : ∀ w', Up E5 w' → (Instr.lookup 134 (.map (some m)) (.agg #[.int .u64 (x.n.1 : Int), .int .u64 (x.n.2 : Int)]) false).run Tryz.prog w' = .ok (.agg #[.int .i64 z6.v, .int .u64 (z6.o.1 : Int), .int .u64 (z6.o.2 : Int), .int .u64 (z6.n.1 : Int), .int .u64 (z6.n.2 : Int)]) w' := fun w' hu' => by
          have := (look_map (HE5C.out.up hu').map x.n HXO.out.2).1
          rw [hz6] at this
          exact this
        have HGz6 := Lib.hid hz6
        clear hz6 hzo
        obtain ⟨x0, x1, x2, x3, x4, xf⟩ := blk5 HE5X.out
        obtain ⟨f0, f1, f2, f3, f4, f5⟩ := blk6 HE5C.out.blk
        have MK := Lib.hid (fun w' (h : Up E5 w') => (⟨h, h.cell f1, h.cell x3, h.cell x4, hL _ h⟩ : Up E5 w' ∧ w'.cell? ⟨B, 1, none⟩ = some (.map (some m)) ∧ w'.cell? ⟨XB, 3, none⟩ = some (.int .u64 (x.n.1 : Int)) ∧ w'.cell? ⟨XB, 4, none⟩ = some (.int .u64 (x.n.2 : Int)) ∧ (Instr.lookup 134 (.map (some m)) (.agg #[.int .u64 (x.n.1 : Int), .int .u64 (x.n.2 : Int)]) false).run Tryz.prog w' = .ok (.agg #[.int .i64 z6.v, .int .u64 (z6.o.1 : Int), .int .u64 (z6.o.2 : Int), .int .u64 (z6.n.1 : Int), .int .u64 (z6.n.2 : Int)]) w'))
        have hEs : XB < E5.heap.size := (Array.getElem?_eq_some_iff.1 HE5X.out).1
        have hms : m < E5.heap.size := mapN_lt HE5C.out.map
        have hBs : B < E5.heap.size := (Array.getElem?_eq_some_iff.1 HE5C.out.blk).1
        clear x0 x1 x2 x3 x4 xf f0 f1 f2 f3 f4 f5 hL
        go_wp2_with fail
        go_region_held3 (fun w' => Up E5 w' ∧ w'.cell? ⟨B, 1, none⟩ = some (.map (some m)) ∧ w'.cell? ⟨XB, 3, none⟩ = some (.int .u64 (x.n.1 : Int)) ∧ w'.cell? ⟨XB, 4, none⟩ = some (.int .u64 (x.n.2 : Int)) ∧ (Instr.lookup 134 (.map (some m)) (.agg #[.int .u64 (x.n.1 : Int), .int .u64 (x.n.2 : Int)]) false).run Tryz.prog w' = .ok (.agg #[.int .i64 z6.v, .int .u64 (z6.o.1 : Int), .int .u64 (z6.o.2 : Int), .int .u64 (z6.n.1 : Int), .int .u64 (z6.n.2 : Int)]) w')
            (first
              | assumption
              | exact MK.out _ (Up.refl _).drew
              | exact MK.out _ ((Up.refl _).drew.alloc _)
              | exact MK.out _ (Up.drew (And.left (by assumption)))
              | exact MK.out _ (Up.alloc (And.left (by assumption)) _))
            (fail)
        clear MK
        all_goals
          obtain ⟨F7, hF⟩ : ∃ Z, Z = (E5.alloc (.cells #[.int .i64 z6.v, .int .u64 (z6.o.1 : Int), .int .u64 (z6.o.2 : Int), .int .u64 (z6.n.1 : Int), .int .u64 (z6.n.2 : Int)] 288)).drew := ⟨_, rfl⟩
          have hu1 : Up E5 F7 := by rw [hF]; exact ((Up.refl E5).alloc _).drew
          have hZB : F7.heap[E5.heap.size]? = some (.cells #[.int .i64 z6.v, .int .u64 (z6.o.1 : Int), .int .u64 (z6.o.2 : Int), .int .u64 (z6.n.1 : Int), .int .u64 (z6.n.2 : Int)] 288 (0, 0)) := by rw [hF]; exact heap_alloc_new _ _
          rw [← hF]
          clear hF
          generalize hNB : E5.heap.size = NB8 at *
          obtain ⟨G9, hG⟩ : ∃ Z, Z = (F7.setCell ⟨NB8, 1, none⟩ (.int .u64 (x.o.1 : Int))).setCell ⟨NB8, 2, none⟩ (.int .u64 (x.o.2 : Int)) := ⟨_, rfl⟩
          have hTG : Tw [NB8] F7 G9 := by rw [hG]; exact ((Tw.refl [NB8] F7).set (by simp) _ _).set (by simp) _ _
          have hCG : CaR G9.drew B m most ({ (c.del k) with old := x.n }) := ((HE5C.out.up hu1).tw hTG (by simp; omega) (by simp; omega)).up (Up.refl _).drew
          have hKG : G9.drew.heap[w.heap.size]? = some (.cells #[.int .u64 (k.1 : Int), .int .u64 (k.2 : Int)] 77 (0, 0)) := hTG.obj (hu1.obj HE5K.out) (by simp; omega)
          have hXG : G9.drew.heap[XB]? = some (.cells #[.int .i64 x.v, .int .u64 (x.o.1 : Int), .int .u64 (x.o.2 : Int), .int .u64 (x.n.1 : Int), .int .u64 (x.n.2 : Int)] 288 (0, 0)) := hTG.obj (hu1.obj HE5X.out) (by simp; omega)
          have hZG : G9.drew.heap[NB8]? = some (.cells #[.int .i64 z6.v, .int .u64 (x.o.1 : Int), .int .u64 (x.o.2 : Int), .int .u64 (z6.n.1 : Int), .int .u64 (z6.n.2 : Int)] 288 (0, 0)) := by
            have := heap_setCell_same _ NB8 2 _ _ (.int .u64 (x.o.2 : Int)) (heap_setCell_same _ NB8 1 _ _ (.int .u64 (x.o.1 : Int)) hZB)
            show G9.heap[NB8]? = _
            rw [hG]
            simpa using this
          have hTw : Tw [B, m] w G9.drew := (HE5T.out.trans (Tw.up (Up.tw hu1 hTG (by simp; omega)))).drew
          clear hNB
          obtain ⟨R0, hrun, hCR, hTR⟩ := hCG.putN x.n HXO.out.2 { z6 with o := x.o } HXO.out.1 HZz6.out.2
          replace hrun : (Instr.mapUpdate 134 (.map (some m)) (.agg #[.int .u64 (x.n.1 : Int), .int .u64 (x.n.2 : Int)]) (.agg #[.int .i64 z6.v, .int .u64 (x.o.1 : Int), .int .u64 (x.o.2 : Int), .int .u64 (z6.n.1 : Int), .int .u64 (z6.n.2 : Int)])).run Tryz.prog G9.drew = .ok () R0 := hrun
          obtain ⟨x0, x1, x2, x3, x4, xf⟩ := blk5 (hu1.obj HE5X.out)
          obtain ⟨z0, z1, z2, z3, z4, zf⟩ := blk5 hZB
          have zf1 := zf 1
          have zf2 := zf 2
          clear zf xf
          go_wp2_with fail
          rw [← hG]
          clear hG x0 x1 x2 x3 x4 z0 z1 z2 z3 z4 zf1 zf2
          obtain ⟨x0, x1, x2, x3, x4, xf⟩ := blk5 hXG
          obtain ⟨z0, z1, z2, z3, z4, zf⟩ := blk5 hZG
          obtain ⟨f0, f1, f2, f3, f4, f5⟩ := blk6 hCG.blk
          generalize hRR : R0 = R10 at *
          clear hRR
          have HR10C := Lib.hid hCR
          have HR10K := Lib.hid (show R10.heap[w.heap.size]? = some (.cells #[.int .u64 (k.1 : Int), .int .u64 (k.2 : Int)] 77 (0, 0)) from hTR.obj hKG (by simp; omega))
          have HR10X := Lib.hid (show R10.heap[XB]? = some (.cells #[.int .i64 x.v, .int .u64 (x.o.1 : Int), .int .u64 (x.o.2 : Int), .int .u64 (x.n.1 : Int), .int .u64 (x.n.2 : Int)] 288 (0, 0)) from hTR.obj hXG (by simp; omega))
          have HR10T := Lib.hid (hTw.trans (hTR.mono (by simp)))
          clear xf zf hCR hTR hTw hXG hKG hZG hCG hTG hu1 hZB
          go_still_tail 7, (by kernel_rfl)
          change wpList _ _ _ _ _ G9.drew
          obtain ⟨y0, y1, y2, y3, y4, yf⟩ := blk5 HR10X.out
          clear yf y1 y2 y3 y4
          go_wp2_with fail
          go_ret
          refine ⟨by rw [HX.out]; rfl, ?_, HR10T.out⟩
          have hfin := HR10C.out
          simp only [Ca.cut, Ca.cutA, HX.out, if_neg HEnew.out, if_pos HEold.out, HGz6.out]
          exact hfin
    · -- another one is at the end
      have hq : eqKb k.1 k.2 c.old.1 c.old.2 = false := by unfold eqKb; rw [decide_eq_false_iff_not]; rintro ⟨q1, q2⟩; exact eold (Prod.ext q1 q2)
      rw [hq]
      clear hq
      have HEold := Lib.hid eold
      clear eold
      obtain ⟨E11, hE⟩ : ∃ Z, Z = D.drew := ⟨_, rfl⟩
      have HE11C := Lib.hid (show CaR E11 B m most (c.del k) by rw [hE]; exact HDC.out.up (Up.refl _).drew)
      have HE11K := Lib.hid (show E11.heap[w.heap.size]? = some (.cells #[.int .u64 (k.1 : Int), .int .u64 (k.2 : Int)] 77 (0, 0)) by rw [hE]; exact HDK.out)
      have HE11X := Lib.hid (show E11.heap[XB]? = some (.cells #[.int .i64 x.v, .int .u64 (x.o.1 : Int), .int .u64 (x.o.2 : Int), .int .u64 (x.n.1 : Int), .int .u64 (x.n.2 : Int)] 288 (0, 0)) by rw [hE]; exact HDX.out)
      have HE11T := Lib.hid (show Tw [B, m] w E11 by rw [hE]; exact HDT.out.drew)
      rw [← hE]
      clear hE
      obtain ⟨z12, hz12⟩ : ∃ z, (c.del k).get x.o = z := ⟨_, rfl⟩
      have hzo : OkK z12.o ∧ OkK z12.n := by rw [← hz12]; exact okGet HE11C.out.ok _
      have HZz12 := Lib.hid hzo
      have hL : ∀ w', Up E11 w' → (Instr.lookup 134 (.map (some m)) (.agg #[.int .u64 (x.o.1 : Int), .int .u64 (x.o.2 : Int)]) false).run Tryz.prog w' = .ok (.agg #[.int .i64 z12.v, .int .u64 (z12.o.1 : Int), .int .u64 (z12.o.2 : Int), .int .u64 (z12.n.1 : Int), .int .u64 (z12.n.2 : Int)]) w' := fun w' hu' => by
        have := (look_map (HE11C.out.up hu').map x.o HXO.out.1).1
        rw [hz12] at this
        exact this
      have HGz12 := Lib.hid hz12
      clear hz12 hzo
      obtain ⟨x0, x1, x2, x3, x4, xf⟩ := blk5 HE11X.out
      obtain ⟨f0, f1, f2, f3, f4, f5⟩ := blk6 HE11C.out.blk
      have MK := Lib.hid (fun w' (h : Up E11 w') => (⟨h, h.cell f1, h.cell x1, h.cell x2, hL _ h⟩ : Up E11 w' ∧ w'.cell? ⟨B, 1, none⟩ = some (.map (some m)) ∧ w'.cell? ⟨XB, 1, none⟩ = some (.int .u64 (x.o.1 : Int)) ∧ w'.cell? ⟨XB, 2, none⟩ = some (.int .u64 (x.o.2 : Int)) ∧ (Instr.lookup 134 (.map (some m)) (.agg #[.int .u64 (x.o.1 : Int), .int .u64 (x.o.2 : Int)]) false).run Tryz.prog w' = .ok (.agg #[.int .i64 z12.v, .int .u64 (z12.o.1 : Int), .int .u64 (z12.o.2 : Int), .int .u64 (z12.n.1 : Int), .int .u64 (z12.n.2 : Int)]) w'))
      have hEs : XB < E11.heap.size := (Array.getElem?_eq_some_iff.1 HE11X.out).1
      have hms : m < E11.heap.size := mapN_lt HE11C.out.map
      have hBs : B < E11.heap.size := (Array.getElem?_eq_some_iff.1 HE11C.out.blk).1
      clear x0 x1 x2 x3 x4 xf f0 f1 f2 f3 f4 f5 hL
      go_wp2_with fail
      go_region_held3 (fun w' => Up E11 w' ∧ w'.cell? ⟨B, 1, none⟩ = some (.map (some m)) ∧ w'.cell? ⟨XB, 1, none⟩ = some (.int .u64 (x.o.1 : Int)) ∧ w'.cell? ⟨XB, 2, none⟩ = some (.int .u64 (x.o.2 : Int)) ∧ (Instr.lookup 134 (.map (some m)) (.agg #[.int .u64 (x.o.1 : Int), .int .u64 (x.o.2 : Int)]) false).run Tryz.prog w' = .ok (.agg #[.int .i64 z12.v, .int .u64 (z12.o.1 : Int), .int .u64 (z12.o.2 : Int), .int .u64 (z12.n.1 : Int), .int .u64 (z12.n.2 : Int)]) w')
          (first
            | assumption
            | exact MK.out _ (Up.refl _).drew
            | exact MK.out _ ((Up.refl _).drew.alloc _)
            | exact MK.out _ (Up.drew (And.left (by assumption)))
            | exact MK.out _ (Up.alloc (And.left (by assumption)) _))
          (fail)
      clear MK
      all_goals
        obtain ⟨F13, hF⟩ : ∃ Z, Z = (E11.alloc (.cells #[.int .i64 z12.v, .int .u64 (z12.o.1 : Int), .int .u64 (z12.o.2 : Int), .int .u64 (z12.n.1 : Int), .int .u64 (z12.n.2 : Int)] 288)).drew := ⟨_, rfl⟩
        have hu1 : Up E11 F13 := by rw [hF]; exact ((Up.refl E11).alloc _).drew
        have hZB : F13.heap[E11.heap.size]? = some (.cells #[.int .i64 z12.v, .int .u64 (z12.o.1 : Int), .int .u64 (z12.o.2 : Int), .int .u64 (z12.n.1 : Int), .int .u64 (z12.n.2 : Int)] 288 (0, 0)) := by rw [hF]; exact heap_alloc_new _ _
        rw [← hF]
        clear hF
        generalize hNB : E11.heap.size = NB14 at *
        obtain ⟨G15, hG⟩ : ∃ Z, Z = (F13.setCell ⟨NB14, 3, none⟩ (.int .u64 (x.n.1 : Int))).setCell ⟨NB14, 4, none⟩ (.int .u64 (x.n.2 : Int)) := ⟨_, rfl⟩
        have hTG : Tw [NB14] F13 G15 := by rw [hG]; exact ((Tw.refl [NB14] F13).set (by simp) _ _).set (by simp) _ _
        have hCG : CaR G15.drew B m most (c.del k) := ((HE11C.out.up hu1).tw hTG (by simp; omega) (by simp; omega)).up (Up.refl _).drew
        have hKG : G15.drew.heap[w.heap.size]? = some (.cells #[.int .u64 (k.1 : Int), .int .u64 (k.2 : Int)] 77 (0, 0)) := hTG.obj (hu1.obj HE11K.out) (by simp; omega)
        have hXG : G15.drew.heap[XB]? = some (.cells #[.int .i64 x.v, .int .u64 (x.o.1 : Int), .int .u64 (x.o.2 : Int), .int .u64 (x.n.1 : Int), .int .u64 (x.n.2 : Int)] 288 (0, 0)) := hTG.obj (hu1.obj HE11X.out) (by simp; omega)
        have hZG : G15.drew.heap[NB14]? = some (.cells #[.int .i64 z12.v, .int .u64 (z12.o.1 : Int), .int .u64 (z12.o.2 : Int), .int .u64 (x.n.1 : Int), .int .u64 (x.n.2 : Int)] 288 (0, 0)) := by
          have := heap_setCell_same _ NB14 4 _ _ (.int .u64 (x.n.2 : Int)) (heap_setCell_same _ NB14 3 _ _ (.int .u64 (x.n.1 : Int)) hZB)
          show G15.heap[NB14]? = _
          rw [hG]
          simpa using this
        have hTw : Tw [B, m] w G15.drew := (HE11T.out.trans (Tw.up (Up.tw hu1 hTG (by simp; omega)))).drew
        clear hNB
        obtain ⟨R0, hrun, hCR, hTR⟩ := hCG.putN x.o HXO.out.1 { z12 with n := x.n } HZz12.out.1 HXO.out.2
        replace hrun : (Instr.mapUpdate 134 (.map (some m)) (.agg #[.int .u64 (x.o.1 : Int), .int .u64 (x.o.2 : Int)]) (.agg #[.int .i64 z12.v, .int .u64 (z12.o.1 : Int), .int .u64 (z12.o.2 : Int), .int .u64 (x.n.1 : Int), .int .u64 (x.n.2 : Int)])).run Tryz.prog G15.drew = .ok () R0 := hrun
        obtain ⟨x0, x1, x2, x3, x4, xf⟩ := blk5 (hu1.obj HE11X.out)
        obtain ⟨z0, z1, z2, z3, z4, zf⟩ := blk5 hZB
        have zf1 := zf 3
        have zf2 := zf 4
        clear zf xf
        go_wp2_with fail
        rw [← hG]
        clear hG x0 x1 x2 x3 x4 z0 z1 z2 z3 z4 zf1 zf2
        obtain ⟨x0, x1, x2, x3, x4, xf⟩ := blk5 hXG
        obtain ⟨z0, z1, z2, z3, z4, zf⟩ := blk5 hZG
        obtain ⟨f0, f1, f2, f3, f4, f5⟩ := blk6 hCG.blk
        generalize hRR : R0 = R16 at *
        clear hRR
        have HR16C := Lib.hid hCR
        have HR16K := Lib.hid (show R16.heap[w.heap.size]? = some (.cells #[.int .u64 (k.1 : Int), .int .u64 (k.2 : Int)] 77 (0, 0)) from hTR.obj hKG (by simp; omega))
        have HR16X := Lib.hid (show R16.heap[XB]? = some (.cells #[.int .i64 x.v, .int .u64 (x.o.1 : Int), .int .u64 (x.o.2 : Int), .int .u64 (x.n.1 : Int), .int .u64 (x.n.2 : Int)] 288 (0, 0)) from hTR.obj hXG (by simp; omega))
        have HR16T := Lib.hid (hTw.trans (hTR.mono (by simp)))
        clear xf zf hCR hTR hTw hXG hKG hZG hCG hTG hu1 hZB
        go_still_tail 7, (by kernel_rfl)
        change wpList _ _ _ _ _ G15.drew
        go_wp2_with fail
        clear x0 x1 x2 x3 x4 z0 z1 z2 z3 z4 f0 f1 f2 f3 f4 f5 hrun hEs hms hBs
        obtain ⟨k0, k1⟩ := blkk HR16K.out
        obtain ⟨f0, f1, f2, f3, f4, f5⟩ := blk6 HR16C.out.blk
        dsimp only [Ca.put, Ca.del] at f0 f1 f2 f3 f4 f5
        have MK := Lib.hid (fun w' (h : Up R16 w') => (⟨h, h.cell k0, h.cell k1, h.cell f4, h.cell f5⟩ : Up R16 w' ∧ w'.cell? ⟨w.heap.size, 0, none⟩ = some (.int .u64 (k.1 : Int)) ∧ w'.cell? ⟨w.heap.size, 1, none⟩ = some (.int .u64 (k.2 : Int)) ∧ w'.cell? ⟨B, 4, none⟩ = some (.int .u64 (c.new.1 : Int)) ∧ w'.cell? ⟨B, 5, none⟩ = some (.int .u64 (c.new.2 : Int))))
        clear k0 k1 f0 f1 f2 f3 f4 f5
        go_region_held3 (fun w' => Up R16 w' ∧ w'.cell? ⟨w.heap.size, 0, none⟩ = some (.int .u64 (k.1 : Int)) ∧ w'.cell? ⟨w.heap.size, 1, none⟩ = some (.int .u64 (k.2 : Int)) ∧ w'.cell? ⟨B, 4, none⟩ = some (.int .u64 (c.new.1 : Int)) ∧ w'.cell? ⟨B, 5, none⟩ = some (.int .u64 (c.new.2 : Int)))
            (first
              | assumption
              | exact MK.out _ (Up.refl _).drew
              | exact MK.out _ ((Up.refl _).drew.alloc _)
              | exact MK.out _ (Up.drew (And.left (by assumption)))
              | exact MK.out _ (Up.alloc (And.left (by assumption)) _))
            (fail)
        clear MK
        by_cases enew : k = c.new
        · -- it is the one at the end
          have hq : eqKb k.1 k.2 c.new.1 c.new.2 = true := by unfold eqKb; rw [← enew]; simp
          rw [hq]
          clear hq
          have HEnew := Lib.hid enew
          clear enew
          obtain ⟨E17, hE⟩ : ∃ Z, Z = R16.drew := ⟨_, rfl⟩
          have HE17C := Lib.hid (show CaR E17 B m most (((c.del k).put x.o { z12 with n := x.n })) by rw [hE]; exact HR16C.out.up (Up.refl _).drew)
          have HE17K := Lib.hid (show E17.heap[w.heap.size]? = some (.cells #[.int .u64 (k.1 : Int), .int .u64 (k.2 : Int)] 77 (0, 0)) by rw [hE]; exact HR16K.out)
          have HE17X := Lib.hid (show E17.heap[XB]? = some (.cells #[.int .i64 x.v, .int .u64 (x.o.1 : Int), .int .u64 (x.o.2 : Int), .int .u64 (x.n.1 : Int), .int .u64 (x.n.2 : Int)] 288 (0, 0)) by rw [hE]; exact HR16X.out)
          have HE17T := Lib.hid (show Tw [B, m] w E17 by rw [hE]; exact HR16T.out.drew)
          rw [← hE]
          clear hE
          obtain ⟨R18, hR⟩ : ∃ Z, Z = (E17.setCell ⟨B, 4, none⟩ (.int .u64 (x.o.1 : Int))).setCell ⟨B, 5, none⟩ (.int .u64 (x.o.2 : Int)) := ⟨_, rfl⟩
          have HR18C := Lib.hid (show CaR R18 B m most { (((c.del k).put x.o { z12 with n := x.n })) with new := x.o } by rw [hR]; exact HE17C.out.setNew x.o HXO.out.1)
          have hTR : Tw [B] E17 R18 := by rw [hR]; exact ((Tw.refl [B] E17).set (by simp) _ _).set (by simp) _ _
          have HR18K := Lib.hid (show R18.heap[w.heap.size]? = some (.cells #[.int .u64 (k.1 : Int), .int .u64 (k.2 : Int)] 77 (0, 0)) from hTR.obj HE17K.out (by simp; omega))
          have HR18X := Lib.hid (show R18.heap[XB]? = some (.cells #[.int .i64 x.v, .int .u64 (x.o.1 : Int), .int .u64 (x.o.2 : Int), .int .u64 (x.n.1 : Int), .int .u64 (x.n.2 : Int)] 288 (0, 0)) from hTR.obj HE17X.out (by simp; omega))
          have HR18T := Lib.hid (HE17T.out.trans (hTR.mono (by simp)))
          obtain ⟨x0, x1, x2, x3, x4, xf⟩ := blk5 HE17X.out
          obtain ⟨g2, g3, g4, g5⟩ := frzs HE17C.out
          obtain ⟨f0, f1, f2, f3, f4, f5⟩ := blk6 HE17C.out.blk
          clear xf hTR
          obtain ⟨y0, y1, y2, y3, y4, yf⟩ := blk5 HR18X.out
          rw [hR] at y0
          clear yf y1 y2 y3 y4
          go_wp2_with fail
          rw [← hR]
          go_ret
          refine ⟨by rw [HX.out]; rfl, ?_, HR18T.out⟩
          have hfin := HR18C.out
          simp only [Ca.cut, Ca.cutA, HX.out, if_pos HEnew.out, if_neg HEold.out, HGz12.out]
          exact hfin
        · -- another one is at the end
          have hq : eqKb k.1 k.2 c.new.1 c.new.2 = false := by unfold eqKb; rw [decide_eq_false_iff_not]; rintro ⟨q1, q2⟩; exact enew (Prod.ext q1 q2)
          rw [hq]
          clear hq
          have HEnew := Lib.hid enew
          clear enew
          obtain ⟨E19, hE⟩ : ∃ Z, Z = R16.drew := ⟨_, rfl⟩
          have HE19C := Lib.hid (show CaR E19 B m most (((c.del k).put x.o { z12 with n := x.n })) by rw [hE]; exact HR16C.out.up (Up.refl _).drew)
          have HE19K := Lib.hid (show E19.heap[w.heap.size]? = some (.cells #[.int .u64 (k.1 : Int), .int .u64 (k.2 : Int)] 77 (0, 0)) by rw [hE]; exact HR16K.out)
          have HE19X := Lib.hid (show E19.heap[XB]? = some (.cells #[.int .i64 x.v, .int .u64 (x.o.1 : Int), .int .u64 (x.o.2 : Int), .int .u64 (x.n.1 : Int), .int .u64 (x.n.2 : Int)] 288 (0, 0)) by rw [hE]; exact HR16X.out)
          have HE19T := Lib.hid (show Tw [B, m] w E19 by rw [hE]; exact HR16T.out.drew)
          rw [← hE]
          clear hE
          obtain ⟨z20, hz20⟩ : ∃ z, (((c.del k).put x.o { z12 with n := x.n })).get x.n = z := ⟨_, rfl⟩
          have hzo : OkK z20.o ∧ OkK z20.n := by rw [← hz20]; exact okGet HE19C.out.ok _
          have HZz20 := Lib.hid hzo
          have hL : ∀ w', Up E19 w' → (Instr.lookup 134 (.map (some m)) (.agg #[.int .u64 (x.n.1 : Int), .int .u64 (x.n.2 : Int)]) false).run Tryz.prog w' = .ok (.agg #[.int .i64 z20.v, .int .u64 (z20.o.1 : Int), .int .u64 (z20.o.2 : Int), .int .u64 (z20.n.1 : Int), .int .u64 (z20.n.2 : Int)]) w' := fun w' hu' => by
            have := (look_map (HE19C.out.up hu').map x.n HXO.out.2).1
            rw [hz20] at this
            exact this
          have HGz20 := Lib.hid hz20
          clear hz20 hzo
          obtain ⟨x0, x1, x2, x3, x4, xf⟩ := blk5 HE19X.out
          obtain ⟨f0, f1, f2, f3, f4, f5⟩ := blk6 HE19C.out.blk
          have MK := Lib.hid (fun w' (h : Up E19 w') => (⟨h, h.cell f1, h.cell x3, h.cell x4, hL _ h⟩ : Up E19 w' ∧ w'.cell? ⟨B, 1, none⟩ = some (.map (some m)) ∧ w'.cell? ⟨XB, 3, none⟩ = some (.int .u64 (x.n.1 : Int)) ∧ w'.cell? ⟨XB, 4, none⟩ = some (.int .u64 (x.n.2 : Int)) ∧ (Instr.lookup 134 (.map (some m)) (.agg #[.int .u64 (x.n.1 : Int), .int .u64 (x.n.2 : Int)]) false).run Tryz.prog w' = .ok (.agg #[.int .i64 z20.v, .int .u64 (z20.o.1 : Int), .int .u64 (z20.o.2 : Int), .int .u64 (z20.n.1 : Int), .int .u64 (z20.n.2 : Int)]) w'))
          have hEs : XB < E19.heap.size := (Array.getElem?_eq_some_iff.1 HE19X.out).1
          have hms : m < E19.heap.size := mapN_lt HE19C.out.map
          have hBs : B < E19.heap.size := (Array.getElem?_eq_some_iff.1 HE19C.out.blk).1
          clear x0 x1 x2 x3 x4 xf f0 f1 f2 f3 f4 f5 hL
          go_wp2_with fail
          go_region_held3 (fun w' => Up E19 w' ∧ w'.cell? ⟨B, 1, none⟩ = some (.map (some m)) ∧ w'.cell? ⟨XB, 3, none⟩ = some (.int .u64 (x.n.1 : Int)) ∧ w'.cell? ⟨XB, 4, none⟩ = some (.int .u64 (x.n.2 : Int)) ∧ (Instr.lookup 134 (.map (some m)) (.agg #[.int .u64 (x.n.1 : Int), .int .u64 (x.n.2 : Int)]) false).run Tryz.prog w' = .ok (.agg #[.int .i64 z20.v, .int .u64 (z20.o.1 : Int), .int .u64 (z20.o.2 : Int), .int .u64 (z20.n.1 : Int), .int .u64 (z20.n.2 : Int)]) w')
              (first
                | assumption
                | exact MK.out _ (Up.refl _).drew
                | exact MK.out _ ((Up.refl _).drew.alloc _)
                | exact MK.out _ (Up.drew (And.left (by assumption)))
                | exact MK.out _ (Up.alloc (And.left (by assumption)) _))
              (fail)
          clear MK
          all_goals
            obtain ⟨F21, hF⟩ : ∃ Z, Z = (E19.alloc (.cells #[.int .i64 z20.v, .int .u64 (z20.o.1 : Int), .int .u64 (z20.o.2 : Int), .int .u64 (z20.n.1 : Int), .int .u64 (z20.n.2 : Int)] 288)).drew := ⟨_, rfl⟩
            have hu1 : Up E19 F21 := by rw [hF]; exact ((Up.refl E19).alloc _).drew
            have hZB : F21.heap[E19.heap.size]? = some (.cells #[.int .i64 z20.v, .int .u64 (z20.o.1 : Int), .int .u64 (z20.o.2 : Int), .int .u64 (z20.n.1 : Int), .int .u64 (z20.n.2 : Int)] 288 (0, 0)) := by rw [hF]; exact heap_alloc_new _ _
            rw [← hF]
            clear hF
            generalize hNB : E19.heap.size = NB22 at *
            obtain ⟨G23, hG⟩ : ∃ Z, Z = (F21.setCell ⟨NB22, 1, none⟩ (.int .u64 (x.o.1 : Int))).setCell ⟨NB22, 2, none⟩ (.int .u64 (x.o.2 : Int)) := ⟨_, rfl⟩
            have hTG : Tw [NB22] F21 G23 := by rw [hG]; exact ((Tw.refl [NB22] F21).set (by simp) _ _).set (by simp) _ _
            have hCG : CaR G23.drew B m most (((c.del k).put x.o { z12 with n := x.n })) := ((HE19C.out.up hu1).tw hTG (by simp; omega) (by simp; omega)).up (Up.refl _).drew
            have hKG : G23.drew.heap[w.heap.size]? = some (.cells #[.int .u64 (k.1 : Int), .int .u64 (k.2 : Int)] 77 (0, 0)) := hTG.obj (hu1.obj HE19K.out) (by simp; omega)
            have hXG : G23.drew.heap[XB]? = some (.cells #[.int .i64 x.v, .int .u64 (x.o.1 : Int), .int .u64 (x.o.2 : Int), .int .u64 (x.n.1 : Int), .int .u64 (x.n.2 : Int)] 288 (0, 0)) := hTG.obj (hu1.obj HE19X.out) (by simp; omega)
            have hZG : G23.drew.heap[NB22]? = some (.cells #[.int .i64 z20.v, .int .u64 (x.o.1 : Int), .int .u64 (x.o.2 : Int), .int .u64 (z20.n.1 : Int), .int .u64 (z20.n.2 : Int)] 288 (0, 0)) := by
              have := heap_setCell_same _ NB22 2 _ _ (.int .u64 (x.o.2 : Int)) (heap_setCell_same _ NB22 1 _ _ (.int .u64 (x.o.1 : Int)) hZB)
              show G23.heap[NB22]? = _
              rw [hG]
              simpa using this
            have hTw : Tw [B, m] w G23.drew := (HE19T.out.trans (Tw.up (Up.tw hu1 hTG (by simp; omega)))).drew
            clear hNB
            obtain ⟨R0, hrun, hCR, hTR⟩ := hCG.putN x.n HXO.out.2 { z20 with o := x.o } HXO.out.1 HZz20.out.2
            replace hrun : (Instr.mapUpdate 134 (.map (some m)) (.agg #[.int .u64 (x.n.1 : Int), .int .u64 (x.n.2 : Int)]) (.agg #[.int .i64 z20.v, .int .u64 (x.o.1 : Int), .int .u64 (x.o.2 : Int), .int .u64 (z20.n.1 : Int), .int .u64 (z20.n.2 : Int)])).run Tryz.prog G23.drew = .ok () R0 := hrun
            obtain ⟨x0, x1, x2, x3, x4, xf⟩ := blk5 (hu1.obj HE19X.out)
            obtain ⟨z0, z1, z2, z3, z4, zf⟩ := blk5 hZB
            have zf1 := zf 1
            have zf2 := zf 2
            clear zf xf
            go_wp2_with fail
            rw [← hG]
            clear hG x0 x1 x2 x3 x4 z0 z1 z2 z3 z4 zf1 zf2
            obtain ⟨x0, x1, x2, x3, x4, xf⟩ := blk5 hXG
            obtain ⟨z0, z1, z2, z3, z4, zf⟩ := blk5 hZG
            obtain ⟨f0, f1, f2, f3, f4, f5⟩ := blk6 hCG.blk
            generalize hRR : R0 = R24 at *
            clear hRR
            have HR24C := Lib.hid hCR
            have HR24K := Lib.hid (show R24.heap[w.heap.size]? = some (.cells #[.int .u64 (k.1 : Int), .int .u64 (k.2 : Int)] 77 (0, 0)) from hTR.obj hKG (by simp; omega))
            have HR24X := Lib.hid (show R24.heap[XB]? = some (.cells #[.int .i64 x.v, .int .u64 (x.o.1 : Int), .int .u64 (x.o.2 : Int), .int .u64 (x.n.1 : Int), .int .u64 (x.n.2 : Int)] 288 (0, 0)) from hTR.obj hXG (by simp; omega))
            have HR24T := Lib.hid (hTw.trans (hTR.mono (by simp)))
            clear xf zf hCR hTR hTw hXG hKG hZG hCG hTG hu1 hZB
            go_still_tail 7, (by kernel_rfl)
            change wpList _ _ _ _ _ G23.drew
            obtain ⟨y0, y1, y2, y3, y4, yf⟩ := blk5 HR24X.out
            clear yf y1 y2 y3 y4
            go_wp2_with fail
            go_ret
            refine ⟨by rw [HX.out]; rfl, ?_, HR24T.out⟩
            have hfin := HR24C.out
            simp only [Ca.cut, Ca.cutA, HX.out, if_neg HEnew.out, if_neg HEold.out, HGz12.out, HGz20.out]
            exact hfin
end Go.Proofs.YtcfmidmokciofaaGreatDoor
/- Walks: the cache that keeps what was used last (lru): Get, Put, New, over rows of keys. -/
namespace Go.Proofs.YtcfmidmokciofaaGreatDoor
open Go.RowKit Go.Gz
set_option maxRecDepth 100000
/-- a cache that keeps a row of keys -/
def LruR (w : World) (B m most : Nat) (L : List NK) : Prop := ∃ c, CaR w B m most c ∧ Rep c L
theorem LruR.up {w w' : World} {B m most : Nat} {L : List NK} (h : LruR w B m most L) (t : Up w w') : LruR w' B m most L := let ⟨c, a, b⟩ := h; ⟨c, a.up t, b⟩
theorem LruR.tw {w w' : World} {B m most : Nat} {L : List NK} {S : List Nat} (h : LruR w B m most L) (t : Tw S w w') (hB : B ∉ S) (hm : m ∉ S) : LruR w' B m most L := let ⟨c, a, b⟩ := h; ⟨c, a.tw t hB hm, b⟩
theorem erase_idx : ∀ {L : List NK} {k : NK}, k ∈ L → ∃ i, L[i]? = some k ∧ L.erase k = L.eraseIdx i
  | [], k, h => absurd h (by simp)
  | a :: L, k, h => by
    by_cases e : a = k
    · subst e
      exact ⟨0, rfl, by simp⟩
    · have hk : k ∈ L := by
        rcases List.mem_cons.1 h with h1 | h1
        · exact absurd h1.symm e
        · exact h1
      obtain ⟨i, h1, h2⟩ := erase_idx hk
      refine ⟨i + 1, by simpa using h1, ?_⟩
      rw [List.erase_cons_tail (by simpa using e), h2, List.eraseIdx_cons_succ]
theorem rep_has {c : Ca} {L : List NK} (r : Rep c L) (k : NK) : (c.g k).isSome = decide (k ∈ L) := by
  rw [Bool.eq_iff_iff, r.mem, decide_eq_true_eq]
set_option maxHeartbeats 4000000 in
theorem lruget_any (B m most : Nat) (L : List NK) (k : NK) (hk : OkK k) (w : World) (h : LruR w B m most L) :
    Calls Tryz.prog 65 #[.pointer (some ⟨B, 0, none⟩), kV k] w fun e w' => (∃ v, e = .returned (.tuple #[.int .i64 v, .bool (decide (k ∈ L))])) ∧ LruR w' B m most (kgetL L k) ∧ Tw [B, m] w w' := by
  obtain ⟨c, hc, hr⟩ := h
  have HS := fun w h => Lib.hid (lruhas_any B m most c k hk w h)
  have CU := fun w h => Lib.hid (lrucut_any B m most c k hk w h)
  have PU := fun c v w h => Lib.hid (lrupush_any B m most c k hk v w h)
  rw [rep_has hr] at HS
  obtain ⟨X, hX⟩ : ∃ X, X = w.alloc (.cells #[.int .u64 (k.1 : Int), .int .u64 (k.2 : Int)] 77) := ⟨_, rfl⟩
  have hu : Up w X := by rw [hX]; exact (Up.refl w).alloc _
  have hKX : X.heap[w.heap.size]? = some (.cells #[.int .u64 (k.1 : Int), .int .u64 (k.2 : Int)] 77 (0, 0)) := by rw [hX]; exact heap_alloc_new _ _
  have hml := mapN_lt hc.map
  have hbl := (Array.getElem?_eq_some_iff.1 hc.blk).1
  have HKX := Lib.hid hKX
  have HU := Lib.hid hu
  have HC := Lib.hid hc
  have HR := Lib.hid hr
  unfold kV at HS CU PU ⊢
  obtain ⟨d, hd⟩ : ∃ d, d = decide (k ∈ L) := ⟨_, rfl⟩
  rw [← hd] at HS
  by_cases hm : k ∈ L
  · have hd1 : d = true := by rw [hd]; exact decide_eq_true hm
    subst hd1
    have HM := Lib.hid hm
    have HD := Lib.hid hd
    clear hKX hu hc hr hk hm hd
    go_enter Tryz.func65, Tryz.ntmps65
    go_wp2_with fail
    rw [← hX]
    clear hX
    with_reducible refine (HS _ ?_).out.mono ?_
    · exact HC.out.up HU.out
    rintro e X1 ⟨rfl, hu1⟩
    have hk1 := hu1.obj HKX.out
    obtain ⟨k0, k1⟩ := blkk hk1
    have HK1 := Lib.hid hk1
    have HU1 := Lib.hid (HU.out.trans hu1)
    clear hk1 hu1
    go_wp2_with fail
    with_reducible refine (CU _ ?_).out.mono ?_
    · exact HC.out.up HU1.out
    rintro e X2 ⟨rfl, hc2, ht2⟩
    have hk2 := ht2.obj HK1.out (by simp; omega)
    obtain ⟨k0', k1'⟩ := blkk hk2
    have HK2 := Lib.hid hk2
    have HC2 := Lib.hid hc2
    have HT2 := Lib.hid ((Tw.up HU1.out).trans ht2)
    clear hk2 hc2 ht2 k0 k1
    go_wp2_with fail
    with_reducible refine (PU (c.cut k) _ _ ?_).out.mono ?_
    · exact HC2.out
    rintro e X3 ⟨rfl, hc3, ht3⟩
    go_wp2_with fail
    go_ret2
    refine ⟨⟨_, by rw [← HD.out]; rfl⟩, ⟨_, hc3, ?_⟩, HT2.out.trans ht3⟩
    obtain ⟨i, hi, he⟩ := erase_idx HM.out
    unfold kgetL
    rw [if_pos HM.out, he]
    exact (HR.out.cut hi).push (by rw [← he]; exact not_mem_er HR.out.nd) _
  · have hd1 : d = false := by rw [hd]; exact decide_eq_false hm
    subst hd1
    have HM := Lib.hid hm
    have HD := Lib.hid hd
    clear hKX hu hc hr hk hm hd
    go_enter Tryz.func65, Tryz.ntmps65
    go_wp2_with fail
    rw [← hX]
    clear hX
    with_reducible refine (HS _ ?_).out.mono ?_
    · exact HC.out.up HU.out
    rintro e X1 ⟨rfl, hu1⟩
    go_wp2_with fail
    go_ret2
    refine ⟨⟨_, by rw [← HD.out]; rfl⟩, ?_, Tw.up (HU.out.trans hu1)⟩
    unfold kgetL
    rw [if_neg HM.out]
    exact ⟨c, HC.out.up (HU.out.trans hu1), HR.out⟩
theorem results_ct {P : Program} {fn : Func} {p q : Tmp} {ty : TypeId} (h : fn.results = #[.cell p ty, .tmp q]) (tmps : Array Value) (w : World) (g : Nat) (t : TypeId) (cs : Array Value) (fr : Nat × Nat) (d : TypeDesc)
    (hp : tmps.getD p undef = .pointer (some ⟨g, 0, none⟩)) (hg : w.heap[g]? = some (.cells cs t fr))
    (hu : P.underlying ty = some d) (hd : (match d with | .struct _ | .array _ _ => true | _ => false) = true) (hi : (P.info? ty).map (·.size) = some cs.size) :
    (results fn tmps).run P w = .ok (.tuple #[.agg cs, tmps.getD q undef]) w := by
  have hp' : tmps[p]?.getD undef = .pointer (some ⟨g, 0, none⟩) := by simpa using hp
  simp [results, h, hp', asAddr, run_loadVar_row w g t ty cs fr d hg hu hd hi]
/-- what a put leaves, by the code's own steps -/
theorem rep_put {c : Ca} {L : List NK} (r : Rep c L) (k : NK) (v : Int) :
    Rep ((if k ∈ L then c.cut k else c).push k v) ((if k ∈ L then L.erase k else L) ++ [k]) := by
  by_cases hm : k ∈ L
  · rw [if_pos hm, if_pos hm]
    obtain ⟨i, hi, he⟩ := erase_idx hm
    rw [he]
    exact (r.cut hi).push (by rw [← he]; exact not_mem_er r.nd) _
  · rw [if_neg hm, if_neg hm]
    exact r.push hm _
theorem rep_tail {c : Ca} {L : List NK} (r : Rep c L) (h : 0 < L.length) : Rep (c.cut c.old) L.tail := by
  obtain ⟨z, hz⟩ : ∃ z, L[0]? = some z := ⟨_, List.getElem?_eq_getElem h⟩
  have := r.cut hz
  rw [r.old z hz]
  cases L with
  | nil => simp at h
  | cons a l => exact this
set_option maxHeartbeats 8000000 in
theorem lruput_any (B m most : Nat) (L : List NK) (k : NK) (hk : OkK k) (v : Int) (w : World) (h : LruR w B m most L) :
    Calls Tryz.prog 64 #[.pointer (some ⟨B, 0, none⟩), kV k, .int .i64 v] w fun e w' => (∃ a b, e = .returned (.tuple #[a, b])) ∧ LruR w' B m most (kputL most L k) ∧ Tw [B, m] w w' := by
  obtain ⟨c, hc, hr⟩ := h
  have MO := fun w h => Lib.hid (lrumost_any B m most c w h)
  have HS := fun w h => Lib.hid (lruhas_any B m most c k hk w h)
  have CU := fun w h => Lib.hid (lrucut_any B m most c k hk w h)
  have PU := fun c w h => Lib.hid (lrupush_any B m most c k hk v w h)
  have CO := fun c w h hk => Lib.hid (lrucut_any B m most c c.old hk w h)
  rw [rep_has hr] at HS
  obtain ⟨X, hX⟩ : ∃ X, X = (w.alloc (.cells #[.int .u64 (k.1 : Int), .int .u64 (k.2 : Int)] 77)).alloc (.cells #[.int .u64 0, .int .u64 0] 77) := ⟨_, rfl⟩
  have hu : Up w X := by rw [hX]; exact ((Up.refl w).alloc _).alloc _
  have hKX : X.heap[w.heap.size]? = some (.cells #[.int .u64 (k.1 : Int), .int .u64 (k.2 : Int)] 77 (0, 0)) := by rw [hX]; exact ((Up.refl _).alloc _).obj (heap_alloc_new _ _)
  have hGX : X.heap[w.heap.size + 1]? = some (.cells #[.int .u64 0, .int .u64 0] 77 (0, 0)) := by
    rw [hX]
    have := heap_alloc_new (w.alloc (.cells #[.int .u64 (k.1 : Int), .int .u64 (k.2 : Int)] 77)) (.cells #[.int .u64 0, .int .u64 0] 77)
    simpa using this
  have hml := mapN_lt hc.map
  have hbl := (Array.getElem?_eq_some_iff.1 hc.blk).1
  have HKX := Lib.hid hKX
  have HGX := Lib.hid hGX
  have HU := Lib.hid hu
  have HC := Lib.hid hc
  have HR := Lib.hid hr
  unfold kV at HS CU PU CO ⊢
  obtain ⟨d, hd⟩ : ∃ d, d = decide (k ∈ L) := ⟨_, rfl⟩
  rw [← hd] at HS
  obtain ⟨k0, k1⟩ := blkk hKX
  obtain ⟨g0, g1⟩ := blkk hGX
  have gf : ∀ o, X.frozen? ⟨w.heap.size + 1, o, none⟩ = false := frz6 hGX
  have gf0 := gf 0
  have gf1 := gf 1
  clear gf
  by_cases h0 : most = 0
  · subst h0
    clear hKX hGX hu hc hr hk hd
    go_enter Tryz.func64, Tryz.ntmps64
    go_wp2_with fail
    rw [← hX]
    with_reducible refine (MO _ ?_).out.mono ?_
    · exact HC.out.up HU.out
    rintro e X1 ⟨rfl, rfl⟩
    clear hX
    go_wp2_with fail
    refine bodyPost_ret (results_ct rfl _ _ (w.heap.size + 1) _ _ _ _ rfl (by rw [heap_setCell_same _ _ _ _ _ _ (heap_setCell_same _ _ _ _ _ _ HGX.out)]) Tryz.underlying77 rfl (by kernel_rfl)) rfl ?_
    refine ⟨⟨_, _, rfl⟩, ?_, ?_⟩
    · unfold kputL
      rw [if_pos rfl]
      refine ⟨c, (HC.out.up HU.out).tw (S := [w.heap.size + 1]) (((Tw.refl [w.heap.size + 1] _).set (by simp) _ _).set (by simp) _ _) (by simp; omega) (by simp; omega), HR.out⟩
    · exact Tw.up (Up.tw (S := [w.heap.size + 1]) HU.out (((Tw.refl [w.heap.size + 1] _).set (by simp) _ _).set (by simp) _ _) (by simp))
  · have h0I : ¬ (most : Int) = 0 := by omega
    have H0 := Lib.hid h0
    clear h0
    have hrp := rep_put hr k v
    obtain ⟨L1, hL1⟩ : ∃ l, l = (if k ∈ L then L.erase k else L) ++ [k] := ⟨_, rfl⟩
    obtain ⟨c1, hc1⟩ : ∃ c', c' = (if k ∈ L then c.cut k else c).push k v := ⟨_, rfl⟩
    rw [← hL1, ← hc1] at hrp
    have HRP := Lib.hid hrp
    have HL1 := Lib.hid hL1
    have hput : kputL most L k = if L1.length ≤ most then L1 else L1.tail := by
      unfold kputL
      rw [if_neg H0.out, ← hL1]
    have HPUT := Lib.hid hput
    have hl1 : 0 < L1.length := by rw [hL1, List.length_append]; simp
    have HN1 := Lib.hid (show c1.n = L1.length from hrp.len)
    have HD := Lib.hid hd
    have HC1 := Lib.hid hc1
    by_cases hm : k ∈ L
    case' pos =>
      have hd1 : d = true := by rw [hd]; exact decide_eq_true hm
      have hcc : c1 = (c.cut k).push k v := by rw [hc1, if_pos hm]
    case' neg =>
      have hd1 : d = false := by rw [hd]; exact decide_eq_false hm
      have hcc : c1 = c.push k v := by rw [hc1, if_neg hm]
    all_goals
      have HCC := Lib.hid hcc
      subst hd1
      clear hKX hGX hu hc hr hk hd hrp hL1 hput hcc hm hc1
      go_enter Tryz.func64, Tryz.ntmps64
      go_wp2_with fail
      rw [← hX]
      with_reducible refine (MO _ ?_).out.mono ?_
      · exact HC.out.up HU.out
      rintro e X1 ⟨rfl, rfl⟩
      clear hX
      go_wp2_with fail
      with_reducible refine (HS _ ?_).out.mono ?_
      · exact HC.out.up HU.out
      rintro e X2 ⟨rfl, hu2⟩
      have hk2 := hu2.obj HKX.out
      have hg2 := hu2.obj HGX.out
      obtain ⟨k0, k1⟩ := blkk hk2
      have HC2 := Lib.hid ((HC.out.up HU.out).up hu2)
      have HT2 := Lib.hid (Tw.up (S := [B, m]) (HU.out.trans hu2))
      have HK2 := Lib.hid hk2
      have HG2 := Lib.hid hg2
      clear hk2 hg2 hu2
      go_wp2_with fail
    focus
      with_reducible refine (PU c _ ?_).out.mono ?_
      · exact HC2.out
      rintro e X4 ⟨rfl, hc4, ht4⟩
      have HK4 := Lib.hid (ht4.obj HK2.out (by simp; omega))
      have HG4 := Lib.hid (ht4.obj HG2.out (by simp; omega))
      rw [← HCC.out] at hc4
      have HC4 := Lib.hid hc4
      have HT4 := Lib.hid (HT2.out.trans ht4)
      clear hc4 ht4 k0 k1 HC2 HT2 HK2 HG2
    rotate_left
    focus
      with_reducible refine (CU _ ?_).out.mono ?_
      · exact HC2.out
      rintro e X3 ⟨rfl, hc3, ht3⟩
      have HK3 := Lib.hid (ht3.obj HK2.out (by simp; omega))
      have HG3 := Lib.hid (ht3.obj HG2.out (by simp; omega))
      have HC3 := Lib.hid hc3
      have HT3 := Lib.hid (HT2.out.trans ht3)
      clear hc3 ht3 k0 k1 HC2 HT2 HK2 HG2
      obtain ⟨k0, k1⟩ := blkk HK3.out
      go_wp2_with fail
      with_reducible refine (PU (c.cut k) _ ?_).out.mono ?_
      · exact HC3.out
      rintro e X4 ⟨rfl, hc4, ht4⟩
      have HK4 := Lib.hid (ht4.obj HK3.out (by simp; omega))
      have HG4 := Lib.hid (ht4.obj HG3.out (by simp; omega))
      rw [← HCC.out] at hc4
      have HC4 := Lib.hid hc4
      have HT4 := Lib.hid (HT3.out.trans ht4)
      clear hc4 ht4 k0 k1 HC3 HT3 HK3 HG3
    all_goals
      have hlen := len_map HC4.out.map
      rw [HN1.out] at hlen
      obtain ⟨f0, f1, f2, f3, f4, f5⟩ := blk6 HC4.out.blk
      have MK := Lib.hid (fun w' (h : Up X4 w') => (⟨h, h.cell f0, h.cell f1, fun ty => by
          have := len_map (HC4.out.up h).map ty
          rw [HN1.out] at this
          exact this⟩ : Up X4 w' ∧ w'.cell? ⟨B, 0, none⟩ = some (.int .i64 (most : Int)) ∧ w'.cell? ⟨B, 1, none⟩ = some (.map (some m)) ∧ ∀ ty, (Builtin.len_ #[134] ty #[.map (some m)]).run Tryz.prog w' = .ok (.int .i64 (L1.length : Int)) w'))
      clear f0 f1 f2 f3 f4 f5 hlen
      go_wp2_with fail
      go_region_held3 (fun w' => Up X4 w' ∧ w'.cell? ⟨B, 0, none⟩ = some (.int .i64 (most : Int)) ∧ w'.cell? ⟨B, 1, none⟩ = some (.map (some m)) ∧ ∀ ty, (Builtin.len_ #[134] ty #[.map (some m)]).run Tryz.prog w' = .ok (.int .i64 (L1.length : Int)) w')
        (first
          | assumption
          | exact MK.out _ (Up.refl _).drew
          | exact MK.out _ (Up.drew (And.left (by assumption))))
        (fail)
      clear MK
      obtain ⟨X5, hX5⟩ : ∃ Z, Z = X4.drew := ⟨_, rfl⟩
      have HC5 := Lib.hid (show CaR X5 B m most c1 by rw [hX5]; exact HC4.out.up (Up.refl _).drew)
      have HG5 := Lib.hid (show X5.heap[w.heap.size + 1]? = some (.cells #[.int .u64 0, .int .u64 0] 77 (0, 0)) by rw [hX5]; exact HG4.out)
      have HT5 := Lib.hid (show Tw [B, m] w X5 by rw [hX5]; exact HT4.out.drew)
      rw [← hX5]
      clear hX5 HC4 HG4 HT4
      by_cases hle : L1.length ≤ most
      · have hleI : (L1.length : Int) ≤ (most : Int) := by omega
        obtain ⟨g0, g1⟩ := blkk HG5.out
        have gf0 := frz6 HG5.out 0
        have gf1 := frz6 HG5.out 1
        go_wp2_with fail
        refine bodyPost_ret (results_ct rfl _ _ (w.heap.size + 1) _ _ _ _ rfl (by rw [heap_setCell_same _ _ _ _ _ _ (heap_setCell_same _ _ _ _ _ _ HG5.out)]) Tryz.underlying77 rfl (by kernel_rfl)) rfl ?_
        have hS : Tw [w.heap.size + 1] X5 ((X5.setCell ⟨w.heap.size + 1, 0, none⟩ (.int .u64 0)).setCell ⟨w.heap.size + 1, 1, none⟩ (.int .u64 0)) := ((Tw.refl [w.heap.size + 1] _).set (by simp) _ _).set (by simp) _ _
        refine ⟨⟨_, _, rfl⟩, ⟨c1, HC5.out.tw hS (by simp; omega) (by simp; omega), ?_⟩, ?_⟩
        · rw [HPUT.out, if_pos hle]; exact HRP.out
        · exact ⟨hS.os.trans HT5.out.os, hS.tape.trans HT5.out.tape, hS.output.trans HT5.out.output, Nat.le_trans HT5.out.size hS.size, fun q hq hn => (hS.block q (Nat.lt_of_lt_of_le hq HT5.out.size) (by simp; omega)).trans (HT5.out.block q hq hn)⟩
      · have hleI : (most : Int) < (L1.length : Int) := by omega
        obtain ⟨f0, f1, f2, f3, f4, f5⟩ := blk6 HC5.out.blk
        obtain ⟨X6, hX6⟩ : ∃ Z, Z = X5.alloc (.cells #[.int .u64 (c1.old.1 : Int), .int .u64 (c1.old.2 : Int)] 77) := ⟨_, rfl⟩
        have hu6 : Up X5 X6 := by rw [hX6]; exact (Up.refl _).alloc _
        have hO6 : X6.heap[X5.heap.size]? = some (.cells #[.int .u64 (c1.old.1 : Int), .int .u64 (c1.old.2 : Int)] 77 (0, 0)) := by rw [hX6]; exact heap_alloc_new _ _
        have hs5 : w.heap.size + 1 < X5.heap.size := (Array.getElem?_eq_some_iff.1 HG5.out).1
        go_wp2_with fail
        rw [← hX6]
        clear hX6 f0 f1 f2 f3 f4 f5
        with_reducible refine (CO c1 _ ?_ ?_).out.mono ?_
        · exact HC5.out.up hu6
        · exact HC5.out.old
        rintro e X7 ⟨rfl, hc7, ht7⟩
        have hG7 := ht7.obj (hu6.obj HG5.out) (by simp; omega)
        have hO7 := ht7.obj hO6 (by simp; omega)
        obtain ⟨g0, g1⟩ := blkk hG7
        obtain ⟨o0, o1⟩ := blkk hO7
        have gf0 := frz6 hG7 0
        have gf1 := frz6 hG7 1
        have HG7 := Lib.hid hG7
        have HC7 := Lib.hid hc7
        have HT7 := Lib.hid (HT5.out.trans ((Tw.up hu6).trans ht7))
        clear hG7 hO7 hc7 ht7 hu6 hO6
        go_wp2_with fail
        refine bodyPost_ret (results_ct rfl _ _ (w.heap.size + 1) _ _ _ _ rfl (by rw [heap_setCell_same _ _ _ _ _ _ (heap_setCell_same _ _ _ _ _ _ HG7.out)]) Tryz.underlying77 rfl (by kernel_rfl)) rfl ?_
        have hS : Tw [w.heap.size + 1] X7 ((X7.setCell ⟨w.heap.size + 1, 0, none⟩ (.int .u64 (c1.old.1 : Int))).setCell ⟨w.heap.size + 1, 1, none⟩ (.int .u64 (c1.old.2 : Int))) := ((Tw.refl [w.heap.size + 1] _).set (by simp) _ _).set (by simp) _ _
        refine ⟨⟨_, _, rfl⟩, ⟨c1.cut c1.old, HC7.out.tw hS (by simp; omega) (by simp; omega), ?_⟩, ?_⟩
        · rw [HPUT.out, if_neg hle]; exact rep_tail HRP.out hl1
        · exact ⟨hS.os.trans HT7.out.os, hS.tape.trans HT7.out.tape, hS.output.trans HT7.out.output, Nat.le_trans HT7.out.size hS.size, fun q hq hn => (hS.block q (Nat.lt_of_lt_of_le hq HT7.out.size) (by simp; omega)).trans (HT7.out.block q hq hn)⟩
set_option maxHeartbeats 1000000 in
/-- a cache that is new -/
theorem lrunew_any (n : Nat) (hn : n ≤ 64) (w : World) :
    Calls Tryz.prog 25 #[.int .i64 (n : Int)] w fun e w' => ∃ B m, e = .returned (.tuple #[.pointer (some ⟨B, 0, none⟩), .int .i64 0]) ∧ LruR w' B m n [] ∧ Up w w' ∧ w.heap.size ≤ B ∧ w.heap.size ≤ m := by
  have h1 : ¬ (n : Int) < 0 := by omega
  have h2 : (n : Int) ≤ 64 := by omega
  have h3 : (0 : Int) ≤ (n : Int) := by omega
  have hmm := @run_makeMap Tryz.prog
  go_enter Tryz.func25, Tryz.ntmps25
  go_wp2_with fail
  have hmb : ((w.alloc (.map #[] 0)).alloc (.cells #[.int .i64 (n : Int), .map (some w.heap.size), .int .u64 0, .int .u64 0, .int .u64 0, .int .u64 0] 136)).heap[w.heap.size]? = some (.map #[] 0) := ((Up.refl _).alloc _).obj (heap_alloc_new _ _)
  have hcb : ((w.alloc (.map #[] 0)).alloc (.cells #[.int .i64 (n : Int), .map (some w.heap.size), .int .u64 0, .int .u64 0, .int .u64 0, .int .u64 0] 136)).heap[w.heap.size + 1]? = some (.cells #[.int .i64 (n : Int), .map (some w.heap.size), .int .u64 0, .int .u64 0, .int .u64 0, .int .u64 0] 136 (0, 0)) := by
    have := heap_alloc_new (w.alloc (.map #[] 0)) (.cells #[.int .i64 (n : Int), .map (some w.heap.size), .int .u64 0, .int .u64 0, .int .u64 0, .int .u64 0] 136)
    simpa using this
  have z : OkK (0, 0) := ok0
  go_ret2
  refine ⟨w.heap.size + 1, rfl, w.heap.size, ⟨⟨fun _ => none, 0, (0, 0), (0, 0)⟩, ⟨hcb, ⟨#[], 0, [], hmb, ?_⟩, by omega, z, z, fun k x h => by simp at h⟩, ?_⟩, ((Up.refl w).alloc _).alloc _, by omega, Nat.le_refl _⟩
  · exact ⟨rfl, by simp, rfl, fun k h => by simp at h, fun i e k h => by simp at h, fun k h => by simp at h⟩
  · exact ⟨by simp, rfl, fun k => by simp, fun k h => by simp at h, fun k h => by simp at h, fun i a b h => by simp at h, fun i a b h => by simp at h⟩
end Go.Proofs.YtcfmidmokciofaaGreatDoor
