/- Walks: the cache that keeps what was used last (lru): has, Len, Most. -/
import Derived.Test.YtcfmidmokciofaaGreatDoorKM07
import Derived.Test.YtcfmidmokciofaaGreatDoorKM02
import Derived.Deep.RegionHeld3
import Derived.StillTailTactics
import Derived.BigRegion
namespace Go.Proofs.YtcfmidmokciofaaGreatDoor
open Go.RowKit Go.Gz
set_option maxRecDepth 100000
def caC (most : Nat) (m : Nat) (c : Ca) : Array Value := #[.int .i64 (most : Int), .map (some m), .int .u64 (c.old.1 : Int), .int .u64 (c.old.2 : Int), .int .u64 (c.new.1 : Int), .int .u64 (c.new.2 : Int)]
/-- a cache in its block B, its map in block m -/
structure CaR (w : World) (B m most : Nat) (c : Ca) : Prop where
  blk : w.heap[B]? = some (.cells (caC most m c) 136 (0, 0))
  map : MapN w m c
  ne : B ≠ m
  old : OkK c.old
  new : OkK c.new
  ok : ∀ k x, c.g k = some x → OkK x.o ∧ OkK x.n
theorem blk6 {w : World} {b : Nat} {x0 x1 x2 x3 x4 x5 : Value} {t : TypeId} (h : w.heap[b]? = some (.cells #[x0, x1, x2, x3, x4, x5] t (0, 0))) :
    w.cell? ⟨b, 0, none⟩ = some x0 ∧ w.cell? ⟨b, 1, none⟩ = some x1 ∧ w.cell? ⟨b, 2, none⟩ = some x2 ∧ w.cell? ⟨b, 3, none⟩ = some x3 ∧ w.cell? ⟨b, 4, none⟩ = some x4 ∧ w.cell? ⟨b, 5, none⟩ = some x5 :=
  ⟨by simp [World.cell?, h], by simp [World.cell?, h], by simp [World.cell?, h], by simp [World.cell?, h], by simp [World.cell?, h], by simp [World.cell?, h]⟩
theorem frz6 {w : World} {b : Nat} {cs : Array Value} {t : TypeId} (h : w.heap[b]? = some (.cells cs t (0, 0))) (o : Nat) : w.frozen? ⟨b, o, none⟩ = false := by simp [World.frozen?, h]
theorem mapN_tw {w w' : World} {m : Nat} {c : Ca} {S : List Nat} (h : MapN w m c) (t : Tw S w w') (hm : m ∉ S) : MapN w' m c := by
  obtain ⟨es, clock, K, hb, he⟩ := h
  exact ⟨es, clock, K, t.obj hb hm, he⟩
theorem CaR.tw {w w' : World} {B m most : Nat} {c : Ca} {S : List Nat} (h : CaR w B m most c) (t : Tw S w w') (hB : B ∉ S) (hm : m ∉ S) : CaR w' B m most c :=
  ⟨t.obj h.blk hB, mapN_tw h.map t hm, h.ne, h.old, h.new, h.ok⟩
theorem CaR.up {w w' : World} {B m most : Nat} {c : Ca} (h : CaR w B m most c) (t : Up w w') : CaR w' B m most c := h.tw (Tw.up (S := []) t) (by simp) (by simp)
set_option maxHeartbeats 4000000 in
theorem lruhas_any (B m most : Nat) (c : Ca) (k : NK) (hk : OkK k) (w : World) (h : CaR w B m most c) :
    Calls Tryz.prog 119 #[.pointer (some ⟨B, 0, none⟩), kV k] w fun e w' => e = .returned (.bool (c.g k).isSome) ∧ Up w w' := by
  obtain ⟨k1, k2⟩ := k
  have h1 : ∀ w', Up w w' → (Instr.lookup 134 (.map (some m)) (.agg #[.int .u64 (k1 : Int), .int .u64 (k2 : Int)]) true).run Tryz.prog w' = .ok (.tuple #[nV (c.get (k1, k2)), .bool (c.g (k1, k2)).isSome]) w' := fun w' hu => (look_map (h.up hu).map (k1, k2) hk).2
  obtain ⟨c0, c1, c2, c3, c4, c5⟩ := blk6 h.blk
  obtain ⟨X, hX⟩ : ∃ X, X = w.alloc (.cells #[.int .u64 (k1 : Int), .int .u64 (k2 : Int)] 77) := ⟨_, rfl⟩
  have hu : Up w X := by rw [hX]; exact (Up.refl w).alloc _
  have q0 : X.cell? ⟨w.heap.size, 0, none⟩ = some (.int .u64 (k1 : Int)) := by rw [hX]; simp
  have q1 : X.cell? ⟨w.heap.size, 1, none⟩ = some (.int .u64 (k2 : Int)) := by rw [hX]; simp
  have MK := Lib.hid (fun w' (h : Up X w') => (⟨h, h.cell q0, h.cell q1, (hu.trans h).cell c1, h1 w' (hu.trans h)⟩ : Up X w' ∧ w'.cell? ⟨w.heap.size, 0, none⟩ = some (.int .u64 (k1 : Int)) ∧ w'.cell? ⟨w.heap.size, 1, none⟩ = some (.int .u64 (k2 : Int)) ∧ w'.cell? ⟨B, 1, none⟩ = some (.map (some m)) ∧
      (Instr.lookup 134 (.map (some m)) (.agg #[.int .u64 (k1 : Int), .int .u64 (k2 : Int)]) true).run Tryz.prog w' = .ok (.tuple #[nV (c.get (k1, k2)), .bool (c.g (k1, k2)).isSome]) w'))
  have HU := Lib.hid hu
  generalize hx : c.get (k1, k2) = x at *
  obtain ⟨xv, ⟨xo1, xo2⟩, ⟨xn1, xn2⟩⟩ := x
  unfold nV at MK
  dsimp only at MK
  generalize (c.g (k1, k2)).isSome = is at *
  clear h1 h c0 c2 c3 c4 c5 q0 q1 hu hk
  unfold kV
  go_enter Tryz.func119, Tryz.ntmps119
  go_wp2_with fail
  rw [← hX]
  clear hX
  go_region_held3 (fun w' => Up X w' ∧ w'.cell? ⟨w.heap.size, 0, none⟩ = some (.int .u64 (k1 : Int)) ∧ w'.cell? ⟨w.heap.size, 1, none⟩ = some (.int .u64 (k2 : Int)) ∧ w'.cell? ⟨B, 1, none⟩ = some (.map (some m)) ∧
      (Instr.lookup 134 (.map (some m)) (.agg #[.int .u64 (k1 : Int), .int .u64 (k2 : Int)]) true).run Tryz.prog w' = .ok (.tuple #[.agg #[.int .i64 xv, .int .u64 (xo1 : Int), .int .u64 (xo2 : Int), .int .u64 (xn1 : Int), .int .u64 (xn2 : Int)], .bool is]) w')
    (first
      | assumption
      | exact MK.out _ (Up.refl _).drew
      | exact MK.out _ ((Up.refl _).drew.alloc _)
      | exact MK.out _ (Up.alloc (And.left (by assumption)) _))
    (fail)
  all_goals
    go_wp2_with fail
    go_ret
    exact ⟨rfl, HU.out.trans ((Up.refl X).alloc _).drew⟩
theorem len_map {w : World} {m : Nat} {c : Ca} (h : MapN w m c) (ty : TypeId) : (Builtin.len_ #[134] ty #[.map (some m)]).run Tryz.prog w = .ok (.int .i64 (c.n : Int)) w := by
  obtain ⟨es, clock, K, hb, he⟩ := h
  have hn := mapE_size he
  rw [he.len] at hn
  have hs : es.size = c.n := by simpa using hn
  simp [Builtin.len_, run_underlying Tryz.underlying134, MapKept.run_getObj_map hb, goInt, Result.andThen, hs]
set_option maxHeartbeats 1000000 in
theorem lrulen_any (B m most : Nat) (c : Ca) (w : World) (h : CaR w B m most c) :
    Calls Tryz.prog 30 #[.pointer (some ⟨B, 0, none⟩)] w fun e w' => e = .returned (.int .i64 (c.n : Int)) ∧ w' = w := by
  obtain ⟨c0, c1, c2, c3, c4, c5⟩ := blk6 h.blk
  have hlen := len_map h.map
  go_enter Tryz.func30, Tryz.ntmps30
  go_wp2_with fail
  go_ret
  exact ⟨rfl, rfl⟩
theorem lrumost_any (B m most : Nat) (c : Ca) (w : World) (h : CaR w B m most c) :
    Calls Tryz.prog 118 #[.pointer (some ⟨B, 0, none⟩)] w fun e w' => e = .returned (.int .i64 (most : Int)) ∧ w' = w := by
  obtain ⟨c0, c1, c2, c3, c4, c5⟩ := blk6 h.blk
  go_enter Tryz.func118, Tryz.ntmps118
  go_wp2_with fail
  go_ret
  exact ⟨rfl, rfl⟩
end Go.Proofs.YtcfmidmokciofaaGreatDoor
/- Walk: the cache that keeps what was used last (lru): push. -/
namespace Go.Proofs.YtcfmidmokciofaaGreatDoor
open Go.RowKit Go.Gz
set_option maxRecDepth 100000
theorem okPut {c : Ca} (h : ∀ k x, c.g k = some x → OkK x.o ∧ OkK x.n) (k : NK) (y : Nd) (h1 : OkK y.o) (h2 : OkK y.n) : ∀ j x, (c.put k y).g j = some x → OkK x.o ∧ OkK x.n := by
  intro j x hx
  unfold Ca.put at hx
  by_cases e : j = k
  · simp [e] at hx; subst hx; exact ⟨h1, h2⟩
  · simp [e] at hx; exact h j x hx
theorem okDel {c : Ca} (h : ∀ k x, c.g k = some x → OkK x.o ∧ OkK x.n) (k : NK) : ∀ j x, (c.del k).g j = some x → OkK x.o ∧ OkK x.n := by
  intro j x hx
  unfold Ca.del at hx
  by_cases e : j = k
  · simp [e] at hx
  · simp [e] at hx; exact h j x hx
theorem ok0 : OkK (0, 0) := ⟨by show (0 : Nat) < _; omega, by show (0 : Nat) < _; omega⟩
theorem okGet {c : Ca} (h : ∀ k x, c.g k = some x → OkK x.o ∧ OkK x.n) (k : NK) : OkK (c.get k).o ∧ OkK (c.get k).n := by
  unfold Ca.get
  cases hx : c.g k with
  | none => exact ⟨ok0, ok0⟩
  | some x => exact h k x hx
theorem blk5 {w : World} {b : Nat} {x0 x1 x2 x3 x4 : Value} {t : TypeId} (h : w.heap[b]? = some (.cells #[x0, x1, x2, x3, x4] t (0, 0))) :
    w.cell? ⟨b, 0, none⟩ = some x0 ∧ w.cell? ⟨b, 1, none⟩ = some x1 ∧ w.cell? ⟨b, 2, none⟩ = some x2 ∧ w.cell? ⟨b, 3, none⟩ = some x3 ∧ w.cell? ⟨b, 4, none⟩ = some x4 ∧ ∀ o, w.frozen? ⟨b, o, none⟩ = false :=
  ⟨by simp [World.cell?, h], by simp [World.cell?, h], by simp [World.cell?, h], by simp [World.cell?, h], by simp [World.cell?, h], fun o => by simp [World.frozen?, h]⟩
theorem blkk {w : World} {b : Nat} {x y : Value} {t : TypeId} (h : w.heap[b]? = some (.cells #[x, y] t (0, 0))) : w.cell? ⟨b, 0, none⟩ = some x ∧ w.cell? ⟨b, 1, none⟩ = some y :=
  ⟨by simp [World.cell?, h], by simp [World.cell?, h]⟩
theorem mapN_lt {w : World} {m : Nat} {c : Ca} (h : MapN w m c) : m < w.heap.size := by
  obtain ⟨es, clock, K, hb, _⟩ := h
  exact (Array.getElem?_eq_some_iff.1 hb).1
theorem CaR.setOld {w : World} {B m most : Nat} {c : Ca} (h : CaR w B m most c) (k : NK) (hk : OkK k) :
    CaR ((w.setCell ⟨B, 2, none⟩ (.int .u64 (k.1 : Int))).setCell ⟨B, 3, none⟩ (.int .u64 (k.2 : Int))) B m most { c with old := k } := by
  have h1 := heap_setCell_same _ B 2 _ _ (.int .u64 (k.1 : Int)) h.blk
  have h2 := heap_setCell_same _ B 3 _ _ (.int .u64 (k.2 : Int)) h1
  obtain ⟨es, clock, K, hb, he⟩ := h.map
  refine ⟨by rw [h2]; simp [caC], ⟨es, clock, K, ?_, he.keys, he.nd, he.len, he.ok, he.val, he.all⟩, h.ne, hk, h.new, h.ok⟩
  rw [heap_setCell_other _ _ _ _ (fun e => h.ne (by simpa using e.symm)), heap_setCell_other _ _ _ _ (fun e => h.ne (by simpa using e.symm)), hb]
theorem CaR.setNew {w : World} {B m most : Nat} {c : Ca} (h : CaR w B m most c) (k : NK) (hk : OkK k) :
    CaR ((w.setCell ⟨B, 4, none⟩ (.int .u64 (k.1 : Int))).setCell ⟨B, 5, none⟩ (.int .u64 (k.2 : Int))) B m most { c with new := k } := by
  have h1 := heap_setCell_same _ B 4 _ _ (.int .u64 (k.1 : Int)) h.blk
  have h2 := heap_setCell_same _ B 5 _ _ (.int .u64 (k.2 : Int)) h1
  obtain ⟨es, clock, K, hb, he⟩ := h.map
  refine ⟨by rw [h2]; simp [caC], ⟨es, clock, K, ?_, he.keys, he.nd, he.len, he.ok, he.val, he.all⟩, h.ne, h.old, hk, h.ok⟩
  rw [heap_setCell_other _ _ _ _ (fun e => h.ne (by simpa using e.symm)), heap_setCell_other _ _ _ _ (fun e => h.ne (by simpa using e.symm)), hb]
theorem frzs {w : World} {B m most : Nat} {c : Ca} (h : CaR w B m most c) : w.frozen? ⟨B, 2, none⟩ = false ∧ w.frozen? ⟨B, 3, none⟩ = false ∧ w.frozen? ⟨B, 4, none⟩ = false ∧ w.frozen? ⟨B, 5, none⟩ = false :=
  ⟨frz6 h.blk 2, frz6 h.blk 3, frz6 h.blk 4, frz6 h.blk 5⟩
/-- a node put under a key -/
theorem CaR.putN {w : World} {B m most : Nat} {c : Ca} (h : CaR w B m most c) (k : NK) (hk : OkK k) (x : Nd) (h1 : OkK x.o) (h2 : OkK x.n) :
    ∃ w', (Instr.mapUpdate 134 (.map (some m)) (kV k) (nV x)).run Tryz.prog w = .ok () w' ∧ CaR w' B m most (c.put k x) ∧ Tw [m] w w' := by
  obtain ⟨w', hr, hm, hg⟩ := put_map h.map k hk x
  refine ⟨w', hr, ⟨?_, hm, h.ne, h.old, h.new, okPut h.ok k x h1 h2⟩, Tw.grown hg (by simp)⟩
  rw [hg.block B (Array.getElem?_eq_some_iff.1 h.blk).1 (by simp only [ne_eq, Option.some.injEq]; exact h.ne)]
  exact h.blk
set_option maxHeartbeats 8000000 in
theorem lrupush_any (B m most : Nat) (c : Ca) (k : NK) (hk : OkK k) (v : Int) (w : World) (h : CaR w B m most c) :
    Calls Tryz.prog 121 #[.pointer (some ⟨B, 0, none⟩), kV k, .int .i64 v] w fun e w' => e = .returned (.tuple #[]) ∧ CaR w' B m most (c.push k v) ∧ Tw [B, m] w w' := by
  have hB := (Array.getElem?_eq_some_iff.1 h.blk).1
  have HK := Lib.hid hk
  have H := Lib.hid h
  obtain ⟨c0, c1, c2, c3, c4, c5⟩ := blk6 h.blk
  obtain ⟨g2, g3, g4, g5⟩ := frzs h
  have hlenX := len_map (h.up ((Up.refl w).alloc (.cells #[.int .u64 (k.1 : Int), .int .u64 (k.2 : Int)] 77))).map
  by_cases h0 : c.n = 0
  · have h0I : (c.n : Int) = 0 := by omega
    obtain ⟨X, hX⟩ : ∃ X, X = ((w.setCell ⟨B, 2, none⟩ (.int .u64 (k.1 : Int))).setCell ⟨B, 3, none⟩ (.int .u64 (k.2 : Int))).alloc (.cells #[.int .u64 (k.1 : Int), .int .u64 (k.2 : Int)] 77) := ⟨_, rfl⟩
    have hCX : CaR X.drew B m most { c with old := k } := by rw [hX]; exact ((h.setOld k hk).up ((Up.refl _).alloc _)).up (Up.refl _).drew
    have hTX : Tw [B, m] w X.drew := by rw [hX]; exact ((((Tw.refl [B, m] w).set (by simp) _ _).set (by simp) _ _).alloc _).drew
    have hKX : X.heap[w.heap.size]? = some (.cells #[.int .u64 (k.1 : Int), .int .u64 (k.2 : Int)] 77 (0, 0)) := by
      rw [hX]
      have := heap_alloc_new ((w.setCell ⟨B, 2, none⟩ (.int .u64 (k.1 : Int))).setCell ⟨B, 3, none⟩ (.int .u64 (k.2 : Int))) (.cells #[.int .u64 (k.1 : Int), .int .u64 (k.2 : Int)] 77)
      simpa using this
    have HTX := Lib.hid hTX
    obtain ⟨Y, hrun, hCY, hTY⟩ := hCX.putN k hk ⟨v, c.new, (0, 0)⟩ h.new ok0
    have HCY := Lib.hid hCY
    have HTY := Lib.hid hTY
    clear hTX hCY hTY
    replace hrun : (Instr.mapUpdate 134 (.map (some m)) (.agg #[.int .u64 (k.1 : Int), .int .u64 (k.2 : Int)]) (.agg #[.int .i64 v, .int .u64 (c.new.1 : Int), .int .u64 (c.new.2 : Int), .int .u64 0, .int .u64 0])).run Tryz.prog X.drew = .ok () Y := hrun
    obtain ⟨f0, f1, f2, f3, f4, f5⟩ := blk6 hCX.blk
    dsimp only at f0 f1 f2 f3 f4 f5
    obtain ⟨k0, k0'⟩ := blkk hKX
    have HKX := Lib.hid (show X.drew.heap[w.heap.size]? = some (.cells #[.int .u64 (k.1 : Int), .int .u64 (k.2 : Int)] 77 (0, 0)) from hKX)
    have HML := Lib.hid (mapN_lt h.map)
    clear hCX hKX hk h
    unfold kV
    go_enter Tryz.func121, Tryz.ntmps121
    go_wp2_with fail
    rw [← hX]
    clear hX hlenX
    go_still_tail 11, (by kernel_rfl)
    change wpList _ _ _ _ _ X.drew
    have hb4 := HCY.out.blk
    obtain ⟨y0, y1, y2, y3, y4, y5⟩ := blk6 hb4
    obtain ⟨z2, z3, z4, z5⟩ := frzs HCY.out
    obtain ⟨k0, k0'⟩ := blkk (show Y.heap[w.heap.size]? = some (.cells #[.int .u64 (k.1 : Int), .int .u64 (k.2 : Int)] 77 (0, 0)) from HTY.out.obj HKX.out (by have := HML.out; simp; omega))
    clear hb4
    go_wp2_with fail
    go_end0
    refine ⟨rfl, ?_, ?_⟩
    · have := HCY.out.setNew k HK.out
      unfold Ca.push
      rw [if_pos h0]
      exact this
    · exact ((HTX.out.trans (HTY.out.mono (by simp))).set (by simp) _ _).set (by simp) _ _
  · have h0I : ¬ (c.n : Int) = 0 := by omega
    have HML := Lib.hid (mapN_lt h.map)
    obtain ⟨z, hz⟩ : ∃ z, c.get c.new = z := ⟨_, rfl⟩
    have hzo : OkK z.o := by rw [← hz]; exact (okGet h.ok _).1
    have HZO := Lib.hid hzo
    obtain ⟨X, hX⟩ : ∃ X, X = w.alloc (.cells #[.int .u64 (k.1 : Int), .int .u64 (k.2 : Int)] 77) := ⟨_, rfl⟩
    have hu : Up w X := by rw [hX]; exact (Up.refl w).alloc _
    have hKX : X.heap[w.heap.size]? = some (.cells #[.int .u64 (k.1 : Int), .int .u64 (k.2 : Int)] 77 (0, 0)) := by rw [hX]; exact heap_alloc_new _ _
    have hXs : X.heap.size = w.heap.size + 1 := by rw [hX]; simp
    have hCX := h.up hu
    have hL : ∀ w', Up X w' → (Instr.lookup 134 (.map (some m)) (.agg #[.int .u64 (c.new.1 : Int), .int .u64 (c.new.2 : Int)]) false).run Tryz.prog w' = .ok (.agg #[.int .i64 z.v, .int .u64 (z.o.1 : Int), .int .u64 (z.o.2 : Int), .int .u64 (z.n.1 : Int), .int .u64 (z.n.2 : Int)]) w' := fun w' hu' => by
      have := (look_map (hCX.up hu').map c.new h.new).1
      rw [hz] at this
      exact this
    obtain ⟨f0, f1, f2, f3, f4, f5⟩ := blk6 hCX.blk
    have MK := Lib.hid (fun w' (h : Up X w') => (⟨h, h.cell f1, h.cell f4, h.cell f5, hL w' h⟩ : Up X w' ∧ w'.cell? ⟨B, 1, none⟩ = some (.map (some m)) ∧ w'.cell? ⟨B, 4, none⟩ = some (.int .u64 (c.new.1 : Int)) ∧ w'.cell? ⟨B, 5, none⟩ = some (.int .u64 (c.new.2 : Int)) ∧
      (Instr.lookup 134 (.map (some m)) (.agg #[.int .u64 (c.new.1 : Int), .int .u64 (c.new.2 : Int)]) false).run Tryz.prog w' = .ok (.agg #[.int .i64 z.v, .int .u64 (z.o.1 : Int), .int .u64 (z.o.2 : Int), .int .u64 (z.n.1 : Int), .int .u64 (z.n.2 : Int)]) w'))
    have HKX := Lib.hid hKX
    have HCX := Lib.hid hCX
    have HU := Lib.hid hu
    have HZ := Lib.hid hz
    have HXS := Lib.hid hXs
    clear f0 f1 f2 f3 f4 f5 hL hCX hKX hu hz hk h hzo hXs
    unfold kV
    go_enter Tryz.func121, Tryz.ntmps121
    go_wp2_with fail
    rw [← hX]
    clear hX hlenX c0 c1 c2 c3 c4 c5 g2 g3 g4 g5
    go_region_held3 (fun w' => Up X w' ∧ w'.cell? ⟨B, 1, none⟩ = some (.map (some m)) ∧ w'.cell? ⟨B, 4, none⟩ = some (.int .u64 (c.new.1 : Int)) ∧ w'.cell? ⟨B, 5, none⟩ = some (.int .u64 (c.new.2 : Int)) ∧
      (Instr.lookup 134 (.map (some m)) (.agg #[.int .u64 (c.new.1 : Int), .int .u64 (c.new.2 : Int)]) false).run Tryz.prog w' = .ok (.agg #[.int .i64 z.v, .int .u64 (z.o.1 : Int), .int .u64 (z.o.2 : Int), .int .u64 (z.n.1 : Int), .int .u64 (z.n.2 : Int)]) w')
      (first
        | assumption
        | exact MK.out _ (Up.refl _).drew
        | exact MK.out _ ((Up.refl _).drew.alloc _)
        | exact MK.out _ (Up.alloc (And.left (by assumption)) _))
      (fail)
    all_goals
      obtain ⟨X1, hX1⟩ : ∃ Z, Z = (X.alloc (.cells #[.int .i64 z.v, .int .u64 (z.o.1 : Int), .int .u64 (z.o.2 : Int), .int .u64 (z.n.1 : Int), .int .u64 (z.n.2 : Int)] 288)).drew := ⟨_, rfl⟩
      have hu1 : Up X X1 := by rw [hX1]; exact ((Up.refl X).alloc _).drew
      have hZB : X1.heap[X.heap.size]? = some (.cells #[.int .i64 z.v, .int .u64 (z.o.1 : Int), .int .u64 (z.o.2 : Int), .int .u64 (z.n.1 : Int), .int .u64 (z.n.2 : Int)] 288 (0, 0)) := by rw [hX1]; exact heap_alloc_new _ _
      rw [← hX1]
      clear hX1 MK
      generalize hZs : X.heap.size = ZB at *
      have hZK : w.heap.size < ZB := by have := HXS.out; omega
      have hm := HML.out
      -- the node of the newest with the key behind it
      have hC2 : CaR ((X1.setCell ⟨ZB, 3, none⟩ (.int .u64 (k.1 : Int))).setCell ⟨ZB, 4, none⟩ (.int .u64 (k.2 : Int))) B m most c := (HCX.out.up hu1).tw (S := [ZB]) (((Tw.refl [ZB] X1).set (by simp) _ _).set (by simp) _ _) (by simp; omega) (by simp; omega)
      have hK2 : ((X1.setCell ⟨ZB, 3, none⟩ (.int .u64 (k.1 : Int))).setCell ⟨ZB, 4, none⟩ (.int .u64 (k.2 : Int))).heap[w.heap.size]? = some (.cells #[.int .u64 (k.1 : Int), .int .u64 (k.2 : Int)] 77 (0, 0)) :=
        (((Tw.refl [ZB] X1).set (by simp) _ _).set (by simp) _ _).obj (hu1.obj HKX.out) (by simp; omega)
      have hZ2 : ((X1.setCell ⟨ZB, 3, none⟩ (.int .u64 (k.1 : Int))).setCell ⟨ZB, 4, none⟩ (.int .u64 (k.2 : Int))).heap[ZB]? = some (.cells #[.int .i64 z.v, .int .u64 (z.o.1 : Int), .int .u64 (z.o.2 : Int), .int .u64 (k.1 : Int), .int .u64 (k.2 : Int)] 288 (0, 0)) := by
        have := heap_setCell_same _ ZB 4 _ _ (.int .u64 (k.2 : Int)) (heap_setCell_same _ ZB 3 _ _ (.int .u64 (k.1 : Int)) hZB)
        simpa using this
      have hT2 : Tw [B, m] w ((X1.setCell ⟨ZB, 3, none⟩ (.int .u64 (k.1 : Int))).setCell ⟨ZB, 4, none⟩ (.int .u64 (k.2 : Int))) := by
        have := Up.tw (S := [ZB]) (HU.out.trans hu1) (((Tw.refl [ZB] X1).set (B := ZB) (by simp) 3 (.int .u64 (k.1 : Int))).set (B := ZB) (by simp) 4 (.int .u64 (k.2 : Int))) (by simp; omega)
        exact Tw.up this
      obtain ⟨k0, k1⟩ := blkk (hu1.obj HKX.out)
      obtain ⟨z0, z1, z2, z3, z4, zf⟩ := blk5 hZB
      have zf3 := zf 3
      have zf4 := zf 4
      clear hZB zf
      go_wp2_with fail
      generalize hX2 : (X1.setCell ⟨ZB, 3, none⟩ (.int .u64 (k.1 : Int))).setCell ⟨ZB, 4, none⟩ (.int .u64 (k.2 : Int)) = X2 at *
      clear hX2 k0 k1 z0 z1 z2 z3 z4 zf3 zf4
      have hC3 : CaR X2.drew B m most c := hC2.up (Up.refl _).drew
      obtain ⟨Y, hrun, hCY, hTY⟩ := hC3.putN c.new hC3.new { z with n := k } HZO.out HK.out
      replace hrun : (Instr.mapUpdate 134 (.map (some m)) (.agg #[.int .u64 (c.new.1 : Int), .int .u64 (c.new.2 : Int)]) (.agg #[.int .i64 z.v, .int .u64 (z.o.1 : Int), .int .u64 (z.o.2 : Int), .int .u64 (k.1 : Int), .int .u64 (k.2 : Int)])).run Tryz.prog X2.drew = .ok () Y := hrun
      have hKY : Y.heap[w.heap.size]? = some (.cells #[.int .u64 (k.1 : Int), .int .u64 (k.2 : Int)] 77 (0, 0)) := hTY.obj (show X2.drew.heap[w.heap.size]? = _ from hK2) (by simp; omega)
      have hTT : Tw [B, m] w Y := hT2.drew.trans (hTY.mono (by simp))
      obtain ⟨k0, k1⟩ := blkk hK2
      obtain ⟨z0, z1, z2, z3, z4, zf⟩ := blk5 hZ2
      obtain ⟨f0, f1, f2, f3, f4, f5⟩ := blk6 hC3.blk
      have HKY := Lib.hid hKY
      have HTT := Lib.hid hTT
      have HCY := Lib.hid hCY
      have HTY := Lib.hid hTY
      clear hTT hKY hCY hTY hT2 hZ2 hK2 hC2 hC3 zf
      go_still_tail 9, (by kernel_rfl)
      change wpList _ _ _ _ _ X2.drew
      go_wp2_with fail
      clear k0 k1 z0 z1 z2 z3 z4 f0 f1 f2 f3 f4 f5 hrun
      have hC4 : CaR Y.drew B m most (c.put c.new { z with n := k }) := HCY.out.up (Up.refl _).drew
      obtain ⟨V, hrun, hCV, hTV⟩ := hC4.putN k HK.out ⟨v, c.new, (0, 0)⟩ hC4.new ok0
      replace hrun : (Instr.mapUpdate 134 (.map (some m)) (.agg #[.int .u64 (k.1 : Int), .int .u64 (k.2 : Int)]) (.agg #[.int .i64 v, .int .u64 (c.new.1 : Int), .int .u64 (c.new.2 : Int), .int .u64 0, .int .u64 0])).run Tryz.prog Y.drew = .ok () V := hrun
      have hKV : V.heap[w.heap.size]? = some (.cells #[.int .u64 (k.1 : Int), .int .u64 (k.2 : Int)] 77 (0, 0)) := hTV.obj (show Y.drew.heap[w.heap.size]? = _ from HKY.out) (by simp; omega)
      have hTT : Tw [B, m] w V := HTT.out.drew.trans (hTV.mono (by simp))
      obtain ⟨k0, k1⟩ := blkk HKY.out
      obtain ⟨f0, f1, f2, f3, f4, f5⟩ := blk6 hC4.blk
      dsimp only [Ca.put] at f0 f1 f2 f3 f4 f5
      have HKV := Lib.hid hKV
      have HTV := Lib.hid hTT
      have HCV := Lib.hid hCV
      clear hTT hKV hCV hTV hC4
      go_still_tail 11, (by kernel_rfl)
      change wpList _ _ _ _ _ Y.drew
      obtain ⟨v0, v1⟩ := blkk HKV.out
      obtain ⟨y0, y1, y2, y3, y4, y5⟩ := blk6 HCV.out.blk
      obtain ⟨q2, q3, q4, q5⟩ := frzs HCV.out
      go_wp2_with fail
      go_end0
      refine ⟨rfl, ?_, ?_⟩
      · have := HCV.out.setNew k HK.out
        unfold Ca.push
        rw [if_neg h0, HZ.out]
        exact this
      · exact (HTV.out.set (by simp) _ _).set (by simp) _ _
end Go.Proofs.YtcfmidmokciofaaGreatDoor
