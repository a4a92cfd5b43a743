/- Walks: a meter's look, first. -/
import Derived.Test.YtcfmidmokciofaaGreatDoorKM09
import Derived.Test.YtcfmidmokciofaaGreatDoorKM04
namespace Go.Proofs.YtcfmidmokciofaaGreatDoor
open Go.RowKit Go.Gz
set_option maxRecDepth 100000
/-- a meter's cells: the chart, the root, whether it is known, what is kept, the total -/
def mtC (A : Option Addr) (cl cc : Nat) (RA : Option Addr) (rl rc : Nat) (kn : Bool) (B : Nat) (tot : Int) : Array Value :=
  #[.slice A cl cc, .slice RA rl rc, .bool kn, .pointer (some ⟨B, 0, none⟩), .int .i64 tot]
theorem okR : OkK RKey := ⟨by show (1152921504606846976 : Nat) < _; omega, by show (0 : Nat) < _; omega⟩
set_option maxHeartbeats 4000000 in
theorem mlook_any (BM : Nat) (A : Option Addr) (cl cc : Nat) (RA : Option Addr) (rl rc : Nat) (kn : Bool) (B m most : Nat) (tot : Int) (L : List NK) (k : NK) (hk : OkK k) (w : World)
    (hM : w.heap[BM]? = some (.cells (mtC A cl cc RA rl rc kn B tot) 41 (0, 0))) (h1 : BM ≠ B) (h2 : BM ≠ m) (h : LruR w B m most L) :
    Calls Tryz.prog 28 #[.pointer (some ⟨BM, 0, none⟩), kV k] w fun e w' => e = .returned (.int .i64 ((lookL most L k).2 : Int)) ∧ LruR w' B m most (lookL most L k).1 ∧ Tw [B, m] w w' := by
  have GE := fun w h => Lib.hid (lruget_any B m most L k hk w h)
  have PU := fun L w h => Lib.hid (lruput_any B m most L k hk 0 w h)
  obtain ⟨X, hX⟩ : ∃ X, X = w.alloc (.cells #[.int .u64 (k.1 : Int), .int .u64 (k.2 : Int)] 77) := ⟨_, rfl⟩
  have hu : Up w X := by rw [hX]; exact (Up.refl w).alloc _
  have hKX : X.heap[w.heap.size]? = some (.cells #[.int .u64 (k.1 : Int), .int .u64 (k.2 : Int)] 77 (0, 0)) := by rw [hX]; exact heap_alloc_new _ _
  have hBl : B < w.heap.size := by obtain ⟨c, hc, _⟩ := h; exact (Array.getElem?_eq_some_iff.1 hc.blk).1
  have hml : m < w.heap.size := by obtain ⟨c, hc, _⟩ := h; exact mapN_lt hc.map
  have hMX := hu.obj hM
  have HL := Lib.hid (h.up hu)
  have HU := Lib.hid hu
  have MK := Lib.hid (fun w' (t : Tw [B, m] X w') => (⟨by
      have := t.obj hMX (by simp; exact ⟨h1, h2⟩)
      simp [World.cell?, this, mtC], (blkk (t.obj hKX (by simp; omega))).1, (blkk (t.obj hKX (by simp; omega))).2⟩ :
    w'.cell? ⟨BM, 3, none⟩ = some (.pointer (some ⟨B, 0, none⟩)) ∧ w'.cell? ⟨w.heap.size, 0, none⟩ = some (.int .u64 (k.1 : Int)) ∧ w'.cell? ⟨w.heap.size, 1, none⟩ = some (.int .u64 (k.2 : Int))))
  obtain ⟨d, hd⟩ : ∃ d, d = decide (k ∈ L) := ⟨_, rfl⟩
  rw [← hd] at GE
  have HD := Lib.hid hd
  unfold kV at GE PU ⊢
  clear hu hKX hM hMX h hd
  by_cases hm : k ∈ L
  · have hd1 : d = true := by rw [HD.out]; exact decide_eq_true hm
    subst hd1
    have HM := Lib.hid hm
    clear hm HD
    go_enter Tryz.func28, Tryz.ntmps28
    go_wp2_with fail
    rw [← hX]
    clear hX
    go_region_held3 (fun w' => w'.cell? ⟨BM, 3, none⟩ = some (.pointer (some ⟨B, 0, none⟩)) ∧ w'.cell? ⟨w.heap.size, 0, none⟩ = some (.int .u64 (k.1 : Int)) ∧ w'.cell? ⟨w.heap.size, 1, none⟩ = some (.int .u64 (k.2 : Int)))
      (first | assumption | exact MK.out _ (Tw.refl _ _).drew | exact MK.out _ (by assumption))
      (first | (go_simp; go_at_call 65; with_reducible refine (GE _ (HL.out.up (Up.refl X).drew)).out.mono ?_; rintro e X2 ⟨⟨v, rfl⟩, hl2, ht2⟩; replace ht2 := (Tw.refl [B, m] X).drew.trans ht2))
    go_wp2_with fail
    go_ret
    have e : lookL most L k = (kgetL L k, 0) := by unfold lookL; rw [if_pos HM.out]
    rw [e]
    exact ⟨rfl, hl2, (Tw.up HU.out).trans ht2⟩
  · have hd1 : d = false := by rw [HD.out]; exact decide_eq_false hm
    subst hd1
    have HM := Lib.hid hm
    clear hm HD
    go_enter Tryz.func28, Tryz.ntmps28
    go_wp2_with fail
    rw [← hX]
    clear hX
    go_region_held3 (fun w' => w'.cell? ⟨BM, 3, none⟩ = some (.pointer (some ⟨B, 0, none⟩)) ∧ w'.cell? ⟨w.heap.size, 0, none⟩ = some (.int .u64 (k.1 : Int)) ∧ w'.cell? ⟨w.heap.size, 1, none⟩ = some (.int .u64 (k.2 : Int)))
      (first | assumption | exact MK.out _ (Tw.refl _ _).drew | exact MK.out _ (by assumption) | exact MK.out _ (Tw.drew (by assumption)))
      (first | (go_simp; go_at_call 65; with_reducible refine (GE _ (HL.out.up (Up.refl X).drew)).out.mono ?_; rintro e X2 ⟨⟨v, rfl⟩, hl2, ht2⟩; replace ht2 := (Tw.refl [B, m] X).drew.trans ht2))
    rw [show kgetL L k = L by unfold kgetL; rw [if_neg HM.out]] at hl2
    have HL2 := Lib.hid hl2
    have HT2 := Lib.hid ht2
    have htd := ht2.drew
    clear hl2
    go_wp2_with fail
    go_region_held3 (fun w' => w'.cell? ⟨BM, 3, none⟩ = some (.pointer (some ⟨B, 0, none⟩)) ∧ w'.cell? ⟨w.heap.size, 0, none⟩ = some (.int .u64 (k.1 : Int)) ∧ w'.cell? ⟨w.heap.size, 1, none⟩ = some (.int .u64 (k.2 : Int)))
      (first | assumption | exact MK.out _ (Tw.refl _ _).drew | exact MK.out _ (by assumption) | exact MK.out _ (Tw.drew (by assumption)))
      (first | (go_simp; go_at_call 64; with_reducible refine (PU L _ (HL2.out.up (Up.refl X2).drew)).out.mono ?_; rintro e X3 ⟨⟨a, b, rfl⟩, hl3, ht3⟩; replace ht3 := htd.trans ht3))
    go_wp2_with fail
    go_ret
    have e : lookL most L k = (kputL most L k, 1) := by unfold lookL; rw [if_neg HM.out]
    rw [e]
    exact ⟨rfl, hl3, (Tw.up HU.out).trans ht3⟩
set_option maxHeartbeats 4000000 in
theorem mfirst_any (BM : Nat) (A : Option Addr) (cl cc : Nat) (RA : Option Addr) (rl rc : Nat) (kn : Bool) (B m most : Nat) (tot : Int) (L : List NK) (w : World)
    (hM : w.heap[BM]? = some (.cells (mtC A cl cc RA rl rc kn B tot) 41 (0, 0))) (h1 : BM ≠ B) (h2 : BM ≠ m) (h : LruR w B m most L) :
    Calls Tryz.prog 27 #[.pointer (some ⟨BM, 0, none⟩)] w fun e w' => e = .returned (.int .i64 ((firstL most kn L).2 : Int)) ∧ LruR w' B m most (firstL most kn L).1 ∧ w'.heap[BM]? = some (.cells (mtC A cl cc RA rl rc true B tot) 41 (0, 0)) ∧ Tw [BM, B, m] w w' := by
  have LK := fun w hM h => Lib.hid (mlook_any BM A cl cc RA rl rc true B m most tot L RKey okR w hM h1 h2 h)
  have PU := fun w h => Lib.hid (lruput_any B m most L RKey okR 0 w h)
  have hBl : B < w.heap.size := by obtain ⟨c, hc, _⟩ := h; exact (Array.getElem?_eq_some_iff.1 hc.blk).1
  have hml : m < w.heap.size := by obtain ⟨c, hc, _⟩ := h; exact mapN_lt hc.map
  have hMl : BM < w.heap.size := (Array.getElem?_eq_some_iff.1 hM).1
  have ek : kV RKey = .agg #[.int .u64 1152921504606846976, .int .u64 0] := rfl
  rw [ek] at LK PU
  obtain ⟨q0, q1, q2, q3, q4, qf⟩ := blk5 hM
  have qf2 := qf 2
  clear qf ek
  cases kn with
  | true =>
    obtain ⟨X, hX⟩ : ∃ X, X = w.alloc (.cells #[.int .u64 1152921504606846976, .int .u64 0] 77) := ⟨_, rfl⟩
    have hu : Up w X := by rw [hX]; exact (Up.refl w).alloc _
    have HL := Lib.hid (h.up hu)
    have HU := Lib.hid hu
    have HMX := Lib.hid (hu.obj hM)
    clear hM h hu
    go_enter Tryz.func27, Tryz.ntmps27
    go_wp2_with fail
    rw [← hX]
    with_reducible refine (LK _ ?_ ?_).out.mono ?_
    · exact HMX.out
    · exact HL.out
    rintro e X2 ⟨rfl, hl2, ht2⟩
    clear hX
    go_wp2_with fail
    go_ret
    refine ⟨rfl, hl2, ht2.obj HMX.out (by simp; exact ⟨h1, h2⟩), (Tw.up HU.out).trans (ht2.mono (by simp))⟩
  | false =>
    obtain ⟨X, hX⟩ : ∃ X, X = (w.setCell ⟨BM, 2, none⟩ (.bool true)).alloc (.cells #[.int .u64 1152921504606846976, .int .u64 0] 77) := ⟨_, rfl⟩
    have hS : Tw [BM] w (w.setCell ⟨BM, 2, none⟩ (.bool true)) := (Tw.refl [BM] w).set (by simp) _ _
    have hu : Tw [BM] w X := by rw [hX]; exact hS.alloc _
    have hMX : X.heap[BM]? = some (.cells (mtC A cl cc RA rl rc true B tot) 41 (0, 0)) := by
      rw [hX]
      refine ((Up.refl _).alloc _).obj ?_
      rw [heap_setCell_same _ _ _ _ _ _ hM]
      simp [mtC]
    have hKX : X.heap[w.heap.size]? = some (.cells #[.int .u64 1152921504606846976, .int .u64 0] 77 (0, 0)) := by
      rw [hX]
      have := heap_alloc_new (w.setCell ⟨BM, 2, none⟩ (.bool true)) (.cells #[.int .u64 1152921504606846976, .int .u64 0] 77)
      simpa using this
    have HL := Lib.hid (h.tw hu (by simp; exact fun e => h1 e.symm) (by simp; exact fun e => h2 e.symm))
    have HU := Lib.hid hu
    have HMX := Lib.hid hMX
    have MK := Lib.hid (fun w' (t : Tw [B, m] X w') => (⟨by
        have := t.obj hMX (by simp; exact ⟨h1, h2⟩)
        simp [World.cell?, this, mtC], (blkk (t.obj hKX (by simp; omega))).1, (blkk (t.obj hKX (by simp; omega))).2⟩ :
      w'.cell? ⟨BM, 3, none⟩ = some (.pointer (some ⟨B, 0, none⟩)) ∧ w'.cell? ⟨w.heap.size, 0, none⟩ = some (.int .u64 1152921504606846976) ∧ w'.cell? ⟨w.heap.size, 1, none⟩ = some (.int .u64 0)))
    clear hM h hu hKX hMX hS LK
    go_enter Tryz.func27, Tryz.ntmps27
    go_wp2_with fail
    rw [← hX]
    clear hX
    go_region_held3 (fun w' => w'.cell? ⟨BM, 3, none⟩ = some (.pointer (some ⟨B, 0, none⟩)) ∧ w'.cell? ⟨w.heap.size, 0, none⟩ = some (.int .u64 1152921504606846976) ∧ w'.cell? ⟨w.heap.size, 1, none⟩ = some (.int .u64 0))
      (first | assumption | exact MK.out _ (Tw.refl _ _).drew | exact MK.out _ (by assumption) | exact MK.out _ (Tw.drew (by assumption)))
      (first | (go_simp; go_at_call 64; with_reducible refine (PU _ (HL.out.up (Up.refl X).drew)).out.mono ?_; rintro e X3 ⟨⟨a, b, rfl⟩, hl3, ht3⟩; replace ht3 := (Tw.refl [B, m] X).drew.trans ht3))
    go_wp2_with fail
    go_ret
    refine ⟨rfl, hl3, ht3.obj HMX.out (by simp; exact ⟨h1, h2⟩), (HU.out.mono (by simp)).trans (ht3.mono (by simp))⟩
end Go.Proofs.YtcfmidmokciofaaGreatDoor
