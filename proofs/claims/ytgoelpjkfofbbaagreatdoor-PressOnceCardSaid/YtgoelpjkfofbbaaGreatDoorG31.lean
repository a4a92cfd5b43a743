/- Walks: the notes' reader: fail, wrong, sign, end, blank. -/
import Derived.Test.YtgoelpjkfofbbaaGreatDoorG16
namespace Go.Proofs.YtgoelpjkfofbbaaGreatDoor
open Go.RowKit Go.Gz Go.Shelf

set_option maxRecDepth 100000
/-- the reader's block -/
def RB (w : World) (R : Nat) (s : Bs) (a : Nat) (E : Int) : Prop := w.heap[R]? = some (.cells #[.string ⟨s.toArray⟩, .int .i64 (a : Int), .int .i64 E] 171 (0, 0))
theorem RB.cells {w : World} {R : Nat} {s : Bs} {a : Nat} {E : Int} (h : RB w R s a E) : w.cell? ⟨R, 0, none⟩ = some (.string ⟨s.toArray⟩) ∧ w.cell? ⟨R, 1, none⟩ = some (.int .i64 (a : Int)) ∧ w.cell? ⟨R, 2, none⟩ = some (.int .i64 E) ∧ w.frozen? ⟨R, 1, none⟩ = false ∧ w.frozen? ⟨R, 2, none⟩ = false :=
  ⟨blkc h 0 _ rfl, blkc h 1 _ rfl, blkc h 2 _ rfl, blkf h 1, blkf h 2⟩
theorem RB.at {w : World} {R : Nat} {s : Bs} {a : Nat} {E : Int} (h : RB w R s a E) (b : Nat) : RB (w.setCell ⟨R, 1, none⟩ (.int .i64 (b : Int))) R s b E := heap_setCell_same w R 1 _ _ _ h
theorem RB.err {w : World} {R : Nat} {s : Bs} {a : Nat} {E : Int} (h : RB w R s a E) (F : Int) : RB (w.setCell ⟨R, 2, none⟩ (.int .i64 F)) R s a F := heap_setCell_same w R 2 _ _ _ h
/-- what the reader's walk turns: its own block -/
abbrev RK (R : Nat) (w w' : World) : Prop := w.grownBy w' (some R)
theorem RK.refl (R : Nat) (w : World) : RK R w w := ⟨rfl, rfl, rfl, Nat.le_refl _, fun _ _ _ => rfl⟩
theorem RK.drew (R : Nat) (w : World) : RK R w w.drew := ⟨rfl, rfl, rfl, Nat.le_refl _, fun _ _ _ => rfl⟩
theorem RK.trans {R : Nat} {a b c : World} (h : RK R a b) (k : RK R b c) : RK R a c :=
  ⟨k.os.trans h.os, k.tape.trans h.tape, k.output.trans h.output, Nat.le_trans h.size k.size, fun j hj hne => (k.block j (Nat.lt_of_lt_of_le hj h.size) hne).trans (h.block j hj hne)⟩
theorem RK.set (R o : Nat) (w : World) (v : Value) : RK R w (w.setCell ⟨R, o, none⟩ v) := grown_setO' w R o v

/-! ### fail -/
def FailE (w : World) (R : Nat) (s : Bs) (a : Nat) (E : Int) (b : Nat) (F : Int) (en : Ending) (w' : World) : Prop :=
  en = .returned .nilIface ∧ RK R w w' ∧ (if E = 0 then RB w' R s b F else RB w' R s a E)
theorem rfail_any (R : Nat) (s : Bs) (a : Nat) (E : Int) (b : Nat) (F : Int) (w : World) (h : RB w R s a E) :
    Calls Tryz.prog 88 #[.pointer (some ⟨R, 0, none⟩), .int .i64 (b : Int), .int .i64 F] w (FailE w R s a E b F) := by
  obtain ⟨c0, c1, c2, z1, z2⟩ := h.cells
  have H := Lib.hid h
  clear h
  by_cases hE : E = 0
  · subst hE
    go_enter Tryz.func88, Tryz.ntmps88
    go_wp2_with fail
    go_ret
    exact ⟨rfl, (RK.set R 1 w _).trans (RK.set R 2 _ _), by rw [if_pos rfl]; exact (H.out.at b).err F⟩
  · have hb : (E == 0) = false := by rw [beq_eq_false_iff_ne]; exact hE
    go_enter Tryz.func88, Tryz.ntmps88
    go_wp2_with fail
    go_ret
    exact ⟨rfl, RK.refl R w, by rw [if_neg hE]; exact H.out⟩
/-- what a region that only reads keeps -/
def RS (w : World) (R : Nat) (s : Bs) (a : Nat) (E : Int) (w' : World) : Prop := RK R w w' ∧ RB w' R s a E
theorem rwrong_any (R : Nat) (s : Bs) (a : Nat) (ha : a ≤ s.length) (E : Int) (w : World) (h : RB w R s a E) :
    Calls Tryz.prog 126 #[.pointer (some ⟨R, 0, none⟩)] w (FailE w R s a E a (if a = s.length then 3 else 4)) := by
  have hh : Hid (RK R w w.drew ∧ RB w.drew R s a E) := Lib.hid ⟨RK.drew R w, h⟩
  obtain ⟨c0, c1, c2, z1, z2⟩ := h.cells
  have FL := fun F w h => Lib.hid (rfail_any R s a E a F w h)
  clear h z1 z2
  by_cases hE : a = s.length
  · rw [if_pos hE]
    subst hE
    have hb : ((s.length : Int) == (s.length : Int)) = true := by rw [beq_iff_eq]
    go_enter Tryz.func126, Tryz.ntmps126
    go_wp2_with fail
    go_region_held3 (fun w' => w'.cell? ⟨R, 0, none⟩ = some (.string ⟨s.toArray⟩) ∧ w'.cell? ⟨R, 1, none⟩ = some (.int .i64 (s.length : Int))) (first | assumption | exact ⟨c0, c1⟩) (fail)
    go_wp2_with (go_at_call 88; refine (FL 3 _ hh.out.2).out.mono ?_; rintro e w1 ⟨rfl, hk, hr⟩)
    go_ret
    exact ⟨rfl, hh.out.1.trans hk, hr⟩
  · rw [if_neg hE]
    have hb : ((a : Int) == (s.length : Int)) = false := by rw [beq_eq_false_iff_ne]; omega
    go_enter Tryz.func126, Tryz.ntmps126
    go_wp2_with fail
    go_region_held3 (fun w' => w'.cell? ⟨R, 0, none⟩ = some (.string ⟨s.toArray⟩) ∧ w'.cell? ⟨R, 1, none⟩ = some (.int .i64 (a : Int))) (first | assumption | exact ⟨c0, c1⟩) (fail)
    go_wp2_with (go_at_call 88; refine (FL 4 _ hh.out.2).out.mono ?_; rintro e w1 ⟨rfl, hk, hr⟩)
    go_ret
    exact ⟨rfl, hh.out.1.trans hk, hr⟩
end Go.Proofs.YtgoelpjkfofbbaaGreatDoor
/- Walks: the notes' reader: end. -/
namespace Go.Proofs.YtgoelpjkfofbbaaGreatDoor
open Go.RowKit Go.Gz Go.Shelf

set_option maxRecDepth 100000
def EndE (w : World) (R : Nat) (s : Bs) (a : Nat) (E : Int) (c : UInt8) (en : Ending) (w' : World) : Prop :=
  en = .returned (.bool (decide (s[a]? = some c))) ∧ RK R w w' ∧ RB w' R s (if s[a]? = some c then a + 1 else a) E
set_option maxHeartbeats 1000000 in
theorem rend_any (R : Nat) (s : Bs) (hs : s.length ≤ 1000000) (a : Nat) (ha : a ≤ s.length) (E : Int) (c : UInt8) (w : World) (h : RB w R s a E) :
    Calls Tryz.prog 175 #[.pointer (some ⟨R, 0, none⟩), .int .u8 (c.toNat : Int)] w (EndE w R s a E c) := by
  have hh : Hid (RK R w w.drew ∧ RB w.drew R s a E) := Lib.hid ⟨RK.drew R w, h⟩
  obtain ⟨c0, c1, c2, z1, z2⟩ := h.cells
  clear h
  unfold EndE
  by_cases hlt : a < s.length
  · obtain ⟨b, hb⟩ : ∃ b, (⟨s.toArray⟩ : ByteArray)[a]'(by rw [size_mk]; exact hlt) = b := ⟨_, rfl⟩
    have hbk : s[a]? = some b := by rw [List.getElem?_eq_getElem hlt, ← hb]; rfl
    rw [hbk]
    clear hbk
    have b1 : (0 : Int) ≤ (a : Int) := by omega
    have b2 : (a : Int) < (s.length : Int) := by omega
    have b3 : IntKind.i64.wrap ((a : Int) + 1) = ((a + 1 : Nat) : Int) := by rw [IntWalk.i64_in _ (by omega)]; omega
    by_cases he : b = c
    · subst he
      rw [if_pos rfl, decide_eq_true rfl]
      have d0 : w.drew.cell? ⟨R, 1, none⟩ = some (.int .i64 (a : Int)) := c1
      have d1 : w.drew.frozen? ⟨R, 1, none⟩ = false := z1
      go_enter Tryz.func175, Tryz.ntmps175
      go_wp2_with fail
      go_region_held3 (fun w' => w'.cell? ⟨R, 0, none⟩ = some (.string ⟨s.toArray⟩) ∧ w'.cell? ⟨R, 1, none⟩ = some (.int .i64 (a : Int))) (first | assumption | exact ⟨c0, c1⟩) (fail)
      go_wp2_with fail
      go_ret
      exact ⟨rfl, hh.out.1.trans (RK.set R 1 _ _), hh.out.2.at (a + 1)⟩
    · have hne : (((b.toNat : Int)) == (c.toNat : Int)) = false := by
        rw [beq_eq_false_iff_ne]; intro e; exact he (UInt8.toNat.inj (by omega))
      have hne' : (((c.toNat : Int)) == (b.toNat : Int)) = false := by
        rw [beq_eq_false_iff_ne]; intro e; exact he (UInt8.toNat.inj (by omega))
      rw [if_neg (by intro e; injection e with e; exact he e), decide_eq_false (by intro e; injection e with e; exact he e)]
      clear he
      go_enter Tryz.func175, Tryz.ntmps175
      go_wp2_with fail
      go_region_held3 (fun w' => w'.cell? ⟨R, 0, none⟩ = some (.string ⟨s.toArray⟩) ∧ w'.cell? ⟨R, 1, none⟩ = some (.int .i64 (a : Int))) (first | assumption | exact ⟨c0, c1⟩) (fail)
      go_wp2_with fail
      go_ret
      exact ⟨rfl, hh.out.1, hh.out.2⟩
  · have hn : s[a]? = none := by rw [List.getElem?_eq_none_iff]; omega
    rw [hn, if_neg (by simp), decide_eq_false (by simp)]
    clear hn
    have b2 : decide ((a : Int) < (s.length : Int)) = false := by rw [decide_eq_false_iff_not]; omega
    have b3 : ¬ (a : Int) < (s.length : Int) := by omega
    go_enter Tryz.func175, Tryz.ntmps175
    go_wp2_with fail
    refine wp_region_held_drew (S := fun w' => w'.cell? ⟨R, 0, none⟩ = some (.string ⟨s.toArray⟩) ∧ w'.cell? ⟨R, 1, none⟩ = some (.int .i64 (a : Int))) (by kernel_rfl) ?_ (fun hHeld => ?_)
    · exact ⟨c0, c1⟩
    first
     | refine tk 0 undef rfl (Or.inr ⟨by rfl, rfl⟩) ?_
     | (refine tk 0 ?_ rfl (Or.inl ⟨by rfl, ?_⟩) ?_; rotate_left; focus (intro w hSw; (try dsimp only at hSw); go_simp; first | done | with_reducible rfl))
    (try simp only [Act.put, List.setIfInBounds_toArray, List.set_cons_zero, List.set_cons_succ])
    first
     | refine tk 1 undef rfl (Or.inr ⟨by rfl, rfl⟩) ?_
     | (refine tk 1 ?_ rfl (Or.inl ⟨by rfl, ?_⟩) ?_; rotate_left; focus (intro w hSw; (try dsimp only at hSw); go_simp; first | done | with_reducible rfl))
    (try simp only [Act.put, List.setIfInBounds_toArray, List.set_cons_zero, List.set_cons_succ])
    first
     | refine tk 2 undef rfl (Or.inr ⟨by rfl, rfl⟩) ?_
     | (refine tk 2 ?_ rfl (Or.inl ⟨by rfl, ?_⟩) ?_; rotate_left; focus (intro w hSw; (try dsimp only at hSw); go_simp; first | done | with_reducible rfl))
    (try simp only [Act.put, List.setIfInBounds_toArray, List.set_cons_zero, List.set_cons_succ])
    first
     | refine tk 3 undef rfl (Or.inr ⟨by rfl, rfl⟩) ?_
     | (refine tk 3 ?_ rfl (Or.inl ⟨by rfl, ?_⟩) ?_; rotate_left; focus (intro w hSw; (try dsimp only at hSw); go_simp; first | done | with_reducible rfl))
    (try simp only [Act.put, List.setIfInBounds_toArray, List.set_cons_zero, List.set_cons_succ])
    first
     | refine tk 4 undef rfl (Or.inr ⟨by rfl, rfl⟩) ?_
     | (refine tk 4 ?_ rfl (Or.inl ⟨by rfl, ?_⟩) ?_; rotate_left; focus (intro w hSw; (try dsimp only at hSw); go_simp; first | done | with_reducible rfl))
    (try simp only [Act.put, List.setIfInBounds_toArray, List.set_cons_zero, List.set_cons_succ])
    first
     | refine tk 5 undef rfl (Or.inr ⟨by rfl, rfl⟩) ?_
     | (refine tk 5 ?_ rfl (Or.inl ⟨by rfl, ?_⟩) ?_; rotate_left; focus (intro w hSw; (try dsimp only at hSw); go_simp; first | done | with_reducible rfl))
    (try simp only [Act.put, List.setIfInBounds_toArray, List.set_cons_zero, List.set_cons_succ])
    first
     | refine tk 6 undef rfl (Or.inr ⟨by rfl, rfl⟩) ?_
     | (refine tk 6 ?_ rfl (Or.inl ⟨by rfl, ?_⟩) ?_; rotate_left; focus (intro w hSw; (try dsimp only at hSw); go_simp; first | done | with_reducible rfl))
    (try simp only [Act.put, List.setIfInBounds_toArray, List.set_cons_zero, List.set_cons_succ])
    first
     | refine tk 7 undef rfl (Or.inr ⟨by rfl, rfl⟩) ?_
     | (refine tk 7 ?_ rfl (Or.inl ⟨by rfl, ?_⟩) ?_; rotate_left; focus (intro w hSw; (try dsimp only at hSw); go_simp; first | done | with_reducible rfl))
    (try simp only [Act.put, List.setIfInBounds_toArray, List.set_cons_zero, List.set_cons_succ])
    first
     | refine tk 8 undef rfl (Or.inr ⟨by rfl, rfl⟩) ?_
     | (refine tk 8 ?_ rfl (Or.inl ⟨by rfl, ?_⟩) ?_; rotate_left; focus (intro w hSw; (try dsimp only at hSw); go_simp; first | done | with_reducible rfl))
    (try simp only [Act.put, List.setIfInBounds_toArray, List.set_cons_zero, List.set_cons_succ])
    first
     | refine tk 9 undef rfl (Or.inr ⟨by rfl, rfl⟩) ?_
     | (refine tk 9 ?_ rfl (Or.inl ⟨by rfl, ?_⟩) ?_; rotate_left; focus (intro w hSw; (try dsimp only at hSw); go_simp; first | done | with_reducible rfl))
    (try simp only [Act.put, List.setIfInBounds_toArray, List.set_cons_zero, List.set_cons_succ])
    first
     | refine tk 10 undef rfl (Or.inr ⟨by rfl, rfl⟩) ?_
     | (refine tk 10 ?_ rfl (Or.inl ⟨by rfl, ?_⟩) ?_; rotate_left; focus (intro w hSw; (try dsimp only at hSw); go_simp; first | done | with_reducible rfl))
    (try simp only [Act.put, List.setIfInBounds_toArray, List.set_cons_zero, List.set_cons_succ])
    first
     | refine tk 11 undef rfl (Or.inr ⟨by rfl, rfl⟩) ?_
     | (refine tk 11 ?_ rfl (Or.inl ⟨by rfl, ?_⟩) ?_; rotate_left; focus (intro w hSw; (try dsimp only at hSw); go_simp; first | done | with_reducible rfl))
    (try simp only [Act.put, List.setIfInBounds_toArray, List.set_cons_zero, List.set_cons_succ])
    first
     | refine tk 12 undef rfl (Or.inr ⟨by rfl, rfl⟩) ?_
     | (refine tk 12 ?_ rfl (Or.inl ⟨by rfl, ?_⟩) ?_; rotate_left; focus (intro w hSw; (try dsimp only at hSw); go_simp; first | done | with_reducible rfl))
    (try simp only [Act.put, List.setIfInBounds_toArray, List.set_cons_zero, List.set_cons_succ])
    first
     | refine tk 13 undef rfl (Or.inr ⟨by rfl, rfl⟩) ?_
     | (refine tk 13 ?_ rfl (Or.inl ⟨by rfl, ?_⟩) ?_; rotate_left; focus (intro w hSw; (try dsimp only at hSw); go_simp; first | done | with_reducible rfl))
    (try simp only [Act.put, List.setIfInBounds_toArray, List.set_cons_zero, List.set_cons_succ])
    first
     | refine tk 14 undef rfl (Or.inr ⟨by rfl, rfl⟩) ?_
     | (refine tk 14 ?_ rfl (Or.inl ⟨by rfl, ?_⟩) ?_; rotate_left; focus (intro w hSw; (try dsimp only at hSw); go_simp; first | done | with_reducible rfl))
    (try simp only [Act.put, List.setIfInBounds_toArray, List.set_cons_zero, List.set_cons_succ])
    first
     | refine tk 15 undef rfl (Or.inr ⟨by rfl, rfl⟩) ?_
     | (refine tk 15 ?_ rfl (Or.inl ⟨by rfl, ?_⟩) ?_; rotate_left; focus (intro w hSw; (try dsimp only at hSw); go_simp; first | done | with_reducible rfl))
    (try simp only [Act.put, List.setIfInBounds_toArray, List.set_cons_zero, List.set_cons_succ])
    first
     | refine tk 16 undef rfl (Or.inr ⟨by rfl, rfl⟩) ?_
     | (refine tk 16 ?_ rfl (Or.inl ⟨by rfl, ?_⟩) ?_; rotate_left; focus (intro w hSw; (try dsimp only at hSw); go_simp; first | done | with_reducible rfl))
    (try simp only [Act.put, List.setIfInBounds_toArray, List.set_cons_zero, List.set_cons_succ])
    first
     | refine tk 17 undef rfl (Or.inr ⟨by rfl, rfl⟩) ?_
     | (refine tk 17 ?_ rfl (Or.inl ⟨by rfl, ?_⟩) ?_; rotate_left; focus (intro w hSw; (try dsimp only at hSw); go_simp; first | done | with_reducible rfl))
    (try simp only [Act.put, List.setIfInBounds_toArray, List.set_cons_zero, List.set_cons_succ])
    first
     | refine tk 18 undef rfl (Or.inr ⟨by rfl, rfl⟩) ?_
     | (refine tk 18 ?_ rfl (Or.inl ⟨by rfl, ?_⟩) ?_; rotate_left; focus (intro w hSw; (try dsimp only at hSw); go_simp; first | done | with_reducible rfl))
    (try simp only [Act.put, List.setIfInBounds_toArray, List.set_cons_zero, List.set_cons_succ])
    first
     | refine tk 19 undef rfl (Or.inr ⟨by rfl, rfl⟩) ?_
     | (refine tk 19 ?_ rfl (Or.inl ⟨by rfl, ?_⟩) ?_; rotate_left; focus (intro w hSw; (try dsimp only at hSw); go_simp; first | done | with_reducible rfl))
    (try simp only [Act.put, List.setIfInBounds_toArray, List.set_cons_zero, List.set_cons_succ])
    first
     | refine tk 20 undef rfl (Or.inr ⟨by rfl, rfl⟩) ?_
     | (refine tk 20 ?_ rfl (Or.inl ⟨by rfl, ?_⟩) ?_; rotate_left; focus (intro w hSw; (try dsimp only at hSw); go_simp; first | done | with_reducible rfl))
    (try simp only [Act.put, List.setIfInBounds_toArray, List.set_cons_zero, List.set_cons_succ])
    first
     | refine tk 21 undef rfl (Or.inr ⟨by rfl, rfl⟩) ?_
     | (refine tk 21 ?_ rfl (Or.inl ⟨by rfl, ?_⟩) ?_; rotate_left; focus (intro w hSw; (try dsimp only at hSw); go_simp; first | done | with_reducible rfl))
    (try simp only [Act.put, List.setIfInBounds_toArray, List.set_cons_zero, List.set_cons_succ])
    first
     | refine tk 22 undef rfl (Or.inr ⟨by rfl, rfl⟩) ?_
     | (refine tk 22 ?_ rfl (Or.inl ⟨by rfl, ?_⟩) ?_; rotate_left; focus (intro w hSw; (try dsimp only at hSw); go_simp; first | done | with_reducible rfl))
    (try simp only [Act.put, List.setIfInBounds_toArray, List.set_cons_zero, List.set_cons_succ])
    refine wpAnyH_done (by kernel_rfl) ?_ _
    go_wp2_with fail
    go_ret
    exact ⟨rfl, hh.out.1, hh.out.2⟩
end Go.Proofs.YtgoelpjkfofbbaaGreatDoor
/- Walks: the notes' reader: blank. -/
namespace Go.Proofs.YtgoelpjkfofbbaaGreatDoor
open Go.RowKit Go.Gz Go.Shelf

set_option maxRecDepth 100000
def isBl (b : UInt8) : Bool := decide (0 ≤ Lib.indexByte [32, 9, 10, 13] b)
/-- where the blanks from a on end -/
def blkA (s : Bs) (a : Nat) : Nat := a + ((s.drop a).takeWhile isBl).length
theorem blkA_on {s : Bs} {a : Nat} (h : a < s.length) (hb : isBl s[a] = true) : blkA s a = blkA s (a + 1) := by
  unfold blkA
  rw [List.drop_eq_getElem_cons h, List.takeWhile_cons_of_pos hb, List.length_cons]
  omega
theorem blkA_off {s : Bs} {a : Nat} (h : a < s.length) (hb : ¬ isBl s[a] = true) : blkA s a = a := by
  unfold blkA
  rw [List.drop_eq_getElem_cons h, List.takeWhile_cons_of_neg hb]
  rfl
theorem blkA_end {s : Bs} {a : Nat} (h : ¬ a < s.length) : blkA s a = a := by
  unfold blkA
  rw [List.drop_eq_nil_of_le (by omega)]
  rfl
theorem blkA_le {s : Bs} {a : Nat} (h : a ≤ s.length) : blkA s a ≤ s.length := by
  unfold blkA
  have := (List.takeWhile_sublist isBl (l := s.drop a)).length_le
  rw [List.length_drop] at this
  omega
theorem ix_any (b : UInt8) (w : World) : Calls Tryz.prog 125 #[.string ⟨#[32, 9, 10, 13]⟩, .int .u8 (b.toNat : Int)] w fun e w' => e = .returned (.int .i64 (Lib.indexByte [32, 9, 10, 13] b)) ∧ w' = w := by
  refine (Tryz.strings_IndexByte ⟨#[32, 9, 10, 13]⟩ (b.toNat : Int) w).mono ?_
  rintro e w' ⟨rfl, rfl⟩
  exact ⟨by simp, rfl⟩
set_option maxHeartbeats 2000000 in
theorem rblank_any (R : Nat) (s : Bs) (hs : s.length ≤ 1000000) (a : Nat) (ha : a ≤ s.length) (E : Int) (w : World) (h : RB w R s a E) :
    Calls Tryz.prog 86 #[.pointer (some ⟨R, 0, none⟩)] w fun e w' => e = .returned (.tuple #[]) ∧ RK R w w' ∧ RB w' R s (blkA s a) E := by
  obtain ⟨T, hT⟩ : ∃ T, blkA s a = T := ⟨_, rfl⟩
  rw [hT]
  go_enter Tryz.func86, Tryz.ntmps86
  go_wp2_with fail
  go_loopg [] (s.length - a) (fun gk wr => ∃ k : Nat, k + gk = s.length ∧ blkA s k = T ∧ RK R w wr ∧ RB wr R s k E)
  case atStart => exact ⟨a, by omega, hT, RK.refl R w, h⟩
  case round =>
    obtain ⟨k, hk, hd, hkk, hb⟩ := hrel
    have hh : Hid (RK R w wr.drew ∧ RB wr.drew R s k E) := Lib.hid ⟨hkk.trans (RK.drew R wr), hb⟩
    obtain ⟨c0, c1, c2, z1, z2⟩ := hb.cells
    clear h hb hkk
    by_cases hlt : k < s.length
    · obtain ⟨m, rfl⟩ : ∃ m, gk = m + 1 := ⟨gk - 1, by omega⟩
      obtain ⟨b, hb⟩ : ∃ b, (⟨s.toArray⟩ : ByteArray)[k]'(by rw [size_mk]; exact hlt) = b := ⟨_, rfl⟩
      have hbk : s[k] = b := hb
      have IX := fun w => Lib.hid (ix_any b w)
      have b1 : (0 : Int) ≤ (k : Int) := by omega
      have b2 : (k : Int) < (s.length : Int) := by omega
      have b3 : IntKind.i64.wrap ((k : Int) + 1) = ((k + 1 : Nat) : Int) := by rw [IntWalk.i64_in _ (by omega)]; omega
      have d0 : wr.drew.cell? ⟨R, 1, none⟩ = some (.int .i64 (k : Int)) := c1
      have d1 : wr.drew.frozen? ⟨R, 1, none⟩ = false := z1
      by_cases hB : isBl b = true
      · have HD := Lib.hid ((blkA_on hlt (by rw [hbk]; exact hB)).symm.trans hd)
        have b4 : (0 : Int) ≤ Lib.indexByte [32, 9, 10, 13] b := of_decide_eq_true hB
        clear hB hbk hd
        generalize Lib.indexByte [32, 9, 10, 13] b = n at *
        go_wp2_with fail
        go_region_held3 (fun w' => w'.cell? ⟨R, 0, none⟩ = some (.string ⟨s.toArray⟩) ∧ w'.cell? ⟨R, 1, none⟩ = some (.int .i64 (k : Int))) (first | assumption | exact ⟨c0, c1⟩) ((go_at_call 125; refine (IX _).out.mono ?_; rintro e w1 ⟨rfl, rfl⟩))
        go_wp2_with fail
        go_roundg m
        case measure => omega
        case rel => exact ⟨k + 1, by omega, HD.out, hh.out.1.trans (RK.set R 1 _ _), hh.out.2.at (k + 1)⟩
      · have HD := Lib.hid ((blkA_off hlt (by rw [hbk]; exact hB)).symm.trans hd)
        have b4 : ¬ (0 : Int) ≤ Lib.indexByte [32, 9, 10, 13] b := fun e => hB (decide_eq_true e)
        clear hB hbk hd
        generalize Lib.indexByte [32, 9, 10, 13] b = n at *
        go_wp2_with fail
        go_region_held3 (fun w' => w'.cell? ⟨R, 0, none⟩ = some (.string ⟨s.toArray⟩) ∧ w'.cell? ⟨R, 1, none⟩ = some (.int .i64 (k : Int))) (first | assumption | exact ⟨c0, c1⟩) ((go_at_call 125; refine (IX _).out.mono ?_; rintro e w1 ⟨rfl, rfl⟩))
        go_wp2_with fail
        go_end0
        exact ⟨rfl, hh.out.1, by rw [← HD.out]; exact hh.out.2⟩
    · have HD := Lib.hid ((blkA_end hlt).symm.trans hd)
      have b2 : decide ((k : Int) < (s.length : Int)) = false := by rw [decide_eq_false_iff_not]; omega
      have b3 : ¬ (k : Int) < (s.length : Int) := by omega
      clear hd
      go_wp2_with fail
      refine wp_region_held_drew (S := fun w' => w'.cell? ⟨R, 0, none⟩ = some (.string ⟨s.toArray⟩) ∧ w'.cell? ⟨R, 1, none⟩ = some (.int .i64 (k : Int))) (by kernel_rfl) ?_ (fun hHeld => ?_)
      · exact ⟨c0, c1⟩
      first
       | refine tk 0 undef rfl (Or.inr ⟨by rfl, rfl⟩) ?_
       | (refine tk 0 ?_ rfl (Or.inl ⟨by rfl, ?_⟩) ?_; rotate_left; focus (intro w hSw; (try dsimp only at hSw); go_simp; first | done | with_reducible rfl))
      (try simp only [Act.put, List.setIfInBounds_toArray, List.set_cons_zero, List.set_cons_succ])
      first
       | refine tk 1 undef rfl (Or.inr ⟨by rfl, rfl⟩) ?_
       | (refine tk 1 ?_ rfl (Or.inl ⟨by rfl, ?_⟩) ?_; rotate_left; focus (intro w hSw; (try dsimp only at hSw); go_simp; first | done | with_reducible rfl))
      (try simp only [Act.put, List.setIfInBounds_toArray, List.set_cons_zero, List.set_cons_succ])
      first
       | refine tk 2 undef rfl (Or.inr ⟨by rfl, rfl⟩) ?_
       | (refine tk 2 ?_ rfl (Or.inl ⟨by rfl, ?_⟩) ?_; rotate_left; focus (intro w hSw; (try dsimp only at hSw); go_simp; first | done | with_reducible rfl))
      (try simp only [Act.put, List.setIfInBounds_toArray, List.set_cons_zero, List.set_cons_succ])
      first
       | refine tk 3 undef rfl (Or.inr ⟨by rfl, rfl⟩) ?_
       | (refine tk 3 ?_ rfl (Or.inl ⟨by rfl, ?_⟩) ?_; rotate_left; focus (intro w hSw; (try dsimp only at hSw); go_simp; first | done | with_reducible rfl))
      (try simp only [Act.put, List.setIfInBounds_toArray, List.set_cons_zero, List.set_cons_succ])
      first
       | refine tk 4 undef rfl (Or.inr ⟨by rfl, rfl⟩) ?_
       | (refine tk 4 ?_ rfl (Or.inl ⟨by rfl, ?_⟩) ?_; rotate_left; focus (intro w hSw; (try dsimp only at hSw); go_simp; first | done | with_reducible rfl))
      (try simp only [Act.put, List.setIfInBounds_toArray, List.set_cons_zero, List.set_cons_succ])
      first
       | refine tk 5 undef rfl (Or.inr ⟨by rfl, rfl⟩) ?_
       | (refine tk 5 ?_ rfl (Or.inl ⟨by rfl, ?_⟩) ?_; rotate_left; focus (intro w hSw; (try dsimp only at hSw); go_simp; first | done | with_reducible rfl))
      (try simp only [Act.put, List.setIfInBounds_toArray, List.set_cons_zero, List.set_cons_succ])
      first
       | refine tk 6 undef rfl (Or.inr ⟨by rfl, rfl⟩) ?_
       | (refine tk 6 ?_ rfl (Or.inl ⟨by rfl, ?_⟩) ?_; rotate_left; focus (intro w hSw; (try dsimp only at hSw); go_simp; first | done | with_reducible rfl))
      (try simp only [Act.put, List.setIfInBounds_toArray, List.set_cons_zero, List.set_cons_succ])
      first
       | refine tk 7 undef rfl (Or.inr ⟨by rfl, rfl⟩) ?_
       | (refine tk 7 ?_ rfl (Or.inl ⟨by rfl, ?_⟩) ?_; rotate_left; focus (intro w hSw; (try dsimp only at hSw); go_simp; first | done | with_reducible rfl))
      (try simp only [Act.put, List.setIfInBounds_toArray, List.set_cons_zero, List.set_cons_succ])
      first
       | refine tk 8 undef rfl (Or.inr ⟨by rfl, rfl⟩) ?_
       | (refine tk 8 ?_ rfl (Or.inl ⟨by rfl, ?_⟩) ?_; rotate_left; focus (intro w hSw; (try dsimp only at hSw); go_simp; first | done | with_reducible rfl))
      (try simp only [Act.put, List.setIfInBounds_toArray, List.set_cons_zero, List.set_cons_succ])
      first
       | refine tk 9 undef rfl (Or.inr ⟨by rfl, rfl⟩) ?_
       | (refine tk 9 ?_ rfl (Or.inl ⟨by rfl, ?_⟩) ?_; rotate_left; focus (intro w hSw; (try dsimp only at hSw); go_simp; first | done | with_reducible rfl))
      (try simp only [Act.put, List.setIfInBounds_toArray, List.set_cons_zero, List.set_cons_succ])
      first
       | refine tk 10 undef rfl (Or.inr ⟨by rfl, rfl⟩) ?_
       | (refine tk 10 ?_ rfl (Or.inl ⟨by rfl, ?_⟩) ?_; rotate_left; focus (intro w hSw; (try dsimp only at hSw); go_simp; first | done | with_reducible rfl))
      (try simp only [Act.put, List.setIfInBounds_toArray, List.set_cons_zero, List.set_cons_succ])
      first
       | refine tk 11 undef rfl (Or.inr ⟨by rfl, rfl⟩) ?_
       | (refine tk 11 ?_ rfl (Or.inl ⟨by rfl, ?_⟩) ?_; rotate_left; focus (intro w hSw; (try dsimp only at hSw); go_simp; first | done | with_reducible rfl))
      (try simp only [Act.put, List.setIfInBounds_toArray, List.set_cons_zero, List.set_cons_succ])
      first
       | refine tk 12 undef rfl (Or.inr ⟨by rfl, rfl⟩) ?_
       | (refine tk 12 ?_ rfl (Or.inl ⟨by rfl, ?_⟩) ?_; rotate_left; focus (intro w hSw; (try dsimp only at hSw); go_simp; first | done | with_reducible rfl))
      (try simp only [Act.put, List.setIfInBounds_toArray, List.set_cons_zero, List.set_cons_succ])
      first
       | refine tk 13 undef rfl (Or.inr ⟨by rfl, rfl⟩) ?_
       | (refine tk 13 ?_ rfl (Or.inl ⟨by rfl, ?_⟩) ?_; rotate_left; focus (intro w hSw; (try dsimp only at hSw); go_simp; first | done | with_reducible rfl))
      (try simp only [Act.put, List.setIfInBounds_toArray, List.set_cons_zero, List.set_cons_succ])
      first
       | refine tk 14 undef rfl (Or.inr ⟨by rfl, rfl⟩) ?_
       | (refine tk 14 ?_ rfl (Or.inl ⟨by rfl, ?_⟩) ?_; rotate_left; focus (intro w hSw; (try dsimp only at hSw); go_simp; first | done | with_reducible rfl))
      (try simp only [Act.put, List.setIfInBounds_toArray, List.set_cons_zero, List.set_cons_succ])
      first
       | refine tk 15 undef rfl (Or.inr ⟨by rfl, rfl⟩) ?_
       | (refine tk 15 ?_ rfl (Or.inl ⟨by rfl, ?_⟩) ?_; rotate_left; focus (intro w hSw; (try dsimp only at hSw); go_simp; first | done | with_reducible rfl))
      (try simp only [Act.put, List.setIfInBounds_toArray, List.set_cons_zero, List.set_cons_succ])
      first
       | refine tk 16 undef rfl (Or.inr ⟨by rfl, rfl⟩) ?_
       | (refine tk 16 ?_ rfl (Or.inl ⟨by rfl, ?_⟩) ?_; rotate_left; focus (intro w hSw; (try dsimp only at hSw); go_simp; first | done | with_reducible rfl))
      (try simp only [Act.put, List.setIfInBounds_toArray, List.set_cons_zero, List.set_cons_succ])
      first
       | refine tk 17 undef rfl (Or.inr ⟨by rfl, rfl⟩) ?_
       | (refine tk 17 ?_ rfl (Or.inl ⟨by rfl, ?_⟩) ?_; rotate_left; focus (intro w hSw; (try dsimp only at hSw); go_simp; first | done | with_reducible rfl))
      (try simp only [Act.put, List.setIfInBounds_toArray, List.set_cons_zero, List.set_cons_succ])
      first
       | refine tk 18 undef rfl (Or.inr ⟨by rfl, rfl⟩) ?_
       | (refine tk 18 ?_ rfl (Or.inl ⟨by rfl, ?_⟩) ?_; rotate_left; focus (intro w hSw; (try dsimp only at hSw); go_simp; first | done | with_reducible rfl))
      (try simp only [Act.put, List.setIfInBounds_toArray, List.set_cons_zero, List.set_cons_succ])
      first
       | refine tk 19 undef rfl (Or.inr ⟨by rfl, rfl⟩) ?_
       | (refine tk 19 ?_ rfl (Or.inl ⟨by rfl, ?_⟩) ?_; rotate_left; focus (intro w hSw; (try dsimp only at hSw); go_simp; first | done | with_reducible rfl))
      (try simp only [Act.put, List.setIfInBounds_toArray, List.set_cons_zero, List.set_cons_succ])
      first
       | refine tk 20 undef rfl (Or.inr ⟨by rfl, rfl⟩) ?_
       | (refine tk 20 ?_ rfl (Or.inl ⟨by rfl, ?_⟩) ?_; rotate_left; focus (intro w hSw; (try dsimp only at hSw); go_simp; first | done | with_reducible rfl))
      (try simp only [Act.put, List.setIfInBounds_toArray, List.set_cons_zero, List.set_cons_succ])
      first
       | refine tk 21 undef rfl (Or.inr ⟨by rfl, rfl⟩) ?_
       | (refine tk 21 ?_ rfl (Or.inl ⟨by rfl, ?_⟩) ?_; rotate_left; focus (intro w hSw; (try dsimp only at hSw); go_simp; first | done | with_reducible rfl))
      (try simp only [Act.put, List.setIfInBounds_toArray, List.set_cons_zero, List.set_cons_succ])
      first
       | refine tk 22 undef rfl (Or.inr ⟨by rfl, rfl⟩) ?_
       | (refine tk 22 ?_ rfl (Or.inl ⟨by rfl, ?_⟩) ?_; rotate_left; focus (intro w hSw; (try dsimp only at hSw); go_simp; first | done | with_reducible rfl))
      (try simp only [Act.put, List.setIfInBounds_toArray, List.set_cons_zero, List.set_cons_succ])
      refine wpAnyH_done (by kernel_rfl) ?_ _
      go_wp2_with fail
      go_end0
      exact ⟨rfl, hh.out.1, by rw [← HD.out]; exact hh.out.2⟩
end Go.Proofs.YtgoelpjkfofbbaaGreatDoor
/- Walks: the notes' reader: sign. -/
namespace Go.Proofs.YtgoelpjkfofbbaaGreatDoor
open Go.RowKit Go.Gz Go.Shelf

set_option maxRecDepth 100000
def SignE (w : World) (R : Nat) (s : Bs) (a : Nat) (E : Int) (c : UInt8) (en : Ending) (w' : World) : Prop :=
  en = .returned (.bool (decide (s[a]? = some c))) ∧ RK R w w' ∧ RB w' R s (if s[a]? = some c then blkA s (a + 1) else a) E
set_option maxHeartbeats 1000000 in
theorem rsign_any (R : Nat) (s : Bs) (hs : s.length ≤ 1000000) (a : Nat) (ha : a ≤ s.length) (E : Int) (c : UInt8) (w : World) (h : RB w R s a E) :
    Calls Tryz.prog 156 #[.pointer (some ⟨R, 0, none⟩), .int .u8 (c.toNat : Int)] w (SignE w R s a E c) := by
  have hh : Hid (RK R w w.drew ∧ RB w.drew R s a E) := Lib.hid ⟨RK.drew R w, h⟩
  obtain ⟨c0, c1, c2, z1, z2⟩ := h.cells
  clear h
  unfold SignE
  by_cases hlt : a < s.length
  · obtain ⟨b, hb⟩ : ∃ b, (⟨s.toArray⟩ : ByteArray)[a]'(by rw [size_mk]; exact hlt) = b := ⟨_, rfl⟩
    have hbk : s[a]? = some b := by rw [List.getElem?_eq_getElem hlt, ← hb]; rfl
    rw [hbk]
    clear hbk
    have b1 : (0 : Int) ≤ (a : Int) := by omega
    have b2 : (a : Int) < (s.length : Int) := by omega
    have b3 : IntKind.i64.wrap ((a : Int) + 1) = ((a + 1 : Nat) : Int) := by rw [IntWalk.i64_in _ (by omega)]; omega
    have b4 : ((a : Int) == (s.length : Int)) = false := by rw [beq_eq_false_iff_ne]; omega
    by_cases he : b = c
    · subst he
      rw [if_pos rfl, decide_eq_true rfl]
      have d0 : w.drew.cell? ⟨R, 1, none⟩ = some (.int .i64 (a : Int)) := c1
      have d1 : w.drew.frozen? ⟨R, 1, none⟩ = false := z1
      have BL := fun w h => Lib.hid (rblank_any R s hs (a + 1) (by omega) E w h)
      go_enter Tryz.func156, Tryz.ntmps156
      go_wp2_with fail
      go_region_held3 (fun w' => w'.cell? ⟨R, 0, none⟩ = some (.string ⟨s.toArray⟩) ∧ w'.cell? ⟨R, 1, none⟩ = some (.int .i64 (a : Int))) (first | assumption | exact ⟨c0, c1⟩) (fail)
      go_wp2_with (go_at_call 86; refine (BL _ (hh.out.2.at (a + 1))).out.mono ?_; rintro e w1 ⟨rfl, hk, hr⟩)
      go_ret
      exact ⟨rfl, (hh.out.1.trans (RK.set R 1 _ _)).trans hk, hr⟩
    · have hne : (((b.toNat : Int)) != (c.toNat : Int)) = true := by
        rw [bne_iff_ne]; intro e; exact he (UInt8.toNat.inj (by omega))
      rw [if_neg (by intro e; injection e with e; exact he e), decide_eq_false (by intro e; injection e with e; exact he e)]
      clear he
      go_enter Tryz.func156, Tryz.ntmps156
      go_wp2_with fail
      go_region_held3 (fun w' => w'.cell? ⟨R, 0, none⟩ = some (.string ⟨s.toArray⟩) ∧ w'.cell? ⟨R, 1, none⟩ = some (.int .i64 (a : Int))) (first | assumption | exact ⟨c0, c1⟩) (fail)
      go_wp2_with fail
      go_ret
      exact ⟨rfl, hh.out.1, hh.out.2⟩
  · have hn : s[a]? = none := by rw [List.getElem?_eq_none_iff]; omega
    rw [hn, if_neg (by simp), decide_eq_false (by simp)]
    clear hn
    have b4 : ((a : Int) == (s.length : Int)) = true := by rw [beq_iff_eq]; omega
    have b5 : (a : Int) = (s.length : Int) := by omega
    go_enter Tryz.func156, Tryz.ntmps156
    go_wp2_with fail
    refine wp_region_held_drew (S := fun w' => w'.cell? ⟨R, 0, none⟩ = some (.string ⟨s.toArray⟩) ∧ w'.cell? ⟨R, 1, none⟩ = some (.int .i64 (a : Int))) (by kernel_rfl) ?_ (fun hHeld => ?_)
    · exact ⟨c0, c1⟩
    first
     | refine tk 0 undef rfl (Or.inr ⟨by rfl, rfl⟩) ?_
     | (refine tk 0 ?_ rfl (Or.inl ⟨by rfl, ?_⟩) ?_; rotate_left; focus (intro w hSw; (try dsimp only at hSw); go_simp; first | done | with_reducible rfl))
    (try simp only [Act.put, List.setIfInBounds_toArray, List.set_cons_zero, List.set_cons_succ])
    first
     | refine tk 1 undef rfl (Or.inr ⟨by rfl, rfl⟩) ?_
     | (refine tk 1 ?_ rfl (Or.inl ⟨by rfl, ?_⟩) ?_; rotate_left; focus (intro w hSw; (try dsimp only at hSw); go_simp; first | done | with_reducible rfl))
    (try simp only [Act.put, List.setIfInBounds_toArray, List.set_cons_zero, List.set_cons_succ])
    first
     | refine tk 2 undef rfl (Or.inr ⟨by rfl, rfl⟩) ?_
     | (refine tk 2 ?_ rfl (Or.inl ⟨by rfl, ?_⟩) ?_; rotate_left; focus (intro w hSw; (try dsimp only at hSw); go_simp; first | done | with_reducible rfl))
    (try simp only [Act.put, List.setIfInBounds_toArray, List.set_cons_zero, List.set_cons_succ])
    first
     | refine tk 3 undef rfl (Or.inr ⟨by rfl, rfl⟩) ?_
     | (refine tk 3 ?_ rfl (Or.inl ⟨by rfl, ?_⟩) ?_; rotate_left; focus (intro w hSw; (try dsimp only at hSw); go_simp; first | done | with_reducible rfl))
    (try simp only [Act.put, List.setIfInBounds_toArray, List.set_cons_zero, List.set_cons_succ])
    first
     | refine tk 4 undef rfl (Or.inr ⟨by rfl, rfl⟩) ?_
     | (refine tk 4 ?_ rfl (Or.inl ⟨by rfl, ?_⟩) ?_; rotate_left; focus (intro w hSw; (try dsimp only at hSw); go_simp; first | done | with_reducible rfl))
    (try simp only [Act.put, List.setIfInBounds_toArray, List.set_cons_zero, List.set_cons_succ])
    first
     | refine tk 5 undef rfl (Or.inr ⟨by rfl, rfl⟩) ?_
     | (refine tk 5 ?_ rfl (Or.inl ⟨by rfl, ?_⟩) ?_; rotate_left; focus (intro w hSw; (try dsimp only at hSw); go_simp; first | done | with_reducible rfl))
    (try simp only [Act.put, List.setIfInBounds_toArray, List.set_cons_zero, List.set_cons_succ])
    first
     | refine tk 6 undef rfl (Or.inr ⟨by rfl, rfl⟩) ?_
     | (refine tk 6 ?_ rfl (Or.inl ⟨by rfl, ?_⟩) ?_; rotate_left; focus (intro w hSw; (try dsimp only at hSw); go_simp; first | done | with_reducible rfl))
    (try simp only [Act.put, List.setIfInBounds_toArray, List.set_cons_zero, List.set_cons_succ])
    first
     | refine tk 7 undef rfl (Or.inr ⟨by rfl, rfl⟩) ?_
     | (refine tk 7 ?_ rfl (Or.inl ⟨by rfl, ?_⟩) ?_; rotate_left; focus (intro w hSw; (try dsimp only at hSw); go_simp; first | done | with_reducible rfl))
    (try simp only [Act.put, List.setIfInBounds_toArray, List.set_cons_zero, List.set_cons_succ])
    first
     | refine tk 8 undef rfl (Or.inr ⟨by rfl, rfl⟩) ?_
     | (refine tk 8 ?_ rfl (Or.inl ⟨by rfl, ?_⟩) ?_; rotate_left; focus (intro w hSw; (try dsimp only at hSw); go_simp; first | done | with_reducible rfl))
    (try simp only [Act.put, List.setIfInBounds_toArray, List.set_cons_zero, List.set_cons_succ])
    first
     | refine tk 9 undef rfl (Or.inr ⟨by rfl, rfl⟩) ?_
     | (refine tk 9 ?_ rfl (Or.inl ⟨by rfl, ?_⟩) ?_; rotate_left; focus (intro w hSw; (try dsimp only at hSw); go_simp; first | done | with_reducible rfl))
    (try simp only [Act.put, List.setIfInBounds_toArray, List.set_cons_zero, List.set_cons_succ])
    first
     | refine tk 10 undef rfl (Or.inr ⟨by rfl, rfl⟩) ?_
     | (refine tk 10 ?_ rfl (Or.inl ⟨by rfl, ?_⟩) ?_; rotate_left; focus (intro w hSw; (try dsimp only at hSw); go_simp; first | done | with_reducible rfl))
    (try simp only [Act.put, List.setIfInBounds_toArray, List.set_cons_zero, List.set_cons_succ])
    first
     | refine tk 11 undef rfl (Or.inr ⟨by rfl, rfl⟩) ?_
     | (refine tk 11 ?_ rfl (Or.inl ⟨by rfl, ?_⟩) ?_; rotate_left; focus (intro w hSw; (try dsimp only at hSw); go_simp; first | done | with_reducible rfl))
    (try simp only [Act.put, List.setIfInBounds_toArray, List.set_cons_zero, List.set_cons_succ])
    first
     | refine tk 12 undef rfl (Or.inr ⟨by rfl, rfl⟩) ?_
     | (refine tk 12 ?_ rfl (Or.inl ⟨by rfl, ?_⟩) ?_; rotate_left; focus (intro w hSw; (try dsimp only at hSw); go_simp; first | done | with_reducible rfl))
    (try simp only [Act.put, List.setIfInBounds_toArray, List.set_cons_zero, List.set_cons_succ])
    first
     | refine tk 13 undef rfl (Or.inr ⟨by rfl, rfl⟩) ?_
     | (refine tk 13 ?_ rfl (Or.inl ⟨by rfl, ?_⟩) ?_; rotate_left; focus (intro w hSw; (try dsimp only at hSw); go_simp; first | done | with_reducible rfl))
    (try simp only [Act.put, List.setIfInBounds_toArray, List.set_cons_zero, List.set_cons_succ])
    first
     | refine tk 14 undef rfl (Or.inr ⟨by rfl, rfl⟩) ?_
     | (refine tk 14 ?_ rfl (Or.inl ⟨by rfl, ?_⟩) ?_; rotate_left; focus (intro w hSw; (try dsimp only at hSw); go_simp; first | done | with_reducible rfl))
    (try simp only [Act.put, List.setIfInBounds_toArray, List.set_cons_zero, List.set_cons_succ])
    first
     | refine tk 15 undef rfl (Or.inr ⟨by rfl, rfl⟩) ?_
     | (refine tk 15 ?_ rfl (Or.inl ⟨by rfl, ?_⟩) ?_; rotate_left; focus (intro w hSw; (try dsimp only at hSw); go_simp; first | done | with_reducible rfl))
    (try simp only [Act.put, List.setIfInBounds_toArray, List.set_cons_zero, List.set_cons_succ])
    first
     | refine tk 16 undef rfl (Or.inr ⟨by rfl, rfl⟩) ?_
     | (refine tk 16 ?_ rfl (Or.inl ⟨by rfl, ?_⟩) ?_; rotate_left; focus (intro w hSw; (try dsimp only at hSw); go_simp; first | done | with_reducible rfl))
    (try simp only [Act.put, List.setIfInBounds_toArray, List.set_cons_zero, List.set_cons_succ])
    first
     | refine tk 17 undef rfl (Or.inr ⟨by rfl, rfl⟩) ?_
     | (refine tk 17 ?_ rfl (Or.inl ⟨by rfl, ?_⟩) ?_; rotate_left; focus (intro w hSw; (try dsimp only at hSw); go_simp; first | done | with_reducible rfl))
    (try simp only [Act.put, List.setIfInBounds_toArray, List.set_cons_zero, List.set_cons_succ])
    first
     | refine tk 18 undef rfl (Or.inr ⟨by rfl, rfl⟩) ?_
     | (refine tk 18 ?_ rfl (Or.inl ⟨by rfl, ?_⟩) ?_; rotate_left; focus (intro w hSw; (try dsimp only at hSw); go_simp; first | done | with_reducible rfl))
    (try simp only [Act.put, List.setIfInBounds_toArray, List.set_cons_zero, List.set_cons_succ])
    first
     | refine tk 19 undef rfl (Or.inr ⟨by rfl, rfl⟩) ?_
     | (refine tk 19 ?_ rfl (Or.inl ⟨by rfl, ?_⟩) ?_; rotate_left; focus (intro w hSw; (try dsimp only at hSw); go_simp; first | done | with_reducible rfl))
    (try simp only [Act.put, List.setIfInBounds_toArray, List.set_cons_zero, List.set_cons_succ])
    first
     | refine tk 20 undef rfl (Or.inr ⟨by rfl, rfl⟩) ?_
     | (refine tk 20 ?_ rfl (Or.inl ⟨by rfl, ?_⟩) ?_; rotate_left; focus (intro w hSw; (try dsimp only at hSw); go_simp; first | done | with_reducible rfl))
    (try simp only [Act.put, List.setIfInBounds_toArray, List.set_cons_zero, List.set_cons_succ])
    first
     | refine tk 21 undef rfl (Or.inr ⟨by rfl, rfl⟩) ?_
     | (refine tk 21 ?_ rfl (Or.inl ⟨by rfl, ?_⟩) ?_; rotate_left; focus (intro w hSw; (try dsimp only at hSw); go_simp; first | done | with_reducible rfl))
    (try simp only [Act.put, List.setIfInBounds_toArray, List.set_cons_zero, List.set_cons_succ])
    first
     | refine tk 22 undef rfl (Or.inr ⟨by rfl, rfl⟩) ?_
     | (refine tk 22 ?_ rfl (Or.inl ⟨by rfl, ?_⟩) ?_; rotate_left; focus (intro w hSw; (try dsimp only at hSw); go_simp; first | done | with_reducible rfl))
    (try simp only [Act.put, List.setIfInBounds_toArray, List.set_cons_zero, List.set_cons_succ])
    refine wpAnyH_done (by kernel_rfl) ?_ _
    go_wp2_with fail
    go_ret
    exact ⟨rfl, hh.out.1, hh.out.2⟩
end Go.Proofs.YtgoelpjkfofbbaaGreatDoor
