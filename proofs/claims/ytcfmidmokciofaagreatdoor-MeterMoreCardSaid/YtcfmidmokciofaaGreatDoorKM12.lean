/- Walks: entries of directories: wide, Check, Last, Has, Row. -/
import Derived.Test.YtcfmidmokciofaaGreatDoorKM11
import Derived.Test.YtcfmidmokciofaaGreatDoorKM04
namespace Go.Gz
/-- an entry as a value -/
def entA (e : Ent) : Value := .agg #[.int .u64 (e.id : Int), .int .u64 (e.off : Int), .int .u32 (e.len : Int), .int .u32 (e.run : Int)]
end Go.Gz
namespace Go.Proofs.YtcfmidmokciofaaGreatDoor
open Go.RowKit Go.Gz

set_option maxRecDepth 100000
/-- a new block of four cells -/
theorem new4 (w : World) (t : TypeId) (a b c d : Value) : Up w (w.alloc (.cells #[a, b, c, d] t)) ∧ (w.alloc (.cells #[a, b, c, d] t)).cell? ⟨w.heap.size, 0, none⟩ = some a ∧ (w.alloc (.cells #[a, b, c, d] t)).cell? ⟨w.heap.size, 1, none⟩ = some b ∧
    (w.alloc (.cells #[a, b, c, d] t)).cell? ⟨w.heap.size, 2, none⟩ = some c ∧ (w.alloc (.cells #[a, b, c, d] t)).cell? ⟨w.heap.size, 3, none⟩ = some d := by
  have hb := heap_alloc_new w (.cells #[a, b, c, d] t)
  exact ⟨(Up.refl _).alloc _, cell_of_row _ w.heap.size 0 _ _ _ hb, cell_of_row _ w.heap.size 1 _ _ _ hb, cell_of_row _ w.heap.size 2 _ _ _ hb, cell_of_row _ w.heap.size 3 _ _ _ hb⟩
theorem wide_any (e : Ent) (ho : okE e) (w : World) :
    Calls Tryz.prog 131 #[entA e] w fun en w' => en = .returned (.int .u64 (wideE e)) ∧ Up w w' := by
  obtain ⟨id, off, len, run⟩ := e
  obtain ⟨h1, h2, h3, h4⟩ := ho
  simp only [entA] at *
  have h0 : (wideE ⟨id, off, len, run⟩ : Nat) = max 1 run := rfl
  generalize wideE ⟨id, off, len, run⟩ = v at *
  have H0 := Lib.hid h0
  clear h0
  go_enter Tryz.func131, Tryz.ntmps131
  go_wp2_with fail
  go_ret
  refine ⟨ret_int ?_, (Up.refl w).alloc _⟩
  rw [H0.out]
  omega
theorem end_any (e : Ent) (h : e.off ≤ 1099511627776) (ho : okE e) (w : World) :
    Calls Tryz.prog 167 #[entA e] w fun en w' => en = .returned (.int .u64 ((e.off + e.len : Nat) : Int)) ∧ Up w w' := by
  obtain ⟨id, off, len, run⟩ := e
  obtain ⟨h1, h2, h3, h4⟩ := ho
  simp only [entA] at *
  have e1 : IntKind.u64.wrap ((off : Int) + (len : Int)) = (off : Int) + (len : Int) := IntWalk.u64_in _ (by omega)
  go_enter Tryz.func167, Tryz.ntmps167
  go_wp2_with fail
  go_ret
  exact ⟨ret_int (by omega), (Up.refl w).alloc _⟩
set_option maxHeartbeats 1000000 in
theorem chk_any (e : Ent) (ho : okE e) (w : World) :
    Calls Tryz.prog 109 #[entA e] w fun en w' => en = .returned (.int .i64 (chkE e)) ∧ Up w w' := by
  have WD := fun w => Lib.hid (wide_any e ho w)
  have ED := fun h w => Lib.hid (end_any e h ho w)
  have h0 : chkE e = if e.len = 0 then 2 else if 6004799503160661 < e.id + wideE e then 8 else if 1099511627776 < e.off + e.len then 8 else 0 := rfl
  have hw : 1 ≤ wideE e ∧ wideE e < 4294967296 := by have := ho.2.2.2; unfold wideE; omega
  generalize chkE e = v at *
  generalize wideE e = wd at *
  obtain ⟨id, off, len, run⟩ := e
  obtain ⟨h1, h2, h3, h4⟩ := ho
  simp only [entA] at *
  have H0 := Lib.hid h0
  have n0 := new4 w 72 (.int .u64 id) (.int .u64 off) (.int .u32 len) (.int .u32 run)
  have HU0 := Lib.hid n0.1
  have N0 := Lib.hid n0.2
  clear h0 n0
  by_cases c1 : len = 0
  · have E := H0.out; rw [if_pos c1] at E
    have EE := Lib.hid E
    clear E H0
    subst c1
    go_enter Tryz.func109, Tryz.ntmps109
    go_wp2_with fail
    go_ret
    exact ⟨ret_int EE.out.symm, (Up.refl w).alloc _⟩
  have b1 : ((len : Int) == 0) = false := by rw [beq_eq_false_iff_ne]; omega
  have e1 : IntKind.u64.wrap (6004799503160661 - (wd : Int)) = 6004799503160661 - (wd : Int) := IntWalk.u64_in _ (by omega)
  by_cases c2 : 6004799503160661 < id + wd
  · have E := H0.out; rw [if_neg c1, if_pos c2] at E
    have EE := Lib.hid E
    clear E H0 c1
    have b2 : 6004799503160661 - (wd : Int) < (id : Int) := by omega
    clear c2
    go_enter Tryz.func109, Tryz.ntmps109
    go_wp2_with fail
    generalize hW : w.alloc _ = W at *
    obtain ⟨c0, c1, c2, c3⟩ := N0.out
    have MK := Lib.hid (fun w' (h : Up W w') => (⟨h, h.cell N0.out.1, h.cell N0.out.2.1, h.cell N0.out.2.2.1, h.cell N0.out.2.2.2⟩ : Up W w' ∧ w'.cell? ⟨w.heap.size, 0, none⟩ = some (.int .u64 id) ∧ w'.cell? ⟨w.heap.size, 1, none⟩ = some (.int .u64 off) ∧ w'.cell? ⟨w.heap.size, 2, none⟩ = some (.int .u32 len) ∧ w'.cell? ⟨w.heap.size, 3, none⟩ = some (.int .u32 run)))
    go_region_held3 (fun w' => Up W w' ∧ w'.cell? ⟨w.heap.size, 0, none⟩ = some (.int .u64 id) ∧ w'.cell? ⟨w.heap.size, 1, none⟩ = some (.int .u64 off) ∧ w'.cell? ⟨w.heap.size, 2, none⟩ = some (.int .u32 len) ∧ w'.cell? ⟨w.heap.size, 3, none⟩ = some (.int .u32 run))
      (first
      | assumption
      | exact MK.out _ (Up.refl _)
      | exact MK.out _ (Up.refl _).drew
      | exact MK.out _ (Up.trans (And.left (by assumption)) (by assumption))
      | exact MK.out _ (Up.alloc (And.left (by assumption)) _)
      | exact MK.out _ (Up.trans (Up.alloc (And.left (by assumption)) _) (by assumption)))
      (first
        | (go_at_call 131; refine (WD _).out.mono ?_; rintro e w1 ⟨rfl, hu1⟩))
    all_goals
      obtain ⟨su, s0, s1, s2, s3⟩ : Up W w1 ∧ w1.cell? ⟨w.heap.size, 0, none⟩ = some (.int .u64 id) ∧ w1.cell? ⟨w.heap.size, 1, none⟩ = some (.int .u64 off) ∧ w1.cell? ⟨w.heap.size, 2, none⟩ = some (.int .u32 len) ∧ w1.cell? ⟨w.heap.size, 3, none⟩ = some (.int .u32 run) := by assumption
      go_wp2_with fail
      go_ret
      exact ⟨ret_int EE.out.symm, HU0.out.trans su⟩
  have b2 : ¬ 6004799503160661 - (wd : Int) < (id : Int) := by omega
  by_cases c3 : 1099511627776 < off
  · have E := H0.out; rw [if_neg c1, if_neg c2, if_pos (by omega)] at E
    have EE := Lib.hid E
    clear E H0 c1
    have b3 : 1099511627776 < (off : Int) := by omega
    clear c2 c3
    go_enter Tryz.func109, Tryz.ntmps109
    go_wp2_with fail
    generalize hW : w.alloc _ = W at *
    obtain ⟨c0, c1, c2, c3⟩ := N0.out
    have MK := Lib.hid (fun w' (h : Up W w') => (⟨h, h.cell N0.out.1, h.cell N0.out.2.1, h.cell N0.out.2.2.1, h.cell N0.out.2.2.2⟩ : Up W w' ∧ w'.cell? ⟨w.heap.size, 0, none⟩ = some (.int .u64 id) ∧ w'.cell? ⟨w.heap.size, 1, none⟩ = some (.int .u64 off) ∧ w'.cell? ⟨w.heap.size, 2, none⟩ = some (.int .u32 len) ∧ w'.cell? ⟨w.heap.size, 3, none⟩ = some (.int .u32 run)))
    go_region_held3 (fun w' => Up W w' ∧ w'.cell? ⟨w.heap.size, 0, none⟩ = some (.int .u64 id) ∧ w'.cell? ⟨w.heap.size, 1, none⟩ = some (.int .u64 off) ∧ w'.cell? ⟨w.heap.size, 2, none⟩ = some (.int .u32 len) ∧ w'.cell? ⟨w.heap.size, 3, none⟩ = some (.int .u32 run))
      (first
      | assumption
      | exact MK.out _ (Up.refl _)
      | exact MK.out _ (Up.refl _).drew
      | exact MK.out _ (Up.trans (And.left (by assumption)) (by assumption))
      | exact MK.out _ (Up.alloc (And.left (by assumption)) _)
      | exact MK.out _ (Up.trans (Up.alloc (And.left (by assumption)) _) (by assumption)))
      (first
        | (go_at_call 131; refine (WD _).out.mono ?_; rintro e w1 ⟨rfl, hu1⟩))
    all_goals
      obtain ⟨su, s0, s1, s2, s3⟩ : Up W w1 ∧ w1.cell? ⟨w.heap.size, 0, none⟩ = some (.int .u64 id) ∧ w1.cell? ⟨w.heap.size, 1, none⟩ = some (.int .u64 off) ∧ w1.cell? ⟨w.heap.size, 2, none⟩ = some (.int .u32 len) ∧ w1.cell? ⟨w.heap.size, 3, none⟩ = some (.int .u32 run) := by assumption
      go_wp2_with fail
      go_ret
      exact ⟨ret_int EE.out.symm, HU0.out.trans su⟩
  have b3 : ¬ 1099511627776 < (off : Int) := by omega
  have ED := fun w => ED (by omega) w
  by_cases c4 : 1099511627776 < off + len
  · have E := H0.out; rw [if_neg c1, if_neg c2, if_pos c4] at E
    have EE := Lib.hid E
    clear E H0 c1
    have b4 : 1099511627776 < ((off + len : Nat) : Int) := by omega
    generalize off + len = oe at *
    clear c2 c3 c4
    go_enter Tryz.func109, Tryz.ntmps109
    go_wp2_with fail
    generalize hW : w.alloc _ = W at *
    obtain ⟨c0, c1, c2, c3⟩ := N0.out
    have MK := Lib.hid (fun w' (h : Up W w') => (⟨h, h.cell N0.out.1, h.cell N0.out.2.1, h.cell N0.out.2.2.1, h.cell N0.out.2.2.2⟩ : Up W w' ∧ w'.cell? ⟨w.heap.size, 0, none⟩ = some (.int .u64 id) ∧ w'.cell? ⟨w.heap.size, 1, none⟩ = some (.int .u64 off) ∧ w'.cell? ⟨w.heap.size, 2, none⟩ = some (.int .u32 len) ∧ w'.cell? ⟨w.heap.size, 3, none⟩ = some (.int .u32 run)))
    go_region_held3 (fun w' => Up W w' ∧ w'.cell? ⟨w.heap.size, 0, none⟩ = some (.int .u64 id) ∧ w'.cell? ⟨w.heap.size, 1, none⟩ = some (.int .u64 off) ∧ w'.cell? ⟨w.heap.size, 2, none⟩ = some (.int .u32 len) ∧ w'.cell? ⟨w.heap.size, 3, none⟩ = some (.int .u32 run))
      (first
      | assumption
      | exact MK.out _ (Up.refl _)
      | exact MK.out _ (Up.refl _).drew
      | exact MK.out _ (Up.trans (And.left (by assumption)) (by assumption))
      | exact MK.out _ (Up.alloc (And.left (by assumption)) _)
      | exact MK.out _ (Up.trans (Up.alloc (And.left (by assumption)) _) (by assumption)))
      (first
        | (go_at_call 131; refine (WD _).out.mono ?_; rintro e w1 ⟨rfl, hu1⟩))
    all_goals
      obtain ⟨su, s0, s1, s2, s3⟩ : Up W w1 ∧ w1.cell? ⟨w.heap.size, 0, none⟩ = some (.int .u64 id) ∧ w1.cell? ⟨w.heap.size, 1, none⟩ = some (.int .u64 off) ∧ w1.cell? ⟨w.heap.size, 2, none⟩ = some (.int .u32 len) ∧ w1.cell? ⟨w.heap.size, 3, none⟩ = some (.int .u32 run) := by assumption
      go_wp2_with fail
      refine (ED _).out.mono ?_
      rintro e w2 ⟨rfl, hu2⟩
      go_wp2_with fail
      go_ret
      exact ⟨ret_int EE.out.symm, HU0.out.trans (su.trans hu2)⟩
  · have E := H0.out; rw [if_neg c1, if_neg c2, if_neg c4] at E
    have EE := Lib.hid E
    clear E H0 c1
    have b4 : ¬ 1099511627776 < ((off + len : Nat) : Int) := by omega
    generalize off + len = oe at *
    clear c2 c3 c4
    go_enter Tryz.func109, Tryz.ntmps109
    go_wp2_with fail
    generalize hW : w.alloc _ = W at *
    obtain ⟨c0, c1, c2, c3⟩ := N0.out
    have MK := Lib.hid (fun w' (h : Up W w') => (⟨h, h.cell N0.out.1, h.cell N0.out.2.1, h.cell N0.out.2.2.1, h.cell N0.out.2.2.2⟩ : Up W w' ∧ w'.cell? ⟨w.heap.size, 0, none⟩ = some (.int .u64 id) ∧ w'.cell? ⟨w.heap.size, 1, none⟩ = some (.int .u64 off) ∧ w'.cell? ⟨w.heap.size, 2, none⟩ = some (.int .u32 len) ∧ w'.cell? ⟨w.heap.size, 3, none⟩ = some (.int .u32 run)))
    go_region_held3 (fun w' => Up W w' ∧ w'.cell? ⟨w.heap.size, 0, none⟩ = some (.int .u64 id) ∧ w'.cell? ⟨w.heap.size, 1, none⟩ = some (.int .u64 off) ∧ w'.cell? ⟨w.heap.size, 2, none⟩ = some (.int .u32 len) ∧ w'.cell? ⟨w.heap.size, 3, none⟩ = some (.int .u32 run))
      (first
      | assumption
      | exact MK.out _ (Up.refl _)
      | exact MK.out _ (Up.refl _).drew
      | exact MK.out _ (Up.trans (And.left (by assumption)) (by assumption))
      | exact MK.out _ (Up.alloc (And.left (by assumption)) _)
      | exact MK.out _ (Up.trans (Up.alloc (And.left (by assumption)) _) (by assumption)))
      (first
        | (go_at_call 131; refine (WD _).out.mono ?_; rintro e w1 ⟨rfl, hu1⟩))
    all_goals
      obtain ⟨su, s0, s1, s2, s3⟩ : Up W w1 ∧ w1.cell? ⟨w.heap.size, 0, none⟩ = some (.int .u64 id) ∧ w1.cell? ⟨w.heap.size, 1, none⟩ = some (.int .u64 off) ∧ w1.cell? ⟨w.heap.size, 2, none⟩ = some (.int .u32 len) ∧ w1.cell? ⟨w.heap.size, 3, none⟩ = some (.int .u32 run) := by assumption
      go_wp2_with fail
      refine (ED _).out.mono ?_
      rintro e w2 ⟨rfl, hu2⟩
      go_wp2_with fail
      go_ret
      exact ⟨ret_int EE.out.symm, HU0.out.trans (su.trans hu2)⟩
set_option maxHeartbeats 1000000 in
theorem may_any (e : Ent) (ho : okE e) (w : World) :
    Calls Tryz.prog 130 #[entA e] w fun en w' => en = .returned (.bool (decide (chkE e = 0))) ∧ Up w w' := by
  have CK := fun w => Lib.hid (chk_any e ho w)
  have hv : (chkE e == 0) = decide (chkE e = 0) := rfl
  generalize chkE e = v at *
  have HV := Lib.hid hv
  clear hv
  obtain ⟨id, off, len, run⟩ := e
  obtain ⟨h1, h2, h3, h4⟩ := ho
  simp only [entA] at *
  have n0 := new4 w 72 (.int .u64 id) (.int .u64 off) (.int .u32 len) (.int .u32 run)
  have HU0 := Lib.hid n0.1
  have N0 := Lib.hid n0.2
  clear n0
  go_enter Tryz.func130, Tryz.ntmps130
  go_wp2_with fail
  refine (CK _).out.mono ?_
  rintro e w1 ⟨rfl, hu1⟩
  go_wp2_with fail
  go_ret
  exact ⟨ret_bool HV.out, HU0.out.trans hu1⟩
set_option maxHeartbeats 1000000 in
theorem last_any (e : Ent) (ho : okE e) (w : World) :
    Calls Tryz.prog 77 #[entA e] w fun en w' => en = .returned (.int .u64 (lastE e)) ∧ Up w w' := by
  have MY := fun w => Lib.hid (may_any e ho w)
  have WD := fun w => Lib.hid (wide_any e ho w)
  have hw : 1 ≤ wideE e ∧ wideE e < 4294967296 := by have := ho.2.2.2; unfold wideE; omega
  have h0 : lastE e = if chkE e = 0 then e.id + wideE e - 1 else 0 := rfl
  have hid : chkE e = 0 → e.id + wideE e ≤ 6004799503160661 := fun h => (chk_ok h).2.1
  generalize lastE e = v at *
  generalize wideE e = wd at *
  by_cases hc : chkE e = 0
  · rw [if_pos hc] at h0
    have hid := hid hc
    rw [decide_eq_true hc] at MY
    clear hc
    obtain ⟨id, off, len, run⟩ := e
    obtain ⟨h1, h2, h3, h4⟩ := ho
    simp only [entA] at *
    have n0 := new4 w 72 (.int .u64 id) (.int .u64 off) (.int .u32 len) (.int .u32 run)
    have HU0 := Lib.hid n0.1
    have N0 := Lib.hid n0.2
    have H0 := Lib.hid h0
    have e1 : IntKind.u64.wrap ((id : Int) + (wd : Int)) = (id : Int) + (wd : Int) := IntWalk.u64_in _ (by omega)
    have e2 : IntKind.u64.wrap ((id : Int) + (wd : Int) - 1) = (id : Int) + (wd : Int) - 1 := IntWalk.u64_in _ (by omega)
    clear n0 h0
    go_enter Tryz.func77, Tryz.ntmps77
    go_wp2_with fail
    refine (MY _).out.mono ?_
    rintro e w0 ⟨rfl, hu0⟩
    obtain ⟨c0, c1, c2, c3⟩ := N0.out
    replace c0 := hu0.cell c0
    replace c1 := hu0.cell c1
    replace c2 := hu0.cell c2
    replace c3 := hu0.cell c3
    have HU1 := Lib.hid (HU0.out.trans hu0)
    clear N0 HU0 hu0
    go_wp2_with fail
    have N0 := Lib.hid (And.intro c0 (And.intro c1 (And.intro c2 c3)))
    generalize w0 = W at *
    have MK := Lib.hid (fun w' (h : Up W w') => (⟨h, h.cell N0.out.1, h.cell N0.out.2.1, h.cell N0.out.2.2.1, h.cell N0.out.2.2.2⟩ : Up W w' ∧ w'.cell? ⟨w.heap.size, 0, none⟩ = some (.int .u64 id) ∧ w'.cell? ⟨w.heap.size, 1, none⟩ = some (.int .u64 off) ∧ w'.cell? ⟨w.heap.size, 2, none⟩ = some (.int .u32 len) ∧ w'.cell? ⟨w.heap.size, 3, none⟩ = some (.int .u32 run)))
    go_region_held3 (fun w' => Up W w' ∧ w'.cell? ⟨w.heap.size, 0, none⟩ = some (.int .u64 id) ∧ w'.cell? ⟨w.heap.size, 1, none⟩ = some (.int .u64 off) ∧ w'.cell? ⟨w.heap.size, 2, none⟩ = some (.int .u32 len) ∧ w'.cell? ⟨w.heap.size, 3, none⟩ = some (.int .u32 run))
      (first
      | assumption
      | exact MK.out _ (Up.refl _)
      | exact MK.out _ (Up.refl _).drew
      | exact MK.out _ (Up.trans (And.left (by assumption)) (by assumption))
      | exact MK.out _ (Up.alloc (And.left (by assumption)) _)
      | exact MK.out _ (Up.trans (Up.alloc (And.left (by assumption)) _) (by assumption)))
      (first
        | (go_at_call 131; refine (WD _).out.mono ?_; rintro e w1 ⟨rfl, hu1⟩))
    all_goals
      obtain ⟨su, s0, s1, s2, s3⟩ : Up W w1 ∧ w1.cell? ⟨w.heap.size, 0, none⟩ = some (.int .u64 id) ∧ w1.cell? ⟨w.heap.size, 1, none⟩ = some (.int .u64 off) ∧ w1.cell? ⟨w.heap.size, 2, none⟩ = some (.int .u32 len) ∧ w1.cell? ⟨w.heap.size, 3, none⟩ = some (.int .u32 run) := by assumption
      go_wp2_with fail
      go_ret
      exact ⟨ret_int (by rw [H0.out]; omega), HU1.out.trans su⟩
  · rw [if_neg hc] at h0
    rw [decide_eq_false hc] at MY
    have H0 := Lib.hid h0
    clear hc h0 hid
    obtain ⟨id, off, len, run⟩ := e
    simp only [entA] at *
    have n0 := new4 w 72 (.int .u64 id) (.int .u64 off) (.int .u32 len) (.int .u32 run)
    have HU0 := Lib.hid n0.1
    clear n0
    go_enter Tryz.func77, Tryz.ntmps77
    go_wp2_with fail
    refine (MY _).out.mono ?_
    rintro e w0 ⟨rfl, hu0⟩
    go_wp2_with fail
    go_ret
    exact ⟨ret_int (by rw [H0.out]; rfl), HU0.out.trans hu0⟩
set_option maxHeartbeats 1000000 in
theorem has_any (e : Ent) (ho : okE e) (x : Nat) (w : World) :
    Calls Tryz.prog 117 #[entA e, .int .u64 x] w fun en w' => en = .returned (.bool (hasE e x)) ∧ Up w w' := by
  have MY := fun w => Lib.hid (may_any e ho w)
  have LS := fun w => Lib.hid (last_any e ho w)
  have h0 : hasE e x = (decide (chkE e = 0) && decide (0 < e.run) && decide (e.id ≤ x) && decide (x ≤ lastE e)) := rfl
  generalize hasE e x = v at *
  generalize lastE e = la at *
  obtain ⟨mb, hmb⟩ : ∃ mb, decide (chkE e = 0) = mb := ⟨_, rfl⟩
  rw [hmb] at MY h0
  clear hmb
  obtain ⟨id, off, len, run⟩ := e
  obtain ⟨h1, h2, h3, h4⟩ := ho
  simp only [entA] at *
  have n0 := new4 w 72 (.int .u64 id) (.int .u64 off) (.int .u32 len) (.int .u32 run)
  have HU0 := Lib.hid n0.1
  have N0 := Lib.hid n0.2
  clear n0
  have HZ := Lib.hid h0
  clear h0
  cases mb
  · go_enter Tryz.func117, Tryz.ntmps117
    go_wp2_with fail
    refine (MY _).out.mono ?_
    rintro e w1 ⟨rfl, hu1⟩
    go_wp2_with fail
    go_ret
    exact ⟨ret_bool (by rw [HZ.out]; rfl), HU0.out.trans hu1⟩
  have key : (∀ (hr : ¬ 0 < run), v = false) ∧ (∀ (hr : 0 < run) (hi : ¬ id ≤ x), v = false) ∧ (∀ (hr : 0 < run) (hi : id ≤ x), v = decide (x ≤ la)) := by
    have h := HZ.out
    refine ⟨fun hr => ?_, fun hr hi => ?_, fun hr hi => ?_⟩
    · rw [h, decide_eq_false hr]; rfl
    · rw [h, decide_eq_true hr, decide_eq_false hi]; rfl
    · rw [h, decide_eq_true hr, decide_eq_true hi]; rfl
  have KEY := Lib.hid key
  clear key
  by_cases hr : 0 < run
  · by_cases hi : id ≤ x
    · have E := Lib.hid (KEY.out.2.2 hr hi)
      have hrI : (0 : Int) < (run : Int) := by omega
      have hiI : (id : Int) ≤ (x : Int) := by omega
      clear hr hi KEY HZ
      go_enter Tryz.func117, Tryz.ntmps117
      go_wp2_with fail
      refine (MY _).out.mono ?_
      rintro e w1 ⟨rfl, hu1⟩
      obtain ⟨c0, c1, c2, c3⟩ := N0.out
      replace c0 := hu1.cell c0
      replace c1 := hu1.cell c1
      replace c2 := hu1.cell c2
      replace c3 := hu1.cell c3
      clear N0
      go_wp2_with fail
      refine (LS _).out.mono ?_
      rintro e w2 ⟨rfl, hu2⟩
      go_wp2_with fail
      go_ret
      refine ⟨ret_bool ?_, HU0.out.trans (hu1.trans hu2)⟩
      rw [E.out]
    · have E := Lib.hid (KEY.out.2.1 hr hi)
      have hrI : (0 : Int) < (run : Int) := by omega
      have hiI : ¬ (id : Int) ≤ (x : Int) := by omega
      clear hr hi KEY HZ
      go_enter Tryz.func117, Tryz.ntmps117
      go_wp2_with fail
      refine (MY _).out.mono ?_
      rintro e w1 ⟨rfl, hu1⟩
      obtain ⟨c0, c1, c2, c3⟩ := N0.out
      replace c0 := hu1.cell c0
      replace c1 := hu1.cell c1
      replace c2 := hu1.cell c2
      replace c3 := hu1.cell c3
      clear N0
      go_wp2_with fail
      go_ret
      exact ⟨ret_bool E.out.symm, HU0.out.trans hu1⟩
  · have E := Lib.hid (KEY.out.1 hr)
    have hrI : ¬ (0 : Int) < (run : Int) := by omega
    clear hr KEY HZ
    go_enter Tryz.func117, Tryz.ntmps117
    go_wp2_with fail
    refine (MY _).out.mono ?_
    rintro e w1 ⟨rfl, hu1⟩
    obtain ⟨c0, c1, c2, c3⟩ := N0.out
    replace c0 := hu1.cell c0
    replace c1 := hu1.cell c1
    replace c2 := hu1.cell c2
    replace c3 := hu1.cell c3
    clear N0
    go_wp2_with fail
    go_ret
    exact ⟨ret_bool E.out.symm, HU0.out.trans hu1⟩
theorem Rd.ent {w : World} {l : Ents} {A : Option Addr} {c : Nat} (h : Rd w 4 A l.length c (entV l)) {k : Nat} (hk : k < l.length) : ∃ b o, A = some ⟨b, o, none⟩ ∧ w.cell? ⟨b, o + k * 4, none⟩ = some (.int .u64 (l[k].id : Int)) ∧ w.cell? ⟨b, o + k * 4 + 1, none⟩ = some (.int .u64 (l[k].off : Int)) ∧
    w.cell? ⟨b, o + k * 4 + 2, none⟩ = some (.int .u32 (l[k].len : Int)) ∧ w.cell? ⟨b, o + k * 4 + 3, none⟩ = some (.int .u32 (l[k].run : Int)) := by
  obtain ⟨b, o, e, hc⟩ := h.2.2.2.2 (by omega)
  obtain ⟨g0, g1, g2, g3⟩ := entV_get l k hk
  exact ⟨b, o, e, hc _ _ g0, by have := hc _ _ g1; rwa [← Nat.add_assoc] at this, by have := hc _ _ g2; rwa [← Nat.add_assoc] at this, by have := hc _ _ g3; rwa [← Nat.add_assoc] at this⟩
set_option maxHeartbeats 2000000 in
theorem row_any (l : Ents) (hok : ∀ e ∈ l, okE e) (hl : l.length ≤ 1000000) (A : Option Addr) (c : Nat) (w : World) (hr : Rd w 4 A l.length c (entV l)) :
    Calls Tryz.prog 54 #[.slice A l.length c] w fun e w' => e = .returned (.int .i64 (rowE l)) ∧ Up w w' := by
  have HR := Lib.hid hr
  have HO := Lib.hid hok
  clear hr hok
  by_cases hbig : 4096 < l.length
  · have e : rowE l = 21 := by unfold rowE; rw [if_pos hbig]
    rw [e]
    have h' : (4096 : Int) < (l.length : Int) := by omega
    go_enter Tryz.func54, Tryz.ntmps54
    go_wp2_with fail
    go_ret
    exact ⟨rfl, Up.refl w⟩
  have h0 : rowE l = rowGo 0 l := by unfold rowE; rw [if_neg hbig]
  rw [h0]
  have h' : ¬ (4096 : Int) < (l.length : Int) := by omega
  generalize hT : rowGo 0 l = T at *
  have HT := Lib.hid hT
  clear hT h0
  go_enter Tryz.func54, Tryz.ntmps54
  go_wp2_with fail
  go_loopg [3, 12] l.length (fun gk fr i wr => ∃ k f : Nat, k + gk = l.length ∧ i = .int .i64 k ∧ fr = .int .u64 f ∧ f ≤ 6004799503160662 ∧ rowGo f (l.drop k) = T ∧ Up w wr)
  case atStart => exact ⟨0, 0, by omega, rfl, rfl, by omega, by simpa using HT.out, Up.refl w⟩
  case round =>
    obtain ⟨k, f, hk, rfl, rfl, hf, hd, hu⟩ := hrel
    have HU := Lib.hid hu
    by_cases hlt : k < l.length
    · obtain ⟨m, rfl⟩ : ∃ m, gk = m + 1 := ⟨gk - 1, by omega⟩
      obtain ⟨B, o, rfl, d0, d1, d2, d3⟩ := (HR.out.up hu).ent hlt
      rw [List.drop_eq_getElem_cons hlt] at hd
      have ho := HO.out l[k] (List.getElem_mem hlt)
      obtain ⟨x, hx⟩ : ∃ x, l[k]'hlt = x := ⟨_, rfl⟩
      rw [hx] at d0 d1 d2 d3 hd ho
      have CK := fun w => Lib.hid (chk_any x ho w)
      have LS := fun w => Lib.hid (last_any x ho w)
      have hstep : (chkE x ≠ 0 → T = chkE x) ∧ (chkE x = 0 → x.id < f → T = 10) ∧ (chkE x = 0 → ¬ x.id < f → rowGo (lastE x + 1) (l.drop (k + 1)) = T ∧ lastE x + 1 ≤ 6004799503160662) := by
        unfold rowGo at hd
        refine ⟨fun h => ?_, fun h h2 => ?_, fun h h2 => ?_⟩
        · rw [if_pos h] at hd; exact hd.symm
        · rw [if_neg (by omega), if_pos h2] at hd; exact hd.symm
        · rw [if_neg (by omega), if_neg h2] at hd
          refine ⟨hd, ?_⟩
          have h3 := chk_ok h
          rw [last_ok h]; omega
      have HS := Lib.hid hstep
      have hltI : (k : Int) < (l.length : Int) := by omega
      generalize chkE x = cv at *
      generalize lastE x = la at *
      obtain ⟨id, off, len, run⟩ := x
      simp only [entA] at *
      clear hd hstep hx ho hu
      have n0 := new4 wr 72 (.int .u64 id) (.int .u64 off) (.int .u32 len) (.int .u32 run)
      have HU1 := Lib.hid (HU.out.trans n0.1)
      have N0 := Lib.hid n0.2
      clear n0
      by_cases hc : cv = 0
      · subst hc
        by_cases hlf : id < f
        · have E := Lib.hid (HS.out.2.1 rfl hlf)
          have hlfI : (id : Int) < (f : Int) := by omega
          clear hlf HS
          go_wp2_with fail
          refine (CK _).out.mono ?_
          rintro e w1 ⟨rfl, hu1⟩
          have c0 := hu1.cell N0.out.1
          go_wp2_with fail
          go_ret
          exact ⟨ret_int E.out.symm, HU1.out.trans hu1⟩
        · obtain ⟨hd, hle⟩ := HS.out.2.2 rfl hlf
          have HD := Lib.hid hd
          have hlfI : ¬ (id : Int) < (f : Int) := by omega
          have e1 : IntKind.u64.wrap ((la : Int) + 1) = (la : Int) + 1 := IntWalk.u64_in _ (by omega)
          clear hd HS
          go_wp2_with fail
          refine (CK _).out.mono ?_
          rintro e w1 ⟨rfl, hu1⟩
          obtain ⟨c0, c1, c2, c3⟩ := N0.out
          replace c0 := hu1.cell c0
          replace c1 := hu1.cell c1
          replace c2 := hu1.cell c2
          replace c3 := hu1.cell c3
          have HU2 := Lib.hid (HU1.out.trans hu1)
          clear N0 hu1
          go_wp2_with fail
          refine (LS _).out.mono ?_
          rintro e w2 ⟨rfl, hu2⟩
          go_wp2_with fail
          go_roundg m
          case measure => omega
          case rel => exact ⟨k + 1, la + 1, by omega, by go_num, by go_num, hle, HD.out, HU2.out.trans hu2⟩
      · have E := Lib.hid (HS.out.1 hc)
        have hb : (cv != 0) = true := by rw [bne_iff_ne]; exact hc
        clear hc HS
        go_wp2_with fail
        refine (CK _).out.mono ?_
        rintro e w1 ⟨rfl, hu1⟩
        go_wp2_with fail
        go_ret
        exact ⟨ret_int E.out.symm, HU1.out.trans hu1⟩
    · obtain rfl : k = l.length := by omega
      rw [List.drop_length] at hd
      have hd : T = 0 := hd.symm
      subst hd
      clear hlt
      go_wp2_with fail
      go_ret
      exact ⟨rfl, HU.out⟩
end Go.Proofs.YtcfmidmokciofaaGreatDoor
/- Walks: seek.id, last, Place, Find, Leaves. -/
namespace Go.Proofs.YtcfmidmokciofaaGreatDoor
open Go.RowKit Go.Gz
set_option maxRecDepth 100000
theorem sid_any (e : Ent) (w : World) : Calls Tryz.prog 177 #[entA e] w fun en w' => en = .returned (.int .u64 (e.id : Int)) ∧ Up w w' := by
  obtain ⟨a, b, c, d⟩ := e
  unfold entA
  go_enter Tryz.func177, Tryz.ntmps177
  go_wp2_with fail
  go_ret
  exact ⟨rfl, (Up.refl w).alloc _⟩
set_option maxHeartbeats 4000000 in
theorem slast_any (l : Ents) (hl : l.length ≤ 1000000) (id : Nat) (A : Option Addr) (c : Nat) (hs : ∀ i j (hi : i < l.length) (hj : j < l.length), i < j → l[i].id < l[j].id) (w : World) (hr : Rd w 4 A l.length c (entV l)) :
    Calls Tryz.prog 176 #[.slice A l.length c, .int .u64 (id : Int), .func (.func 177) #[] #[]] w fun e w' => e = .returned (.int .i64 ((plcE l id : Int) - 1)) ∧ Up w w' := by
  have HR := Lib.hid hr
  have HS := Lib.hid hs
  clear hr hs
  go_enter Tryz.func176, Tryz.ntmps176
  go_wp2_with fail
  go_loopg [7, 8] l.length (fun gk i j wr => ∃ a b : Nat, i = .int .i64 a ∧ j = .int .i64 b ∧ a ≤ b ∧ b ≤ l.length ∧ b - a ≤ gk ∧ (∀ k (h : k < l.length), k < a → l[k].id ≤ id) ∧ (∀ k (h : k < l.length), b ≤ k → id < l[k].id) ∧ Up w wr)
  case atStart => exact ⟨0, l.length, rfl, rfl, by omega, by omega, by omega, fun k _ h => absurd h (by omega), fun k h h2 => absurd h2 (by omega), Up.refl w⟩
  case round =>
    obtain ⟨a, b, rfl, rfl, hab, hbn, hg, hlo, hhi, hu⟩ := hrel
    have LO := Lib.hid hlo
    have HI := Lib.hid hhi
    have HU := Lib.hid hu
    clear hlo hhi
    by_cases hlt : a < b
    · obtain ⟨m, rfl⟩ : ∃ m, gk = m + 1 := ⟨gk - 1, by omega⟩
      obtain ⟨h, hh⟩ : ∃ h : Nat, h = (a + b) / 2 := ⟨_, rfl⟩
      have h1 : a ≤ h := by omega
      have h2 : h < b := by omega
      have hltI : (a : Int) < (b : Int) := by omega
      have e1 : IntKind.i64.wrap ((a : Int) + (b : Int)) = (a : Int) + (b : Int) := IntWalk.i64_in _ (by omega)
      have e2 : IntKind.u64.wrap ((a : Int) + (b : Int)) = (a : Int) + (b : Int) := IntWalk.u64_in _ (by omega)
      have e3 : ((a : Int) + (b : Int)) / 2 = (h : Int) := by omega
      have e4 : IntKind.i64.wrap (h : Int) = (h : Int) := IntWalk.i64_in _ (by omega)
      obtain ⟨B, o, rfl, hc1, hc2, hc3, hc4⟩ := (HR.out.up hu).ent (k := h) (by omega)
      obtain ⟨x, hx⟩ : ∃ x, l[h]'(Nat.lt_of_lt_of_le h2 hbn) = x := ⟨_, rfl⟩
      rw [hx] at hc1 hc2 hc3 hc4
      have HX := Lib.hid hx
      clear hx hu
      have hh2 : 2 * h ≤ a + b ∧ a + b ≤ 2 * h + 1 := by omega
      clear hh
      have SI := fun w => Lib.hid (sid_any x w)
      unfold entA at SI
      by_cases hc : x.id ≤ id
      · have hcI : (x.id : Int) ≤ (id : Int) := by omega
        go_wp2_with fail
        with_reducible refine (SI _).out.mono ?_
        rintro e w1 ⟨rfl, hu1⟩
        go_wp2_with fail
        go_roundg m
        case measure => omega
        case rel =>
          refine ⟨h + 1, b, by go_num, rfl, by omega, hbn, by omega, fun k hk hkh => ?_, HI.out, HU.out.trans hu1⟩
          rcases Nat.lt_or_ge k h with g | g
          · have := HS.out k h hk (by omega) g
            rw [HX.out] at this; omega
          · obtain rfl : k = h := by omega
            rw [HX.out]; exact hc
      · have hcI : (id : Int) < (x.id : Int) := by omega
        go_wp2_with fail
        with_reducible refine (SI _).out.mono ?_
        rintro e w1 ⟨rfl, hu1⟩
        go_wp2_with fail
        go_roundg m
        case measure => omega
        case rel =>
          refine ⟨a, h, rfl, rfl, h1, by omega, by omega, LO.out, fun k hk hkh => ?_, HU.out.trans hu1⟩
          rcases Nat.lt_or_ge h k with g | g
          · have := HS.out h k (by omega) hk g
            rw [HX.out] at this; omega
          · obtain rfl : k = h := by omega
            rw [HX.out]; omega
    · obtain rfl : a = b := by omega
      have HP := Lib.hid (plcE_eq l id a hbn LO.out (fun h => HI.out a h (Nat.le_refl _)))
      have hltI : (a : Int) ≤ (a : Int) := by omega
      clear hlt
      go_wp2_with fail
      go_ret
      refine ⟨?_, HU.out⟩
      rw [HP.out]
      first | rfl | (refine ret_int ?_; go_num)
set_option maxHeartbeats 2000000 in
theorem splace_any (l : Ents) (hok : ∀ e ∈ l, okE e) (hrow : rowE l = 0) (hl : l.length ≤ 1000000) (id : Nat) (A : Option Addr) (c : Nat) (w : World) (hr : Rd w 4 A l.length c (entV l)) :
    Calls Tryz.prog 116 #[.slice A l.length c, .int .u64 (id : Int)] w fun e w' => e = .returned (.int .i64 ((plcE l id : Int) - 1)) ∧ Up w w' := by
  have RW := fun w h => Lib.hid (row_any l hok hl A c w h)
  rw [hrow] at RW
  have LA := fun w h => Lib.hid (slast_any l hl id A c (row_srt hrow) w h)
  have HR := Lib.hid hr
  clear hr hrow hok
  go_enter Tryz.func116, Tryz.ntmps116
  go_wp2_with fail
  with_reducible refine (RW _ ?_).out.mono ?_
  · exact HR.out
  rintro e w1 ⟨rfl, hu1⟩
  go_wp2_with fail
  with_reducible refine (LA _ ?_).out.mono ?_
  · exact HR.out.up hu1
  rintro e w2 ⟨rfl, hu2⟩
  go_wp2_with fail
  go_ret
  exact ⟨rfl, hu1.trans hu2⟩
theorem ownUpE {w w' : World} {base : Nat} {e : TypeId} {s : Nat} {v : Value} {n : Nat} {xs : List Value} (o : w.ownsRow base e s v n xs) (h : Up w w') : w'.ownsRow base e s v n xs :=
  o.kept (row := none) ⟨h.os, h.tape, h.output, h.size, fun q hq _ => h.block hq⟩ (by cases v.ownBlock <;> simp)
theorem results_cq {P : Program} {fn : Func} {p q : Tmp} {ty : TypeId} (h : fn.results = #[.cell p ty, .tmp q]) (tmps : Array Value) (w : World) (g : Nat) (t : TypeId) (cs : Array Value) (fr : Nat × Nat) (d : TypeDesc)
    (hp : tmps.getD p undef = .pointer (some ⟨g, 0, none⟩)) (hg : w.heap[g]? = some (.cells cs t fr))
    (hu : P.underlying ty = some d) (hd : (match d with | .struct _ | .array _ _ => true | _ => false) = true) (hi : (P.info? ty).map (·.size) = some cs.size) :
    (results fn tmps).run P w = .ok (.tuple #[.agg cs, tmps.getD q undef]) w := by
  have hp' : tmps[p]?.getD undef = .pointer (some ⟨g, 0, none⟩) := by simpa using hp
  simp [results, h, hp', asAddr, run_loadVar_row w g t ty cs fr d hg hu hd hi]
theorem set4e {w : World} {b : Nat} {x0 x1 x2 x3 y0 y1 y2 y3 : Value} {t : TypeId} (h : w.heap[b]? = some (.cells #[x0, x1, x2, x3] t (0, 0))) :
    ((((w.setCell ⟨b, 0, none⟩ y0).setCell ⟨b, 1, none⟩ y1).setCell ⟨b, 2, none⟩ y2).setCell ⟨b, 3, none⟩ y3).heap[b]? = some (.cells #[y0, y1, y2, y3] t (0, 0)) := by
  have h0 := heap_setCell_same w b 0 _ _ y0 h
  have h1 := heap_setCell_same _ b 1 _ _ y1 h0
  have h2 := heap_setCell_same _ b 2 _ _ y2 h1
  have h3 := heap_setCell_same _ b 3 _ _ y3 h2
  simpa using h3
theorem blke4 {w : World} {b : Nat} {x y z u : Value} {t : TypeId} (h : w.heap[b]? = some (.cells #[x, y, z, u] t (0, 0))) : w.cell? ⟨b, 0, none⟩ = some x ∧ w.cell? ⟨b, 1, none⟩ = some y ∧ w.cell? ⟨b, 2, none⟩ = some z ∧ w.cell? ⟨b, 3, none⟩ = some u ∧ w.frozen? ⟨b, 0, none⟩ = false ∧ w.frozen? ⟨b, 1, none⟩ = false ∧ w.frozen? ⟨b, 2, none⟩ = false ∧ w.frozen? ⟨b, 3, none⟩ = false :=
  ⟨by simp [World.cell?, h], by simp [World.cell?, h], by simp [World.cell?, h], by simp [World.cell?, h], by simp [World.frozen?, h], by simp [World.frozen?, h], by simp [World.frozen?, h], by simp [World.frozen?, h]⟩
set_option maxHeartbeats 8000000 in
theorem sfind_any (l : Ents) (hok : ∀ e ∈ l, okE e) (hrow : rowE l = 0) (hl : l.length ≤ 1000000) (id : Nat) (A : Option Addr) (c : Nat) (w : World) (hr : Rd w 4 A l.length c (entV l)) :
    Calls Tryz.prog 62 #[.slice A l.length c, .int .u64 (id : Int)] w fun e w' => e = .returned (.tuple #[entA (findE l id).1, .bool (findE l id).2]) ∧ Up w w' := by
  have PL := fun w h => Lib.hid (splace_any l hok hrow hl id A c w h)
  obtain ⟨p, hp⟩ : ∃ p, plcE l id = p := ⟨_, rfl⟩
  have hple := plcE_le l id
  rw [hp] at PL hple
  obtain ⟨X, hX⟩ : ∃ X, X = w.alloc (.cells #[.int .u64 0, .int .u64 0, .int .u32 0, .int .u32 0] 72) := ⟨_, rfl⟩
  have hu : Up w X := by rw [hX]; exact (Up.refl w).alloc _
  have hZ : X.heap[w.heap.size]? = some (.cells #[.int .u64 0, .int .u64 0, .int .u32 0, .int .u32 0] 72 (0, 0)) := by rw [hX]; exact heap_alloc_new _ _
  have HU := Lib.hid hu
  have HZ := Lib.hid hZ
  have HR := Lib.hid (hr.up hu)
  have hfe : findE l id = if p = 0 then (zE, false) else if 0 < (l.getD (p - 1) zE).run ∧ hasE (l.getD (p - 1) zE) id = false then (zE, false) else (l.getD (p - 1) zE, true) := by unfold findE; rw [hp]
  have HFE := Lib.hid hfe
  clear hu hZ hfe hp hr
  have HUP : ∀ W v0 v1 v2 v3, Up X W → Up w ((((W.setCell ⟨w.heap.size, 0, none⟩ v0).setCell ⟨w.heap.size, 1, none⟩ v1).setCell ⟨w.heap.size, 2, none⟩ v2).setCell ⟨w.heap.size, 3, none⟩ v3) := fun W v0 v1 v2 v3 h =>
    ((((HU.out.trans h).set (Nat.le_refl _) _).set (Nat.le_refl _) _).set (Nat.le_refl _) _).set (Nat.le_refl _) _
  have HUP := Lib.hid HUP
  by_cases hp0 : p = 0
  · subst hp0
    rw [if_pos rfl] at HFE
    have hI : ((0 : Nat) : Int) - 1 = -1 := by omega
    rw [hI] at PL
    clear hI
    go_enter Tryz.func62, Tryz.ntmps62
    go_wp2_with fail
    rw [← hX]
    clear hX
    with_reducible refine (PL _ ?_).out.mono ?_
    · exact HR.out
    rintro e w1 ⟨rfl, hu1⟩
    have hz1 := hu1.obj HZ.out
    obtain ⟨z0, z1, z2, z3, f0, f1, f2, f3⟩ := blke4 hz1
    have HZ1 := Lib.hid hz1
    have HU1 := Lib.hid hu1
    clear hz1 hu1
    go_wp2_with fail
    refine bodyPost_ret (results_cq rfl _ _ w.heap.size _ _ _ _ rfl (set4e HZ1.out) Tryz.underlying72 rfl (by kernel_rfl)) rfl ?_
    rw [HFE.out]
    exact ⟨rfl, HUP.out _ _ _ _ _ HU1.out⟩
  · obtain ⟨q, rfl⟩ : ∃ q, p = q + 1 := ⟨p - 1, by omega⟩
    have hI : ((q + 1 : Nat) : Int) - 1 = (q : Int) := by omega
    rw [hI] at PL
    have hql : q < l.length := by omega
    obtain ⟨x, hx⟩ : ∃ x, l[q] = x := ⟨_, rfl⟩
    have hxo : okE x := by rw [← hx]; exact hok _ (List.getElem_mem hql)
    have hgd : l.getD (q + 1 - 1) zE = x := by rw [Nat.add_sub_cancel, List.getD_eq_getElem?_getD, List.getElem?_eq_getElem hql, hx]; rfl
    have HS := fun w => Lib.hid (has_any x hxo id w)
    rw [if_neg hp0, hgd] at HFE
    have HX := Lib.hid hx
    have hqI : (q : Int) < (l.length : Int) := by omega
    have hqI2 : ¬ (q : Int) < 0 := by omega
    unfold entA at HS
    generalize hhs : hasE x id = hb at *
    clear hI hgd hx hxo hok hrow hp0 hhs
    have FIN : ∀ W, Up X W → W.heap[w.heap.size]? = some (.cells #[.int .u64 0, .int .u64 0, .int .u32 0, .int .u32 0] 72 (0, 0)) := fun W h => h.obj HZ.out
    have FIN := Lib.hid FIN
    by_cases hr0 : 0 < x.run
    · have hrI : (0 : Int) < (x.run : Int) := by omega
      cases hb with
      | true =>
        rw [if_neg (by rintro ⟨_, h⟩; cases h)] at HFE
        go_enter Tryz.func62, Tryz.ntmps62
        go_wp2_with fail
        rw [← hX]
        clear hX
        with_reducible refine (PL _ ?_).out.mono ?_
        · exact HR.out
        rintro e w1 ⟨rfl, hu1⟩
        obtain ⟨B, o, rfl, hc1, hc2, hc3, hc4⟩ := (HR.out.up hu1).ent (k := q) hql
        rw [HX.out] at hc1 hc2 hc3 hc4
        have HU1 := Lib.hid hu1
        clear hu1
        go_wp2_with fail
        with_reducible refine (HS _).out.mono ?_
        rintro e w2 ⟨rfl, hu2⟩
        have d1 := hu2.cell hc1
        have d2 := hu2.cell hc2
        have d3 := hu2.cell hc3
        have d4 := hu2.cell hc4
        have HU2 := Lib.hid (HU1.out.trans hu2)
        obtain ⟨z0, z1, z2, z3, f0, f1, f2, f3⟩ := blke4 (FIN.out _ HU2.out)
        clear hu2
        go_wp2_with fail
        refine bodyPost_ret (results_cq rfl _ _ w.heap.size _ _ _ _ rfl (set4e (FIN.out _ HU2.out)) Tryz.underlying72 rfl (by kernel_rfl)) rfl ?_
        rw [HFE.out]
        exact ⟨rfl, HUP.out _ _ _ _ _ HU2.out⟩
      | false =>
        rw [if_pos ⟨hr0, rfl⟩] at HFE
        go_enter Tryz.func62, Tryz.ntmps62
        go_wp2_with fail
        rw [← hX]
        clear hX
        with_reducible refine (PL _ ?_).out.mono ?_
        · exact HR.out
        rintro e w1 ⟨rfl, hu1⟩
        obtain ⟨B, o, rfl, hc1, hc2, hc3, hc4⟩ := (HR.out.up hu1).ent (k := q) hql
        rw [HX.out] at hc1 hc2 hc3 hc4
        have HU1 := Lib.hid hu1
        clear hu1
        go_wp2_with fail
        with_reducible refine (HS _).out.mono ?_
        rintro e w2 ⟨rfl, hu2⟩
        have HU2 := Lib.hid (HU1.out.trans hu2)
        obtain ⟨z0, z1, z2, z3, f0, f1, f2, f3⟩ := blke4 (FIN.out _ HU2.out)
        clear hu2
        go_wp2_with fail
        refine bodyPost_ret (results_cq rfl _ _ w.heap.size _ _ _ _ rfl (set4e (FIN.out _ HU2.out)) Tryz.underlying72 rfl (by kernel_rfl)) rfl ?_
        rw [HFE.out]
        exact ⟨rfl, HUP.out _ _ _ _ _ HU2.out⟩
    · have hrI : ¬ (0 : Int) < (x.run : Int) := by omega
      have hrI2 : (x.run : Int) ≤ 0 := by omega
      rw [if_neg (fun h => hr0 h.1)] at HFE
      go_enter Tryz.func62, Tryz.ntmps62
      go_wp2_with fail
      rw [← hX]
      clear hX
      with_reducible refine (PL _ ?_).out.mono ?_
      · exact HR.out
      rintro e w1 ⟨rfl, hu1⟩
      obtain ⟨B, o, rfl, hc1, hc2, hc3, hc4⟩ := (HR.out.up hu1).ent (k := q) hql
      rw [HX.out] at hc1 hc2 hc3 hc4
      have HU1 := Lib.hid hu1
      obtain ⟨z0, z1, z2, z3, f0, f1, f2, f3⟩ := blke4 (FIN.out _ hu1)
      clear hu1
      go_wp2_with fail
      refine bodyPost_ret (results_cq rfl _ _ w.heap.size _ _ _ _ rfl (set4e (FIN.out _ HU1.out)) Tryz.underlying72 rfl (by kernel_rfl)) rfl ?_
      rw [HFE.out]
      exact ⟨rfl, HUP.out _ _ _ _ _ HU1.out⟩
set_option maxHeartbeats 4000000 in
/-- the pointers of a row: how many there are -/
theorem sleaves_any (l : Ents) (hl : l.length ≤ 900000) (A : Option Addr) (c : Nat) (w : World) (hr : Rd w 4 A l.length c (entV l)) :
    Calls Tryz.prog 29 #[.slice A l.length c] w fun e w' => (∃ B d, e = .returned (.slice B (l.filter fun e => e.run == 0).length d)) ∧ Up w w' := by
  obtain ⟨i0, hi, hz0, hz1, hz2⟩ := info_parts (show (Tryz.prog.info? 72).map (fun i => (i.zero, i.size, i.bytes)) = some (some (.agg #[.int .u64 0, .int .u64 0, .int .u32 0, .int .u32 0]), 4, 24) by kernel_rfl)
  have HR := Lib.hid hr
  clear hr
  go_enter Tryz.func29, Tryz.ntmps29
  go_wp2_with fail
  go_loopg [3, 8] l.length (fun gk u i wr => ∃ (k : Nat) (xs : List Value), k + gk = l.length ∧ i = .int .i64 k ∧ wr.ownsRow w.heap.size 72 4 u ((l.take k).filter fun e => e.run == 0).length xs ∧ Up w wr)
  case atStart => exact ⟨0, [], by omega, rfl, World.ownsRow_nil _ _ _ _, Up.refl w⟩
  case round =>
    obtain ⟨k, xs, hk, rfl, ho, hu⟩ := hrel
    obtain ⟨ua, uc, rfl⟩ : ∃ a c, u3 = .slice a ((l.take k).filter fun e => e.run == 0).length c := by
      rcases ho.2 with ⟨hv, hx⟩ | ⟨_, _, _, hv, _⟩
      · exact ⟨none, 0, by rw [hv, hx]⟩
      · exact ⟨_, _, hv⟩
    by_cases hlt : k < l.length
    · have hltI : (k : Int) < (l.length : Int) := by omega
      obtain ⟨g, rfl⟩ : ∃ g, gk = g + 1 := ⟨gk - 1, by omega⟩
      obtain ⟨B, o, rfl, hc1, hc2, hc3, hc4⟩ := (HR.out.up hu).ent (k := k) hlt
      obtain ⟨x, hx⟩ : ∃ x, l[k] = x := ⟨_, rfl⟩
      rw [hx] at hc1 hc2 hc3 hc4
      have hst : (l.take (k + 1)).filter (fun e => e.run == 0) = (l.take k).filter (fun e => e.run == 0) ++ if x.run = 0 then [x] else [] := by
        rw [List.take_succ_eq_append_getElem hlt, List.filter_append, hx]
        by_cases hx0 : x.run = 0 <;> simp [hx0]
      have HST := Lib.hid hst
      have HU := Lib.hid hu
      have HO := Lib.hid (ownUpE ho ((Up.refl wr).alloc (.cells #[.int .u64 (x.id : Int), .int .u64 (x.off : Int), .int .u32 (x.len : Int), .int .u32 (x.run : Int)] 72)))
      have hnl : ((l.take k).filter fun e => e.run == 0).length ≤ k := by
        have := List.length_filter_le (fun e : Ent => e.run == 0) (l.take k)
        rw [List.length_take] at this
        omega
      have hsz := hu.size
      clear hx hst hu ho
      by_cases hx0 : x.run = 0
      · have hx0I : (x.run : Int) = 0 := by omega
        rw [if_pos hx0] at HST
        have hn1 : ((l.take k).filter fun e => e.run == 0).length + 1 ≤ 1000000 := by omega
        go_wp2_with (at_builtin; refine app_one (wr.alloc (.cells #[.int .u64 (x.id : Int), .int .u64 (x.off : Int), .int .u32 (x.len : Int), .int .u32 0] 72)) rfl _ _ 38 rfl w.heap.size 72 i0 _ 4 24 Tryz.underlying38 hi hz0 hz1 hz2 rfl (by decide) _ _ _ (by rw [hx0I] at HO; exact HO.out) rfl #[.int .u64 (x.id : Int), .int .u64 (x.off : Int), .int .u32 (x.len : Int), .int .u32 0] (by simp [Act.eval]; done) rfl (by simp [Value.oneCell']) hn1 (by omega) (by simp; omega) ?_; intro v3 w3 ho3 hg3 hb3)
        go_roundg g
        case measure => omega
        case rel =>
          have hn2 : ((l.take (k + 1)).filter fun e => e.run == 0).length = ((l.take k).filter fun e => e.run == 0).length + 1 := by rw [HST.out, List.length_append]; rfl
          rw [← hn2] at ho3
          exact ⟨k + 1, _, by omega, by go_num, ho3, (HU.out.alloc _).base (by omega) hb3⟩
      · have hx0I : ¬ (x.run : Int) = 0 := by omega
        rw [if_neg hx0, List.append_nil] at HST
        go_wp2_with fail
        go_roundg g
        case measure => omega
        case rel => exact ⟨k + 1, xs, by omega, by go_num, by rw [HST.out]; exact HO.out, HU.out.alloc _⟩
    · have hltI : (l.length : Int) ≤ (k : Int) := by omega
      have hkl : l.take k = l := List.take_of_length_le (by omega)
      rw [hkl] at ho ⊢
      go_wp2_with fail
      go_ret
      exact ⟨⟨_, _, rfl⟩, hu⟩
end Go.Proofs.YtcfmidmokciofaaGreatDoor
