/- Walks: entries of directories: wide, Check, Last, Has, Row. -/
import Derived.Test.YtjhgaildbeokkaaGreatDoorGT06
import Derived.Test.YtjhgaildbeokkaaGreatDoorGT04
namespace Go.Gz
/-- an entry as a value -/
def entA (e : Ent) : Value := .agg #[.int .u64 (e.id : Int), .int .u64 (e.off : Int), .int .u32 (e.len : Int), .int .u32 (e.run : Int)]
end Go.Gz
namespace Go.Proofs.YtjhgaildbeokkaaGreatDoor
open Go.RowKit Go.Gz

set_option maxRecDepth 100000
/-- a new block of four cells -/
theorem new4 (w : World) (t : TypeId) (a b c d : Value) : Up w (w.alloc (.cells #[a, b, c, d] t)) ∧ (w.alloc (.cells #[a, b, c, d] t)).cell? ⟨w.heap.size, 0, none⟩ = some a ∧ (w.alloc (.cells #[a, b, c, d] t)).cell? ⟨w.heap.size, 1, none⟩ = some b ∧
    (w.alloc (.cells #[a, b, c, d] t)).cell? ⟨w.heap.size, 2, none⟩ = some c ∧ (w.alloc (.cells #[a, b, c, d] t)).cell? ⟨w.heap.size, 3, none⟩ = some d := by
  have hb := heap_alloc_new w (.cells #[a, b, c, d] t);exact ⟨(Up.refl _).alloc _, cell_of_row _ w.heap.size 0 _ _ _ hb, cell_of_row _ w.heap.size 1 _ _ _ hb, cell_of_row _ w.heap.size 2 _ _ _ hb, cell_of_row _ w.heap.size 3 _ _ _ hb⟩
theorem wide_any (e : Ent) (ho : okE e) (w : World) :
    Calls Tryz.prog 228 #[entA e] w fun en w' => en = .returned (.int .u64 (wideE e)) ∧ Up w w' := by
  obtain ⟨id, off, len, run⟩ := e;obtain ⟨h1, h2, h3, h4⟩ := ho;simp only [entA] at *;have h0 : (wideE ⟨id, off, len, run⟩ : Nat) = max 1 run := rfl;generalize wideE ⟨id, off, len, run⟩ = v at *;have H0 := Lib.hid h0;clear h0;go_enter Tryz.func228, Tryz.ntmps228;go_wp2_with fail;go_ret;refine ⟨ret_int ?_, (Up.refl w).alloc _⟩;rw [H0.out];omega
theorem end_any (e : Ent) (h : e.off ≤ 1099511627776) (ho : okE e) (w : World) :
    Calls Tryz.prog 257 #[entA e] w fun en w' => en = .returned (.int .u64 ((e.off + e.len : Nat) : Int)) ∧ Up w w' := by
  obtain ⟨id, off, len, run⟩ := e;obtain ⟨h1, h2, h3, h4⟩ := ho;simp only [entA] at *;have e1 : IntKind.u64.wrap ((off : Int) + (len : Int)) = (off : Int) + (len : Int) := IntWalk.u64_in _ (by omega);go_enter Tryz.func257, Tryz.ntmps257;go_wp2_with fail;go_ret;exact ⟨ret_int (by omega), (Up.refl w).alloc _⟩
set_option maxHeartbeats 1000000 in
theorem chk_any (e : Ent) (ho : okE e) (w : World) :
    Calls Tryz.prog 183 #[entA e] w fun en w' => en = .returned (.int .i64 (chkE e)) ∧ Up w w' := by
  have WD := fun w => Lib.hid (wide_any e ho w);have ED := fun h w => Lib.hid (end_any e h ho w);have h0 : chkE e = if e.len = 0 then 2 else if 6004799503160661 < e.id + wideE e then 8 else if 1099511627776 < e.off + e.len then 8 else 0 := rfl
  have hw : 1 ≤ wideE e ∧ wideE e < 4294967296 := by have := ho.2.2.2; unfold wideE; omega
  generalize chkE e = v at *;generalize wideE e = wd at *;obtain ⟨id, off, len, run⟩ := e;obtain ⟨h1, h2, h3, h4⟩ := ho;simp only [entA] at *;have H0 := Lib.hid h0;have n0 := new4 w 148 (.int .u64 id) (.int .u64 off) (.int .u32 len) (.int .u32 run);have HU0 := Lib.hid n0.1;have N0 := Lib.hid n0.2;clear h0 n0;by_cases c1 : len = 0
  · have E := H0.out; rw [if_pos c1] at E;have EE := Lib.hid E;clear E H0;subst c1;go_enter Tryz.func183, Tryz.ntmps183;go_wp2_with fail;go_ret;exact ⟨ret_int EE.out.symm, (Up.refl w).alloc _⟩
  have b1 : ((len : Int) == 0) = false := by rw [beq_eq_false_iff_ne]; omega
  have e1 : IntKind.u64.wrap (6004799503160661 - (wd : Int)) = 6004799503160661 - (wd : Int) := IntWalk.u64_in _ (by omega);by_cases c2 : 6004799503160661 < id + wd
  · have E := H0.out; rw [if_neg c1, if_pos c2] at E;have EE := Lib.hid E;clear E H0 c1;have b2 : 6004799503160661 - (wd : Int) < (id : Int) := by omega
    clear c2;go_enter Tryz.func183, Tryz.ntmps183;go_wp2_with fail;generalize hW : w.alloc _ = W at *;obtain ⟨c0, c1, c2, c3⟩ := N0.out;have MK := Lib.hid (fun w' (h : Up W w') => (⟨h, h.cell N0.out.1, h.cell N0.out.2.1, h.cell N0.out.2.2.1, h.cell N0.out.2.2.2⟩ : Up W w' ∧ w'.cell? ⟨w.heap.size, 0, none⟩ = some (.int .u64 id) ∧ w'.cell? ⟨w.heap.size, 1, none⟩ = some (.int .u64 off) ∧ w'.cell? ⟨w.heap.size, 2, none⟩ = some (.int .u32 len) ∧ w'.cell? ⟨w.heap.size, 3, none⟩ = some (.int .u32 run)))
    go_region_held3 (fun w' => Up W w' ∧ w'.cell? ⟨w.heap.size, 0, none⟩ = some (.int .u64 id) ∧ w'.cell? ⟨w.heap.size, 1, none⟩ = some (.int .u64 off) ∧ w'.cell? ⟨w.heap.size, 2, none⟩ = some (.int .u32 len) ∧ w'.cell? ⟨w.heap.size, 3, none⟩ = some (.int .u32 run))
      (first
      | assumption
      | exact MK.out _ (Up.refl _)
      | exact MK.out _ (Up.refl _).drew
      | exact MK.out _ (Up.trans (And.left (by assumption)) (by assumption))
      | exact MK.out _ (Up.alloc (And.left (by assumption)) _)
      | exact MK.out _ (Up.trans (Up.alloc (And.left (by assumption)) _) (by assumption)))
      (first
        | (go_at_call 228; refine (WD _).out.mono ?_; rintro e w1 ⟨rfl, hu1⟩))
    all_goals
      obtain ⟨su, s0, s1, s2, s3⟩ : Up W w1 ∧ w1.cell? ⟨w.heap.size, 0, none⟩ = some (.int .u64 id) ∧ w1.cell? ⟨w.heap.size, 1, none⟩ = some (.int .u64 off) ∧ w1.cell? ⟨w.heap.size, 2, none⟩ = some (.int .u32 len) ∧ w1.cell? ⟨w.heap.size, 3, none⟩ = some (.int .u32 run) := by assumption
      go_wp2_with fail;go_ret;exact ⟨ret_int EE.out.symm, HU0.out.trans su⟩
  have b2 : ¬ 6004799503160661 - (wd : Int) < (id : Int) := by omega
  by_cases c3 : 1099511627776 < off
  · have E := H0.out; rw [if_neg c1, if_neg c2, if_pos (by omega)] at E;have EE := Lib.hid E;clear E H0 c1;have b3 : 1099511627776 < (off : Int) := by omega
    clear c2 c3;go_enter Tryz.func183, Tryz.ntmps183;go_wp2_with fail;generalize hW : w.alloc _ = W at *;obtain ⟨c0, c1, c2, c3⟩ := N0.out;have MK := Lib.hid (fun w' (h : Up W w') => (⟨h, h.cell N0.out.1, h.cell N0.out.2.1, h.cell N0.out.2.2.1, h.cell N0.out.2.2.2⟩ : Up W w' ∧ w'.cell? ⟨w.heap.size, 0, none⟩ = some (.int .u64 id) ∧ w'.cell? ⟨w.heap.size, 1, none⟩ = some (.int .u64 off) ∧ w'.cell? ⟨w.heap.size, 2, none⟩ = some (.int .u32 len) ∧ w'.cell? ⟨w.heap.size, 3, none⟩ = some (.int .u32 run)))
    go_region_held3 (fun w' => Up W w' ∧ w'.cell? ⟨w.heap.size, 0, none⟩ = some (.int .u64 id) ∧ w'.cell? ⟨w.heap.size, 1, none⟩ = some (.int .u64 off) ∧ w'.cell? ⟨w.heap.size, 2, none⟩ = some (.int .u32 len) ∧ w'.cell? ⟨w.heap.size, 3, none⟩ = some (.int .u32 run))
      (first
      | assumption
      | exact MK.out _ (Up.refl _)
      | exact MK.out _ (Up.refl _).drew
      | exact MK.out _ (Up.trans (And.left (by assumption)) (by assumption))
      | exact MK.out _ (Up.alloc (And.left (by assumption)) _)
      | exact MK.out _ (Up.trans (Up.alloc (And.left (by assumption)) _) (by assumption)))
      (first
        | (go_at_call 228; refine (WD _).out.mono ?_; rintro e w1 ⟨rfl, hu1⟩))
    all_goals
      obtain ⟨su, s0, s1, s2, s3⟩ : Up W w1 ∧ w1.cell? ⟨w.heap.size, 0, none⟩ = some (.int .u64 id) ∧ w1.cell? ⟨w.heap.size, 1, none⟩ = some (.int .u64 off) ∧ w1.cell? ⟨w.heap.size, 2, none⟩ = some (.int .u32 len) ∧ w1.cell? ⟨w.heap.size, 3, none⟩ = some (.int .u32 run) := by assumption
      go_wp2_with fail;go_ret;exact ⟨ret_int EE.out.symm, HU0.out.trans su⟩
  have b3 : ¬ 1099511627776 < (off : Int) := by omega
  have ED := fun w => ED (by omega) w;by_cases c4 : 1099511627776 < off + len
  · have E := H0.out; rw [if_neg c1, if_neg c2, if_pos c4] at E;have EE := Lib.hid E;clear E H0 c1;have b4 : 1099511627776 < ((off + len : Nat) : Int) := by omega
    generalize off + len = oe at *;clear c2 c3 c4;go_enter Tryz.func183, Tryz.ntmps183;go_wp2_with fail;generalize hW : w.alloc _ = W at *;obtain ⟨c0, c1, c2, c3⟩ := N0.out;have MK := Lib.hid (fun w' (h : Up W w') => (⟨h, h.cell N0.out.1, h.cell N0.out.2.1, h.cell N0.out.2.2.1, h.cell N0.out.2.2.2⟩ : Up W w' ∧ w'.cell? ⟨w.heap.size, 0, none⟩ = some (.int .u64 id) ∧ w'.cell? ⟨w.heap.size, 1, none⟩ = some (.int .u64 off) ∧ w'.cell? ⟨w.heap.size, 2, none⟩ = some (.int .u32 len) ∧ w'.cell? ⟨w.heap.size, 3, none⟩ = some (.int .u32 run)))
    go_region_held3 (fun w' => Up W w' ∧ w'.cell? ⟨w.heap.size, 0, none⟩ = some (.int .u64 id) ∧ w'.cell? ⟨w.heap.size, 1, none⟩ = some (.int .u64 off) ∧ w'.cell? ⟨w.heap.size, 2, none⟩ = some (.int .u32 len) ∧ w'.cell? ⟨w.heap.size, 3, none⟩ = some (.int .u32 run))
      (first
      | assumption
      | exact MK.out _ (Up.refl _)
      | exact MK.out _ (Up.refl _).drew
      | exact MK.out _ (Up.trans (And.left (by assumption)) (by assumption))
      | exact MK.out _ (Up.alloc (And.left (by assumption)) _)
      | exact MK.out _ (Up.trans (Up.alloc (And.left (by assumption)) _) (by assumption)))
      (first
        | (go_at_call 228; refine (WD _).out.mono ?_; rintro e w1 ⟨rfl, hu1⟩))
    all_goals
      obtain ⟨su, s0, s1, s2, s3⟩ : Up W w1 ∧ w1.cell? ⟨w.heap.size, 0, none⟩ = some (.int .u64 id) ∧ w1.cell? ⟨w.heap.size, 1, none⟩ = some (.int .u64 off) ∧ w1.cell? ⟨w.heap.size, 2, none⟩ = some (.int .u32 len) ∧ w1.cell? ⟨w.heap.size, 3, none⟩ = some (.int .u32 run) := by assumption
      go_wp2_with fail;refine (ED _).out.mono ?_;rintro e w2 ⟨rfl, hu2⟩;go_wp2_with fail;go_ret;exact ⟨ret_int EE.out.symm, HU0.out.trans (su.trans hu2)⟩
  · have E := H0.out; rw [if_neg c1, if_neg c2, if_neg c4] at E;have EE := Lib.hid E;clear E H0 c1;have b4 : ¬ 1099511627776 < ((off + len : Nat) : Int) := by omega
    generalize off + len = oe at *;clear c2 c3 c4;go_enter Tryz.func183, Tryz.ntmps183;go_wp2_with fail;generalize hW : w.alloc _ = W at *;obtain ⟨c0, c1, c2, c3⟩ := N0.out;have MK := Lib.hid (fun w' (h : Up W w') => (⟨h, h.cell N0.out.1, h.cell N0.out.2.1, h.cell N0.out.2.2.1, h.cell N0.out.2.2.2⟩ : Up W w' ∧ w'.cell? ⟨w.heap.size, 0, none⟩ = some (.int .u64 id) ∧ w'.cell? ⟨w.heap.size, 1, none⟩ = some (.int .u64 off) ∧ w'.cell? ⟨w.heap.size, 2, none⟩ = some (.int .u32 len) ∧ w'.cell? ⟨w.heap.size, 3, none⟩ = some (.int .u32 run)))
    go_region_held3 (fun w' => Up W w' ∧ w'.cell? ⟨w.heap.size, 0, none⟩ = some (.int .u64 id) ∧ w'.cell? ⟨w.heap.size, 1, none⟩ = some (.int .u64 off) ∧ w'.cell? ⟨w.heap.size, 2, none⟩ = some (.int .u32 len) ∧ w'.cell? ⟨w.heap.size, 3, none⟩ = some (.int .u32 run))
      (first
      | assumption
      | exact MK.out _ (Up.refl _)
      | exact MK.out _ (Up.refl _).drew
      | exact MK.out _ (Up.trans (And.left (by assumption)) (by assumption))
      | exact MK.out _ (Up.alloc (And.left (by assumption)) _)
      | exact MK.out _ (Up.trans (Up.alloc (And.left (by assumption)) _) (by assumption)))
      (first
        | (go_at_call 228; refine (WD _).out.mono ?_; rintro e w1 ⟨rfl, hu1⟩))
    all_goals
      obtain ⟨su, s0, s1, s2, s3⟩ : Up W w1 ∧ w1.cell? ⟨w.heap.size, 0, none⟩ = some (.int .u64 id) ∧ w1.cell? ⟨w.heap.size, 1, none⟩ = some (.int .u64 off) ∧ w1.cell? ⟨w.heap.size, 2, none⟩ = some (.int .u32 len) ∧ w1.cell? ⟨w.heap.size, 3, none⟩ = some (.int .u32 run) := by assumption
      go_wp2_with fail;refine (ED _).out.mono ?_;rintro e w2 ⟨rfl, hu2⟩;go_wp2_with fail;go_ret;exact ⟨ret_int EE.out.symm, HU0.out.trans (su.trans hu2)⟩
set_option maxHeartbeats 1000000 in
theorem may_any (e : Ent) (ho : okE e) (w : World) :
    Calls Tryz.prog 154 #[entA e] w fun en w' => en = .returned (.bool (decide (chkE e = 0))) ∧ Up w w' := by
  have CK := fun w => Lib.hid (chk_any e ho w);have hv : (chkE e == 0) = decide (chkE e = 0) := rfl;generalize chkE e = v at *;have HV := Lib.hid hv;clear hv;obtain ⟨id, off, len, run⟩ := e;obtain ⟨h1, h2, h3, h4⟩ := ho;simp only [entA] at *;have n0 := new4 w 148 (.int .u64 id) (.int .u64 off) (.int .u32 len) (.int .u32 run);have HU0 := Lib.hid n0.1;have N0 := Lib.hid n0.2;clear n0;go_enter Tryz.func154, Tryz.ntmps154;go_wp2_with fail;refine (CK _).out.mono ?_;rintro e w1 ⟨rfl, hu1⟩;go_wp2_with fail;go_ret;exact ⟨ret_bool HV.out, HU0.out.trans hu1⟩
set_option maxHeartbeats 1000000 in
theorem last_any (e : Ent) (ho : okE e) (w : World) :
    Calls Tryz.prog 155 #[entA e] w fun en w' => en = .returned (.int .u64 (lastE e)) ∧ Up w w' := by
  have MY := fun w => Lib.hid (may_any e ho w);have WD := fun w => Lib.hid (wide_any e ho w);have hw : 1 ≤ wideE e ∧ wideE e < 4294967296 := by have := ho.2.2.2; unfold wideE; omega
  have h0 : lastE e = if chkE e = 0 then e.id + wideE e - 1 else 0 := rfl
  have hid : chkE e = 0 → e.id + wideE e ≤ 6004799503160661 := fun h => (chk_ok h).2.1;generalize lastE e = v at *;generalize wideE e = wd at *;by_cases hc : chkE e = 0
  · rw [if_pos hc] at h0;have hid := hid hc;rw [decide_eq_true hc] at MY;clear hc;obtain ⟨id, off, len, run⟩ := e;obtain ⟨h1, h2, h3, h4⟩ := ho;simp only [entA] at *;have n0 := new4 w 148 (.int .u64 id) (.int .u64 off) (.int .u32 len) (.int .u32 run);have HU0 := Lib.hid n0.1;have N0 := Lib.hid n0.2;have H0 := Lib.hid h0;have e1 : IntKind.u64.wrap ((id : Int) + (wd : Int)) = (id : Int) + (wd : Int) := IntWalk.u64_in _ (by omega);have e2 : IntKind.u64.wrap ((id : Int) + (wd : Int) - 1) = (id : Int) + (wd : Int) - 1 := IntWalk.u64_in _ (by omega);clear n0 h0;go_enter Tryz.func155, Tryz.ntmps155;go_wp2_with fail;refine (MY _).out.mono ?_;rintro e w0 ⟨rfl, hu0⟩;obtain ⟨c0, c1, c2, c3⟩ := N0.out;replace c0 := hu0.cell c0;replace c1 := hu0.cell c1;replace c2 := hu0.cell c2;replace c3 := hu0.cell c3;have HU1 := Lib.hid (HU0.out.trans hu0);clear N0 HU0 hu0;go_wp2_with fail;have N0 := Lib.hid (And.intro c0 (And.intro c1 (And.intro c2 c3)));generalize w0 = W at *;have MK := Lib.hid (fun w' (h : Up W w') => (⟨h, h.cell N0.out.1, h.cell N0.out.2.1, h.cell N0.out.2.2.1, h.cell N0.out.2.2.2⟩ : Up W w' ∧ w'.cell? ⟨w.heap.size, 0, none⟩ = some (.int .u64 id) ∧ w'.cell? ⟨w.heap.size, 1, none⟩ = some (.int .u64 off) ∧ w'.cell? ⟨w.heap.size, 2, none⟩ = some (.int .u32 len) ∧ w'.cell? ⟨w.heap.size, 3, none⟩ = some (.int .u32 run)))
    go_region_held3 (fun w' => Up W w' ∧ w'.cell? ⟨w.heap.size, 0, none⟩ = some (.int .u64 id) ∧ w'.cell? ⟨w.heap.size, 1, none⟩ = some (.int .u64 off) ∧ w'.cell? ⟨w.heap.size, 2, none⟩ = some (.int .u32 len) ∧ w'.cell? ⟨w.heap.size, 3, none⟩ = some (.int .u32 run))
      (first
      | assumption
      | exact MK.out _ (Up.refl _)
      | exact MK.out _ (Up.refl _).drew
      | exact MK.out _ (Up.trans (And.left (by assumption)) (by assumption))
      | exact MK.out _ (Up.alloc (And.left (by assumption)) _)
      | exact MK.out _ (Up.trans (Up.alloc (And.left (by assumption)) _) (by assumption)))
      (first
        | (go_at_call 228; refine (WD _).out.mono ?_; rintro e w1 ⟨rfl, hu1⟩))
    all_goals
      obtain ⟨su, s0, s1, s2, s3⟩ : Up W w1 ∧ w1.cell? ⟨w.heap.size, 0, none⟩ = some (.int .u64 id) ∧ w1.cell? ⟨w.heap.size, 1, none⟩ = some (.int .u64 off) ∧ w1.cell? ⟨w.heap.size, 2, none⟩ = some (.int .u32 len) ∧ w1.cell? ⟨w.heap.size, 3, none⟩ = some (.int .u32 run) := by assumption
      go_wp2_with fail;go_ret;exact ⟨ret_int (by rw [H0.out]; omega), HU1.out.trans su⟩
  · rw [if_neg hc] at h0;rw [decide_eq_false hc] at MY;have H0 := Lib.hid h0;clear hc h0 hid;obtain ⟨id, off, len, run⟩ := e;simp only [entA] at *;have n0 := new4 w 148 (.int .u64 id) (.int .u64 off) (.int .u32 len) (.int .u32 run);have HU0 := Lib.hid n0.1;clear n0;go_enter Tryz.func155, Tryz.ntmps155;go_wp2_with fail;refine (MY _).out.mono ?_;rintro e w0 ⟨rfl, hu0⟩;go_wp2_with fail;go_ret;exact ⟨ret_int (by rw [H0.out]; rfl), HU0.out.trans hu0⟩
set_option maxHeartbeats 1000000 in
theorem has_any (e : Ent) (ho : okE e) (x : Nat) (w : World) :
    Calls Tryz.prog 72 #[entA e, .int .u64 x] w fun en w' => en = .returned (.bool (hasE e x)) ∧ Up w w' := by
  have MY := fun w => Lib.hid (may_any e ho w);have LS := fun w => Lib.hid (last_any e ho w);have h0 : hasE e x = (decide (chkE e = 0) && decide (0 < e.run) && decide (e.id ≤ x) && decide (x ≤ lastE e)) := rfl;generalize hasE e x = v at *;generalize lastE e = la at *;obtain ⟨mb, hmb⟩ : ∃ mb, decide (chkE e = 0) = mb := ⟨_, rfl⟩;rw [hmb] at MY h0;clear hmb;obtain ⟨id, off, len, run⟩ := e;obtain ⟨h1, h2, h3, h4⟩ := ho;simp only [entA] at *;have n0 := new4 w 148 (.int .u64 id) (.int .u64 off) (.int .u32 len) (.int .u32 run);have HU0 := Lib.hid n0.1;have N0 := Lib.hid n0.2;clear n0;have HZ := Lib.hid h0;clear h0;cases mb
  · go_enter Tryz.func72, Tryz.ntmps72;go_wp2_with fail;refine (MY _).out.mono ?_;rintro e w1 ⟨rfl, hu1⟩;go_wp2_with fail;go_ret;exact ⟨ret_bool (by rw [HZ.out]; rfl), HU0.out.trans hu1⟩
  have key : (∀ (hr : ¬ 0 < run), v = false) ∧ (∀ (hr : 0 < run) (hi : ¬ id ≤ x), v = false) ∧ (∀ (hr : 0 < run) (hi : id ≤ x), v = decide (x ≤ la)) := by
    have h := HZ.out;refine ⟨fun hr => ?_, fun hr hi => ?_, fun hr hi => ?_⟩
    · rw [h, decide_eq_false hr]; rfl
    · rw [h, decide_eq_true hr, decide_eq_false hi]; rfl
    · rw [h, decide_eq_true hr, decide_eq_true hi]; rfl
  have KEY := Lib.hid key;clear key;by_cases hr : 0 < run
  · by_cases hi : id ≤ x
    · have E := Lib.hid (KEY.out.2.2 hr hi);have hrI : (0 : Int) < (run : Int) := by omega
      have hiI : (id : Int) ≤ (x : Int) := by omega
      clear hr hi KEY HZ;go_enter Tryz.func72, Tryz.ntmps72;go_wp2_with fail;refine (MY _).out.mono ?_;rintro e w1 ⟨rfl, hu1⟩;obtain ⟨c0, c1, c2, c3⟩ := N0.out;replace c0 := hu1.cell c0;replace c1 := hu1.cell c1;replace c2 := hu1.cell c2;replace c3 := hu1.cell c3;clear N0;go_wp2_with fail;refine (LS _).out.mono ?_;rintro e w2 ⟨rfl, hu2⟩;go_wp2_with fail;go_ret;refine ⟨ret_bool ?_, HU0.out.trans (hu1.trans hu2)⟩;rw [E.out]
    · have E := Lib.hid (KEY.out.2.1 hr hi);have hrI : (0 : Int) < (run : Int) := by omega
      have hiI : ¬ (id : Int) ≤ (x : Int) := by omega
      clear hr hi KEY HZ;go_enter Tryz.func72, Tryz.ntmps72;go_wp2_with fail;refine (MY _).out.mono ?_;rintro e w1 ⟨rfl, hu1⟩;obtain ⟨c0, c1, c2, c3⟩ := N0.out;replace c0 := hu1.cell c0;replace c1 := hu1.cell c1;replace c2 := hu1.cell c2;replace c3 := hu1.cell c3;clear N0;go_wp2_with fail;go_ret;exact ⟨ret_bool E.out.symm, HU0.out.trans hu1⟩
  · have E := Lib.hid (KEY.out.1 hr);have hrI : ¬ (0 : Int) < (run : Int) := by omega
    clear hr KEY HZ;go_enter Tryz.func72, Tryz.ntmps72;go_wp2_with fail;refine (MY _).out.mono ?_;rintro e w1 ⟨rfl, hu1⟩;obtain ⟨c0, c1, c2, c3⟩ := N0.out;replace c0 := hu1.cell c0;replace c1 := hu1.cell c1;replace c2 := hu1.cell c2;replace c3 := hu1.cell c3;clear N0;go_wp2_with fail;go_ret;exact ⟨ret_bool E.out.symm, HU0.out.trans hu1⟩
theorem Rd.ent {w : World} {l : Ents} {A : Option Addr} {c : Nat} (h : Rd w 4 A l.length c (entV l)) {k : Nat} (hk : k < l.length) : ∃ b o, A = some ⟨b, o, none⟩ ∧ w.cell? ⟨b, o + k * 4, none⟩ = some (.int .u64 (l[k].id : Int)) ∧ w.cell? ⟨b, o + k * 4 + 1, none⟩ = some (.int .u64 (l[k].off : Int)) ∧
    w.cell? ⟨b, o + k * 4 + 2, none⟩ = some (.int .u32 (l[k].len : Int)) ∧ w.cell? ⟨b, o + k * 4 + 3, none⟩ = some (.int .u32 (l[k].run : Int)) := by
  obtain ⟨b, o, e, hc⟩ := h.2.2.2.2 (by omega);obtain ⟨g0, g1, g2, g3⟩ := entV_get l k hk;exact ⟨b, o, e, hc _ _ g0, by have := hc _ _ g1; rwa [← Nat.add_assoc] at this, by have := hc _ _ g2; rwa [← Nat.add_assoc] at this, by have := hc _ _ g3; rwa [← Nat.add_assoc] at this⟩
set_option maxHeartbeats 2000000 in
theorem row_any (l : Ents) (hok : ∀ e ∈ l, okE e) (hl : l.length ≤ 1000000) (A : Option Addr) (c : Nat) (w : World) (hr : Rd w 4 A l.length c (entV l)) :
    Calls Tryz.prog 110 #[.slice A l.length c] w fun e w' => e = .returned (.int .i64 (rowE l)) ∧ Up w w' := by
  have HR := Lib.hid hr;have HO := Lib.hid hok;clear hr hok;by_cases hbig : 4096 < l.length
  · have e : rowE l = 21 := by unfold rowE; rw [if_pos hbig]
    rw [e];have h' : (4096 : Int) < (l.length : Int) := by omega
    go_enter Tryz.func110, Tryz.ntmps110;go_wp2_with fail;go_ret;exact ⟨rfl, Up.refl w⟩
  have h0 : rowE l = rowGo 0 l := by unfold rowE; rw [if_neg hbig]
  rw [h0];have h' : ¬ (4096 : Int) < (l.length : Int) := by omega
  generalize hT : rowGo 0 l = T at *;have HT := Lib.hid hT;clear hT h0;go_enter Tryz.func110, Tryz.ntmps110;go_wp2_with fail;go_loopg [3, 12] l.length (fun gk fr i wr => ∃ k f : Nat, k + gk = l.length ∧ i = .int .i64 k ∧ fr = .int .u64 f ∧ f ≤ 6004799503160662 ∧ rowGo f (l.drop k) = T ∧ Up w wr)
  case atStart => exact ⟨0, 0, by omega, rfl, rfl, by omega, by simpa using HT.out, Up.refl w⟩
  case round =>
    obtain ⟨k, f, hk, rfl, rfl, hf, hd, hu⟩ := hrel;have HU := Lib.hid hu;by_cases hlt : k < l.length
    · obtain ⟨m, rfl⟩ : ∃ m, gk = m + 1 := ⟨gk - 1, by omega⟩;obtain ⟨B, o, rfl, d0, d1, d2, d3⟩ := (HR.out.up hu).ent hlt;rw [List.drop_eq_getElem_cons hlt] at hd;have ho := HO.out l[k] (List.getElem_mem hlt);obtain ⟨x, hx⟩ : ∃ x, l[k]'hlt = x := ⟨_, rfl⟩;rw [hx] at d0 d1 d2 d3 hd ho;have CK := fun w => Lib.hid (chk_any x ho w);have LS := fun w => Lib.hid (last_any x ho w);have hstep : (chkE x ≠ 0 → T = chkE x) ∧ (chkE x = 0 → x.id < f → T = 10) ∧ (chkE x = 0 → ¬ x.id < f → rowGo (lastE x + 1) (l.drop (k + 1)) = T ∧ lastE x + 1 ≤ 6004799503160662) := by
        unfold rowGo at hd;refine ⟨fun h => ?_, fun h h2 => ?_, fun h h2 => ?_⟩
        · rw [if_pos h] at hd; exact hd.symm
        · rw [if_neg (by omega), if_pos h2] at hd; exact hd.symm
        · rw [if_neg (by omega), if_neg h2] at hd;refine ⟨hd, ?_⟩;have h3 := chk_ok h;rw [last_ok h]; omega
      have HS := Lib.hid hstep;have hltI : (k : Int) < (l.length : Int) := by omega
      generalize chkE x = cv at *;generalize lastE x = la at *;obtain ⟨id, off, len, run⟩ := x;simp only [entA] at *;clear hd hstep hx ho hu;have n0 := new4 wr 148 (.int .u64 id) (.int .u64 off) (.int .u32 len) (.int .u32 run);have HU1 := Lib.hid (HU.out.trans n0.1);have N0 := Lib.hid n0.2;clear n0;by_cases hc : cv = 0
      · subst hc;by_cases hlf : id < f
        · have E := Lib.hid (HS.out.2.1 rfl hlf);have hlfI : (id : Int) < (f : Int) := by omega
          clear hlf HS;go_wp2_with fail;refine (CK _).out.mono ?_;rintro e w1 ⟨rfl, hu1⟩;have c0 := hu1.cell N0.out.1;go_wp2_with fail;go_ret;exact ⟨ret_int E.out.symm, HU1.out.trans hu1⟩
        · obtain ⟨hd, hle⟩ := HS.out.2.2 rfl hlf;have HD := Lib.hid hd;have hlfI : ¬ (id : Int) < (f : Int) := by omega
          have e1 : IntKind.u64.wrap ((la : Int) + 1) = (la : Int) + 1 := IntWalk.u64_in _ (by omega);clear hd HS;go_wp2_with fail;refine (CK _).out.mono ?_;rintro e w1 ⟨rfl, hu1⟩;obtain ⟨c0, c1, c2, c3⟩ := N0.out;replace c0 := hu1.cell c0;replace c1 := hu1.cell c1;replace c2 := hu1.cell c2;replace c3 := hu1.cell c3;have HU2 := Lib.hid (HU1.out.trans hu1);clear N0 hu1;go_wp2_with fail;refine (LS _).out.mono ?_;rintro e w2 ⟨rfl, hu2⟩;go_wp2_with fail;go_roundg m
          case measure => omega
          case rel => exact ⟨k + 1, la + 1, by omega, by go_num, by go_num, hle, HD.out, HU2.out.trans hu2⟩
      · have E := Lib.hid (HS.out.1 hc);have hb : (cv != 0) = true := by rw [bne_iff_ne]; exact hc
        clear hc HS;go_wp2_with fail;refine (CK _).out.mono ?_;rintro e w1 ⟨rfl, hu1⟩;go_wp2_with fail;go_ret;exact ⟨ret_int E.out.symm, HU1.out.trans hu1⟩
    · obtain rfl : k = l.length := by omega
      rw [List.drop_length] at hd;have hd : T = 0 := hd.symm;subst hd;clear hlt;go_wp2_with fail;go_ret;exact ⟨rfl, HU.out⟩
end Go.Proofs.YtjhgaildbeokkaaGreatDoor
