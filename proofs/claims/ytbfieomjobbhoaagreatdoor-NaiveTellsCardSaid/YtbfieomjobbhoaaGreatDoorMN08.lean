/- Walks: entries of directories: wide, Check, Last, Has, Row. -/
import Derived.Test.YtbfieomjobbhoaaGreatDoorMN01
import Derived.Test.YtbfieomjobbhoaaGreatDoorMN04
namespace Go.Gz
/-- an entry as a value -/
def entA (e : Ent) : Value := .agg #[.int .u64 (e.id : Int), .int .u64 (e.off : Int), .int .u32 (e.len : Int), .int .u32 (e.run : Int)]
end Go.Gz
namespace Go.Proofs.YtbfieomjobbhoaaGreatDoor
open Go.RowKit Go.Gz

set_option maxRecDepth 100000
/-- a new block of four cells -/
theorem new4 (w : World) (t : TypeId) (a b c d : Value) : Up w (w.alloc (.cells #[a, b, c, d] t)) ∧ (w.alloc (.cells #[a, b, c, d] t)).cell? ⟨w.heap.size, 0, none⟩ = some a ∧ (w.alloc (.cells #[a, b, c, d] t)).cell? ⟨w.heap.size, 1, none⟩ = some b ∧
    (w.alloc (.cells #[a, b, c, d] t)).cell? ⟨w.heap.size, 2, none⟩ = some c ∧ (w.alloc (.cells #[a, b, c, d] t)).cell? ⟨w.heap.size, 3, none⟩ = some d := by
  have hb := heap_alloc_new w (.cells #[a, b, c, d] t);exact ⟨(Up.refl _).alloc _, cell_of_row _ w.heap.size 0 _ _ _ hb, cell_of_row _ w.heap.size 1 _ _ _ hb, cell_of_row _ w.heap.size 2 _ _ _ hb, cell_of_row _ w.heap.size 3 _ _ _ hb⟩
theorem wide_any (e : Ent) (ho : okE e) (w : World) :
    Calls Tryz.prog 131 #[entA e] w fun en w' => en = .returned (.int .u64 (wideE e)) ∧ Up w w' := by
  obtain ⟨id, off, len, run⟩ := e;obtain ⟨h1, h2, h3, h4⟩ := ho;simp only [entA] at *;have h0 : (wideE ⟨id, off, len, run⟩ : Nat) = max 1 run := rfl;generalize wideE ⟨id, off, len, run⟩ = v at *;have H0 := Lib.hid h0;clear h0;go_enter Tryz.func131, Tryz.ntmps131;go_wp2_with fail;go_ret;refine ⟨ret_int ?_, (Up.refl w).alloc _⟩;rw [H0.out];omega
theorem end_any (e : Ent) (h : e.off ≤ 1099511627776) (ho : okE e) (w : World) :
    Calls Tryz.prog 184 #[entA e] w fun en w' => en = .returned (.int .u64 ((e.off + e.len : Nat) : Int)) ∧ Up w w' := by
  obtain ⟨id, off, len, run⟩ := e;obtain ⟨h1, h2, h3, h4⟩ := ho;simp only [entA] at *;have e1 : IntKind.u64.wrap ((off : Int) + (len : Int)) = (off : Int) + (len : Int) := IntWalk.u64_in _ (by omega);go_enter Tryz.func184, Tryz.ntmps184;go_wp2_with fail;go_ret;exact ⟨ret_int (by omega), (Up.refl w).alloc _⟩
set_option maxHeartbeats 1000000 in
theorem chk_any (e : Ent) (ho : okE e) (w : World) :
    Calls Tryz.prog 128 #[entA e] w fun en w' => en = .returned (.int .i64 (chkE e)) ∧ Up w w' := by
  have WD := fun w => Lib.hid (wide_any e ho w);have ED := fun h w => Lib.hid (end_any e h ho w);have h0 : chkE e = if e.len = 0 then 2 else if 6004799503160661 < e.id + wideE e then 8 else if 1099511627776 < e.off + e.len then 8 else 0 := rfl
  have hw : 1 ≤ wideE e ∧ wideE e < 4294967296 := by have := ho.2.2.2; unfold wideE; omega
  generalize chkE e = v at *;generalize wideE e = wd at *;obtain ⟨id, off, len, run⟩ := e;obtain ⟨h1, h2, h3, h4⟩ := ho;simp only [entA] at *;have H0 := Lib.hid h0;have n0 := new4 w 84 (.int .u64 id) (.int .u64 off) (.int .u32 len) (.int .u32 run);have HU0 := Lib.hid n0.1;have N0 := Lib.hid n0.2;clear h0 n0;by_cases c1 : len = 0
  · have E := H0.out; rw [if_pos c1] at E;have EE := Lib.hid E;clear E H0;subst c1;go_enter Tryz.func128, Tryz.ntmps128;go_wp2_with fail;go_ret;exact ⟨ret_int EE.out.symm, (Up.refl w).alloc _⟩
  have b1 : ((len : Int) == 0) = false := by rw [beq_eq_false_iff_ne]; omega
  have e1 : IntKind.u64.wrap (6004799503160661 - (wd : Int)) = 6004799503160661 - (wd : Int) := IntWalk.u64_in _ (by omega);by_cases c2 : 6004799503160661 < id + wd
  · have E := H0.out; rw [if_neg c1, if_pos c2] at E;have EE := Lib.hid E;clear E H0 c1;have b2 : 6004799503160661 - (wd : Int) < (id : Int) := by omega
    clear c2;go_enter Tryz.func128, Tryz.ntmps128;go_wp2_with fail;generalize hW : w.alloc _ = W at *;obtain ⟨c0, c1, c2, c3⟩ := N0.out;have MK := Lib.hid (fun w' (h : Up W w') => (⟨h, h.cell N0.out.1, h.cell N0.out.2.1, h.cell N0.out.2.2.1, h.cell N0.out.2.2.2⟩ : Up W w' ∧ w'.cell? ⟨w.heap.size, 0, none⟩ = some (.int .u64 id) ∧ w'.cell? ⟨w.heap.size, 1, none⟩ = some (.int .u64 off) ∧ w'.cell? ⟨w.heap.size, 2, none⟩ = some (.int .u32 len) ∧ w'.cell? ⟨w.heap.size, 3, none⟩ = some (.int .u32 run)))
    go_region_held3 (fun w' => Up W w' ∧ w'.cell? ⟨w.heap.size, 0, none⟩ = some (.int .u64 id) ∧ w'.cell? ⟨w.heap.size, 1, none⟩ = some (.int .u64 off) ∧ w'.cell? ⟨w.heap.size, 2, none⟩ = some (.int .u32 len) ∧ w'.cell? ⟨w.heap.size, 3, none⟩ = some (.int .u32 run))
      (first
      | assumption
      | exact MK.out _ (Up.refl _)
      | exact MK.out _ (Up.refl _).drew
      | exact MK.out _ (Up.trans (And.left (by assumption)) (by assumption))
      | exact MK.out _ (Up.alloc (And.left (by assumption)) _)
      | exact MK.out _ (Up.trans (Up.alloc (And.left (by assumption)) _) (by assumption)))
      (first
        | (go_at_call 131; refine (WD _).out.mono ?_; rintro e w1 ⟨rfl, hu1⟩))
    all_goals
      obtain ⟨su, s0, s1, s2, s3⟩ : Up W w1 ∧ w1.cell? ⟨w.heap.size, 0, none⟩ = some (.int .u64 id) ∧ w1.cell? ⟨w.heap.size, 1, none⟩ = some (.int .u64 off) ∧ w1.cell? ⟨w.heap.size, 2, none⟩ = some (.int .u32 len) ∧ w1.cell? ⟨w.heap.size, 3, none⟩ = some (.int .u32 run) := by assumption
      go_wp2_with fail;go_ret;exact ⟨ret_int EE.out.symm, HU0.out.trans su⟩
  have b2 : ¬ 6004799503160661 - (wd : Int) < (id : Int) := by omega
  by_cases c3 : 1099511627776 < off
  · have E := H0.out; rw [if_neg c1, if_neg c2, if_pos (by omega)] at E;have EE := Lib.hid E;clear E H0 c1;have b3 : 1099511627776 < (off : Int) := by omega
    clear c2 c3;go_enter Tryz.func128, Tryz.ntmps128;go_wp2_with fail;generalize hW : w.alloc _ = W at *;obtain ⟨c0, c1, c2, c3⟩ := N0.out;have MK := Lib.hid (fun w' (h : Up W w') => (⟨h, h.cell N0.out.1, h.cell N0.out.2.1, h.cell N0.out.2.2.1, h.cell N0.out.2.2.2⟩ : Up W w' ∧ w'.cell? ⟨w.heap.size, 0, none⟩ = some (.int .u64 id) ∧ w'.cell? ⟨w.heap.size, 1, none⟩ = some (.int .u64 off) ∧ w'.cell? ⟨w.heap.size, 2, none⟩ = some (.int .u32 len) ∧ w'.cell? ⟨w.heap.size, 3, none⟩ = some (.int .u32 run)))
    go_region_held3 (fun w' => Up W w' ∧ w'.cell? ⟨w.heap.size, 0, none⟩ = some (.int .u64 id) ∧ w'.cell? ⟨w.heap.size, 1, none⟩ = some (.int .u64 off) ∧ w'.cell? ⟨w.heap.size, 2, none⟩ = some (.int .u32 len) ∧ w'.cell? ⟨w.heap.size, 3, none⟩ = some (.int .u32 run))
      (first
      | assumption
      | exact MK.out _ (Up.refl _)
      | exact MK.out _ (Up.refl _).drew
      | exact MK.out _ (Up.trans (And.left (by assumption)) (by assumption))
      | exact MK.out _ (Up.alloc (And.left (by assumption)) _)
      | exact MK.out _ (Up.trans (Up.alloc (And.left (by assumption)) _) (by assumption)))
      (first
        | (go_at_call 131; refine (WD _).out.mono ?_; rintro e w1 ⟨rfl, hu1⟩))
    all_goals
      obtain ⟨su, s0, s1, s2, s3⟩ : Up W w1 ∧ w1.cell? ⟨w.heap.size, 0, none⟩ = some (.int .u64 id) ∧ w1.cell? ⟨w.heap.size, 1, none⟩ = some (.int .u64 off) ∧ w1.cell? ⟨w.heap.size, 2, none⟩ = some (.int .u32 len) ∧ w1.cell? ⟨w.heap.size, 3, none⟩ = some (.int .u32 run) := by assumption
      go_wp2_with fail;go_ret;exact ⟨ret_int EE.out.symm, HU0.out.trans su⟩
  have b3 : ¬ 1099511627776 < (off : Int) := by omega
  have ED := fun w => ED (by omega) w;by_cases c4 : 1099511627776 < off + len
  · have E := H0.out; rw [if_neg c1, if_neg c2, if_pos c4] at E;have EE := Lib.hid E;clear E H0 c1;have b4 : 1099511627776 < ((off + len : Nat) : Int) := by omega
    generalize off + len = oe at *;clear c2 c3 c4;go_enter Tryz.func128, Tryz.ntmps128;go_wp2_with fail;generalize hW : w.alloc _ = W at *;obtain ⟨c0, c1, c2, c3⟩ := N0.out;have MK := Lib.hid (fun w' (h : Up W w') => (⟨h, h.cell N0.out.1, h.cell N0.out.2.1, h.cell N0.out.2.2.1, h.cell N0.out.2.2.2⟩ : Up W w' ∧ w'.cell? ⟨w.heap.size, 0, none⟩ = some (.int .u64 id) ∧ w'.cell? ⟨w.heap.size, 1, none⟩ = some (.int .u64 off) ∧ w'.cell? ⟨w.heap.size, 2, none⟩ = some (.int .u32 len) ∧ w'.cell? ⟨w.heap.size, 3, none⟩ = some (.int .u32 run)))
    go_region_held3 (fun w' => Up W w' ∧ w'.cell? ⟨w.heap.size, 0, none⟩ = some (.int .u64 id) ∧ w'.cell? ⟨w.heap.size, 1, none⟩ = some (.int .u64 off) ∧ w'.cell? ⟨w.heap.size, 2, none⟩ = some (.int .u32 len) ∧ w'.cell? ⟨w.heap.size, 3, none⟩ = some (.int .u32 run))
      (first
      | assumption
      | exact MK.out _ (Up.refl _)
      | exact MK.out _ (Up.refl _).drew
      | exact MK.out _ (Up.trans (And.left (by assumption)) (by assumption))
      | exact MK.out _ (Up.alloc (And.left (by assumption)) _)
      | exact MK.out _ (Up.trans (Up.alloc (And.left (by assumption)) _) (by assumption)))
      (first
        | (go_at_call 131; refine (WD _).out.mono ?_; rintro e w1 ⟨rfl, hu1⟩))
    all_goals
      obtain ⟨su, s0, s1, s2, s3⟩ : Up W w1 ∧ w1.cell? ⟨w.heap.size, 0, none⟩ = some (.int .u64 id) ∧ w1.cell? ⟨w.heap.size, 1, none⟩ = some (.int .u64 off) ∧ w1.cell? ⟨w.heap.size, 2, none⟩ = some (.int .u32 len) ∧ w1.cell? ⟨w.heap.size, 3, none⟩ = some (.int .u32 run) := by assumption
      go_wp2_with fail;refine (ED _).out.mono ?_;rintro e w2 ⟨rfl, hu2⟩;go_wp2_with fail;go_ret;exact ⟨ret_int EE.out.symm, HU0.out.trans (su.trans hu2)⟩
  · have E := H0.out; rw [if_neg c1, if_neg c2, if_neg c4] at E;have EE := Lib.hid E;clear E H0 c1;have b4 : ¬ 1099511627776 < ((off + len : Nat) : Int) := by omega
    generalize off + len = oe at *;clear c2 c3 c4;go_enter Tryz.func128, Tryz.ntmps128;go_wp2_with fail;generalize hW : w.alloc _ = W at *;obtain ⟨c0, c1, c2, c3⟩ := N0.out;have MK := Lib.hid (fun w' (h : Up W w') => (⟨h, h.cell N0.out.1, h.cell N0.out.2.1, h.cell N0.out.2.2.1, h.cell N0.out.2.2.2⟩ : Up W w' ∧ w'.cell? ⟨w.heap.size, 0, none⟩ = some (.int .u64 id) ∧ w'.cell? ⟨w.heap.size, 1, none⟩ = some (.int .u64 off) ∧ w'.cell? ⟨w.heap.size, 2, none⟩ = some (.int .u32 len) ∧ w'.cell? ⟨w.heap.size, 3, none⟩ = some (.int .u32 run)))
    go_region_held3 (fun w' => Up W w' ∧ w'.cell? ⟨w.heap.size, 0, none⟩ = some (.int .u64 id) ∧ w'.cell? ⟨w.heap.size, 1, none⟩ = some (.int .u64 off) ∧ w'.cell? ⟨w.heap.size, 2, none⟩ = some (.int .u32 len) ∧ w'.cell? ⟨w.heap.size, 3, none⟩ = some (.int .u32 run))
      (first
      | assumption
      | exact MK.out _ (Up.refl _)
      | exact MK.out _ (Up.refl _).drew
      | exact MK.out _ (Up.trans (And.left (by assumption)) (by assumption))
      | exact MK.out _ (Up.alloc (And.left (by assumption)) _)
      | exact MK.out _ (Up.trans (Up.alloc (And.left (by assumption)) _) (by assumption)))
      (first
        | (go_at_call 131; refine (WD _).out.mono ?_; rintro e w1 ⟨rfl, hu1⟩))
    all_goals
      obtain ⟨su, s0, s1, s2, s3⟩ : Up W w1 ∧ w1.cell? ⟨w.heap.size, 0, none⟩ = some (.int .u64 id) ∧ w1.cell? ⟨w.heap.size, 1, none⟩ = some (.int .u64 off) ∧ w1.cell? ⟨w.heap.size, 2, none⟩ = some (.int .u32 len) ∧ w1.cell? ⟨w.heap.size, 3, none⟩ = some (.int .u32 run) := by assumption
      go_wp2_with fail;refine (ED _).out.mono ?_;rintro e w2 ⟨rfl, hu2⟩;go_wp2_with fail;go_ret;exact ⟨ret_int EE.out.symm, HU0.out.trans (su.trans hu2)⟩
set_option maxHeartbeats 1000000 in
theorem may_any (e : Ent) (ho : okE e) (w : World) :
    Calls Tryz.prog 72 #[entA e] w fun en w' => en = .returned (.bool (decide (chkE e = 0))) ∧ Up w w' := by
  have CK := fun w => Lib.hid (chk_any e ho w);have hv : (chkE e == 0) = decide (chkE e = 0) := rfl;generalize chkE e = v at *;have HV := Lib.hid hv;clear hv;obtain ⟨id, off, len, run⟩ := e;obtain ⟨h1, h2, h3, h4⟩ := ho;simp only [entA] at *;have n0 := new4 w 84 (.int .u64 id) (.int .u64 off) (.int .u32 len) (.int .u32 run);have HU0 := Lib.hid n0.1;have N0 := Lib.hid n0.2;clear n0;go_enter Tryz.func72, Tryz.ntmps72;go_wp2_with fail;refine (CK _).out.mono ?_;rintro e w1 ⟨rfl, hu1⟩;go_wp2_with fail;go_ret;exact ⟨ret_bool HV.out, HU0.out.trans hu1⟩
set_option maxHeartbeats 1000000 in
theorem last_any (e : Ent) (ho : okE e) (w : World) :
    Calls Tryz.prog 73 #[entA e] w fun en w' => en = .returned (.int .u64 (lastE e)) ∧ Up w w' := by
  have MY := fun w => Lib.hid (may_any e ho w);have WD := fun w => Lib.hid (wide_any e ho w);have hw : 1 ≤ wideE e ∧ wideE e < 4294967296 := by have := ho.2.2.2; unfold wideE; omega
  have h0 : lastE e = if chkE e = 0 then e.id + wideE e - 1 else 0 := rfl
  have hid : chkE e = 0 → e.id + wideE e ≤ 6004799503160661 := fun h => (chk_ok h).2.1;generalize lastE e = v at *;generalize wideE e = wd at *;by_cases hc : chkE e = 0
  · rw [if_pos hc] at h0;have hid := hid hc;rw [decide_eq_true hc] at MY;clear hc;obtain ⟨id, off, len, run⟩ := e;obtain ⟨h1, h2, h3, h4⟩ := ho;simp only [entA] at *;have n0 := new4 w 84 (.int .u64 id) (.int .u64 off) (.int .u32 len) (.int .u32 run);have HU0 := Lib.hid n0.1;have N0 := Lib.hid n0.2;have H0 := Lib.hid h0;have e1 : IntKind.u64.wrap ((id : Int) + (wd : Int)) = (id : Int) + (wd : Int) := IntWalk.u64_in _ (by omega);have e2 : IntKind.u64.wrap ((id : Int) + (wd : Int) - 1) = (id : Int) + (wd : Int) - 1 := IntWalk.u64_in _ (by omega);clear n0 h0;go_enter Tryz.func73, Tryz.ntmps73;go_wp2_with fail;refine (MY _).out.mono ?_;rintro e w0 ⟨rfl, hu0⟩;obtain ⟨c0, c1, c2, c3⟩ := N0.out;replace c0 := hu0.cell c0;replace c1 := hu0.cell c1;replace c2 := hu0.cell c2;replace c3 := hu0.cell c3;have HU1 := Lib.hid (HU0.out.trans hu0);clear N0 HU0 hu0;go_wp2_with fail;have N0 := Lib.hid (And.intro c0 (And.intro c1 (And.intro c2 c3)));generalize w0 = W at *;have MK := Lib.hid (fun w' (h : Up W w') => (⟨h, h.cell N0.out.1, h.cell N0.out.2.1, h.cell N0.out.2.2.1, h.cell N0.out.2.2.2⟩ : Up W w' ∧ w'.cell? ⟨w.heap.size, 0, none⟩ = some (.int .u64 id) ∧ w'.cell? ⟨w.heap.size, 1, none⟩ = some (.int .u64 off) ∧ w'.cell? ⟨w.heap.size, 2, none⟩ = some (.int .u32 len) ∧ w'.cell? ⟨w.heap.size, 3, none⟩ = some (.int .u32 run)))
    go_region_held3 (fun w' => Up W w' ∧ w'.cell? ⟨w.heap.size, 0, none⟩ = some (.int .u64 id) ∧ w'.cell? ⟨w.heap.size, 1, none⟩ = some (.int .u64 off) ∧ w'.cell? ⟨w.heap.size, 2, none⟩ = some (.int .u32 len) ∧ w'.cell? ⟨w.heap.size, 3, none⟩ = some (.int .u32 run))
      (first
      | assumption
      | exact MK.out _ (Up.refl _)
      | exact MK.out _ (Up.refl _).drew
      | exact MK.out _ (Up.trans (And.left (by assumption)) (by assumption))
      | exact MK.out _ (Up.alloc (And.left (by assumption)) _)
      | exact MK.out _ (Up.trans (Up.alloc (And.left (by assumption)) _) (by assumption)))
      (first
        | (go_at_call 131; refine (WD _).out.mono ?_; rintro e w1 ⟨rfl, hu1⟩))
    all_goals
      obtain ⟨su, s0, s1, s2, s3⟩ : Up W w1 ∧ w1.cell? ⟨w.heap.size, 0, none⟩ = some (.int .u64 id) ∧ w1.cell? ⟨w.heap.size, 1, none⟩ = some (.int .u64 off) ∧ w1.cell? ⟨w.heap.size, 2, none⟩ = some (.int .u32 len) ∧ w1.cell? ⟨w.heap.size, 3, none⟩ = some (.int .u32 run) := by assumption
      go_wp2_with fail;go_ret;exact ⟨ret_int (by rw [H0.out]; omega), HU1.out.trans su⟩
  · rw [if_neg hc] at h0;rw [decide_eq_false hc] at MY;have H0 := Lib.hid h0;clear hc h0 hid;obtain ⟨id, off, len, run⟩ := e;simp only [entA] at *;have n0 := new4 w 84 (.int .u64 id) (.int .u64 off) (.int .u32 len) (.int .u32 run);have HU0 := Lib.hid n0.1;clear n0;go_enter Tryz.func73, Tryz.ntmps73;go_wp2_with fail;refine (MY _).out.mono ?_;rintro e w0 ⟨rfl, hu0⟩;go_wp2_with fail;go_ret;exact ⟨ret_int (by rw [H0.out]; rfl), HU0.out.trans hu0⟩
set_option maxHeartbeats 1000000 in
theorem has_any (e : Ent) (ho : okE e) (x : Nat) (w : World) :
    Calls Tryz.prog 32 #[entA e, .int .u64 x] w fun en w' => en = .returned (.bool (hasE e x)) ∧ Up w w' := by
  have MY := fun w => Lib.hid (may_any e ho w);have LS := fun w => Lib.hid (last_any e ho w);have h0 : hasE e x = (decide (chkE e = 0) && decide (0 < e.run) && decide (e.id ≤ x) && decide (x ≤ lastE e)) := rfl;generalize hasE e x = v at *;generalize lastE e = la at *;obtain ⟨mb, hmb⟩ : ∃ mb, decide (chkE e = 0) = mb := ⟨_, rfl⟩;rw [hmb] at MY h0;clear hmb;obtain ⟨id, off, len, run⟩ := e;obtain ⟨h1, h2, h3, h4⟩ := ho;simp only [entA] at *;have n0 := new4 w 84 (.int .u64 id) (.int .u64 off) (.int .u32 len) (.int .u32 run);have HU0 := Lib.hid n0.1;have N0 := Lib.hid n0.2;clear n0;have HZ := Lib.hid h0;clear h0;cases mb
  · go_enter Tryz.func32, Tryz.ntmps32;go_wp2_with fail;refine (MY _).out.mono ?_;rintro e w1 ⟨rfl, hu1⟩;go_wp2_with fail;go_ret;exact ⟨ret_bool (by rw [HZ.out]; rfl), HU0.out.trans hu1⟩
  have key : (∀ (hr : ¬ 0 < run), v = false) ∧ (∀ (hr : 0 < run) (hi : ¬ id ≤ x), v = false) ∧ (∀ (hr : 0 < run) (hi : id ≤ x), v = decide (x ≤ la)) := by
    have h := HZ.out;refine ⟨fun hr => ?_, fun hr hi => ?_, fun hr hi => ?_⟩
    · rw [h, decide_eq_false hr]; rfl
    · rw [h, decide_eq_true hr, decide_eq_false hi]; rfl
    · rw [h, decide_eq_true hr, decide_eq_true hi]; rfl
  have KEY := Lib.hid key;clear key;by_cases hr : 0 < run
  · by_cases hi : id ≤ x
    · have E := Lib.hid (KEY.out.2.2 hr hi);have hrI : (0 : Int) < (run : Int) := by omega
      have hiI : (id : Int) ≤ (x : Int) := by omega
      clear hr hi KEY HZ;go_enter Tryz.func32, Tryz.ntmps32;go_wp2_with fail;refine (MY _).out.mono ?_;rintro e w1 ⟨rfl, hu1⟩;obtain ⟨c0, c1, c2, c3⟩ := N0.out;replace c0 := hu1.cell c0;replace c1 := hu1.cell c1;replace c2 := hu1.cell c2;replace c3 := hu1.cell c3;clear N0;go_wp2_with fail;refine (LS _).out.mono ?_;rintro e w2 ⟨rfl, hu2⟩;go_wp2_with fail;go_ret;refine ⟨ret_bool ?_, HU0.out.trans (hu1.trans hu2)⟩;rw [E.out]
    · have E := Lib.hid (KEY.out.2.1 hr hi);have hrI : (0 : Int) < (run : Int) := by omega
      have hiI : ¬ (id : Int) ≤ (x : Int) := by omega
      clear hr hi KEY HZ;go_enter Tryz.func32, Tryz.ntmps32;go_wp2_with fail;refine (MY _).out.mono ?_;rintro e w1 ⟨rfl, hu1⟩;obtain ⟨c0, c1, c2, c3⟩ := N0.out;replace c0 := hu1.cell c0;replace c1 := hu1.cell c1;replace c2 := hu1.cell c2;replace c3 := hu1.cell c3;clear N0;go_wp2_with fail;go_ret;exact ⟨ret_bool E.out.symm, HU0.out.trans hu1⟩
  · have E := Lib.hid (KEY.out.1 hr);have hrI : ¬ (0 : Int) < (run : Int) := by omega
    clear hr KEY HZ;go_enter Tryz.func32, Tryz.ntmps32;go_wp2_with fail;refine (MY _).out.mono ?_;rintro e w1 ⟨rfl, hu1⟩;obtain ⟨c0, c1, c2, c3⟩ := N0.out;replace c0 := hu1.cell c0;replace c1 := hu1.cell c1;replace c2 := hu1.cell c2;replace c3 := hu1.cell c3;clear N0;go_wp2_with fail;go_ret;exact ⟨ret_bool E.out.symm, HU0.out.trans hu1⟩
theorem Rd.ent {w : World} {l : Ents} {A : Option Addr} {c : Nat} (h : Rd w 4 A l.length c (entV l)) {k : Nat} (hk : k < l.length) : ∃ b o, A = some ⟨b, o, none⟩ ∧ w.cell? ⟨b, o + k * 4, none⟩ = some (.int .u64 (l[k].id : Int)) ∧ w.cell? ⟨b, o + k * 4 + 1, none⟩ = some (.int .u64 (l[k].off : Int)) ∧
    w.cell? ⟨b, o + k * 4 + 2, none⟩ = some (.int .u32 (l[k].len : Int)) ∧ w.cell? ⟨b, o + k * 4 + 3, none⟩ = some (.int .u32 (l[k].run : Int)) := by
  obtain ⟨b, o, e, hc⟩ := h.2.2.2.2 (by omega);obtain ⟨g0, g1, g2, g3⟩ := entV_get l k hk;exact ⟨b, o, e, hc _ _ g0, by have := hc _ _ g1; rwa [← Nat.add_assoc] at this, by have := hc _ _ g2; rwa [← Nat.add_assoc] at this, by have := hc _ _ g3; rwa [← Nat.add_assoc] at this⟩
set_option maxHeartbeats 2000000 in
theorem row_any (l : Ents) (hok : ∀ e ∈ l, okE e) (hl : l.length ≤ 1000000) (A : Option Addr) (c : Nat) (w : World) (hr : Rd w 4 A l.length c (entV l)) :
    Calls Tryz.prog 63 #[.slice A l.length c] w fun e w' => e = .returned (.int .i64 (rowE l)) ∧ Up w w' := by
  have HR := Lib.hid hr;have HO := Lib.hid hok;clear hr hok;by_cases hbig : 4096 < l.length
  · have e : rowE l = 21 := by unfold rowE; rw [if_pos hbig]
    rw [e];have h' : (4096 : Int) < (l.length : Int) := by omega
    go_enter Tryz.func63, Tryz.ntmps63;go_wp2_with fail;go_ret;exact ⟨rfl, Up.refl w⟩
  have h0 : rowE l = rowGo 0 l := by unfold rowE; rw [if_neg hbig]
  rw [h0];have h' : ¬ (4096 : Int) < (l.length : Int) := by omega
  generalize hT : rowGo 0 l = T at *;have HT := Lib.hid hT;clear hT h0;go_enter Tryz.func63, Tryz.ntmps63;go_wp2_with fail;go_loopg [3, 12] l.length (fun gk fr i wr => ∃ k f : Nat, k + gk = l.length ∧ i = .int .i64 k ∧ fr = .int .u64 f ∧ f ≤ 6004799503160662 ∧ rowGo f (l.drop k) = T ∧ Up w wr)
  case atStart => exact ⟨0, 0, by omega, rfl, rfl, by omega, by simpa using HT.out, Up.refl w⟩
  case round =>
    obtain ⟨k, f, hk, rfl, rfl, hf, hd, hu⟩ := hrel;have HU := Lib.hid hu;by_cases hlt : k < l.length
    · obtain ⟨m, rfl⟩ : ∃ m, gk = m + 1 := ⟨gk - 1, by omega⟩;obtain ⟨B, o, rfl, d0, d1, d2, d3⟩ := (HR.out.up hu).ent hlt;rw [List.drop_eq_getElem_cons hlt] at hd;have ho := HO.out l[k] (List.getElem_mem hlt);obtain ⟨x, hx⟩ : ∃ x, l[k]'hlt = x := ⟨_, rfl⟩;rw [hx] at d0 d1 d2 d3 hd ho;have CK := fun w => Lib.hid (chk_any x ho w);have LS := fun w => Lib.hid (last_any x ho w);have hstep : (chkE x ≠ 0 → T = chkE x) ∧ (chkE x = 0 → x.id < f → T = 10) ∧ (chkE x = 0 → ¬ x.id < f → rowGo (lastE x + 1) (l.drop (k + 1)) = T ∧ lastE x + 1 ≤ 6004799503160662) := by
        unfold rowGo at hd;refine ⟨fun h => ?_, fun h h2 => ?_, fun h h2 => ?_⟩
        · rw [if_pos h] at hd; exact hd.symm
        · rw [if_neg (by omega), if_pos h2] at hd; exact hd.symm
        · rw [if_neg (by omega), if_neg h2] at hd;refine ⟨hd, ?_⟩;have h3 := chk_ok h;rw [last_ok h]; omega
      have HS := Lib.hid hstep;have hltI : (k : Int) < (l.length : Int) := by omega
      generalize chkE x = cv at *;generalize lastE x = la at *;obtain ⟨id, off, len, run⟩ := x;simp only [entA] at *;clear hd hstep hx ho hu;have n0 := new4 wr 84 (.int .u64 id) (.int .u64 off) (.int .u32 len) (.int .u32 run);have HU1 := Lib.hid (HU.out.trans n0.1);have N0 := Lib.hid n0.2;clear n0;by_cases hc : cv = 0
      · subst hc;by_cases hlf : id < f
        · have E := Lib.hid (HS.out.2.1 rfl hlf);have hlfI : (id : Int) < (f : Int) := by omega
          clear hlf HS;go_wp2_with fail;refine (CK _).out.mono ?_;rintro e w1 ⟨rfl, hu1⟩;have c0 := hu1.cell N0.out.1;go_wp2_with fail;go_ret;exact ⟨ret_int E.out.symm, HU1.out.trans hu1⟩
        · obtain ⟨hd, hle⟩ := HS.out.2.2 rfl hlf;have HD := Lib.hid hd;have hlfI : ¬ (id : Int) < (f : Int) := by omega
          have e1 : IntKind.u64.wrap ((la : Int) + 1) = (la : Int) + 1 := IntWalk.u64_in _ (by omega);clear hd HS;go_wp2_with fail;refine (CK _).out.mono ?_;rintro e w1 ⟨rfl, hu1⟩;obtain ⟨c0, c1, c2, c3⟩ := N0.out;replace c0 := hu1.cell c0;replace c1 := hu1.cell c1;replace c2 := hu1.cell c2;replace c3 := hu1.cell c3;have HU2 := Lib.hid (HU1.out.trans hu1);clear N0 hu1;go_wp2_with fail;refine (LS _).out.mono ?_;rintro e w2 ⟨rfl, hu2⟩;go_wp2_with fail;go_roundg m
          case measure => omega
          case rel => exact ⟨k + 1, la + 1, by omega, by go_num, by go_num, hle, HD.out, HU2.out.trans hu2⟩
      · have E := Lib.hid (HS.out.1 hc);have hb : (cv != 0) = true := by rw [bne_iff_ne]; exact hc
        clear hc HS;go_wp2_with fail;refine (CK _).out.mono ?_;rintro e w1 ⟨rfl, hu1⟩;go_wp2_with fail;go_ret;exact ⟨ret_int E.out.symm, HU1.out.trans hu1⟩
    · obtain rfl : k = l.length := by omega
      rw [List.drop_length] at hd;have hd : T = 0 := hd.symm;subst hd;clear hlt;go_wp2_with fail;go_ret;exact ⟨rfl, HU.out⟩
end Go.Proofs.YtbfieomjobbhoaaGreatDoor
/- Walks: gazetteerref07.wide, Check, Last, Has, Row, Same. -/
namespace Go.Proofs.YtbfieomjobbhoaaGreatDoor
open Go.RowKit Go.Gz
set_option maxRecDepth 100000
theorem r7wide_any (e : Ent) (ho : okE e) (w : World) :
    Calls Tryz.prog 132 #[entA e] w fun en w' => en = .returned (.int .u64 (wideE e : Int)) ∧ Up w w' := by
  obtain ⟨id, off, len, run⟩ := e;obtain ⟨h1, h2, h3, h4⟩ := ho;simp only [entA] at *;have h0 : wideE ⟨id, off, len, run⟩ = max 1 run := rfl;rw [h0];by_cases h : run = 0
  · subst h;clear h0 h1 h2 h3 h4;go_enter Tryz.func132, Tryz.ntmps132;go_wp2_with fail;go_ret;exact ⟨rfl, (Up.refl w).alloc _⟩
  · have e0 : ((run : Int) == 0) = false := by rw [beq_eq_false_iff_ne]; omega
    have e1 : max 1 run = run := by omega
    have e2 : IntKind.u64.wrap (run : Int) = (run : Int) := IntWalk.u64_in _ (by omega);rw [e1];clear h0 h1 h2 h3 h4 h e1;go_enter Tryz.func132, Tryz.ntmps132;go_wp2_with fail;go_ret;exact ⟨rfl, (Up.refl w).alloc _⟩
set_option maxHeartbeats 4000000 in
theorem r7chk_any (e : Ent) (ho : okE e) (w : World) :
    Calls Tryz.prog 74 #[entA e] w fun en w' => en = .returned (.int .i64 (chkE e)) ∧ Up w w' := by
  have WD := fun w => Lib.hid (r7wide_any e ho w);have h0 : chkE e = if e.len = 0 then 2 else if 6004799503160661 < e.id + wideE e then 8 else if 1099511627776 < e.off + e.len then 8 else 0 := rfl
  have hw : 1 ≤ wideE e ∧ wideE e < 4294967296 := by have := ho.2.2.2; unfold wideE; omega
  generalize chkE e = v at *;generalize wideE e = wd at *;obtain ⟨id, off, len, run⟩ := e;obtain ⟨h1, h2, h3, h4⟩ := ho;simp only [entA] at *;have n0 := new4 w 87 (.int .u64 (id : Int)) (.int .u64 (off : Int)) (.int .u32 (len : Int)) (.int .u32 (run : Int));have HU0 := Lib.hid n0.1;have N0 := Lib.hid n0.2;obtain ⟨c0, c1, c2, c3⟩ := n0.2;clear n0;by_cases g1 : len = 0
  · rw [if_pos g1] at h0;subst h0;have e0 : ((len : Int) == 0) = true := by rw [beq_iff_eq]; omega
    clear g1 N0 WD;go_enter Tryz.func74, Tryz.ntmps74;go_wp2_with fail;go_ret;exact ⟨rfl, HU0.out⟩
  rw [if_neg g1] at h0;have b1 : ((len : Int) == 0) = false := by rw [beq_eq_false_iff_ne]; omega
  by_cases g2 : 6004799503160661 ≤ id
  · rw [if_pos (by omega)] at h0;subst h0;have b2 : decide ((6004799503160661 : Int) ≤ (id : Int)) = true := by rw [decide_eq_true_eq]; omega
    clear g1 g2 WD hw h1 h2 h3 h4;go_enter Tryz.func74, Tryz.ntmps74;go_wp2_with fail;refine wp_region_held_drew (S := fun w' => w'.cell? ⟨w.heap.size, 0, none⟩ = some (.int .u64 (id : Int)) ∧ w'.cell? ⟨w.heap.size, 1, none⟩ = some (.int .u64 (off : Int)) ∧ w'.cell? ⟨w.heap.size, 2, none⟩ = some (.int .u32 (len : Int)) ∧ w'.cell? ⟨w.heap.size, 3, none⟩ = some (.int .u32 (run : Int))) (by kernel_rfl) ?_ (fun hHeld => ?_)
    · exact ⟨c0, c1, c2, c3⟩
    refine tk 0 rfl ?_;(try simp only [Act.put, tz1, tz2, tz3]);refine tk 1 rfl ?_;(try simp only [Act.put, tz1, tz2, tz3]);refine tk 2 rfl ?_;(try simp only [Act.put, tz1, tz2, tz3]);refine tk 3 rfl ?_;(try simp only [Act.put, tz1, tz2, tz3]);refine tk 4 rfl ?_;(try simp only [Act.put, tz1, tz2, tz3]);refine tk 5 rfl ?_;(try simp only [Act.put, tz1, tz2, tz3]);refine tk 6 rfl ?_;(try simp only [Act.put, tz1, tz2, tz3]);refine tk 7 rfl ?_;(try simp only [Act.put, tz1, tz2, tz3]);refine tk 8 rfl ?_;(try simp only [Act.put, tz1, tz2, tz3]);refine tk 9 rfl ?_;(try simp only [Act.put, tz1, tz2, tz3]);refine tk 10 rfl ?_;(try simp only [Act.put, tz1, tz2, tz3]);refine wpAnyH_done (by kernel_rfl) ?_ _;go_wp2_with fail;go_ret;exact ⟨rfl, HU0.out.drew⟩
  have b2 : decide ((6004799503160661 : Int) ≤ (id : Int)) = false := by rw [decide_eq_false_iff_not]; omega
  have e1 : IntKind.u64.wrap ((id : Int) + (wd : Int)) = (id : Int) + (wd : Int) := IntWalk.u64_in _ (by omega);by_cases g3 : 6004799503160661 < id + wd
  · rw [if_pos g3] at h0;subst h0;have b3 : decide ((6004799503160661 : Int) < (id : Int) + (wd : Int)) = true := by rw [decide_eq_true_eq]; omega
    clear g1 g2 g3 hw h1 h2 h3 h4;go_enter Tryz.func74, Tryz.ntmps74;go_wp2_with fail;refine wp_region_held_drew (S := fun w' => w'.cell? ⟨w.heap.size, 0, none⟩ = some (.int .u64 (id : Int)) ∧ w'.cell? ⟨w.heap.size, 1, none⟩ = some (.int .u64 (off : Int)) ∧ w'.cell? ⟨w.heap.size, 2, none⟩ = some (.int .u32 (len : Int)) ∧ w'.cell? ⟨w.heap.size, 3, none⟩ = some (.int .u32 (run : Int))) (by kernel_rfl) ?_ (fun hHeld => ?_)
    · exact ⟨c0, c1, c2, c3⟩
    refine tk 0 rfl ?_;(try simp only [Act.put, tz1, tz2, tz3]);refine tk 1 rfl ?_;(try simp only [Act.put, tz1, tz2, tz3]);refine tk 2 rfl ?_;(try simp only [Act.put, tz1, tz2, tz3]);refine tk 3 rfl ?_;(try simp only [Act.put, tz1, tz2, tz3]);refine tk 4 rfl ?_;(try simp only [Act.put, tz1, tz2, tz3]);refine tk 5 rfl ?_;(try simp only [Act.put, tz1, tz2, tz3]);refine tk 6 rfl ?_;(try simp only [Act.put, tz1, tz2, tz3]);refine rd1 7 rfl (fun K hK => ?_);go_simp
    (go_at_call 132; (with_reducible refine (WD _).out.mono ?_); rintro e w1 ⟨rfl, hu1⟩)
    refine hK.out _ _ ?_ (fun hHeld2 => ?_)
    · exact ⟨hu1.cell c0, hu1.cell c1, hu1.cell c2, hu1.cell c3⟩
    clear hK K;(try simp only [Act.put, tz1, tz2, tz3]);refine tk 8 rfl ?_;(try simp only [Act.put, tz1, tz2, tz3]);refine tk 9 rfl ?_;(try simp only [Act.put, tz1, tz2, tz3]);refine tk 10 rfl ?_;(try simp only [Act.put, tz1, tz2, tz3]);refine wpAnyH_done (by kernel_rfl) ?_ _;have su := (Up.refl _).drew.trans hu1;replace c0 := hu1.cell c0;replace c1 := hu1.cell c1;replace c2 := hu1.cell c2;replace c3 := hu1.cell c3;clear hu1;go_wp2_with fail;go_ret;exact ⟨rfl, HU0.out.trans su⟩
  rw [if_neg g3] at h0;have b3 : decide ((6004799503160661 : Int) < (id : Int) + (wd : Int)) = false := by rw [decide_eq_false_iff_not]; omega
  have e2 : IntKind.u64.wrap (len : Int) = (len : Int) := IntWalk.u64_in _ (by omega);by_cases g4 : 1099511627776 < off
  · rw [if_pos (by omega)] at h0;subst h0;have b4 : (1099511627776 : Int) < (off : Int) := by omega
    clear g1 g2 g3 g4 hw h1 h2 h3 h4;go_enter Tryz.func74, Tryz.ntmps74;go_wp2_with fail;refine wp_region_held_drew (S := fun w' => w'.cell? ⟨w.heap.size, 0, none⟩ = some (.int .u64 (id : Int)) ∧ w'.cell? ⟨w.heap.size, 1, none⟩ = some (.int .u64 (off : Int)) ∧ w'.cell? ⟨w.heap.size, 2, none⟩ = some (.int .u32 (len : Int)) ∧ w'.cell? ⟨w.heap.size, 3, none⟩ = some (.int .u32 (run : Int))) (by kernel_rfl) ?_ (fun hHeld => ?_)
    · exact ⟨c0, c1, c2, c3⟩
    refine tk 0 rfl ?_;(try simp only [Act.put, tz1, tz2, tz3]);refine tk 1 rfl ?_;(try simp only [Act.put, tz1, tz2, tz3]);refine tk 2 rfl ?_;(try simp only [Act.put, tz1, tz2, tz3]);refine tk 3 rfl ?_;(try simp only [Act.put, tz1, tz2, tz3]);refine tk 4 rfl ?_;(try simp only [Act.put, tz1, tz2, tz3]);refine tk 5 rfl ?_;(try simp only [Act.put, tz1, tz2, tz3]);refine tk 6 rfl ?_;(try simp only [Act.put, tz1, tz2, tz3]);refine rd1 7 rfl (fun K hK => ?_);go_simp
    (go_at_call 132; (with_reducible refine (WD _).out.mono ?_); rintro e w1 ⟨rfl, hu1⟩)
    refine hK.out _ _ ?_ (fun hHeld2 => ?_)
    · exact ⟨hu1.cell c0, hu1.cell c1, hu1.cell c2, hu1.cell c3⟩
    clear hK K;(try simp only [Act.put, tz1, tz2, tz3]);refine tk 8 rfl ?_;(try simp only [Act.put, tz1, tz2, tz3]);refine tk 9 rfl ?_;(try simp only [Act.put, tz1, tz2, tz3]);refine tk 10 rfl ?_;(try simp only [Act.put, tz1, tz2, tz3]);refine wpAnyH_done (by kernel_rfl) ?_ _;have su := (Up.refl _).drew.trans hu1;replace c0 := hu1.cell c0;replace c1 := hu1.cell c1;replace c2 := hu1.cell c2;replace c3 := hu1.cell c3;clear hu1;go_wp2_with fail;go_ret;exact ⟨rfl, HU0.out.trans su⟩
  have b4 : ¬ (1099511627776 : Int) < (off : Int) := by omega
  have e3 : IntKind.u64.wrap ((off : Int) + (len : Int)) = (off : Int) + (len : Int) := IntWalk.u64_in _ (by omega);by_cases g5 : 1099511627776 < off + len
  · rw [if_pos g5] at h0;subst h0;have b5 : (1099511627776 : Int) < (off : Int) + (len : Int) := by omega
    clear g1 g2 g3 g4 g5 hw h1 h2 h3 h4;go_enter Tryz.func74, Tryz.ntmps74;go_wp2_with fail;refine wp_region_held_drew (S := fun w' => w'.cell? ⟨w.heap.size, 0, none⟩ = some (.int .u64 (id : Int)) ∧ w'.cell? ⟨w.heap.size, 1, none⟩ = some (.int .u64 (off : Int)) ∧ w'.cell? ⟨w.heap.size, 2, none⟩ = some (.int .u32 (len : Int)) ∧ w'.cell? ⟨w.heap.size, 3, none⟩ = some (.int .u32 (run : Int))) (by kernel_rfl) ?_ (fun hHeld => ?_)
    · exact ⟨c0, c1, c2, c3⟩
    refine tk 0 rfl ?_;(try simp only [Act.put, tz1, tz2, tz3]);refine tk 1 rfl ?_;(try simp only [Act.put, tz1, tz2, tz3]);refine tk 2 rfl ?_;(try simp only [Act.put, tz1, tz2, tz3]);refine tk 3 rfl ?_;(try simp only [Act.put, tz1, tz2, tz3]);refine tk 4 rfl ?_;(try simp only [Act.put, tz1, tz2, tz3]);refine tk 5 rfl ?_;(try simp only [Act.put, tz1, tz2, tz3]);refine tk 6 rfl ?_;(try simp only [Act.put, tz1, tz2, tz3]);refine rd1 7 rfl (fun K hK => ?_);go_simp
    (go_at_call 132; (with_reducible refine (WD _).out.mono ?_); rintro e w1 ⟨rfl, hu1⟩)
    refine hK.out _ _ ?_ (fun hHeld2 => ?_)
    · exact ⟨hu1.cell c0, hu1.cell c1, hu1.cell c2, hu1.cell c3⟩
    clear hK K;(try simp only [Act.put, tz1, tz2, tz3]);refine tk 8 rfl ?_;(try simp only [Act.put, tz1, tz2, tz3]);refine tk 9 rfl ?_;(try simp only [Act.put, tz1, tz2, tz3]);refine tk 10 rfl ?_;(try simp only [Act.put, tz1, tz2, tz3]);refine wpAnyH_done (by kernel_rfl) ?_ _;have su := (Up.refl _).drew.trans hu1;replace c0 := hu1.cell c0;replace c1 := hu1.cell c1;replace c2 := hu1.cell c2;replace c3 := hu1.cell c3;clear hu1;go_wp2_with fail;go_ret;exact ⟨rfl, HU0.out.trans su⟩
  rw [if_neg g5] at h0;subst h0;have b5 : ¬ (1099511627776 : Int) < (off : Int) + (len : Int) := by omega
  clear g1 g2 g3 g4 g5 hw h1 h2 h3 h4;go_enter Tryz.func74, Tryz.ntmps74;go_wp2_with fail;refine wp_region_held_drew (S := fun w' => w'.cell? ⟨w.heap.size, 0, none⟩ = some (.int .u64 (id : Int)) ∧ w'.cell? ⟨w.heap.size, 1, none⟩ = some (.int .u64 (off : Int)) ∧ w'.cell? ⟨w.heap.size, 2, none⟩ = some (.int .u32 (len : Int)) ∧ w'.cell? ⟨w.heap.size, 3, none⟩ = some (.int .u32 (run : Int))) (by kernel_rfl) ?_ (fun hHeld => ?_)
  · exact ⟨c0, c1, c2, c3⟩
  refine tk 0 rfl ?_;(try simp only [Act.put, tz1, tz2, tz3]);refine tk 1 rfl ?_;(try simp only [Act.put, tz1, tz2, tz3]);refine tk 2 rfl ?_;(try simp only [Act.put, tz1, tz2, tz3]);refine tk 3 rfl ?_;(try simp only [Act.put, tz1, tz2, tz3]);refine tk 4 rfl ?_;(try simp only [Act.put, tz1, tz2, tz3]);refine tk 5 rfl ?_;(try simp only [Act.put, tz1, tz2, tz3]);refine tk 6 rfl ?_;(try simp only [Act.put, tz1, tz2, tz3]);refine rd1 7 rfl (fun K hK => ?_);go_simp
  (go_at_call 132; (with_reducible refine (WD _).out.mono ?_); rintro e w1 ⟨rfl, hu1⟩)
  refine hK.out _ _ ?_ (fun hHeld2 => ?_)
  · exact ⟨hu1.cell c0, hu1.cell c1, hu1.cell c2, hu1.cell c3⟩
  clear hK K;(try simp only [Act.put, tz1, tz2, tz3]);refine tk 8 rfl ?_;(try simp only [Act.put, tz1, tz2, tz3]);refine tk 9 rfl ?_;(try simp only [Act.put, tz1, tz2, tz3]);refine tk 10 rfl ?_;(try simp only [Act.put, tz1, tz2, tz3]);refine wpAnyH_done (by kernel_rfl) ?_ _;have su := (Up.refl _).drew.trans hu1;replace c0 := hu1.cell c0;replace c1 := hu1.cell c1;replace c2 := hu1.cell c2;replace c3 := hu1.cell c3;clear hu1;go_wp2_with fail;go_ret;exact ⟨rfl, HU0.out.trans su⟩
end Go.Proofs.YtbfieomjobbhoaaGreatDoor
/- Walks: gazetteerref07.Last, Has, Row, Same. -/
namespace Go.Proofs.YtbfieomjobbhoaaGreatDoor
open Go.RowKit Go.Gz
set_option maxRecDepth 100000
set_option maxHeartbeats 4000000 in
theorem r7last_any (e : Ent) (ho : okE e) (w : World) :
    Calls Tryz.prog 75 #[entA e] w fun en w' => en = .returned (.int .u64 (lastE e : Int)) ∧ Up w w' := by
  have WD := fun w => Lib.hid (r7wide_any e ho w);have CK := fun w => Lib.hid (r7chk_any e ho w);have h0 : lastE e = if chkE e = 0 then e.id + wideE e - 1 else 0 := rfl
  have hck := fun h : chkE e = 0 => (chk_ok h).2.1;have hw := wide_pos e;generalize lastE e = v at *;generalize chkE e = cv at *;generalize wideE e = wd at *;obtain ⟨id, off, len, run⟩ := e;obtain ⟨h1, h2, h3, h4⟩ := ho;simp only [entA] at *;have n0 := new4 w 87 (.int .u64 (id : Int)) (.int .u64 (off : Int)) (.int .u32 (len : Int)) (.int .u32 (run : Int));have HU0 := Lib.hid n0.1;obtain ⟨c0, c1, c2, c3⟩ := n0.2;clear n0;by_cases g1 : cv = 0
  · have hb := hck g1;rw [if_pos g1] at h0;subst g1;have e1 : IntKind.u64.wrap ((id : Int) + (wd : Int)) = (id : Int) + (wd : Int) := IntWalk.u64_in _ (by omega);have e2 : IntKind.u64.wrap ((id : Int) + (wd : Int) - 1) = (v : Int) := by rw [IntWalk.u64_in _ (by omega)]; omega
    clear h0 hck hw hb h1 h2 h3 h4;go_enter Tryz.func75, Tryz.ntmps75;go_wp2_with fail;with_reducible refine (CK _).out.mono ?_
    rintro e w1 ⟨rfl, hu1⟩;replace c0 := hu1.cell c0;replace c1 := hu1.cell c1;replace c2 := hu1.cell c2;replace c3 := hu1.cell c3;have HU1 := Lib.hid (HU0.out.trans hu1);clear hu1;go_wp2_with fail;refine wp_region_held_drew (S := fun w' => w'.cell? ⟨w.heap.size, 0, none⟩ = some (.int .u64 (id : Int)) ∧ w'.cell? ⟨w.heap.size, 1, none⟩ = some (.int .u64 (off : Int)) ∧ w'.cell? ⟨w.heap.size, 2, none⟩ = some (.int .u32 (len : Int)) ∧ w'.cell? ⟨w.heap.size, 3, none⟩ = some (.int .u32 (run : Int))) (by kernel_rfl) ?_ (fun hHeld => ?_)
    · exact ⟨c0, c1, c2, c3⟩
    refine tk 0 rfl ?_;(try simp only [Act.put, tz1, tz2, tz3]);refine tk 1 rfl ?_;(try simp only [Act.put, tz1, tz2, tz3]);refine tk 2 rfl ?_;(try simp only [Act.put, tz1, tz2, tz3]);refine rd1 3 rfl (fun K hK => ?_);go_simp
    (go_at_call 132; (with_reducible refine (WD _).out.mono ?_); rintro e w2 ⟨rfl, hu2⟩)
    refine hK.out _ _ ?_ (fun hHeld2 => ?_)
    · exact ⟨hu2.cell c0, hu2.cell c1, hu2.cell c2, hu2.cell c3⟩
    clear hK K;(try simp only [Act.put, tz1, tz2, tz3]);refine tk 4 rfl ?_;(try simp only [Act.put, tz1, tz2, tz3]);refine tk 5 rfl ?_;(try simp only [Act.put, tz1, tz2, tz3]);refine tk 6 rfl ?_;(try simp only [Act.put, tz1, tz2, tz3]);refine wpAnyH_done (by kernel_rfl) ?_ _;go_wp2_with fail;go_ret;exact ⟨rfl, HU1.out.trans ((Up.refl _).drew.trans hu2)⟩
  · rw [if_neg g1] at h0;subst h0;have b1 : (cv != 0) = true := by rw [bne_iff_ne]; exact g1
    clear hck hw h1 h2 h3 h4 g1;go_enter Tryz.func75, Tryz.ntmps75;go_wp2_with fail;with_reducible refine (CK _).out.mono ?_
    rintro e w1 ⟨rfl, hu1⟩;go_wp2_with fail;go_ret;exact ⟨rfl, HU0.out.trans hu1⟩
set_option maxHeartbeats 4000000 in
theorem r7has_any (e : Ent) (ho : okE e) (x : Nat) (w : World) :
    Calls Tryz.prog 33 #[entA e, .int .u64 (x : Int)] w fun en w' => en = .returned (.bool (hasE e x)) ∧ Up w w' := by
  have LS := fun w => Lib.hid (r7last_any e ho w);have CK := fun w => Lib.hid (r7chk_any e ho w);have h0 : hasE e x = (decide (chkE e = 0) && decide (0 < e.run) && decide (e.id ≤ x) && decide (x ≤ lastE e)) := rfl;generalize hasE e x = v at *;generalize lastE e = la at *;generalize chkE e = cv at *;obtain ⟨id, off, len, run⟩ := e;simp only [entA] at *;have n0 := new4 w 87 (.int .u64 (id : Int)) (.int .u64 (off : Int)) (.int .u32 (len : Int)) (.int .u32 (run : Int));have HU0 := Lib.hid n0.1;obtain ⟨c0, c1, c2, c3⟩ := n0.2;clear n0 ho;by_cases g1 : cv = 0
  · subst g1;by_cases g2 : 0 < run
    · have b2 : (0 : Int) < (run : Int) := by omega
      by_cases g3 : id ≤ x
      · have b3 : (id : Int) ≤ (x : Int) := by omega
        rw [decide_eq_true rfl, decide_eq_true g2, decide_eq_true g3, Bool.true_and, Bool.true_and, Bool.true_and] at h0;have H0 := Lib.hid h0;clear h0 g2 g3;go_enter Tryz.func33, Tryz.ntmps33;go_wp2_with fail;with_reducible refine (CK _).out.mono ?_
        rintro e w1 ⟨rfl, hu1⟩;replace c0 := hu1.cell c0;replace c1 := hu1.cell c1;replace c2 := hu1.cell c2;replace c3 := hu1.cell c3;have HU1 := Lib.hid (HU0.out.trans hu1);clear hu1;go_wp2_with fail;with_reducible refine (LS _).out.mono ?_
        rintro e w2 ⟨rfl, hu2⟩;go_wp2_with fail;go_ret;exact ⟨ret_bool (by rw [H0.out]), HU1.out.trans hu2⟩
      · have b3 : ¬ (id : Int) ≤ (x : Int) := by omega
        rw [decide_eq_true rfl, decide_eq_true g2, decide_eq_false g3] at h0;obtain rfl : v = false := by rw [h0]; rfl
        clear h0 g2 g3;go_enter Tryz.func33, Tryz.ntmps33;go_wp2_with fail;with_reducible refine (CK _).out.mono ?_
        rintro e w1 ⟨rfl, hu1⟩;replace c0 := hu1.cell c0;replace c3 := hu1.cell c3;have HU1 := Lib.hid (HU0.out.trans hu1);clear hu1 c1 c2;go_wp2_with fail;go_ret;exact ⟨rfl, HU1.out⟩
    · have b2 : ¬ (0 : Int) < (run : Int) := by omega
      rw [decide_eq_true rfl, decide_eq_false g2] at h0;obtain rfl : v = false := by rw [h0]; rfl
      clear h0 g2;go_enter Tryz.func33, Tryz.ntmps33;go_wp2_with fail;with_reducible refine (CK _).out.mono ?_
      rintro e w1 ⟨rfl, hu1⟩;replace c3 := hu1.cell c3;have HU1 := Lib.hid (HU0.out.trans hu1);clear hu1 c0 c1 c2;go_wp2_with fail;go_ret;exact ⟨rfl, HU1.out⟩
  · rw [decide_eq_false g1] at h0;obtain rfl : v = false := by rw [h0]; rfl
    have b1 : (cv == 0) = false := by rw [beq_eq_false_iff_ne]; exact g1
    clear h0 g1;go_enter Tryz.func33, Tryz.ntmps33;go_wp2_with fail;with_reducible refine (CK _).out.mono ?_
    rintro e w1 ⟨rfl, hu1⟩;go_wp2_with fail;go_ret;exact ⟨rfl, HU0.out.trans hu1⟩
/-- what is free behind the first k entries -/
def freeK (l : Ents) (k : Nat) : Nat := if k = 0 then 0 else lastE ((l[k - 1]?).getD zE) + 1
set_option maxHeartbeats 8000000 in
theorem r7row_any (l : Ents) (hok : ∀ e ∈ l, okE e) (hl : l.length ≤ 1000000) (A : Option Addr) (c : Nat) (w : World) (hr : Rd w 4 A l.length c (entV l)) :
    Calls Tryz.prog 69 #[.slice A l.length c] w fun e w' => e = .returned (.int .i64 (rowE l)) ∧ Up w w' := by
  have HR := Lib.hid hr;have HO := Lib.hid hok;clear hr hok;by_cases hbig : 4096 < l.length
  · have e : rowE l = 21 := by unfold rowE; rw [if_pos hbig]
    rw [e];have h' : (4096 : Int) < (l.length : Int) := by omega
    go_enter Tryz.func69, Tryz.ntmps69;go_wp2_with fail;go_ret;exact ⟨rfl, Up.refl w⟩
  have h0 : rowE l = rowGo 0 l := by unfold rowE; rw [if_neg hbig]
  rw [h0];have h' : ¬ (4096 : Int) < (l.length : Int) := by omega
  generalize hT : rowGo 0 l = TT at *;have HT := Lib.hid hT;clear hT h0;go_enter Tryz.func69, Tryz.ntmps69;go_wp2_with fail;go_loopg [3] l.length (fun gk i wr => ∃ k : Nat, k + gk = l.length ∧ i = .int .i64 (k : Int) ∧ rowGo (freeK l k) (l.drop k) = TT ∧ Up w wr)
  case atStart => exact ⟨0, by omega, rfl, by rw [show freeK l 0 = 0 from rfl, List.drop_zero]; exact HT.out, Up.refl w⟩
  case round =>
    obtain ⟨k, hk, rfl, hd, hu⟩ := hrel;have HU := Lib.hid hu;by_cases hlt : k < l.length
    · obtain ⟨m, rfl⟩ : ∃ m, gk = m + 1 := ⟨gk - 1, by omega⟩;have hRk := HR.out.up hu;obtain ⟨B, o, rfl, d0, d1, d2, d3⟩ := hRk.ent hlt;rw [List.drop_eq_getElem_cons hlt] at hd;have ho := HO.out l[k] (List.getElem_mem hlt);have hfr : freeK l (k + 1) = lastE l[k] + 1 := by unfold freeK; rw [if_neg (by omega), Nat.add_sub_cancel, List.getElem?_eq_getElem hlt]; rfl
      obtain ⟨x, hx⟩ : ∃ x, l[k]'hlt = x := ⟨_, rfl⟩;rw [hx] at d0 d1 d2 d3 hd ho hfr;have CK := fun w => Lib.hid (r7chk_any x ho w);have hstep : (chkE x ≠ 0 → TT = chkE x) ∧ (chkE x = 0 → x.id < freeK l k → TT = 10) ∧ (chkE x = 0 → ¬ x.id < freeK l k → rowGo (freeK l (k + 1)) (l.drop (k + 1)) = TT) := by
        unfold rowGo at hd;refine ⟨fun h => ?_, fun h h2 => ?_, fun h h2 => ?_⟩
        · rw [if_pos h] at hd; exact hd.symm
        · rw [if_neg (by omega), if_pos h2] at hd; exact hd.symm
        · rw [if_neg (by omega), if_neg h2] at hd;rw [hfr]; exact hd
      have HS := Lib.hid hstep;have hltI : (k : Int) < (l.length : Int) := by omega
      generalize chkE x = cv at *;obtain ⟨id, off, len, run⟩ := x;simp only [entA] at *;clear hd hstep hx ho hfr;by_cases hc : cv = 0
      · subst hc;have HP : RowKit.Hid (∀ w', Up wr w' → w'.cell? ⟨B, o + k * 4, none⟩ = some (.int .u64 (id : Int))) := Lib.hid (fun w' h => h.cell d0);rcases Nat.eq_zero_or_pos k with hk0 | hk0
        · subst hk0;have hdn := HS.out.2.2 rfl (by rw [show freeK l 0 = 0 from rfl]; omega);have HD := Lib.hid hdn;simp only [Nat.zero_mul, Nat.add_zero] at d0 d1 d2 d3;clear HS hdn HP;go_wp2_with fail;with_reducible refine (CK _).out.mono ?_
          rintro e w1 ⟨rfl, hu1⟩;have HU1 := Lib.hid (HU.out.trans hu1);have hup1 : Up wr w1.drew := hu1.trans (Up.refl _).drew;clear d0 d1 d2 d3 hu;go_wp2_with fail;refine wp_region_held_drew (S := fun w' => Up wr w') (by kernel_rfl) ?_ (fun hHeld => ?_)
          · exact hup1
          refine tk 0 rfl ?_;(try simp only [Act.put, tz1, tz2, tz3]);refine tk 1 rfl ?_;(try simp only [Act.put, tz1, tz2, tz3]);refine tk 2 rfl ?_;(try simp only [Act.put, tz1, tz2, tz3]);refine tk 3 rfl ?_;(try simp only [Act.put, tz1, tz2, tz3]);refine tk 4 rfl ?_;(try simp only [Act.put, tz1, tz2, tz3]);refine tk 5 rfl ?_;(try simp only [Act.put, tz1, tz2, tz3]);refine tk 6 rfl ?_;(try simp only [Act.put, tz1, tz2, tz3]);refine tk 7 rfl ?_;(try simp only [Act.put, tz1, tz2, tz3]);refine tk 8 rfl ?_;(try simp only [Act.put, tz1, tz2, tz3]);refine tk 9 rfl ?_;(try simp only [Act.put, tz1, tz2, tz3]);refine tk 10 rfl ?_;(try simp only [Act.put, tz1, tz2, tz3]);refine tk 11 rfl ?_;(try simp only [Act.put, tz1, tz2, tz3]);refine tk 12 rfl ?_;(try simp only [Act.put, tz1, tz2, tz3]);refine tk 13 rfl ?_;(try simp only [Act.put, tz1, tz2, tz3]);refine tk 14 rfl ?_;(try simp only [Act.put, tz1, tz2, tz3]);refine tk 15 rfl ?_;(try simp only [Act.put, tz1, tz2, tz3]);refine wpAnyH_done (by kernel_rfl) ?_ _;go_wp2_with fail;go_roundg m
          case measure => omega
          case rel => exact ⟨1, by omega, rfl, HD.out, HU1.out.drew⟩
        · obtain ⟨j, hj⟩ : ∃ j, k = j + 1 := ⟨k - 1, by omega⟩;have hjl : j < l.length := by omega
          obtain ⟨g0, g1, g2, g3⟩ := entV_get l j hjl;obtain ⟨b', o', eb, hcc⟩ := hRk.2.2.2.2 (by omega);injection eb with eb;injection eb with eb1 eb2;subst eb1; subst eb2;have p0c := hcc _ _ g0;have p1c := hcc _ _ g1;have p2c := hcc _ _ g2;have p3c := hcc _ _ g3;have hoj := HO.out l[j] (List.getElem_mem hjl);have LS := fun w => Lib.hid (r7last_any l[j] hoj w);have hfj : freeK l k = lastE l[j] + 1 := by unfold freeK; rw [if_neg (by omega), hj, Nat.add_sub_cancel, List.getElem?_eq_getElem hjl]; rfl
          rw [hfj] at HS;obtain ⟨y, hy⟩ : ∃ y, l[j] = y := ⟨_, rfl⟩;rw [hy] at p0c p1c p2c p3c LS HS;generalize lastE y = la at *;obtain ⟨p0, p1, p2, p3⟩ := y;simp only [entA, ← Nat.add_assoc] at LS p0c p1c p2c p3c;have dk : decide ((0 : Int) < (k : Int)) = true := by rw [decide_eq_true_eq]; omega
          have e3 : IntKind.i64.wrap ((k : Int) - 1) = (j : Int) := by rw [IntWalk.i64_in _ (by omega)]; omega
          have hjI : (j : Int) < (l.length : Int) := by omega
          clear hoj hfj hy g0 g1 g2 g3 hcc hRk hj;by_cases hle : id ≤ la
          · have E := Lib.hid (HS.out.2.1 rfl (by omega));have dle : decide (id ≤ la) = true := by rw [decide_eq_true_eq]; exact hle
            clear HS HP hle;go_wp2_with fail;with_reducible refine (CK _).out.mono ?_
            rintro e w1 ⟨rfl, hu1⟩;replace d0 := hu1.cell d0;replace p0c := hu1.cell p0c;replace p1c := hu1.cell p1c;replace p2c := hu1.cell p2c;replace p3c := hu1.cell p3c;have HU1 := Lib.hid (HU.out.trans hu1);clear d1 d2 d3 hu hu1;go_wp2_with fail;refine wp_region_held_drew (S := fun w' => w'.cell? ⟨B, o + k * 4, none⟩ = some (.int .u64 (id : Int)) ∧ w'.cell? ⟨B, o + j * 4, none⟩ = some (.int .u64 (p0 : Int)) ∧ w'.cell? ⟨B, o + j * 4 + 1, none⟩ = some (.int .u64 (p1 : Int)) ∧ w'.cell? ⟨B, o + j * 4 + 2, none⟩ = some (.int .u32 (p2 : Int)) ∧ w'.cell? ⟨B, o + j * 4 + 3, none⟩ = some (.int .u32 (p3 : Int))) (by kernel_rfl) ?_ (fun hHeld => ?_)
            · exact ⟨d0, p0c, p1c, p2c, p3c⟩
            refine tk 0 rfl ?_;(try simp only [Act.put, tz1, tz2, tz3]);refine tk 1 rfl ?_;(try simp only [Act.put, tz1, tz2, tz3]);refine tk 2 rfl ?_;(try simp only [Act.put, tz1, tz2, tz3]);refine tk 3 rfl ?_;(try simp only [Act.put, tz1, tz2, tz3]);refine tk 4 rfl ?_;(try simp only [Act.put, tz1, tz2, tz3]);refine tk 5 rfl ?_;(try simp only [Act.put, tz1, tz2, tz3]);refine tk 6 rfl ?_;(try simp only [Act.put, tz1, tz2, tz3]);refine tk 7 rfl ?_;(try simp only [Act.put, tz1, tz2, tz3]);refine tk 8 rfl ?_;(try simp only [Act.put, tz1, tz2, tz3]);refine tk 9 rfl ?_;(try simp only [Act.put, tz1, tz2, tz3]);refine tk 10 rfl ?_;(try simp only [Act.put, tz1, tz2, tz3]);refine tk 11 rfl ?_;(try simp only [Act.put, tz1, tz2, tz3]);refine tk 12 rfl ?_;(try simp only [Act.put, tz1, tz2, tz3]);refine rd1 13 rfl (fun K hK => ?_);go_simp
            (go_at_call 75; (with_reducible refine (LS _).out.mono ?_); rintro e w3 ⟨rfl, hu3⟩)
            refine hK.out _ _ ?_ (fun hHeld2 => ?_)
            · exact ⟨hu3.cell d0, hu3.cell p0c, hu3.cell p1c, hu3.cell p2c, hu3.cell p3c⟩
            clear hK K;(try simp only [Act.put, tz1, tz2, tz3]);refine tk 14 rfl ?_;(try simp only [Act.put, tz1, tz2, tz3]);refine tk 15 rfl ?_;(try simp only [Act.put, tz1, tz2, tz3]);refine wpAnyH_done (by kernel_rfl) ?_ _;go_wp2_with fail;go_ret;exact ⟨by rw [E.out]; rfl, HU1.out.trans ((Up.refl _).drew.trans hu3)⟩
          · have HD := Lib.hid (HS.out.2.2 rfl (by omega));have dle : decide (id ≤ la) = false := by rw [decide_eq_false_iff_not]; exact hle
            clear HS HP hle;go_wp2_with fail;with_reducible refine (CK _).out.mono ?_
            rintro e w1 ⟨rfl, hu1⟩;replace d0 := hu1.cell d0;replace p0c := hu1.cell p0c;replace p1c := hu1.cell p1c;replace p2c := hu1.cell p2c;replace p3c := hu1.cell p3c;have HU1 := Lib.hid (HU.out.trans hu1);clear d1 d2 d3 hu hu1;go_wp2_with fail;refine wp_region_held_drew (S := fun w' => w'.cell? ⟨B, o + k * 4, none⟩ = some (.int .u64 (id : Int)) ∧ w'.cell? ⟨B, o + j * 4, none⟩ = some (.int .u64 (p0 : Int)) ∧ w'.cell? ⟨B, o + j * 4 + 1, none⟩ = some (.int .u64 (p1 : Int)) ∧ w'.cell? ⟨B, o + j * 4 + 2, none⟩ = some (.int .u32 (p2 : Int)) ∧ w'.cell? ⟨B, o + j * 4 + 3, none⟩ = some (.int .u32 (p3 : Int))) (by kernel_rfl) ?_ (fun hHeld => ?_)
            · exact ⟨d0, p0c, p1c, p2c, p3c⟩
            refine tk 0 rfl ?_;(try simp only [Act.put, tz1, tz2, tz3]);refine tk 1 rfl ?_;(try simp only [Act.put, tz1, tz2, tz3]);refine tk 2 rfl ?_;(try simp only [Act.put, tz1, tz2, tz3]);refine tk 3 rfl ?_;(try simp only [Act.put, tz1, tz2, tz3]);refine tk 4 rfl ?_;(try simp only [Act.put, tz1, tz2, tz3]);refine tk 5 rfl ?_;(try simp only [Act.put, tz1, tz2, tz3]);refine tk 6 rfl ?_;(try simp only [Act.put, tz1, tz2, tz3]);refine tk 7 rfl ?_;(try simp only [Act.put, tz1, tz2, tz3]);refine tk 8 rfl ?_;(try simp only [Act.put, tz1, tz2, tz3]);refine tk 9 rfl ?_;(try simp only [Act.put, tz1, tz2, tz3]);refine tk 10 rfl ?_;(try simp only [Act.put, tz1, tz2, tz3]);refine tk 11 rfl ?_;(try simp only [Act.put, tz1, tz2, tz3]);refine tk 12 rfl ?_;(try simp only [Act.put, tz1, tz2, tz3]);refine rd1 13 rfl (fun K hK => ?_);go_simp
            (go_at_call 75; (with_reducible refine (LS _).out.mono ?_); rintro e w3 ⟨rfl, hu3⟩)
            refine hK.out _ _ ?_ (fun hHeld2 => ?_)
            · exact ⟨hu3.cell d0, hu3.cell p0c, hu3.cell p1c, hu3.cell p2c, hu3.cell p3c⟩
            clear hK K;(try simp only [Act.put, tz1, tz2, tz3]);refine tk 14 rfl ?_;(try simp only [Act.put, tz1, tz2, tz3]);refine tk 15 rfl ?_;(try simp only [Act.put, tz1, tz2, tz3]);refine wpAnyH_done (by kernel_rfl) ?_ _;go_wp2_with fail;go_roundg m
            case measure => omega
            case rel => exact ⟨k + 1, by omega, by go_num, HD.out, HU1.out.trans ((Up.refl _).drew.trans hu3)⟩
      · have E := Lib.hid (HS.out.1 hc);have hb : (cv != 0) = true := by rw [bne_iff_ne]; exact hc
        clear hc HS hu;go_wp2_with fail;with_reducible refine (CK _).out.mono ?_
        rintro e w1 ⟨rfl, hu1⟩;go_wp2_with fail;go_ret;exact ⟨by rw [E.out]; rfl, HU.out.trans hu1⟩
    · obtain rfl : k = l.length := by omega
      rw [List.drop_length] at hd;have hT0 : TT = 0 := by rw [← hd]; rfl
      subst hT0;have hltI : ¬ (l.length : Int) < (l.length : Int) := by omega
      clear hd hu hlt;go_wp2_with fail;go_ret;exact ⟨rfl, HU.out⟩
set_option maxHeartbeats 4000000 in
theorem rsame07_any (M : Ents) (hl : M.length ≤ 1000000) (A1 : Option Addr) (c1 : Nat) (A2 : Option Addr) (c2 : Nat) (w : World) (h1 : Rd w 4 A1 M.length c1 (entV M)) (h2 : Rd w 4 A2 M.length c2 (entV M)) :
    Calls Tryz.prog 12 #[.slice A1 M.length c1, .slice A2 M.length c2] w fun e w' => e = .returned (.bool true) ∧ Up w w' := by
  have HR1 := Lib.hid h1;have HR2 := Lib.hid h2;clear h1 h2;go_enter Tryz.func12, Tryz.ntmps12;go_wp2_with fail;go_loopg [5] M.length (fun gk i wr => ∃ k : Nat, k + gk = M.length ∧ i = .int .i64 (k : Int) ∧ Up w wr)
  case atStart => exact ⟨0, by omega, rfl, Up.refl w⟩
  case round =>
    obtain ⟨k, hk, rfl, hu⟩ := hrel;by_cases hlt : k < M.length
    · obtain ⟨m, rfl⟩ : ∃ x, gk = x + 1 := ⟨gk - 1, by omega⟩;obtain ⟨b1, o1, rfl, p0, p1, p2, p3⟩ := (HR1.out.up hu).ent hlt;obtain ⟨b2, o2, rfl, q0, q1, q2, q3⟩ := (HR2.out.up hu).ent hlt;obtain ⟨⟨n0, n1, n2, n3⟩, hx⟩ : ∃ x, M[k] = x := ⟨_, rfl⟩;rw [hx] at p0 p1 p2 p3 q0 q1 q2 q3;simp only at p0 p1 p2 p3 q0 q1 q2 q3;have HU := Lib.hid hu;have kI : (k : Int) < (M.length : Int) := by omega
      clear hx hu;go_wp2_with fail;refine wp_region_held_drew (S := fun w' => (w'.cell? ⟨b1, o1 + k * 4, none⟩ = some (.int .u64 (n0 : Int)) ∧ w'.cell? ⟨b1, o1 + k * 4 + 1, none⟩ = some (.int .u64 (n1 : Int)) ∧ w'.cell? ⟨b1, o1 + k * 4 + 2, none⟩ = some (.int .u32 (n2 : Int)) ∧ w'.cell? ⟨b1, o1 + k * 4 + 3, none⟩ = some (.int .u32 (n3 : Int))) ∧ w'.cell? ⟨b2, o2 + k * 4, none⟩ = some (.int .u64 (n0 : Int)) ∧ w'.cell? ⟨b2, o2 + k * 4 + 1, none⟩ = some (.int .u64 (n1 : Int)) ∧ w'.cell? ⟨b2, o2 + k * 4 + 2, none⟩ = some (.int .u32 (n2 : Int)) ∧ w'.cell? ⟨b2, o2 + k * 4 + 3, none⟩ = some (.int .u32 (n3 : Int))) (by kernel_rfl) ?_ (fun hHeld => ?_)
      · exact ⟨⟨p0, p1, p2, p3⟩, q0, q1, q2, q3⟩
      refine tk 0 rfl ?_;(try simp only [Act.put, tz1, tz2, tz3]);refine tk 1 rfl ?_;(try simp only [Act.put, tz1, tz2, tz3]);refine tk 2 rfl ?_;(try simp only [Act.put, tz1, tz2, tz3]);refine tk 3 rfl ?_;(try simp only [Act.put, tz1, tz2, tz3]);refine tk 4 rfl ?_;(try simp only [Act.put, tz1, tz2, tz3]);refine tk 5 rfl ?_;(try simp only [Act.put, tz1, tz2, tz3]);refine tk 6 rfl ?_;(try simp only [Act.put, tz1, tz2, tz3]);refine tk 7 rfl ?_;(try simp only [Act.put, tz1, tz2, tz3]);refine tk 8 rfl ?_;(try simp only [Act.put, tz1, tz2, tz3]);refine wpAnyH_done (by kernel_rfl) ?_ _;go_wp2_with fail;go_roundg m
      case measure => omega
      case rel => exact ⟨k + 1, by omega, by go_num, HU.out.drew⟩
    · obtain rfl : k = M.length := by omega
      have kI : ¬ (M.length : Int) < (M.length : Int) := by omega
      clear hlt;go_wp2_with fail;go_ret;exact ⟨rfl, hu⟩
end Go.Proofs.YtbfieomjobbhoaaGreatDoor
/- Walk: gazetteerlaw07.Back. -/
namespace Go.Proofs.YtbfieomjobbhoaaGreatDoor
open Go.RowKit Go.Gz Go.Shelf
set_option maxRecDepth 100000
theorem infoEr : (Tryz.prog.info? 87).map (fun i => (i.zero, i.size, i.bytes)) = some (some (.agg #[.int .u64 0, .int .u64 0, .int .u32 0, .int .u32 0]), 4, 24) := by kernel_rfl
/-- a list of the document's entries that a call made -/
def OwnRe (w : World) (base : Nat) (v : Value) (l : Ents) : Prop := w.ownsRow base 87 4 v l.length (entV l)
def EBackE (w : World) (l : Ents) (e : Ending) (w' : World) : Prop := ∃ v, e = .returned v ∧ OwnRe w' w.heap.size v l ∧ Up w w'
set_option maxHeartbeats 1000000 in
theorem back07_any (L : Ents) (hl : L.length ≤ 100000) (A : Option Addr) (c : Nat) (w : World) (hr : Rd w 4 A L.length c (entV L)) :
    Calls Tryz.prog 13 #[.slice A L.length c] w (EBackE w L) := by
  obtain ⟨i0, hi, hz0, hz1, hz2⟩ := info_parts infoEr;have HR := Lib.hid hr;clear hr;go_enter Tryz.func13, Tryz.ntmps13;go_wp2_with fail;go_loopg [3, 4] L.length (fun gk v i wr => ∃ k : Nat, k + gk = L.length ∧ i = .int .i64 k ∧ OwnRe wr w.heap.size v (L.take k) ∧ Up w wr)
  case atStart => exact ⟨0, by omega, rfl, World.ownsRow_nil _ _ _ _, Up.refl w⟩
  case round =>
    obtain ⟨k, hk, rfl, ho, hu⟩ := hrel;have HO := Lib.hid ho;have HU := Lib.hid hu;clear ho;by_cases hlt : k < L.length
    · obtain ⟨m, rfl⟩ : ∃ m, gk = m + 1 := ⟨gk - 1, by omega⟩;have hd : L.take (k + 1) = L.take k ++ [L[k]] := List.take_succ_eq_append_getElem hlt;obtain ⟨B, o, rfl, hc1, hc2, hc3, hc4⟩ := (HR.out.up hu).ent hlt;obtain ⟨⟨xid, xof, xln, xrn⟩, hx⟩ : ∃ x, L[k]'hlt = x := ⟨_, rfl⟩;rw [hx] at hc1 hc2 hc3 hc4 hd;simp only at hc1 hc2 hc3 hc4;have hltI : (k : Int) < (L.length : Int) := by omega
      have hml : (L.take k).length ≤ k := by rw [List.length_take]; omega
      have HD := Lib.hid hd;clear hx hu hd;go_wp2_with (at_builtin; refine app_one wr rfl _ _ 28 rfl w.heap.size 87 i0 _ 4 24 Tryz.underlying28 hi hz0 hz1 hz2 rfl (by decide) _ _ _ HO.out rfl #[.int .u64 (xid : Int), .int .u64 (xof : Int), .int .u32 (xln : Int), .int .u32 (xrn : Int)] rfl rfl (by simp [Value.oneCell']) (by omega) (by omega) (by have := HU.out.le; omega) ?_; intro v3 w3 ho3 hg3 hb3)
      go_roundg m
      case measure => omega
      case rel =>
        refine ⟨k + 1, by omega, by go_num, ?_, Up.of (Below.trans HU.out.below hb3)⟩;rw [HD.out];unfold OwnRe;rw [entV_app, List.length_append];exact ho3
    · obtain rfl : k = L.length := by omega
      have hO := HO.out;rw [List.take_length] at hO;have HO2 := Lib.hid hO;clear hO hu hlt;go_wp2_with fail;go_ret;exact ⟨_, rfl, HO2.out, HU.out⟩
end Go.Proofs.YtbfieomjobbhoaaGreatDoor
