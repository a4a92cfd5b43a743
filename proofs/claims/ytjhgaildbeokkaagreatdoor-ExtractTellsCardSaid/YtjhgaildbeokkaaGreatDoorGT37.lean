/- Walks: the reference's rectangles: Check, Has, Size. -/
import Derived.Test.YtjhgaildbeokkaaGreatDoorGT17
import Derived.Test.YtjhgaildbeokkaaGreatDoorGT24
import Derived.Test.YtjhgaildbeokkaaGreatDoorGT36
import Derived.Test.YtjhgaildbeokkaaGreatDoorGT34
namespace Go.Gz
/-- how many tiles a rectangle has -/
def sizeR (r : Rc) : Int := if chkR r ≠ 0 then 0 else (r.x1 - r.x0 + 1) * (r.y1 - r.y0 + 1)
end Go.Gz
namespace Go.Proofs.YtjhgaildbeokkaaGreatDoor
open Go.RowKit Go.Gz Go.Shelf

set_option maxRecDepth 100000
abbrev rrC (r : Rc) : Obj := .cells #[.int .i64 r.z, .int .i64 r.x0, .int .i64 r.y0, .int .i64 r.x1, .int .i64 r.y1] 89
abbrev rtC (z x y : Int) : Obj := .cells #[.int .i64 z, .int .i64 x, .int .i64 y] 176
theorem rrc_cells {w : World} {B : Nat} {r : Rc} (h : w.heap[B]? = some (rrC r)) : w.cell? ⟨B, 0, none⟩ = some (.int .i64 r.z) ∧ w.cell? ⟨B, 1, none⟩ = some (.int .i64 r.x0) ∧ w.cell? ⟨B, 2, none⟩ = some (.int .i64 r.y0) ∧ w.cell? ⟨B, 3, none⟩ = some (.int .i64 r.x1) ∧ w.cell? ⟨B, 4, none⟩ = some (.int .i64 r.y1) :=
  ⟨blkc h 0 _ rfl, blkc h 1 _ rfl, blkc h 2 _ rfl, blkc h 3 _ rfl, blkc h 4 _ rfl⟩
theorem rti_cells {w : World} {B : Nat} {z x y : Int} (h : w.heap[B]? = some (rtC z x y)) : w.cell? ⟨B, 0, none⟩ = some (.int .i64 z) ∧ w.cell? ⟨B, 1, none⟩ = some (.int .i64 x) ∧ w.cell? ⟨B, 2, none⟩ = some (.int .i64 y) :=
  ⟨blkc h 0 _ rfl, blkc h 1 _ rfl, blkc h 2 _ rfl⟩
set_option maxHeartbeats 8000000 in
theorem r5check_any (r : Rc) (w : World) :
    Calls Tryz.prog 93 #[rcA r] w fun e w' => e = .returned (.int .i64 (chkR r)) ∧ Up w w' := by
  obtain ⟨z, x0, y0, x1, y1⟩ := r;unfold chkR;simp only;have SD := fun w => Lib.hid (rside_any z w);generalize sideV z = n at *;have hE : (if inR x0 x1 n = true ∧ inR y0 y1 n = true then (0 : Int) else 8) = if 0 ≤ x0 ∧ x0 ≤ x1 ∧ x1 < n ∧ 0 ≤ y0 ∧ y0 ≤ y1 ∧ y1 < n then 0 else 8 := by
    unfold inR; simp [and_assoc]
  rw [hE];obtain ⟨c0, c1, c2, c3, c4⟩ := rrc_cells (r := ⟨z, x0, y0, x1, y1⟩) (heap_alloc_new w _);simp only at c0 c1 c2 c3 c4;have hu := (Up.refl w).alloc (rrC ⟨z, x0, y0, x1, y1⟩);by_cases h0 : n = 0
  case pos =>
    subst h0;rw [if_pos rfl];go_enter Tryz.func93, Tryz.ntmps93;go_wp2_with fail;refine (SD _).out.mono ?_;rintro e w1 ⟨rfl, rfl⟩;go_wp2_with fail;go_ret;exact ⟨rfl, hu⟩
  have h0b : (n == 0) = false := by rw [beq_eq_false_iff_ne]; exact h0
  rw [if_neg h0];clear hE;by_cases h1 : 0 ≤ x0
  case neg =>
    rw [if_neg (fun h => h1 (by omega))];go_enter Tryz.func93, Tryz.ntmps93;go_wp2_with fail;refine (SD _).out.mono ?_;rintro e w1 ⟨rfl, rfl⟩;go_wp2_with fail;go_ret;exact ⟨rfl, hu⟩
  by_cases h2 : x0 ≤ x1
  case neg =>
    rw [if_neg (fun h => h2 (by omega))];go_enter Tryz.func93, Tryz.ntmps93;go_wp2_with fail;refine (SD _).out.mono ?_;rintro e w1 ⟨rfl, rfl⟩;go_wp2_with fail;go_ret;exact ⟨rfl, hu⟩
  by_cases h3 : x1 < n
  case neg =>
    rw [if_neg (fun h => h3 (by omega))];go_enter Tryz.func93, Tryz.ntmps93;go_wp2_with fail;refine (SD _).out.mono ?_;rintro e w1 ⟨rfl, rfl⟩;go_wp2_with fail;go_ret;exact ⟨rfl, hu⟩
  by_cases h4 : 0 ≤ y0
  case neg =>
    rw [if_neg (fun h => h4 (by omega))];go_enter Tryz.func93, Tryz.ntmps93;go_wp2_with fail;refine (SD _).out.mono ?_;rintro e w1 ⟨rfl, rfl⟩;go_wp2_with fail;go_ret;exact ⟨rfl, hu⟩
  by_cases h5 : y0 ≤ y1
  case neg =>
    rw [if_neg (fun h => h5 (by omega))];go_enter Tryz.func93, Tryz.ntmps93;go_wp2_with fail;refine (SD _).out.mono ?_;rintro e w1 ⟨rfl, rfl⟩;go_wp2_with fail;go_ret;exact ⟨rfl, hu⟩
  by_cases h6 : y1 < n
  case neg =>
    rw [if_neg (fun h => h6 (by omega))];go_enter Tryz.func93, Tryz.ntmps93;go_wp2_with fail;refine (SD _).out.mono ?_;rintro e w1 ⟨rfl, rfl⟩;go_wp2_with fail;go_ret;exact ⟨rfl, hu⟩
  rw [if_pos ⟨h1, h2, h3, h4, h5, h6⟩];go_enter Tryz.func93, Tryz.ntmps93;go_wp2_with fail;refine (SD _).out.mono ?_;rintro e w1 ⟨rfl, rfl⟩;go_wp2_with fail;go_ret;exact ⟨rfl, hu⟩
set_option maxHeartbeats 8000000 in
theorem r5has_any (r : Rc) (z x y : Int) (w : World) :
    Calls Tryz.prog 90 #[rcA r, tiA z x y] w fun e w' => e = .returned (.bool (hasR r z x y)) ∧ Up w w' := by
  have CK := fun w => Lib.hid (r5check_any r w);unfold hasR;generalize chkR r = E at *;obtain ⟨rz, x0, y0, x1, y1⟩ := r;simp only at *;have hu := ((Up.refl w).alloc (rrC ⟨rz, x0, y0, x1, y1⟩)).alloc (rtC z x y);have q0 := ((Up.refl _).alloc (rtC z x y)).obj (heap_alloc_new w (rrC ⟨rz, x0, y0, x1, y1⟩));have q1 := heap_alloc_new (w.alloc (rrC ⟨rz, x0, y0, x1, y1⟩)) (rtC z x y);rw [World.size_alloc] at q1;obtain ⟨c0, c1, c2, c3, c4⟩ := rrc_cells (r := ⟨rz, x0, y0, x1, y1⟩) q0;simp only at c0 c1 c2 c3 c4;have HQ0 := Lib.hid q0;have HQ1 := Lib.hid q1;clear q0 q1;have ST : ∀ P : World → Prop, (∀ w1, Up ((w.alloc (rrC ⟨rz, x0, y0, x1, y1⟩)).alloc (rtC z x y)) w1 → P w1) → True := fun _ _ => trivial;clear ST;have W := fun w1 (h : Up ((w.alloc (rrC ⟨rz, x0, y0, x1, y1⟩)).alloc (rtC z x y)) w1) => And.intro (rrc_cells (r := ⟨rz, x0, y0, x1, y1⟩) (h.obj HQ0.out)) (rti_cells (h.obj HQ1.out));simp only at W;have W := Lib.hid W;by_cases h0 : E = 0
  · rw [decide_eq_true h0];simp only [Bool.true_and];have g0 : (E == 0) = true := by rw [beq_iff_eq]; exact h0
    clear h0;by_cases h1 : z = rz
    · rw [decide_eq_true h1];simp only [Bool.true_and];have g1 : (z == rz) = true := by rw [beq_iff_eq]; exact h1
      clear h1;by_cases h2 : x0 ≤ x
      · rw [decide_eq_true h2];simp only [Bool.true_and];by_cases h3 : x ≤ x1
        · rw [decide_eq_true h3];simp only [Bool.true_and];by_cases h4 : y0 ≤ y
          · rw [decide_eq_true h4];simp only [Bool.true_and];by_cases h5 : y ≤ y1
            focus
              rw [decide_eq_true h5]
            rotate_left;focus
              rw [decide_eq_false h5]
            rotate_left;all_goals
              go_enter Tryz.func90, Tryz.ntmps90;go_wp2_with fail;refine (CK _).out.mono ?_;rintro e w1 ⟨rfl, hu1⟩;obtain ⟨⟨a0, a1, a2, a3, a4⟩, b0, b1, b2⟩ := W.out w1 hu1;go_wp2_with fail;go_ret;first | exact ⟨rfl, hu.trans hu1⟩ | exact ⟨ret_bool (decide_eq_true (by omega)), hu.trans hu1⟩ | exact ⟨ret_bool (decide_eq_false (by omega)), hu.trans hu1⟩
          · rw [decide_eq_false h4];simp only [Bool.false_and];go_enter Tryz.func90, Tryz.ntmps90;go_wp2_with fail;refine (CK _).out.mono ?_;rintro e w1 ⟨rfl, hu1⟩;obtain ⟨⟨a0, a1, a2, a3, a4⟩, b0, b1, b2⟩ := W.out w1 hu1;go_wp2_with fail;go_ret;first | exact ⟨rfl, hu.trans hu1⟩ | exact ⟨ret_bool (decide_eq_true (by omega)), hu.trans hu1⟩ | exact ⟨ret_bool (decide_eq_false (by omega)), hu.trans hu1⟩
        · rw [decide_eq_false h3];simp only [Bool.false_and];go_enter Tryz.func90, Tryz.ntmps90;go_wp2_with fail;refine (CK _).out.mono ?_;rintro e w1 ⟨rfl, hu1⟩;obtain ⟨⟨a0, a1, a2, a3, a4⟩, b0, b1, b2⟩ := W.out w1 hu1;go_wp2_with fail;go_ret;first | exact ⟨rfl, hu.trans hu1⟩ | exact ⟨ret_bool (decide_eq_true (by omega)), hu.trans hu1⟩ | exact ⟨ret_bool (decide_eq_false (by omega)), hu.trans hu1⟩
      · rw [decide_eq_false h2];simp only [Bool.false_and];go_enter Tryz.func90, Tryz.ntmps90;go_wp2_with fail;refine (CK _).out.mono ?_;rintro e w1 ⟨rfl, hu1⟩;obtain ⟨⟨a0, a1, a2, a3, a4⟩, b0, b1, b2⟩ := W.out w1 hu1;go_wp2_with fail;go_ret;first | exact ⟨rfl, hu.trans hu1⟩ | exact ⟨ret_bool (decide_eq_true (by omega)), hu.trans hu1⟩ | exact ⟨ret_bool (decide_eq_false (by omega)), hu.trans hu1⟩
    · rw [decide_eq_false h1];simp only [Bool.false_and];have g1 : (z == rz) = false := by rw [beq_eq_false_iff_ne]; exact h1
      clear h1;go_enter Tryz.func90, Tryz.ntmps90;go_wp2_with fail;refine (CK _).out.mono ?_;rintro e w1 ⟨rfl, hu1⟩;obtain ⟨⟨a0, a1, a2, a3, a4⟩, b0, b1, b2⟩ := W.out w1 hu1;go_wp2_with fail;go_ret;first | exact ⟨rfl, hu.trans hu1⟩ | exact ⟨ret_bool (decide_eq_true (by omega)), hu.trans hu1⟩ | exact ⟨ret_bool (decide_eq_false (by omega)), hu.trans hu1⟩
  · rw [decide_eq_false h0];simp only [Bool.false_and];have g0 : (E == 0) = false := by rw [beq_eq_false_iff_ne]; exact h0
    clear h0;go_enter Tryz.func90, Tryz.ntmps90;go_wp2_with fail;refine (CK _).out.mono ?_;rintro e w1 ⟨rfl, hu1⟩;obtain ⟨⟨a0, a1, a2, a3, a4⟩, b0, b1, b2⟩ := W.out w1 hu1;go_wp2_with fail;go_ret;first | exact ⟨rfl, hu.trans hu1⟩ | exact ⟨ret_bool (decide_eq_true (by omega)), hu.trans hu1⟩ | exact ⟨ret_bool (decide_eq_false (by omega)), hu.trans hu1⟩
set_option maxHeartbeats 4000000 in
theorem r5size_any (r : Rc) (w : World) :
    Calls Tryz.prog 41 #[rcA r] w fun e w' => e = .returned (.int .i64 (sizeR r)) ∧ Up w w' := by
  have CK := fun w => Lib.hid (r5check_any r w);unfold sizeR;have hin := chk_in (r := r);generalize chkR r = E at *;obtain ⟨z, x0, y0, x1, y1⟩ := r;simp only at *;have HQ := Lib.hid (heap_alloc_new w (rrC ⟨z, x0, y0, x1, y1⟩));obtain ⟨c0, c1, c2, c3, c4⟩ := rrc_cells (r := ⟨z, x0, y0, x1, y1⟩) HQ.out;simp only at c0 c1 c2 c3 c4;have hu := (Up.refl w).alloc (rrC ⟨z, x0, y0, x1, y1⟩);by_cases h0 : E = 0
  · obtain ⟨n, hzn, hn, a1, a2, a3, b1, b2, b3⟩ := hin h0;have hp := two_pow_le26 hn;have e1 : ((2 : Int) ^ n) = ((2 ^ n : Nat) : Int) := by simp
    rw [e1] at a3 b3;generalize 2 ^ n = P at *;clear hin;obtain ⟨a, ha⟩ : ∃ a, x1 - x0 + 1 = a := ⟨_, rfl⟩;obtain ⟨b, hb⟩ : ∃ b, y1 - y0 + 1 = b := ⟨_, rfl⟩;have a0 : 1 ≤ a ∧ a ≤ 67108864 := by omega
    have b0 : 1 ≤ b ∧ b ≤ 67108864 := by omega
    have k1 : 0 ≤ a * b := Int.mul_nonneg (by omega) (by omega);have k2 : a * b ≤ 67108864 * 67108864 := Int.mul_le_mul (by omega) (by omega) (by omega) (by omega);have p3 : IntKind.i64.wrap (a * b) = a * b := IntWalk.i64_in _ (by omega);have p1 : IntKind.i64.wrap (x1 - x0) = a - 1 := by rw [IntWalk.i64_in _ (by omega)]; omega
    have p2 : IntKind.i64.wrap (y1 - y0) = b - 1 := by rw [IntWalk.i64_in _ (by omega)]; omega
    rw [ha, hb];clear k1 k2 ha hb hzn e1 hp a1 a2 a3 b1 b2 b3;subst h0;rw [if_neg (by simp)];go_enter Tryz.func41, Tryz.ntmps41;go_wp2_with fail;refine (CK _).out.mono ?_;rintro e w1 ⟨rfl, hu1⟩;obtain ⟨c0, c1, c2, c3, c4⟩ := rrc_cells (r := ⟨z, x0, y0, x1, y1⟩) (hu1.obj HQ.out);simp only at c0 c1 c2 c3 c4;go_wp2_with fail;go_ret;exact ⟨rfl, hu.trans hu1⟩
  · have h0b : (E == 0) = false := by rw [beq_eq_false_iff_ne]; exact h0
    rw [if_pos h0];clear hin;go_enter Tryz.func41, Tryz.ntmps41;go_wp2_with fail;refine (CK _).out.mono ?_;rintro e w1 ⟨rfl, hu1⟩;go_wp2_with fail;go_ret;exact ⟨rfl, hu.trans hu1⟩
end Go.Proofs.YtjhgaildbeokkaaGreatDoor
/- Walks: the reference's touch. -/
namespace Go.Proofs.YtjhgaildbeokkaaGreatDoor
open Go.RowKit Go.Gz Go.Shelf

set_option maxRecDepth 100000
abbrev rsC (s : Sp) : Obj := .cells #[.int .u64 (s.1 : Int), .int .u64 (s.2 : Int)] 185
set_option maxHeartbeats 8000000 in
theorem rtouch_any (a b : Sp) (ha : a.2 < 18446744073709551615) (hb : b.2 < 18446744073709551615) (w : World) :
    Calls Tryz.prog 243 #[spA a, spA b] w fun e w' => e = .returned (.bool (touB a b)) ∧ Up w w' := by
  obtain ⟨a0, a1⟩ := a;obtain ⟨b0, b1⟩ := b;simp only at ha hb ⊢;have hu := ((Up.refl w).alloc (rsC (a0, a1))).alloc (rsC (b0, b1));have q0 := ((Up.refl _).alloc (rsC (b0, b1))).obj (heap_alloc_new w (rsC (a0, a1)));have q1 := heap_alloc_new (w.alloc (rsC (a0, a1))) (rsC (b0, b1));rw [World.size_alloc] at q1;have c0 := blkc q0 0 _ rfl;have c1 := blkc q0 1 _ rfl;have d0 := blkc q1 0 _ rfl;have d1 := blkc q1 1 _ rfl;simp only [List.getElem_toArray, List.getElem_cons_succ, List.getElem_cons_zero] at c0 c1 d0 d1;have e1 : IntKind.u64.wrap ((a1 : Int) + 1) = (a1 : Int) + 1 := IntWalk.u64_in _ (by omega);have e2 : IntKind.u64.wrap ((b1 : Int) + 1) = (b1 : Int) + 1 := IntWalk.u64_in _ (by omega);clear q0 q1;by_cases h1 : (b0 : Int) ≤ (a1 : Int)
  case pos =>
    by_cases h3 : (a0 : Int) ≤ (b1 : Int)
    case pos =>
      rw [show touB (a0, a1) (b0, b1) = true from by unfold touB; simp only; first | (simp only [Bool.and_eq_true, Bool.or_eq_true, decide_eq_true_eq]; omega) | (rw [Bool.eq_false_iff]; simp only [ne_eq, Bool.and_eq_true, Bool.or_eq_true, decide_eq_true_eq]; omega)];go_enter Tryz.func243, Tryz.ntmps243;go_wp2_with fail;go_ret;exact ⟨rfl, hu⟩
    by_cases h4 : (b1 : Int) + 1 = (a0 : Int)
    case pos =>
      have g4 : IntKind.u64.wrap (a0 : Int) = (a0 : Int) := IntWalk.u64_in _ (by omega);rw [show touB (a0, a1) (b0, b1) = true from by unfold touB; simp only; first | (simp only [Bool.and_eq_true, Bool.or_eq_true, decide_eq_true_eq]; omega) | (rw [Bool.eq_false_iff]; simp only [ne_eq, Bool.and_eq_true, Bool.or_eq_true, decide_eq_true_eq]; omega)];go_enter Tryz.func243, Tryz.ntmps243;go_wp2_with fail;go_ret;exact ⟨rfl, hu⟩
    case neg =>
      have g4 : ((b1 : Int) + 1 == (a0 : Int)) = false := by rw [beq_eq_false_iff_ne]; exact h4
      rw [show touB (a0, a1) (b0, b1) = false from by unfold touB; simp only; first | (simp only [Bool.and_eq_true, Bool.or_eq_true, decide_eq_true_eq]; omega) | (rw [Bool.eq_false_iff]; simp only [ne_eq, Bool.and_eq_true, Bool.or_eq_true, decide_eq_true_eq]; omega)];go_enter Tryz.func243, Tryz.ntmps243;go_wp2_with fail;go_ret;exact ⟨rfl, hu⟩
  by_cases h2 : (a1 : Int) + 1 = (b0 : Int)
  case pos =>
    have g2 : IntKind.u64.wrap (b0 : Int) = (b0 : Int) := IntWalk.u64_in _ (by omega);by_cases h3 : (a0 : Int) ≤ (b1 : Int)
    case pos =>
      rw [show touB (a0, a1) (b0, b1) = true from by unfold touB; simp only; first | (simp only [Bool.and_eq_true, Bool.or_eq_true, decide_eq_true_eq]; omega) | (rw [Bool.eq_false_iff]; simp only [ne_eq, Bool.and_eq_true, Bool.or_eq_true, decide_eq_true_eq]; omega)];go_enter Tryz.func243, Tryz.ntmps243;go_wp2_with fail;go_ret;exact ⟨rfl, hu⟩
    by_cases h4 : (b1 : Int) + 1 = (a0 : Int)
    case pos =>
      have g4 : IntKind.u64.wrap (a0 : Int) = (a0 : Int) := IntWalk.u64_in _ (by omega);rw [show touB (a0, a1) (b0, b1) = true from by unfold touB; simp only; first | (simp only [Bool.and_eq_true, Bool.or_eq_true, decide_eq_true_eq]; omega) | (rw [Bool.eq_false_iff]; simp only [ne_eq, Bool.and_eq_true, Bool.or_eq_true, decide_eq_true_eq]; omega)];go_enter Tryz.func243, Tryz.ntmps243;go_wp2_with fail;go_ret;exact ⟨rfl, hu⟩
    case neg =>
      have g4 : ((b1 : Int) + 1 == (a0 : Int)) = false := by rw [beq_eq_false_iff_ne]; exact h4
      rw [show touB (a0, a1) (b0, b1) = false from by unfold touB; simp only; first | (simp only [Bool.and_eq_true, Bool.or_eq_true, decide_eq_true_eq]; omega) | (rw [Bool.eq_false_iff]; simp only [ne_eq, Bool.and_eq_true, Bool.or_eq_true, decide_eq_true_eq]; omega)];go_enter Tryz.func243, Tryz.ntmps243;go_wp2_with fail;go_ret;exact ⟨rfl, hu⟩
  case neg =>
    have g2 : ((a1 : Int) + 1 == (b0 : Int)) = false := by rw [beq_eq_false_iff_ne]; exact h2
    rw [show touB (a0, a1) (b0, b1) = false from by unfold touB; simp only; first | (simp only [Bool.and_eq_true, Bool.or_eq_true, decide_eq_true_eq]; omega) | (rw [Bool.eq_false_iff]; simp only [ne_eq, Bool.and_eq_true, Bool.or_eq_true, decide_eq_true_eq]; omega)];go_enter Tryz.func243, Tryz.ntmps243;go_wp2_with fail;go_ret;exact ⟨rfl, hu⟩
end Go.Proofs.YtjhgaildbeokkaaGreatDoor
/- Walk: the reference's put: one interval more. -/
namespace Go.Gz
theorem below_le (o : Sps) (m : Sp) : below o m ≤ o.length := by unfold below; exact (List.takeWhile_sublist _).length_le
theorem below_iff : ∀ (o : Sps) (m : Sp) (j : Nat) (hj : j < o.length), j ≤ below o m → (o[j].1 < m.1 ↔ j < below o m)
  | [], m, j, hj, _ => by simp at hj
  | y :: t, m, j, hj, h => by
    by_cases hy : y.1 < m.1
    · have e : below (y :: t) m = below t m + 1 := by unfold below; rw [List.takeWhile_cons_of_pos (by simpa using hy)]; rfl
      rw [e] at h ⊢;cases j with
      | zero => exact ⟨fun _ => by omega, fun _ => hy⟩
      | succ j =>
        have := below_iff t m j (by simpa using hj) (by omega);rw [List.getElem_cons_succ, this];omega
    · have e : below (y :: t) m = 0 := by unfold below; rw [List.takeWhile_cons_of_neg (by simpa using hy)]; rfl
      rw [e] at h ⊢;obtain rfl : j = 0 := by omega
      exact ⟨fun h => absurd h hy, fun h => by omega⟩
theorem abs_step (o : Sps) (m x : Sp) : absF (o, m) x = if touB x m = true then (o, (min x.1 m.1, max x.2 m.2)) else (o ++ [x], m) := rfl
theorem abs_succ (l : Sps) (s : Sp) {k : Nat} (hk : k < l.length) : (l.take (k + 1)).foldl absF ([], s) = absF ((l.take k).foldl absF ([], s)) l[k] := by
  rw [List.take_succ_eq_append_getElem hk, List.foldl_append]; rfl
end Go.Gz
namespace Go.Proofs.YtjhgaildbeokkaaGreatDoor
open Go.RowKit Go.Gz Go.Shelf

set_option maxRecDepth 100000
theorem infoRs : (Tryz.prog.info? 185).map (fun i => (i.zero, i.size, i.bytes)) = some (some (.agg #[.int .u64 0, .int .u64 0]), 2, 16) := by kernel_rfl
/-- a list of intervals comes back -/
def RsE (w : World) (L : Sps) (e : Ending) (w' : World) : Prop := ∃ A c, e = .returned (.slice A L.length c) ∧ Rd w' 2 A L.length c (spV L) ∧ Up w w'
def PuR (w : World) (l : Sps) (s : Sp) (gk : Nat) (v i : Value) (wr : World) : Prop := ∃ (k : Nat) (o : Sps) (m : Sp), k + gk = l.length ∧ i = .int .i64 (k : Int) ∧ (l.take k).foldl absF ([], s) = (o, m) ∧ o.length ≤ k ∧ m.1 < 18446744073709551616 ∧ m.2 < 18446744073709551615 ∧
  wr.heap[w.heap.size]? = some (.cells #[.int .u64 (m.1 : Int), .int .u64 (m.2 : Int)] 185 (0, 0)) ∧ wr.ownsRow (w.heap.size + 1) 185 2 v o.length (spV o) ∧ Up w wr ∧ w.heap.size + 1 ≤ wr.heap.size
theorem spV_take (l : Sps) : ∀ k, (spV l).take (k * 2) = spV (l.take k) := by
  induction l with
  | nil => intro k; simp [spV]
  | cons s t ih =>
    intro k;cases k with
    | zero => simp [spV]
    | succ k => rw [List.take_succ_cons, spV_cons, spV_cons, ← ih k, show (k + 1) * 2 = k * 2 + 1 + 1 by omega]; rfl
theorem spV_drop (l : Sps) : ∀ k, (spV l).drop (k * 2) = spV (l.drop k) := by
  induction l with
  | nil => intro k; simp [spV]
  | cons s t ih =>
    intro k;cases k with
    | zero => simp
    | succ k => rw [List.drop_succ_cons, spV_cons, ← ih k, show (k + 1) * 2 = k * 2 + 1 + 1 by omega]; rfl
theorem own_fin5 {w : World} {base j : Nat} {e : TypeId} {v : Value} {o P : Sps} {m : Sp} (hj : j ≤ o.length) (hP : o.take j ++ m :: o.drop j = P)
    (h : w.ownsRow base e 2 v (0 + j + 1 + (o.length - j)) ([] ++ spV (o.take j) ++ [Value.int .u64 (m.1 : Int), .int .u64 (m.2 : Int)] ++ spV (o.drop j))) : w.ownsRow base e 2 v P.length (spV P) := by
  have e1 : 0 + j + 1 + (o.length - j) = P.length := by rw [← hP]; simp; omega
  have e2 : [] ++ spV (o.take j) ++ [Value.int .u64 (m.1 : Int), .int .u64 (m.2 : Int)] ++ spV (o.drop j) = spV P := by rw [← hP, spV_app, spV_cons]; simp
  rw [e1, e2] at h; exact h
theorem own_setj {w : World} {base k n size : Nat} {e : TypeId} {v : Value} {xs : List Value} (h : w.ownsRow base e size v n xs) (hk : k < base) (j : Nat) (x : Value) : (w.setCell ⟨k, j, none⟩ x).ownsRow base e size v n xs := by
  refine h.kept (row := some k) ⟨rfl, rfl, rfl, by simp, fun i hi hne => Below.heap_setCell w ⟨k, j, none⟩ x i (fun e => hne (by rw [e]))⟩ ?_;cases hv : v.ownBlock with
  | none => exact .inl rfl
  | some g => have := (h.lt g hv).1; right; intro e; injection e with e; omega
set_option maxHeartbeats 16000000 in
theorem rput5_any (l : Sps) (s : Sp) (hl : l.length ≤ 100000) (hb : ∀ x ∈ l, x.1 < 18446744073709551616 ∧ x.2 < 18446744073709551615) (hs : s.1 < 18446744073709551616 ∧ s.2 < 18446744073709551615) (A : Option Addr) (c : Nat) (w : World) (hr : Rd w 2 A l.length c (spV l)) :
    Calls Tryz.prog 173 #[.slice A l.length c, spA s] w (RsE w (putR l s)) := by
  obtain ⟨i0, hi, hz0, hz1, hz2⟩ := info_parts infoRs;have hu := (Up.refl w).alloc (rsC s);have q0 := heap_alloc_new w (rsC s);have c0 := blkc q0 0 _ rfl;have c1 := blkc q0 1 _ rfl;simp only [List.getElem_toArray, List.getElem_cons_succ, List.getElem_cons_zero] at c0 c1;by_cases hlt : s.2 < s.1
  · have e : putR l s = l := by unfold putR; rw [if_pos hlt]
    rw [e];have HR := Lib.hid (hr.up hu);obtain ⟨s0, s1⟩ := s;simp only at hlt c0 c1;have gI : (s1 : Int) < (s0 : Int) := by omega
    clear hr q0 hb hs hlt e;go_enter Tryz.func173, Tryz.ntmps173;go_wp2_with fail;go_ret;exact ⟨_, _, rfl, HR.out, hu⟩
  obtain ⟨P, hP⟩ : ∃ P, putR l s = P := ⟨_, rfl⟩;have hPe := hP;unfold putR at hPe;rw [if_neg hlt] at hPe;rw [hP];have HP := Lib.hid hPe;have HR := Lib.hid hr;have HU0 := Lib.hid hu;have HQ0 := Lib.hid q0;have gI : ¬ (s.2 : Int) < (s.1 : Int) := by omega
  clear hr hu q0 hP hPe hlt;go_enter Tryz.func173, Tryz.ntmps173;go_wp2_with fail;go_loopg [5, 7] l.length (fun gk v i wr => PuR w l s gk v i wr)
  case atStart => exact ⟨0, [], s, by omega, rfl, rfl, by simp, hs.1, hs.2, HQ0.out, by simpa [spV] using World.ownsRow_nil _ _ _ _, HU0.out, by simp⟩
  case round =>
    obtain ⟨k, o', m, hk, rfl, hst, hol, hm0, hm1, hq, ho, hu, hsz⟩ := hrel;have HO := Lib.hid ho;have HU := Lib.hid hu;have HQ := Lib.hid hq;have d0 := blkc hq 0 _ rfl;have d1 := blkc hq 1 _ rfl;simp only [List.getElem_toArray, List.getElem_cons_succ, List.getElem_cons_zero] at d0 d1;by_cases hlt : k < l.length
    · obtain ⟨g, rfl⟩ : ∃ g, gk = g + 1 := ⟨gk - 1, by omega⟩;have hltI : (k : Int) < (l.length : Int) := by omega
      have hsn := abs_succ l s hlt;rw [hst] at hsn;obtain ⟨bx0, bx1⟩ := hb _ (List.getElem_mem hlt);obtain ⟨b, o, rfl, j0, j1⟩ := (HR.out.up hu).span hlt;have TC := fun w => Lib.hid (rtouch_any l[k] m bx1 hm1 w);rw [abs_step] at hsn;generalize l[k] = x at *;obtain ⟨x0, x1⟩ := x;obtain ⟨m0, m1⟩ := m;simp only at j0 j1 d0 d1 hm0 hm1 bx0 bx1 hsn;generalize touB (x0, x1) (m0, m1) = tb at *;have HSN := Lib.hid hsn;clear hst hsn hq ho hu;go_wp2_with fail;have MK := Lib.hid (fun w' (h : Up wr w') => (⟨h.cell j0, h.cell j1, h.cell d0, h.cell d1⟩ : w'.cell? ⟨b, o + k * 2, none⟩ = some (.int .u64 (x0 : Int)) ∧ w'.cell? ⟨b, o + k * 2 + 1, none⟩ = some (.int .u64 (x1 : Int)) ∧ w'.cell? ⟨w.heap.size, 0, none⟩ = some (.int .u64 (m0 : Int)) ∧ w'.cell? ⟨w.heap.size, 1, none⟩ = some (.int .u64 (m1 : Int))));refine wp_region_held_drew (S := fun w' => w'.cell? ⟨b, o + k * 2, none⟩ = some (.int .u64 (x0 : Int)) ∧ w'.cell? ⟨b, o + k * 2 + 1, none⟩ = some (.int .u64 (x1 : Int)) ∧ w'.cell? ⟨w.heap.size, 0, none⟩ = some (.int .u64 (m0 : Int)) ∧ w'.cell? ⟨w.heap.size, 1, none⟩ = some (.int .u64 (m1 : Int))) (by kernel_rfl) (MK.out _ (Up.refl _).drew) (fun hHeld => ?_);have hU := (Up.refl wr).drew;generalize World.drew wr = y0 at *;refine tk 0 rfl ?_;(try simp only [Act.put, tz1, tz2, tz3]);refine tk 1 rfl ?_;(try simp only [Act.put, tz1, tz2, tz3]);refine tk 2 rfl ?_;(try simp only [Act.put, tz1, tz2, tz3]);refine tk 3 rfl ?_;(try simp only [Act.put, tz1, tz2, tz3]);refine tk 4 rfl ?_;(try simp only [Act.put, tz1, tz2, tz3]);refine rd1 5 rfl (fun K hK => ?_);go_simp;go_at_call 243;with_reducible refine (TC _).out.mono ?_
      rintro e y1 ⟨rfl, hu⟩;refine hK.out _ _ (MK.out _ (hU.trans hu)) (fun hHeld => ?_);clear hK K;(try simp only [Act.put, tz1, tz2, tz3]);replace hU := hU.trans hu;clear hu;refine wpAnyH_done (by kernel_rfl) ?_ _;clear hHeld MK;have k0 := (hU.trans (Up.refl y1).drew).cell j0;have k1 := (hU.trans (Up.refl y1).drew).cell j1;have k2 := (hU.trans (Up.refl y1).drew).cell d0;have k3 := (hU.trans (Up.refl y1).drew).cell d1;cases tb with
      | true =>
        have HQ1 := Lib.hid (hU.obj HQ.out);replace HO := Lib.hid (own_up HO.out hU);have HSZ := Lib.hid (Nat.le_trans hsz hU.le);replace HU := Lib.hid (HU.out.trans hU);rw [if_pos rfl] at HSN;clear hU TC j0 j1 d0 d1;have hq1 := heap_setCell_same y1 w.heap.size 0 _ _ (.int .u64 (min (x0 : Int) (m0 : Int))) HQ1.out;have k5 := blkc ((Up.refl _).drew.obj hq1) 1 _ rfl;have k6 := blkf ((Up.refl _).drew.obj hq1) 1;have k7 := blkf ((Up.refl _).drew.obj HQ1.out) 0;have k8 := blkf HQ1.out 0;simp only [List.set_cons_zero, List.getElem_toArray, List.getElem_cons_succ, List.getElem_cons_zero, List.setIfInBounds_toArray] at k5;go_wp2_with fail;go_region
        clear k0 k1 k2 k3 k5 k6 k7 k8;go_wp2_with fail;go_roundg g
        case measure => omega
        case rel =>
          have hq2 := heap_setCell_same _ w.heap.size 1 _ _ (.int .u64 (max (x1 : Int) (m1 : Int))) hq1;have em : min (x0 : Int) (m0 : Int) = ((min x0 m0 : Nat) : Int) := by omega
          have en : max (x1 : Int) (m1 : Int) = ((max x1 m1 : Nat) : Int) := by omega
          simp only [List.set_cons_zero, List.set_cons_succ, List.setIfInBounds_toArray, em, en] at hq2 ⊢;refine ⟨k + 1, o', (min x0 m0, max x1 m1), by omega, by go_num, HSN.out, by omega, by simp only; omega, by simp only; omega, (Up.refl _).drew.obj hq2, own_up (own_setj (own_setj HO.out (by omega) 0 _) (by omega) 1 _) (Up.refl _).drew, ((HU.out.set (p := ⟨w.heap.size, 0, none⟩) (Nat.le_refl _) _).set (p := ⟨w.heap.size, 1, none⟩) (Nat.le_refl _) _).drew, by simpa using HSZ.out⟩
      | false =>
        replace HQ := Lib.hid (hU.obj HQ.out);replace HO := Lib.hid (own_up HO.out hU);have HSZ := Lib.hid (Nat.le_trans hsz hU.le);replace HU := Lib.hid (HU.out.trans hU);rw [if_neg (by simp)] at HSN;have l0 := hU.cell j0;have l1 := hU.cell j1;clear hU TC j0 j1 d0 d1 k0 k1 k2 k3;go_wp2_with (at_builtin; refine app_one y1 rfl _ _ 93 rfl (w.heap.size + 1) 185 i0 _ 2 16 Tryz.underlying93 hi hz0 hz1 hz2 rfl (by decide) _ _ _ HO.out rfl #[.int .u64 (x0 : Int), .int .u64 (x1 : Int)] rfl rfl (by simp [Value.oneCell']) (by omega) (by omega) HSZ.out ?_; intro v3 w3 ho3 hg3 hb3)
        go_roundg g
        case measure => omega
        case rel =>
          refine ⟨k + 1, o' ++ [(x0, x1)], (m0, m1), by omega, by go_num, HSN.out, by simp; omega, hm0, hm1, (hb3.block _ (by omega)).trans HQ.out, ?_, HU.out.base (by omega) hb3, Nat.le_trans HSZ.out hb3.size⟩;rw [List.length_append, spV_app];exact ho3
    · obtain rfl : k = l.length := by omega
      rw [List.take_length] at hst;have hPe := HP.out;rw [hst] at hPe;simp only at hPe;have hbl := below_le o' m;have hbi := below_iff o' m;obtain ⟨Ao, co, rfl, ro⟩ := Rd.of_own ho;have HRo := Lib.hid ro;have HPE := Lib.hid hPe;have HBI := Lib.hid hbi;obtain ⟨m0, m1⟩ := m;simp only at d0 d1 hm0 hm1;generalize below o' (m0, m1) = p at *;clear hst hPe hbi ro HP ho hq hlt hu;go_wp2_with fail;go_loopg [6] p (fun gk i wx => ∃ j : Nat, j + gk = p ∧ i = .int .i64 (j : Int) ∧ Up wr wx)
      case atStart => exact ⟨0, by omega, rfl, Up.refl _⟩
      case round =>
        rename World => wx
        obtain ⟨j, hj, rfl, hux⟩ := hrel;have hox := HRo.out.up hux;have hqx := hux.obj HQ.out;have x0 := blkc hqx 0 _ rfl;have x1 := blkc hqx 1 _ rfl;simp only [List.getElem_toArray, List.getElem_cons_succ, List.getElem_cons_zero] at x0 x1;by_cases hjp : j < p
        · obtain ⟨g, rfl⟩ : ∃ g, gk = g + 1 := ⟨gk - 1, by omega⟩;have hjl : j < o'.length := by omega
          have hjI : (j : Int) < (o'.length : Int) := by omega
          have hlt := (HBI.out j hjl (by omega)).2 hjp;obtain ⟨bo, oo, rfl, j0, _⟩ := hox.span hjl;generalize o'[j].1 = z at *;have hzI : (z : Int) < (m0 : Int) := by simpa using hlt
          clear hlt hqx;go_wp2_with fail;refine wp_region_held_drew (S := fun w' => w'.cell? ⟨bo, oo + j * 2, none⟩ = some (.int .u64 (z : Int)) ∧ w'.cell? ⟨w.heap.size, 0, none⟩ = some (.int .u64 (m0 : Int))) (by kernel_rfl) ⟨(Up.refl wx).drew.cell j0, (Up.refl wx).drew.cell x0⟩ (fun hHeld => ?_);have hU := (Up.refl wx).drew;generalize World.drew wx = y0 at *;refine tk 0 rfl ?_;(try simp only [Act.put, tz1, tz2, tz3]);refine tk 1 rfl ?_;(try simp only [Act.put, tz1, tz2, tz3]);refine tk 2 rfl ?_;(try simp only [Act.put, tz1, tz2, tz3]);refine tk 3 rfl ?_;(try simp only [Act.put, tz1, tz2, tz3]);refine tk 4 rfl ?_;(try simp only [Act.put, tz1, tz2, tz3]);refine tk 5 rfl ?_;(try simp only [Act.put, tz1, tz2, tz3]);refine tk 6 rfl ?_;(try simp only [Act.put, tz1, tz2, tz3]);refine tk 7 rfl ?_;(try simp only [Act.put, tz1, tz2, tz3]);refine tk 8 rfl ?_;(try simp only [Act.put, tz1, tz2, tz3]);refine tk 9 rfl ?_;(try simp only [Act.put, tz1, tz2, tz3]);refine tk 10 rfl ?_;(try simp only [Act.put, tz1, tz2, tz3]);refine tk 11 rfl ?_;(try simp only [Act.put, tz1, tz2, tz3]);refine tk 12 rfl ?_;(try simp only [Act.put, tz1, tz2, tz3]);refine tk 13 rfl ?_;(try simp only [Act.put, tz1, tz2, tz3]);refine wpAnyH_done (by kernel_rfl) ?_ _;clear hHeld;go_wp2_with fail;go_roundg g
          case measure => omega
          case rel => exact ⟨j + 1, by omega, by go_num, hux.trans hU⟩
        · obtain rfl : j = p := by omega
          obtain ⟨A2, c2, e2, r2⟩ := HRo.out.cut_h (P := Tryz.prog) (k := j) Tryz.underlying93 hi hz1 hbl;obtain ⟨A3, c3, e3, r3⟩ := HRo.out.cut_l (P := Tryz.prog) (k := j) Tryz.underlying93 hi hz1 hbl;rw [spV_take] at r2;rw [spV_drop] at r3;have R2 := Lib.hid (r2.up hux);have R3 := Lib.hid (r3.up hux);have HUX := Lib.hid (HU.out.trans hux);have HSX := Lib.hid (Nat.le_trans hsz hux.le);clear r2 r3 hjp;by_cases hjl : j < o'.length
          case' pos =>
            have hjI : (j : Int) < (o'.length : Int) := by omega
            have hlt : ¬ o'[j].1 < m0 := fun h => absurd ((HBI.out j hjl (Nat.le_refl _)).1 h) (by omega);obtain ⟨bo, oo, rfl, j0, _⟩ := hox.span hjl;generalize o'[j].1 = z at *;have hzI : ¬ (z : Int) < (m0 : Int) := by omega
            clear hlt hqx hux;go_wp2_with fail;refine wp_region_held_drew (S := fun w' => w'.cell? ⟨bo, oo + j * 2, none⟩ = some (.int .u64 (z : Int)) ∧ w'.cell? ⟨w.heap.size, 0, none⟩ = some (.int .u64 (m0 : Int))) (by kernel_rfl) ⟨(Up.refl wx).drew.cell j0, (Up.refl wx).drew.cell x0⟩ (fun hHeld => ?_);have hU := (Up.refl wx).drew;generalize World.drew wx = y0 at *;refine tk 0 rfl ?_;(try simp only [Act.put, tz1, tz2, tz3]);refine tk 1 rfl ?_;(try simp only [Act.put, tz1, tz2, tz3]);refine tk 2 rfl ?_;(try simp only [Act.put, tz1, tz2, tz3]);refine tk 3 rfl ?_;(try simp only [Act.put, tz1, tz2, tz3]);refine tk 4 rfl ?_;(try simp only [Act.put, tz1, tz2, tz3]);refine tk 5 rfl ?_;(try simp only [Act.put, tz1, tz2, tz3]);refine tk 6 rfl ?_;(try simp only [Act.put, tz1, tz2, tz3]);refine tk 7 rfl ?_;(try simp only [Act.put, tz1, tz2, tz3]);refine tk 8 rfl ?_;(try simp only [Act.put, tz1, tz2, tz3]);refine tk 9 rfl ?_;(try simp only [Act.put, tz1, tz2, tz3]);refine tk 10 rfl ?_;(try simp only [Act.put, tz1, tz2, tz3]);refine tk 11 rfl ?_;(try simp only [Act.put, tz1, tz2, tz3]);refine tk 12 rfl ?_;(try simp only [Act.put, tz1, tz2, tz3]);refine tk 13 rfl ?_;(try simp only [Act.put, tz1, tz2, tz3]);refine wpAnyH_done (by kernel_rfl) ?_ _
          case' neg =>
            have hjI : ¬ (j : Int) < (o'.length : Int) := by omega
            clear hqx hux;go_wp2_with fail;refine wp_region_held_drew (S := fun w' => w'.cell? ⟨w.heap.size, 0, none⟩ = some (.int .u64 (m0 : Int))) (by kernel_rfl) ((Up.refl wx).drew.cell x0) (fun hHeld => ?_);have hU := (Up.refl wx).drew;generalize World.drew wx = y0 at *;refine tk 0 rfl ?_;(try simp only [Act.put, tz1, tz2, tz3]);refine tk 1 rfl ?_;(try simp only [Act.put, tz1, tz2, tz3]);refine tk 2 rfl ?_;(try simp only [Act.put, tz1, tz2, tz3]);refine tk 3 rfl ?_;(try simp only [Act.put, tz1, tz2, tz3]);refine tk 4 rfl ?_;(try simp only [Act.put, tz1, tz2, tz3]);refine tk 5 rfl ?_;(try simp only [Act.put, tz1, tz2, tz3]);refine tk 6 rfl ?_;(try simp only [Act.put, tz1, tz2, tz3]);refine tk 7 rfl ?_;(try simp only [Act.put, tz1, tz2, tz3]);refine tk 8 rfl ?_;(try simp only [Act.put, tz1, tz2, tz3]);refine tk 9 rfl ?_;(try simp only [Act.put, tz1, tz2, tz3]);refine tk 10 rfl ?_;(try simp only [Act.put, tz1, tz2, tz3]);refine tk 11 rfl ?_;(try simp only [Act.put, tz1, tz2, tz3]);refine tk 12 rfl ?_;(try simp only [Act.put, tz1, tz2, tz3]);refine tk 13 rfl ?_;(try simp only [Act.put, tz1, tz2, tz3]);refine wpAnyH_done (by kernel_rfl) ?_ _
          all_goals
            clear hHeld;have b0 := hU.cell x0;have b1 := hU.cell x1;replace HUX := Lib.hid (HUX.out.trans hU);replace R2 := Lib.hid (R2.out.up hU);replace R3 := Lib.hid (R3.out.up hU);clear hU x0 x1 d0 d1 hox
            go_wp2_with (first
              | (at_builtin; (refine wpList_append_rd y0 rfl _ _ 93 rfl y0.heap.size 185 i0 _ 2 16 Tryz.underlying93 hi hz0 hz1 hz2 rfl (by decide) (.slice none 0 0) 0 [] rfl (World.ownsRow_nil _ _ _ _) A2 j c2 _ rfl R2.out (spV_one _) (by omega) (by omega) (Nat.le_refl _) ?_); intro v2 w2 ho2 hb2; have HU2 := Lib.hid (Up.of hb2); have HO2 := Lib.hid ho2; have t0 := HU2.out.cell b0; have t1 := HU2.out.cell b1; clear ho2 hb2 b0 b1)
              | (at_builtin; refine app_one w2 rfl _ _ 93 rfl y0.heap.size 185 i0 _ 2 16 Tryz.underlying93 hi hz0 hz1 hz2 rfl (by decide) v2 _ _ HO2.out rfl #[.int .u64 (m0 : Int), .int .u64 (m1 : Int)] rfl rfl (by simp [Value.oneCell']) (by omega) (by omega) HU2.out.le ?_; intro v3 w3 ho3 hg3 hb3; have HU3 := Lib.hid (Up.of (Below.trans HU2.out.below hb3)); have HO3 := Lib.hid ho3; clear ho3 hg3 hb3)
              | (at_builtin; refine wpList_append_rd w3 rfl _ _ 93 rfl y0.heap.size 185 i0 _ 2 16 Tryz.underlying93 hi hz0 hz1 hz2 rfl (by decide) v3 _ _ rfl HO3.out A3 (o'.length - j) c3 _ rfl (R3.out.up HU3.out) (spV_one _) (by omega) (by omega) HU3.out.le ?_; intro v4 w4 ho4 hb4; have HU4 := Lib.hid (Up.of (Below.trans HU3.out.below hb4)); have HO4 := Lib.hid ho4; clear ho4 hb4))
            have HF := own_fin5 hbl HPE.out HO4.out;obtain ⟨A4, c4, rfl, r4⟩ := Rd.of_own HF;go_ret;exact ⟨A4, c4, rfl, r4, HUX.out.trans HU4.out⟩
end Go.Proofs.YtjhgaildbeokkaaGreatDoor
