/- Walk: ranges.Tell. -/
import Derived.Test.YteeenbhmdacdiaaDoorWasked
namespace Go.Proofs.YteeenbhmdacdiaaDoor
open Go.RowKit Go.Gz

set_option maxRecDepth 100000
theorem cut_len (q : Bs) (c : UInt8) : (Lib.cut q [c]).2.1.length ≤ q.length := by
  rw [cut_eq]
  cases h : cutC c q with
  | none => simp
  | some x =>
    obtain ⟨a, b⟩ := x
    have := congrArg List.length (cutC_len h)
    simp at this ⊢
    omega
set_option maxHeartbeats 8000000 in
theorem tellw_none (l q r : Bs) (is f1 f2 : Bool) (a b c : Bs) (hl : q.length ≤ 1000000) (hr : r.length ≤ 1000000) (hq : Lib.trimPrefix l [98, 121, 116, 101, 115, 32] = q) (his : Lib.hasPrefix l [98, 121, 116, 101, 115, 32] = is) (w : World) (hg : Gm w) (hv : tellV l = ((0, 0), 0, 4))
    (h1 : Lib.cut q [45] = (a, r, f1)) (h2 : Lib.cut r [47] = (b, c, f2)) (h : (is && f1 && f2) = false) :
    Calls Tryd.prog 34 #[.string ⟨l.toArray⟩] w fun e w' => e = .returned (.tuple #[.agg #[.int .i64 (tellV l).1.1, .int .i64 (tellV l).1.2], .int .i64 (tellV l).2.1, .int .i64 (tellV l).2.2]) ∧ Up w w' := by
  rw [hv]
  clear hv
  have CP := fun w => Lib.hid (Tryd.strings_CutPrefix ⟨l.toArray⟩ ⟨#[98, 121, 116, 101, 115, 32]⟩ w)
  simp only [hq, his] at CP
  have CC := fun w hg => Lib.hid (cut_any q 45 hl w hg)
  have CD := fun w hg => Lib.hid (cut_any r 47 hr w hg)
  rw [h1] at CC
  rw [h2] at CD
  have n1 := (Up.refl w).alloc (.cells #[.int .i64 0, .int .i64 0] 43)
  have n2 := heap_alloc_new w (.cells #[.int .i64 0, .int .i64 0] 43)
  clear hq his h1 h2
  cases is <;> cases f1 <;> cases f2
  case true.true.true => cases h
  all_goals
    clear h
    go_enter Tryd.func34, Tryd.ntmps34
    go_wp2_with fail
    refine (CP _).out.mono ?_
    rintro e w1 ⟨rfl, rfl⟩
    go_wp2_with fail
    refine (CC _ (hg.up n1)).out.mono ?_
    rintro e w1 ⟨rfl, hu⟩
    have HB := Lib.hid (hu.obj n2)
    have f0 := blk_free HB.out 0
    have f1 := blk_free HB.out 1
    have b0 := blk_cell HB.out 0 _ rfl
    have b1 := blk_cell HB.out 1 _ rfl
    have HU := Lib.hid (n1.trans hu)
    clear hu n1 n2
    go_wp2_with fail
    refine (CD _ (hg.up HU.out)).out.mono ?_
    rintro e w2 ⟨rfl, hu⟩
    replace HB := Lib.hid (hu.obj HB.out)
    replace HU := Lib.hid (HU.out.trans hu)
    clear f0 f1 b0 b1
    have f0 := blk_free HB.out 0
    have f1 := blk_free HB.out 1
    have b0 := blk_cell HB.out 0 _ rfl
    have b1 := blk_cell HB.out 1 _ rfl
    clear hu
    go_wp2_with fail
    have hb9 := blk_set2 HB.out (.int .i64 0) (.int .i64 0)
    have d0 := blk_cell hb9 0 _ rfl
    have d1 := blk_cell hb9 1 _ rfl
    refine bodyPost_ret (v := .tuple #[.agg #[.int .i64 0, .int .i64 0], .int .i64 0, .int .i64 4]) (by simp [results, Tryd.results34, go_sem, d0, d1]) rfl ⟨rfl, ?_⟩
    exact up_set2 HU.out (Nat.le_refl _) _ _
set_option maxHeartbeats 16000000 in
theorem tellw_some (l q r a b c : Bs) (hl : q.length ≤ 1000000) (hr : r.length ≤ 1000000) (hq : Lib.trimPrefix l [98, 121, 116, 101, 115, 32] = q) (his : Lib.hasPrefix l [98, 121, 116, 101, 115, 32] = true) (w : World) (hg : Gm w)
    (hv : tellV l = if (twoV a b).2 ≠ 0 then ((0, 0), 0, (twoV a b).2) else if numE c ≠ 0 then ((0, 0), 0, numE c) else if wrongV (numV a) (numV b) (numV c) ≠ 0 then ((0, 0), 0, 8) else ((numV a, numV b), numV c, 0)) (h : cutC 45 q = some (a, r)) (h2 : cutC 47 r = some (b, c)) :
    Calls Tryd.prog 34 #[.string ⟨l.toArray⟩] w fun e w' => e = .returned (.tuple #[.agg #[.int .i64 (tellV l).1.1, .int .i64 (tellV l).1.2], .int .i64 (tellV l).2.1, .int .i64 (tellV l).2.2]) ∧ Up w w' := by
  have CP := fun w => Lib.hid (Tryd.strings_CutPrefix ⟨l.toArray⟩ ⟨#[98, 121, 116, 101, 115, 32]⟩ w)
  simp only [hq, his] at CP
  have CC := fun w hg => Lib.hid (cut_any q 45 hl w hg)
  rw [cut_eq, h] at CC
  have CD := fun w hg => Lib.hid (cut_any r 47 hr w hg)
  rw [cut_eq, h2] at CD
  simp only at CC CD
  have n1 := (Up.refl w).alloc (.cells #[.int .i64 0, .int .i64 0] 43)
  have n2 := heap_alloc_new w (.cells #[.int .i64 0, .int .i64 0] 43)
  have e1 := congrArg List.length (cutC_len h)
  have e2 := congrArg List.length (cutC_len h2)
  simp only [List.length_append, List.length_cons] at e1 e2
  have hab1 : ∀ l ∈ [a, b, c], l.length ≤ 1000000 := by
    intro l hl
    simp only [List.mem_cons, List.not_mem_nil, or_false] at hl
    rcases hl with rfl | rfl | rfl <;> omega
  have HV := Lib.hid hv
  have hfe : firstE [a, b, c] = if (twoV a b).2 ≠ 0 then (twoV a b).2 else numE c := by
    unfold twoV
    show (if numE a ≠ 0 then numE a else if numE b ≠ 0 then numE b else if numE c ≠ 0 then numE c else 0) = _
    by_cases g1 : numE a = 0
    · by_cases g2 : numE b = 0
      · by_cases g3 : numE c = 0
        · simp [g1, g2, g3]
        · simp [g1, g2, g3]
      · simp [g1, g2]
    · simp [g1]
  clear hq his h h2 e1 e2 hv
  by_cases ht : firstE [a, b, c] = 0
  · have HF0 := Lib.hid ht
    have ht2 : (twoV a b).2 = 0 := by
      by_cases g : (twoV a b).2 = 0
      · exact g
      · rw [if_pos g] at hfe; omega
    have hc0 : numE c = 0 := by rw [if_neg (by omega)] at hfe; omega
    have hv2 : tellV l = (if wrongV (numV a) (numV b) (numV c) ≠ 0 then ((0, 0), 0, 8) else ((numV a, numV b), numV c, 0)) := by rw [HV.out, if_neg (by omega), if_neg (by omega)]
    clear HV hfe ht ht2 hc0
    obtain ⟨va, hva⟩ : ∃ va, numV a = va := ⟨_, rfl⟩
    obtain ⟨vb, hvb⟩ : ∃ vb, numV b = vb := ⟨_, rfl⟩
    obtain ⟨vc, hvc⟩ : ∃ vc, numV c = vc := ⟨_, rfl⟩
    rw [hva, hvb, hvc] at hv2
    have HVA := Lib.hid hva
    have HVB := Lib.hid hvb
    have HVC := Lib.hid hvc
    clear hva hvb hvc
    have WR := fun w => Lib.hid (wrong_any va vb vc w)
    rcases wrong_cases va vb vc with h | h
    · rw [show tellV l = ((va, vb), vc, 0) from by rw [hv2, if_neg (by omega)]]
      rw [h] at WR
      clear h hv2
      go_enter Tryd.func34, Tryd.ntmps34
      go_wp2_with fail
      refine (CP _).out.mono ?_
      rintro e w1 ⟨rfl, rfl⟩
      go_wp2_with fail
      refine (CC _ (hg.up n1)).out.mono ?_
      rintro e w1 ⟨rfl, hu⟩
      have HB := Lib.hid (hu.obj n2)
      have f0 := blk_free HB.out 0
      have f1 := blk_free HB.out 1
      have b0 := blk_cell HB.out 0 _ rfl
      have b1 := blk_cell HB.out 1 _ rfl
      have HU := Lib.hid (n1.trans hu)
      clear hu n1 n2
      go_wp2_with fail
      refine (CD _ (hg.up HU.out)).out.mono ?_
      rintro e w2 ⟨rfl, hu⟩
      replace HB := Lib.hid (hu.obj HB.out)
      replace HU := Lib.hid (HU.out.trans hu)
      clear f0 f1 b0 b1
      have f0 := blk_free HB.out 0
      have f1 := blk_free HB.out 1
      have b0 := blk_cell HB.out 0 _ rfl
      have b1 := blk_cell HB.out 1 _ rfl
      clear hu
      go_wp2_with fail
      have m1 := heap_alloc_new w2 (.cells #[strV a, strV b, strV c] 9)
      have NU := Lib.hid (nums_any [a, b, c] w2.heap.size (by simp) hab1 (w2.alloc (.cells #[strV a, strV b, strV c] 9)) (hg.1.up (HU.out.alloc _)) (fun j hj => by match j, hj with | 0, _ => exact blk_cell m1 0 _ rfl | 1, _ => exact blk_cell m1 1 _ rfl | 2, _ => exact blk_cell m1 2 _ rfl | j + 3, hj => simp at hj; omega))
      refine (NU.out).mono ?_
      rintro e w3 ⟨hu, hend⟩
      replace hu := ((Up.refl w2).alloc (.cells #[strV a, strV b, strV c] 9)).trans hu
      replace HB := Lib.hid (hu.obj HB.out)
      replace HU := Lib.hid (HU.out.trans hu)
      clear f0 f1 b0 b1
      have f0 := blk_free HB.out 0
      have f1 := blk_free HB.out 1
      have b0 := blk_cell HB.out 0 _ rfl
      have b1 := blk_cell HB.out 1 _ rfl
      clear hu
      clear m1 NU
      obtain ⟨hf, _⟩ | ⟨_, v, rfl, hown⟩ := hend
      · exact absurd HF0.out hf
      obtain ⟨_, hnil⟩ | ⟨g, cap, rfl, hg1, hg2, hcap⟩ := hown.form
      · simp at hnil
      have s0 := hown.at 0 (by simp)
      have s1 := hown.at 1 (by simp)
      have s2 := hown.at 2 (by simp)
      simp only [List.map_cons, List.map_nil, List.getD_cons_zero, List.getD_cons_succ] at s0 s1 s2
      rw [HVA.out] at s0
      rw [HVB.out] at s1
      rw [HVC.out] at s2
      clear hown hcap hg2
      go_wp2_with fail
      go_region_held3 (fun w' => Up w w' ∧ w'.cell? ⟨g, 0, none⟩ = some (.int .i64 va) ∧ w'.cell? ⟨g, 1, none⟩ = some (.int .i64 vb) ∧ w'.cell? ⟨g, 2, none⟩ = some (.int .i64 vc)) (first | assumption | exact ⟨HU.out.drew, s0, s1, s2⟩ | exact keepR ⟨HU.out, s0, s1, s2⟩ (((Up.refl _).alloc _).drew) | exact keepR (by assumption) ((Up.refl _).alloc _)) (fail)
      clear s0 s1 s2
      go_wp2_with fail
      refine (WR _).out.mono ?_
      rintro e w4 ⟨rfl, hu⟩
      have m0 := hu.obj (heap_alloc_new w3 (.cells #[.int .i64 va, .int .i64 vb, .int .i64 vc] 106))
      have c0 := blk_cell m0 0 _ rfl
      have c1 := blk_cell m0 1 _ rfl
      have c2 := blk_cell m0 2 _ rfl
      replace hu := ((Up.refl w3).alloc (.cells #[.int .i64 va, .int .i64 vb, .int .i64 vc] 106)).drew.trans hu
      clear m0
      replace HB := Lib.hid (hu.obj HB.out)
      replace HU := Lib.hid (HU.out.trans hu)
      clear f0 f1 b0 b1
      have f0 := blk_free HB.out 0
      have f1 := blk_free HB.out 1
      have b0 := blk_cell HB.out 0 _ rfl
      have b1 := blk_cell HB.out 1 _ rfl
      clear hu
      go_wp2_with fail
      go_region
      all_goals
        go_wp2_with fail
        have hb9 : (((w4.setCell ⟨w.heap.size, 0, none⟩ (.int .i64 va)).setCell ⟨w.heap.size, 1, none⟩ (.int .i64 vb)).drew).heap[w.heap.size]? = _ := blk_set2 HB.out (.int .i64 va) (.int .i64 vb)
        have d0 := blk_cell hb9 0 _ rfl
        have d1 := blk_cell hb9 1 _ rfl
        refine bodyPost_ret (v := .tuple #[.agg #[.int .i64 va, .int .i64 vb], .int .i64 vc, .int .i64 0]) (by simp [results, Tryd.results34, go_sem, d0, d1]) rfl ⟨rfl, ?_⟩
        exact (up_set2 HU.out (Nat.le_refl _) _ _).drew
    · rw [show tellV l = ((0, 0), 0, 8) from by rw [hv2, if_pos (by omega)]]
      rw [h] at WR
      clear h hv2
      go_enter Tryd.func34, Tryd.ntmps34
      go_wp2_with fail
      refine (CP _).out.mono ?_
      rintro e w1 ⟨rfl, rfl⟩
      go_wp2_with fail
      refine (CC _ (hg.up n1)).out.mono ?_
      rintro e w1 ⟨rfl, hu⟩
      have HB := Lib.hid (hu.obj n2)
      have f0 := blk_free HB.out 0
      have f1 := blk_free HB.out 1
      have b0 := blk_cell HB.out 0 _ rfl
      have b1 := blk_cell HB.out 1 _ rfl
      have HU := Lib.hid (n1.trans hu)
      clear hu n1 n2
      go_wp2_with fail
      refine (CD _ (hg.up HU.out)).out.mono ?_
      rintro e w2 ⟨rfl, hu⟩
      replace HB := Lib.hid (hu.obj HB.out)
      replace HU := Lib.hid (HU.out.trans hu)
      clear f0 f1 b0 b1
      have f0 := blk_free HB.out 0
      have f1 := blk_free HB.out 1
      have b0 := blk_cell HB.out 0 _ rfl
      have b1 := blk_cell HB.out 1 _ rfl
      clear hu
      go_wp2_with fail
      have m1 := heap_alloc_new w2 (.cells #[strV a, strV b, strV c] 9)
      have NU := Lib.hid (nums_any [a, b, c] w2.heap.size (by simp) hab1 (w2.alloc (.cells #[strV a, strV b, strV c] 9)) (hg.1.up (HU.out.alloc _)) (fun j hj => by match j, hj with | 0, _ => exact blk_cell m1 0 _ rfl | 1, _ => exact blk_cell m1 1 _ rfl | 2, _ => exact blk_cell m1 2 _ rfl | j + 3, hj => simp at hj; omega))
      refine (NU.out).mono ?_
      rintro e w3 ⟨hu, hend⟩
      replace hu := ((Up.refl w2).alloc (.cells #[strV a, strV b, strV c] 9)).trans hu
      replace HB := Lib.hid (hu.obj HB.out)
      replace HU := Lib.hid (HU.out.trans hu)
      clear f0 f1 b0 b1
      have f0 := blk_free HB.out 0
      have f1 := blk_free HB.out 1
      have b0 := blk_cell HB.out 0 _ rfl
      have b1 := blk_cell HB.out 1 _ rfl
      clear hu
      clear m1 NU
      obtain ⟨hf, _⟩ | ⟨_, v, rfl, hown⟩ := hend
      · exact absurd HF0.out hf
      obtain ⟨_, hnil⟩ | ⟨g, cap, rfl, hg1, hg2, hcap⟩ := hown.form
      · simp at hnil
      have s0 := hown.at 0 (by simp)
      have s1 := hown.at 1 (by simp)
      have s2 := hown.at 2 (by simp)
      simp only [List.map_cons, List.map_nil, List.getD_cons_zero, List.getD_cons_succ] at s0 s1 s2
      rw [HVA.out] at s0
      rw [HVB.out] at s1
      rw [HVC.out] at s2
      clear hown hcap hg2
      go_wp2_with fail
      go_region_held3 (fun w' => Up w w' ∧ w'.cell? ⟨g, 0, none⟩ = some (.int .i64 va) ∧ w'.cell? ⟨g, 1, none⟩ = some (.int .i64 vb) ∧ w'.cell? ⟨g, 2, none⟩ = some (.int .i64 vc)) (first | assumption | exact ⟨HU.out.drew, s0, s1, s2⟩ | exact keepR ⟨HU.out, s0, s1, s2⟩ (((Up.refl _).alloc _).drew) | exact keepR (by assumption) ((Up.refl _).alloc _)) (fail)
      clear s0 s1 s2
      go_wp2_with fail
      refine (WR _).out.mono ?_
      rintro e w4 ⟨rfl, hu⟩
      have m0 := hu.obj (heap_alloc_new w3 (.cells #[.int .i64 va, .int .i64 vb, .int .i64 vc] 106))
      have c0 := blk_cell m0 0 _ rfl
      have c1 := blk_cell m0 1 _ rfl
      have c2 := blk_cell m0 2 _ rfl
      replace hu := ((Up.refl w3).alloc (.cells #[.int .i64 va, .int .i64 vb, .int .i64 vc] 106)).drew.trans hu
      clear m0
      replace HB := Lib.hid (hu.obj HB.out)
      replace HU := Lib.hid (HU.out.trans hu)
      clear f0 f1 b0 b1
      have f0 := blk_free HB.out 0
      have f1 := blk_free HB.out 1
      have b0 := blk_cell HB.out 0 _ rfl
      have b1 := blk_cell HB.out 1 _ rfl
      clear hu
      go_wp2_with fail
      have hb9 := blk_set2 HB.out (.int .i64 0) (.int .i64 0)
      have d0 := blk_cell hb9 0 _ rfl
      have d1 := blk_cell hb9 1 _ rfl
      refine bodyPost_ret (v := .tuple #[.agg #[.int .i64 0, .int .i64 0], .int .i64 0, .int .i64 8]) (by simp [results, Tryd.results34, go_sem, d0, d1]) rfl ⟨rfl, ?_⟩
      exact up_set2 HU.out (Nat.le_refl _) _ _
  · have hv2 : tellV l = ((0, 0), 0, firstE [a, b, c]) := by
      rw [HV.out, hfe]
      by_cases g : (twoV a b).2 = 0
      · have hc : ¬ numE c = 0 := by rw [hfe, if_neg (by omega)] at ht; exact ht
        simp [g, hc]
      · simp [g]
    rw [hv2]
    have HT := Lib.hid ht
    obtain ⟨te, hte⟩ : ∃ te, firstE [a, b, c] = te := ⟨_, rfl⟩
    rw [hte]
    have hb2 : (te != 0) = true := by rw [bne_iff_ne, ← hte]; exact ht
    have HTE := Lib.hid hte
    clear HV ht hfe hv2 hte
    go_enter Tryd.func34, Tryd.ntmps34
    go_wp2_with fail
    refine (CP _).out.mono ?_
    rintro e w1 ⟨rfl, rfl⟩
    go_wp2_with fail
    refine (CC _ (hg.up n1)).out.mono ?_
    rintro e w1 ⟨rfl, hu⟩
    have HB := Lib.hid (hu.obj n2)
    have f0 := blk_free HB.out 0
    have f1 := blk_free HB.out 1
    have b0 := blk_cell HB.out 0 _ rfl
    have b1 := blk_cell HB.out 1 _ rfl
    have HU := Lib.hid (n1.trans hu)
    clear hu n1 n2
    go_wp2_with fail
    refine (CD _ (hg.up HU.out)).out.mono ?_
    rintro e w2 ⟨rfl, hu⟩
    replace HB := Lib.hid (hu.obj HB.out)
    replace HU := Lib.hid (HU.out.trans hu)
    clear f0 f1 b0 b1
    have f0 := blk_free HB.out 0
    have f1 := blk_free HB.out 1
    have b0 := blk_cell HB.out 0 _ rfl
    have b1 := blk_cell HB.out 1 _ rfl
    clear hu
    go_wp2_with fail
    have m1 := heap_alloc_new w2 (.cells #[strV a, strV b, strV c] 9)
    have NU := Lib.hid (nums_any [a, b, c] w2.heap.size (by simp) hab1 (w2.alloc (.cells #[strV a, strV b, strV c] 9)) (hg.1.up (HU.out.alloc _)) (fun j hj => by match j, hj with | 0, _ => exact blk_cell m1 0 _ rfl | 1, _ => exact blk_cell m1 1 _ rfl | 2, _ => exact blk_cell m1 2 _ rfl | j + 3, hj => simp at hj; omega))
    refine (NU.out).mono ?_
    rintro e w3 ⟨hu, hend⟩
    replace hu := ((Up.refl w2).alloc (.cells #[strV a, strV b, strV c] 9)).trans hu
    replace HB := Lib.hid (hu.obj HB.out)
    replace HU := Lib.hid (HU.out.trans hu)
    clear f0 f1 b0 b1
    have f0 := blk_free HB.out 0
    have f1 := blk_free HB.out 1
    have b0 := blk_cell HB.out 0 _ rfl
    have b1 := blk_cell HB.out 1 _ rfl
    clear hu
    clear m1 NU
    obtain ⟨_, rfl⟩ | ⟨hf, _⟩ := hend
    rotate_left
    · exact absurd hf HT.out
    rw [HTE.out]
    go_wp2_with fail
    have hb9 := blk_set2 HB.out (.int .i64 0) (.int .i64 0)
    have d0 := blk_cell hb9 0 _ rfl
    have d1 := blk_cell hb9 1 _ rfl
    refine bodyPost_ret (v := .tuple #[.agg #[.int .i64 0, .int .i64 0], .int .i64 0, .int .i64 te]) (by simp [results, Tryd.results34, go_sem, d0, d1]) rfl ⟨rfl, ?_⟩
    exact up_set2 HU.out (Nat.le_refl _) _ _
theorem tell_w (l : Bs) (hl : l.length ≤ 1000000) (w : World) (hg : Gm w) :
    Calls Tryd.prog 34 #[.string ⟨l.toArray⟩] w fun e w' => e = .returned (.tuple #[.agg #[.int .i64 (tellV l).1.1, .int .i64 (tellV l).1.2], .int .i64 (tellV l).2.1, .int .i64 (tellV l).2.2]) ∧ Up w w' := by
  cases hp : Lib.hasPrefix l [98, 121, 116, 101, 115, 32] with
  | false =>
    have hr : (Lib.cut l [45]).2.1.length ≤ 1000000 := by have := cut_len l 45; omega
    exact tellw_none l l _ false _ _ _ _ _ hl hr (by unfold Lib.trimPrefix; rw [hp]; rfl) hp w hg (by unfold tellV; rw [if_pos hp]) rfl rfl (by simp)
  | true =>
    have hq : Lib.trimPrefix l [98, 121, 116, 101, 115, 32] = l.drop 6 := by unfold Lib.trimPrefix; rw [hp]; rfl
    have hl2 : (l.drop 6).length ≤ 1000000 := by rw [List.length_drop]; omega
    cases hc : cutC 45 (l.drop 6) with
    | none => exact tellw_none l _ [] true false false (l.drop 6) [] [] hl2 (by simp) hq hp w hg (tell_none l _ hp rfl (.inl hc)) (by rw [cut_eq, hc]) rfl rfl
    | some x =>
      obtain ⟨a, r⟩ := x
      have hr : r.length ≤ 1000000 := by have := congrArg List.length (cutC_len hc); simp at this; omega
      cases hc2 : cutC 47 r with
      | none => exact tellw_none l _ r true true false a r [] hl2 hr hq hp w hg (tell_none l _ hp rfl (.inr ⟨a, r, hc, hc2⟩)) (by rw [cut_eq, hc]) (by rw [cut_eq, hc2]) rfl
      | some y =>
        obtain ⟨b, c⟩ := y
        exact tellw_some l _ r a b c hl2 hr hq hp w hg (tell_some l _ a r b c hp rfl hc hc2) hc hc2
end Go.Proofs.YteeenbhmdacdiaaDoor
