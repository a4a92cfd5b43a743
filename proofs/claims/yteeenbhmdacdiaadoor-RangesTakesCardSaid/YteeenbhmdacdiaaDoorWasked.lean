/- Walk: ranges.Asked. -/
import Derived.Test.YteeenbhmdacdiaaDoorWnums
import Derived.Test.YteeenbhmdacdiaaDoorShelf
namespace Go.Proofs.YteeenbhmdacdiaaDoor
open Go.RowKit Go.Gz

set_option maxRecDepth 100000
/-- what the laws of ranges need besides -/
def Gm (w : World) : Prop := Gl w ∧ ∃ m, w.cell? ⟨0, 0, none⟩ = some (.int .i64 m)
theorem Gm.up {w w' : World} (h : Gm w) (hu : Up w w') : Gm w' := ⟨h.1.up hu, h.2.elim fun m hm => ⟨m, hu.cell hm⟩⟩
theorem keepA {w2 w w' : World} {g : Nat} {x y : Value} (h : Up w2 w ∧ w.cell? ⟨g, 0, none⟩ = some x ∧ w.cell? ⟨g, 1, none⟩ = some y) (hu : Up w w') :
    Up w2 w' ∧ w'.cell? ⟨g, 0, none⟩ = some x ∧ w'.cell? ⟨g, 1, none⟩ = some y := ⟨h.1.trans hu, hu.cell h.2.1, hu.cell h.2.2⟩
theorem cut_any (l : Bs) (c : UInt8) (hl : l.length ≤ 1000000) (w : World) (hg : Gm w) :
    Calls Tryd.prog 57 #[.string ⟨l.toArray⟩, .string ⟨#[c]⟩] w fun e w' => e = .returned (.tuple #[.string ⟨(Lib.cut l [c]).1.toArray⟩, .string ⟨(Lib.cut l [c]).2.1.toArray⟩, .bool (Lib.cut l [c]).2.2]) ∧ Up w w' := by
  obtain ⟨m, hm⟩ := hg.2
  refine (Tryd.strings_Cut ⟨l.toArray⟩ ⟨#[c]⟩ m w (by rw [size_mk]; omega) hm).mono ?_
  rintro e w' ⟨rfl, n, rfl⟩
  exact ⟨rfl, (Up.refl w).drewN n⟩
set_option maxHeartbeats 4000000 in
theorem asked_none (l q : Bs) (is : Bool) (hl : q.length ≤ 1000000) (hq : Lib.trimPrefix l [98, 121, 116, 101, 115, 61] = q) (his : Lib.hasPrefix l [98, 121, 116, 101, 115, 61] = is) (w : World) (hg : Gm w) (hv : askedV l = ((0, 0), 4)) (h : is = false ∨ cutC 45 q = none) :
    Calls Tryd.prog 32 #[.string ⟨l.toArray⟩] w fun e w' => e = .returned (.tuple #[.agg #[.int .i64 (askedV l).1.1, .int .i64 (askedV l).1.2], .int .i64 (askedV l).2]) ∧ Up w w' := by
  rw [hv]
  clear hv
  have CP := fun w => Lib.hid (Tryd.strings_CutPrefix ⟨l.toArray⟩ ⟨#[98, 121, 116, 101, 115, 61]⟩ w)
  simp only [hq, his] at CP
  have CC := fun w hg => Lib.hid (cut_any q 45 hl w hg)
  have n1 := (Up.refl w).alloc (.cells #[.int .i64 0, .int .i64 0] 43)
  have n2 := heap_alloc_new w (.cells #[.int .i64 0, .int .i64 0] 43)
  rcases h with h | h
  · subst h
    generalize Lib.cut q [45] = cc at *
    clear hq his
    go_enter Tryd.func32, Tryd.ntmps32
    go_wp2_with fail
    refine (CP _).out.mono ?_
    rintro e w1 ⟨rfl, rfl⟩
    go_wp2_with fail
    refine (CC _ (hg.up n1)).out.mono ?_
    rintro e w1 ⟨rfl, hu⟩
    have HB := Lib.hid (hu.obj n2)
    have f0 := blk_free HB.out 0
    have f1 := blk_free HB.out 1
    have b0 := blk_cell HB.out 0 _ rfl
    have b1 := blk_cell HB.out 1 _ rfl
    have HU := Lib.hid (n1.trans hu)
    clear hu n1 n2
    go_wp2_with fail
    have hb9 := blk_set2 HB.out (.int .i64 0) (.int .i64 0)
    have d0 := blk_cell hb9 0 _ rfl
    have d1 := blk_cell hb9 1 _ rfl
    refine bodyPost_ret (v := .tuple #[.agg #[.int .i64 0, .int .i64 0], .int .i64 4]) (by simp [results, Tryd.results32, go_sem, d0, d1]) rfl ⟨rfl, ?_⟩
    exact up_set2 HU.out (Nat.le_refl _) _ _
  · rw [cut_eq, h] at CC
    simp only at CC
    clear hq his h
    cases is
    · go_enter Tryd.func32, Tryd.ntmps32
      go_wp2_with fail
      refine (CP _).out.mono ?_
      rintro e w1 ⟨rfl, rfl⟩
      go_wp2_with fail
      refine (CC _ (hg.up n1)).out.mono ?_
      rintro e w1 ⟨rfl, hu⟩
      have HB := Lib.hid (hu.obj n2)
      have f0 := blk_free HB.out 0
      have f1 := blk_free HB.out 1
      have b0 := blk_cell HB.out 0 _ rfl
      have b1 := blk_cell HB.out 1 _ rfl
      have HU := Lib.hid (n1.trans hu)
      clear hu n1 n2
      go_wp2_with fail
      have hb9 := blk_set2 HB.out (.int .i64 0) (.int .i64 0)
      have d0 := blk_cell hb9 0 _ rfl
      have d1 := blk_cell hb9 1 _ rfl
      refine bodyPost_ret (v := .tuple #[.agg #[.int .i64 0, .int .i64 0], .int .i64 4]) (by simp [results, Tryd.results32, go_sem, d0, d1]) rfl ⟨rfl, ?_⟩
      exact up_set2 HU.out (Nat.le_refl _) _ _
    · go_enter Tryd.func32, Tryd.ntmps32
      go_wp2_with fail
      refine (CP _).out.mono ?_
      rintro e w1 ⟨rfl, rfl⟩
      go_wp2_with fail
      refine (CC _ (hg.up n1)).out.mono ?_
      rintro e w1 ⟨rfl, hu⟩
      have HB := Lib.hid (hu.obj n2)
      have f0 := blk_free HB.out 0
      have f1 := blk_free HB.out 1
      have b0 := blk_cell HB.out 0 _ rfl
      have b1 := blk_cell HB.out 1 _ rfl
      have HU := Lib.hid (n1.trans hu)
      clear hu n1 n2
      go_wp2_with fail
      have hb9 := blk_set2 HB.out (.int .i64 0) (.int .i64 0)
      have d0 := blk_cell hb9 0 _ rfl
      have d1 := blk_cell hb9 1 _ rfl
      refine bodyPost_ret (v := .tuple #[.agg #[.int .i64 0, .int .i64 0], .int .i64 4]) (by simp [results, Tryd.results32, go_sem, d0, d1]) rfl ⟨rfl, ?_⟩
      exact up_set2 HU.out (Nat.le_refl _) _ _
set_option maxHeartbeats 8000000 in
theorem asked_some (l q a b : Bs) (hl : q.length ≤ 1000000) (hq : Lib.trimPrefix l [98, 121, 116, 101, 115, 61] = q) (his : Lib.hasPrefix l [98, 121, 116, 101, 115, 61] = true) (w : World) (hg : Gm w)
    (hv : askedV l = (if (twoV a b).2 ≠ 0 then ((0, 0), (twoV a b).2) else if chk (numV a) (numV b) ≠ 0 then ((0, 0), 8) else ((numV a, numV b), 0))) (h : cutC 45 q = some (a, b)) :
    Calls Tryd.prog 32 #[.string ⟨l.toArray⟩] w fun e w' => e = .returned (.tuple #[.agg #[.int .i64 (askedV l).1.1, .int .i64 (askedV l).1.2], .int .i64 (askedV l).2]) ∧ Up w w' := by
  have CP := fun w => Lib.hid (Tryd.strings_CutPrefix ⟨l.toArray⟩ ⟨#[98, 121, 116, 101, 115, 61]⟩ w)
  simp only [hq, his] at CP
  have CC := fun w hg => Lib.hid (cut_any q 45 hl w hg)
  rw [cut_eq, h] at CC
  simp only at CC
  have n1 := (Up.refl w).alloc (.cells #[.int .i64 0, .int .i64 0] 43)
  have n2 := heap_alloc_new w (.cells #[.int .i64 0, .int .i64 0] 43)
  have e1 := congrArg List.length (cutC_len h)
  simp only [List.length_append, List.length_cons] at e1
  have hab1 : ∀ l ∈ [a, b], l.length ≤ 1000000 := by
    intro l hl
    simp only [List.mem_cons, List.not_mem_nil, or_false] at hl
    rcases hl with rfl | rfl <;> omega
  have HV := Lib.hid hv
  have hfe : firstE [a, b] = (twoV a b).2 := by
    unfold twoV
    show (if numE a ≠ 0 then numE a else if numE b ≠ 0 then numE b else 0) = _
    by_cases g1 : numE a = 0
    · by_cases g2 : numE b = 0
      · simp [g1, g2]
      · simp [g1, g2]
    · simp [g1]
  clear hq his h e1 hv
  by_cases ht : (twoV a b).2 = 0
  · have HF0 := Lib.hid (hfe.trans ht)
    have hv2 : askedV l = (if chk (numV a) (numV b) ≠ 0 then ((0, 0), 8) else ((numV a, numV b), 0)) := by rw [HV.out, if_neg (by omega)]
    clear HV hfe ht
    obtain ⟨va, hva⟩ : ∃ va, numV a = va := ⟨_, rfl⟩
    obtain ⟨vb, hvb⟩ : ∃ vb, numV b = vb := ⟨_, rfl⟩
    rw [hva, hvb] at hv2
    have HVA := Lib.hid hva
    have HVB := Lib.hid hvb
    clear hva hvb
    have CH := fun w => Lib.hid (check_any va vb w)
    rcases chk_cases va vb with h | h
    · rw [show askedV l = ((va, vb), 0) from by rw [hv2, if_neg (by omega)]]
      rw [h] at CH
      clear h hv2
      go_enter Tryd.func32, Tryd.ntmps32
      go_wp2_with fail
      refine (CP _).out.mono ?_
      rintro e w1 ⟨rfl, rfl⟩
      go_wp2_with fail
      refine (CC _ (hg.up n1)).out.mono ?_
      rintro e w1 ⟨rfl, hu⟩
      have HB := Lib.hid (hu.obj n2)
      have f0 := blk_free HB.out 0
      have f1 := blk_free HB.out 1
      have b0 := blk_cell HB.out 0 _ rfl
      have b1 := blk_cell HB.out 1 _ rfl
      have HU := Lib.hid (n1.trans hu)
      clear hu n1 n2
      go_wp2_with fail
      have m1 := heap_alloc_new w1 (.cells #[strV a, strV b] 9)
      have NU := Lib.hid (nums_any [a, b] w1.heap.size (by simp) hab1 (w1.alloc (.cells #[strV a, strV b] 9)) (hg.1.up (HU.out.alloc _)) (fun j hj => by match j, hj with | 0, _ => exact blk_cell m1 0 _ rfl | 1, _ => exact blk_cell m1 1 _ rfl | j + 2, hj => simp at hj; omega))
      refine (NU.out).mono ?_
      rintro e w2 ⟨hu, hend⟩
      replace hu := ((Up.refl w1).alloc (.cells #[strV a, strV b] 9)).trans hu
      replace HB := Lib.hid (hu.obj HB.out)
      replace HU := Lib.hid (HU.out.trans hu)
      clear f0 f1 b0 b1
      have f0 := blk_free HB.out 0
      have f1 := blk_free HB.out 1
      have b0 := blk_cell HB.out 0 _ rfl
      have b1 := blk_cell HB.out 1 _ rfl
      clear hu
      clear m1 NU
      obtain ⟨hf, _⟩ | ⟨_, v, rfl, hown⟩ := hend
      · exact absurd HF0.out hf
      obtain ⟨_, hnil⟩ | ⟨g, cap, rfl, hg1, hg2, hcap⟩ := hown.form
      · simp at hnil
      have s0 := hown.at 0 (by simp)
      have s1 := hown.at 1 (by simp)
      simp only [List.map_cons, List.map_nil, List.getD_cons_zero, List.getD_cons_succ] at s0 s1
      rw [HVA.out] at s0
      rw [HVB.out] at s1
      clear hown hcap hg2
      go_wp2_with fail
      go_region_held3 (fun w' => Up w w' ∧ w'.cell? ⟨g, 0, none⟩ = some (.int .i64 va) ∧ w'.cell? ⟨g, 1, none⟩ = some (.int .i64 vb)) (first | assumption | exact ⟨HU.out.drew, s0, s1⟩ | exact keepA ⟨HU.out, s0, s1⟩ (((Up.refl _).alloc _).drew) | exact keepA (by assumption) ((Up.refl _).alloc _)) (fail)
      clear s0 s1
      go_wp2_with fail
      refine (CH _).out.mono ?_
      rintro e w3 ⟨rfl, hu⟩
      have m0 := hu.obj (heap_alloc_new w2 (.cells #[.int .i64 va, .int .i64 vb] 43))
      have c0 := blk_cell m0 0 _ rfl
      have c1 := blk_cell m0 1 _ rfl
      replace hu := ((Up.refl w2).alloc (.cells #[.int .i64 va, .int .i64 vb] 43)).drew.trans hu
      clear m0
      replace HB := Lib.hid (hu.obj HB.out)
      replace HU := Lib.hid (HU.out.trans hu)
      clear f0 f1 b0 b1
      have f0 := blk_free HB.out 0
      have f1 := blk_free HB.out 1
      have b0 := blk_cell HB.out 0 _ rfl
      have b1 := blk_cell HB.out 1 _ rfl
      clear hu
      go_wp2_with fail
      have hb9 := blk_set2 HB.out (.int .i64 va) (.int .i64 vb)
      have d0 := blk_cell hb9 0 _ rfl
      have d1 := blk_cell hb9 1 _ rfl
      refine bodyPost_ret (v := .tuple #[.agg #[.int .i64 va, .int .i64 vb], .int .i64 0]) (by simp [results, Tryd.results32, go_sem, d0, d1]) rfl ⟨rfl, ?_⟩
      exact up_set2 HU.out (Nat.le_refl _) _ _
    · rw [show askedV l = ((0, 0), 8) from by rw [hv2, if_pos (by omega)]]
      rw [h] at CH
      clear h hv2
      go_enter Tryd.func32, Tryd.ntmps32
      go_wp2_with fail
      refine (CP _).out.mono ?_
      rintro e w1 ⟨rfl, rfl⟩
      go_wp2_with fail
      refine (CC _ (hg.up n1)).out.mono ?_
      rintro e w1 ⟨rfl, hu⟩
      have HB := Lib.hid (hu.obj n2)
      have f0 := blk_free HB.out 0
      have f1 := blk_free HB.out 1
      have b0 := blk_cell HB.out 0 _ rfl
      have b1 := blk_cell HB.out 1 _ rfl
      have HU := Lib.hid (n1.trans hu)
      clear hu n1 n2
      go_wp2_with fail
      have m1 := heap_alloc_new w1 (.cells #[strV a, strV b] 9)
      have NU := Lib.hid (nums_any [a, b] w1.heap.size (by simp) hab1 (w1.alloc (.cells #[strV a, strV b] 9)) (hg.1.up (HU.out.alloc _)) (fun j hj => by match j, hj with | 0, _ => exact blk_cell m1 0 _ rfl | 1, _ => exact blk_cell m1 1 _ rfl | j + 2, hj => simp at hj; omega))
      refine (NU.out).mono ?_
      rintro e w2 ⟨hu, hend⟩
      replace hu := ((Up.refl w1).alloc (.cells #[strV a, strV b] 9)).trans hu
      replace HB := Lib.hid (hu.obj HB.out)
      replace HU := Lib.hid (HU.out.trans hu)
      clear f0 f1 b0 b1
      have f0 := blk_free HB.out 0
      have f1 := blk_free HB.out 1
      have b0 := blk_cell HB.out 0 _ rfl
      have b1 := blk_cell HB.out 1 _ rfl
      clear hu
      clear m1 NU
      obtain ⟨hf, _⟩ | ⟨_, v, rfl, hown⟩ := hend
      · exact absurd HF0.out hf
      obtain ⟨_, hnil⟩ | ⟨g, cap, rfl, hg1, hg2, hcap⟩ := hown.form
      · simp at hnil
      have s0 := hown.at 0 (by simp)
      have s1 := hown.at 1 (by simp)
      simp only [List.map_cons, List.map_nil, List.getD_cons_zero, List.getD_cons_succ] at s0 s1
      rw [HVA.out] at s0
      rw [HVB.out] at s1
      clear hown hcap hg2
      go_wp2_with fail
      go_region_held3 (fun w' => Up w w' ∧ w'.cell? ⟨g, 0, none⟩ = some (.int .i64 va) ∧ w'.cell? ⟨g, 1, none⟩ = some (.int .i64 vb)) (first | assumption | exact ⟨HU.out.drew, s0, s1⟩ | exact keepA ⟨HU.out, s0, s1⟩ (((Up.refl _).alloc _).drew) | exact keepA (by assumption) ((Up.refl _).alloc _)) (fail)
      clear s0 s1
      go_wp2_with fail
      refine (CH _).out.mono ?_
      rintro e w3 ⟨rfl, hu⟩
      have m0 := hu.obj (heap_alloc_new w2 (.cells #[.int .i64 va, .int .i64 vb] 43))
      have c0 := blk_cell m0 0 _ rfl
      have c1 := blk_cell m0 1 _ rfl
      replace hu := ((Up.refl w2).alloc (.cells #[.int .i64 va, .int .i64 vb] 43)).drew.trans hu
      clear m0
      replace HB := Lib.hid (hu.obj HB.out)
      replace HU := Lib.hid (HU.out.trans hu)
      clear f0 f1 b0 b1
      have f0 := blk_free HB.out 0
      have f1 := blk_free HB.out 1
      have b0 := blk_cell HB.out 0 _ rfl
      have b1 := blk_cell HB.out 1 _ rfl
      clear hu
      go_wp2_with fail
      have hb9 := blk_set2 HB.out (.int .i64 0) (.int .i64 0)
      have d0 := blk_cell hb9 0 _ rfl
      have d1 := blk_cell hb9 1 _ rfl
      refine bodyPost_ret (v := .tuple #[.agg #[.int .i64 0, .int .i64 0], .int .i64 8]) (by simp [results, Tryd.results32, go_sem, d0, d1]) rfl ⟨rfl, ?_⟩
      exact up_set2 HU.out (Nat.le_refl _) _ _
  · rw [show askedV l = ((0, 0), (twoV a b).2) from by rw [HV.out, if_pos ht]]
    have HF0 := Lib.hid hfe
    have HT := Lib.hid ht
    have hb2 : ((twoV a b).2 != 0) = true := by rw [bne_iff_ne]; exact ht
    clear HV ht hfe
    generalize (twoV a b).2 = te at *
    go_enter Tryd.func32, Tryd.ntmps32
    go_wp2_with fail
    refine (CP _).out.mono ?_
    rintro e w1 ⟨rfl, rfl⟩
    go_wp2_with fail
    refine (CC _ (hg.up n1)).out.mono ?_
    rintro e w1 ⟨rfl, hu⟩
    have HB := Lib.hid (hu.obj n2)
    have f0 := blk_free HB.out 0
    have f1 := blk_free HB.out 1
    have b0 := blk_cell HB.out 0 _ rfl
    have b1 := blk_cell HB.out 1 _ rfl
    have HU := Lib.hid (n1.trans hu)
    clear hu n1 n2
    go_wp2_with fail
    have m1 := heap_alloc_new w1 (.cells #[strV a, strV b] 9)
    have NU := Lib.hid (nums_any [a, b] w1.heap.size (by simp) hab1 (w1.alloc (.cells #[strV a, strV b] 9)) (hg.1.up (HU.out.alloc _)) (fun j hj => by match j, hj with | 0, _ => exact blk_cell m1 0 _ rfl | 1, _ => exact blk_cell m1 1 _ rfl | j + 2, hj => simp at hj; omega))
    refine (NU.out).mono ?_
    rintro e w2 ⟨hu, hend⟩
    replace hu := ((Up.refl w1).alloc (.cells #[strV a, strV b] 9)).trans hu
    replace HB := Lib.hid (hu.obj HB.out)
    replace HU := Lib.hid (HU.out.trans hu)
    clear f0 f1 b0 b1
    have f0 := blk_free HB.out 0
    have f1 := blk_free HB.out 1
    have b0 := blk_cell HB.out 0 _ rfl
    have b1 := blk_cell HB.out 1 _ rfl
    clear hu
    clear m1 NU
    obtain ⟨_, rfl⟩ | ⟨hf, _⟩ := hend
    rotate_left
    · exact absurd (HF0.out.symm.trans hf) HT.out
    rw [HF0.out]
    go_wp2_with fail
    have hb9 := blk_set2 HB.out (.int .i64 0) (.int .i64 0)
    have d0 := blk_cell hb9 0 _ rfl
    have d1 := blk_cell hb9 1 _ rfl
    refine bodyPost_ret (v := .tuple #[.agg #[.int .i64 0, .int .i64 0], .int .i64 te]) (by simp [results, Tryd.results32, go_sem, d0, d1]) rfl ⟨rfl, ?_⟩
    exact up_set2 HU.out (Nat.le_refl _) _ _
theorem asked_any (l : Bs) (hl : l.length ≤ 1000000) (w : World) (hg : Gm w) :
    Calls Tryd.prog 32 #[.string ⟨l.toArray⟩] w fun e w' => e = .returned (.tuple #[.agg #[.int .i64 (askedV l).1.1, .int .i64 (askedV l).1.2], .int .i64 (askedV l).2]) ∧ Up w w' := by
  cases hp : Lib.hasPrefix l [98, 121, 116, 101, 115, 61] with
  | false => exact asked_none l l false hl (by unfold Lib.trimPrefix; rw [hp]; rfl) hp w hg (by unfold askedV; rw [if_pos hp]) (.inl rfl)
  | true =>
    have hq : Lib.trimPrefix l [98, 121, 116, 101, 115, 61] = l.drop 6 := by unfold Lib.trimPrefix; rw [hp]; rfl
    have hl2 : (l.drop 6).length ≤ 1000000 := by rw [List.length_drop]; omega
    cases hc : cutC 45 (l.drop 6) with
    | none => exact asked_none l _ true hl2 hq hp w hg (by unfold askedV; rw [if_neg (by rw [hp]; simp), hc]) (.inr hc)
    | some x =>
      obtain ⟨a, b⟩ := x
      exact asked_some l _ a b hl2 hq hp w hg (by unfold askedV; rw [if_neg (by rw [hp]; simp), hc]) hc
end Go.Proofs.YteeenbhmdacdiaaDoor
