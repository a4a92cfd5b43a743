/- Walk: the reference's Tell. -/
import Derived.Test.YteeenbhmdacdiaaDoorWrtwo
namespace Go.Proofs.YteeenbhmdacdiaaDoor
open Go.RowKit Go.Gz

set_option maxRecDepth 100000
theorem two_ok (a b : Bs) (ht : (twoV a b).2 = 0) : twoV a b = ((numV a, numV b), 0) := by
  unfold twoV at ht ⊢
  split
  · rename_i g; rw [if_pos g] at ht; exact absurd ht g
  · rename_i g; rw [if_neg g] at ht
    split
    · rename_i g2; rw [if_pos g2] at ht; exact absurd ht g2
    · rfl
theorem tell_none (l r : Bs) (hp : Lib.hasPrefix l [98, 121, 116, 101, 115, 32] = true) (hr : l.drop 6 = r) (h : cutC 45 r = none ∨ ∃ a q, cutC 45 r = some (a, q) ∧ cutC 47 q = none) : tellV l = ((0, 0), 0, 4) := by
  unfold tellV
  rw [if_neg (by rw [hp]; simp), hr]
  rcases h with h | ⟨a, q, h, h2⟩
  · rw [h]
  · rw [h]; simp only []; rw [h2]
theorem tell_some (l r a q b c : Bs) (hp : Lib.hasPrefix l [98, 121, 116, 101, 115, 32] = true) (hr : l.drop 6 = r) (h : cutC 45 r = some (a, q)) (h2 : cutC 47 q = some (b, c)) :
    tellV l = if (twoV a b).2 ≠ 0 then ((0, 0), 0, (twoV a b).2) else if numE c ≠ 0 then ((0, 0), 0, numE c) else if wrongV (numV a) (numV b) (numV c) ≠ 0 then ((0, 0), 0, 8) else ((numV a, numV b), numV c, 0) := by
  unfold tellV
  rw [if_neg (by rw [hp]; simp), hr, h]
  simp only []
  rw [h2]
set_option maxHeartbeats 4000000 in
theorem rtell_none (l p r : Bs) (w : World) (hb6 : (6 : Int) ≤ (l.length : Int)) (x1 : (⟨l.toArray⟩ : ByteArray).extract 0 6 = ⟨p.toArray⟩) (x2 : (⟨l.toArray⟩ : ByteArray).extract 6 l.length = ⟨r.toArray⟩) (hpp : (p == [98, 121, 116, 101, 115, 32]) = true)
    (hrl : r.length ≤ 1000000) (hv : tellV l = ((0, 0), 0, 4)) (h : cutC 45 r = none ∨ ∃ a q, cutC 45 r = some (a, q) ∧ cutC 47 q = none) :
    Calls Tryd.prog 35 #[.string ⟨l.toArray⟩] w fun e w' => e = .returned (.tuple #[.agg #[.int .i64 (tellV l).1.1, .int .i64 (tellV l).1.2], .int .i64 (tellV l).2.1, .int .i64 (tellV l).2.2]) ∧ Up w w' := by
  rw [hv]
  clear hv
  have CC := fun w => Lib.hid (rcut_any r hrl 45 w)
  have n1 := (Up.refl w).alloc (.cells #[.int .i64 0, .int .i64 0] 42)
  have n2 := heap_alloc_new w (.cells #[.int .i64 0, .int .i64 0] 42)
  rcases h with hc | ⟨a, q, hc, hq⟩
  · rw [show rcutV 45 r = ([], [], false) from by unfold rcutV; rw [hc]] at CC
    have CD := fun w => Lib.hid (rcut_any [] (by simp) 47 w)
    rw [show rcutV 47 [] = ([], [], false) from rfl] at CD
    clear hc
    go_enter Tryd.func35, Tryd.ntmps35
    go_wp2_with fail
    refine (CC _).out.mono ?_
    rintro e w1 ⟨rfl, hu⟩
    have HB := Lib.hid (hu.obj n2)
    have f0 := blk_free HB.out 0
    have f1 := blk_free HB.out 1
    have b0 := blk_cell HB.out 0 _ rfl
    have b1 := blk_cell HB.out 1 _ rfl
    have HU := Lib.hid (n1.trans hu)
    clear hu n1 n2
    go_wp2_with fail
    refine (CD _).out.mono ?_
    rintro e w2 ⟨rfl, hu⟩
    replace HB := Lib.hid (hu.obj HB.out)
    replace HU := Lib.hid (HU.out.trans hu)
    clear f0 f1 b0 b1
    have f0 := blk_free HB.out 0
    have f1 := blk_free HB.out 1
    have b0 := blk_cell HB.out 0 _ rfl
    have b1 := blk_cell HB.out 1 _ rfl
    clear hu
    go_wp2_with fail
    have hb9 := blk_set2 HB.out (.int .i64 0) (.int .i64 0)
    have d0 := blk_cell hb9 0 _ rfl
    have d1 := blk_cell hb9 1 _ rfl
    refine bodyPost_ret (v := .tuple #[.agg #[.int .i64 0, .int .i64 0], .int .i64 0, .int .i64 4]) (by simp [results, Tryd.results35, go_sem, d0, d1]) rfl ⟨rfl, ?_⟩
    exact up_set2 HU.out (Nat.le_refl _) _ _
  · rw [show rcutV 45 r = (a, q, true) from by unfold rcutV; rw [hc]] at CC
    have hql : q.length ≤ 1000000 := by have := congrArg List.length (cutC_len hc); simp at this; omega
    have CD := fun w => Lib.hid (rcut_any q hql 47 w)
    rw [show rcutV 47 q = ([], [], false) from by unfold rcutV; rw [hq]] at CD
    clear hc hq
    go_enter Tryd.func35, Tryd.ntmps35
    go_wp2_with fail
    refine (CC _).out.mono ?_
    rintro e w1 ⟨rfl, hu⟩
    have HB := Lib.hid (hu.obj n2)
    have f0 := blk_free HB.out 0
    have f1 := blk_free HB.out 1
    have b0 := blk_cell HB.out 0 _ rfl
    have b1 := blk_cell HB.out 1 _ rfl
    have HU := Lib.hid (n1.trans hu)
    clear hu n1 n2
    go_wp2_with fail
    refine (CD _).out.mono ?_
    rintro e w2 ⟨rfl, hu⟩
    replace HB := Lib.hid (hu.obj HB.out)
    replace HU := Lib.hid (HU.out.trans hu)
    clear f0 f1 b0 b1
    have f0 := blk_free HB.out 0
    have f1 := blk_free HB.out 1
    have b0 := blk_cell HB.out 0 _ rfl
    have b1 := blk_cell HB.out 1 _ rfl
    clear hu
    go_wp2_with fail
    have hb9 := blk_set2 HB.out (.int .i64 0) (.int .i64 0)
    have d0 := blk_cell hb9 0 _ rfl
    have d1 := blk_cell hb9 1 _ rfl
    refine bodyPost_ret (v := .tuple #[.agg #[.int .i64 0, .int .i64 0], .int .i64 0, .int .i64 4]) (by simp [results, Tryd.results35, go_sem, d0, d1]) rfl ⟨rfl, ?_⟩
    exact up_set2 HU.out (Nat.le_refl _) _ _
set_option maxHeartbeats 8000000 in
theorem rtell_some (l p r a q b c : Bs) (w : World) (hb6 : (6 : Int) ≤ (l.length : Int)) (x1 : (⟨l.toArray⟩ : ByteArray).extract 0 6 = ⟨p.toArray⟩) (x2 : (⟨l.toArray⟩ : ByteArray).extract 6 l.length = ⟨r.toArray⟩) (hpp : (p == [98, 121, 116, 101, 115, 32]) = true)
    (hrl : r.length ≤ 1000000) (hv : tellV l = if (twoV a b).2 ≠ 0 then ((0, 0), 0, (twoV a b).2) else if numE c ≠ 0 then ((0, 0), 0, numE c) else if wrongV (numV a) (numV b) (numV c) ≠ 0 then ((0, 0), 0, 8) else ((numV a, numV b), numV c, 0))
    (hc : cutC 45 r = some (a, q)) (hq : cutC 47 q = some (b, c)) :
    Calls Tryd.prog 35 #[.string ⟨l.toArray⟩] w fun e w' => e = .returned (.tuple #[.agg #[.int .i64 (tellV l).1.1, .int .i64 (tellV l).1.2], .int .i64 (tellV l).2.1, .int .i64 (tellV l).2.2]) ∧ Up w w' := by
  have CC := fun w => Lib.hid (rcut_any r hrl 45 w)
  have n1 := (Up.refl w).alloc (.cells #[.int .i64 0, .int .i64 0] 42)
  have n2 := heap_alloc_new w (.cells #[.int .i64 0, .int .i64 0] 42)
  have e1 := congrArg List.length (cutC_len hc)
  have e2 := congrArg List.length (cutC_len hq)
  simp only [List.length_append, List.length_cons] at e1 e2
  have hal : a.length ≤ 1000000 := by omega
  have hql : q.length ≤ 1000000 := by omega
  have hbl : b.length ≤ 1000000 := by omega
  have hcl : c.length ≤ 1000000 := by omega
  rw [show rcutV 45 r = (a, q, true) from by unfold rcutV; rw [hc]] at CC
  have CD := fun w => Lib.hid (rcut_any q hql 47 w)
  rw [show rcutV 47 q = (b, c, true) from by unfold rcutV; rw [hq]] at CD
  have TW := fun w => Lib.hid (rtwo_any a b hal hbl w)
  have NU := fun w => Lib.hid (rnum_any c hcl w)
  have HA := Lib.hid hv
  clear hc hq e1 e2 hv
  by_cases ht : (twoV a b).2 = 0
  · rw [two_ok a b ht] at TW HA
    have CH := fun w => Lib.hid (rcheck_any (numV a) (numV b) w)
    have hle := (numV_le c).2
    generalize numV a = va at *
    generalize numV b = vb at *
    clear ht
    by_cases hn : numE c = 0
    · rw [hn] at NU HA
      generalize numV c = vc at *
      rcases chk_cases va vb with h | h
      · obtain ⟨p1, p2, p3⟩ := wrong_pick (n := vc) h
        rw [h] at CH
        by_cases ht : vc ≤ vb
        · rw [show tellV l = ((0, 0), 0, 8) from by rw [HA.out, if_neg (by simp), if_neg (by simp), if_pos (by rw [p1 ht]; omega)]]
          clear h HA p1 p2 p3 hn hle
          go_enter Tryd.func35, Tryd.ntmps35
          go_wp2_with fail
          refine (CC _).out.mono ?_
          rintro e w1 ⟨rfl, hu⟩
          have HB := Lib.hid (hu.obj n2)
          have f0 := blk_free HB.out 0
          have f1 := blk_free HB.out 1
          have b0 := blk_cell HB.out 0 _ rfl
          have b1 := blk_cell HB.out 1 _ rfl
          have HU := Lib.hid (n1.trans hu)
          clear hu n1 n2
          go_wp2_with fail
          refine (CD _).out.mono ?_
          rintro e w2 ⟨rfl, hu⟩
          replace HB := Lib.hid (hu.obj HB.out)
          replace HU := Lib.hid (HU.out.trans hu)
          clear f0 f1 b0 b1
          have f0 := blk_free HB.out 0
          have f1 := blk_free HB.out 1
          have b0 := blk_cell HB.out 0 _ rfl
          have b1 := blk_cell HB.out 1 _ rfl
          clear hu
          go_wp2_with fail
          refine (TW _).out.mono ?_
          rintro e w3 ⟨rfl, hu⟩
          have m0 := new2 w3 42 va vb
          replace hu := hu.trans m0.1
          replace HB := Lib.hid (hu.obj HB.out)
          replace HU := Lib.hid (HU.out.trans hu)
          clear f0 f1 b0 b1
          have f0 := blk_free HB.out 0
          have f1 := blk_free HB.out 1
          have b0 := blk_cell HB.out 0 _ rfl
          have b1 := blk_cell HB.out 1 _ rfl
          clear hu
          have c0 := m0.2.1
          have c1 := m0.2.2
          clear m0
          go_wp2_with fail
          refine (NU _).out.mono ?_
          rintro e w4 ⟨rfl, rfl⟩
          go_wp2_with fail
          refine (CH _).out.mono ?_
          rintro e w5 ⟨rfl, hu⟩
          replace c0 := hu.cell c0
          replace c1 := hu.cell c1
          replace HB := Lib.hid (hu.obj HB.out)
          replace HU := Lib.hid (HU.out.trans hu)
          clear f0 f1 b0 b1
          have f0 := blk_free HB.out 0
          have f1 := blk_free HB.out 1
          have b0 := blk_cell HB.out 0 _ rfl
          have b1 := blk_cell HB.out 1 _ rfl
          clear hu
          go_wp2_with fail
          have hb9 := blk_set2 HB.out (.int .i64 0) (.int .i64 0)
          have d0 := blk_cell hb9 0 _ rfl
          have d1 := blk_cell hb9 1 _ rfl
          refine bodyPost_ret (v := .tuple #[.agg #[.int .i64 0, .int .i64 0], .int .i64 0, .int .i64 8]) (by simp [results, Tryd.results35, go_sem, d0, d1]) rfl ⟨rfl, ?_⟩
          exact up_set2 HU.out (Nat.le_refl _) _ _
        · rw [show tellV l = ((va, vb), vc, 0) from by rw [HA.out, if_neg (by simp), if_neg (by simp), if_neg (by rw [p3 ht (by omega)]; omega)]]
          clear h HA p1 p2 p3 hn hle
          go_enter Tryd.func35, Tryd.ntmps35
          go_wp2_with fail
          refine (CC _).out.mono ?_
          rintro e w1 ⟨rfl, hu⟩
          have HB := Lib.hid (hu.obj n2)
          have f0 := blk_free HB.out 0
          have f1 := blk_free HB.out 1
          have b0 := blk_cell HB.out 0 _ rfl
          have b1 := blk_cell HB.out 1 _ rfl
          have HU := Lib.hid (n1.trans hu)
          clear hu n1 n2
          go_wp2_with fail
          refine (CD _).out.mono ?_
          rintro e w2 ⟨rfl, hu⟩
          replace HB := Lib.hid (hu.obj HB.out)
          replace HU := Lib.hid (HU.out.trans hu)
          clear f0 f1 b0 b1
          have f0 := blk_free HB.out 0
          have f1 := blk_free HB.out 1
          have b0 := blk_cell HB.out 0 _ rfl
          have b1 := blk_cell HB.out 1 _ rfl
          clear hu
          go_wp2_with fail
          refine (TW _).out.mono ?_
          rintro e w3 ⟨rfl, hu⟩
          have m0 := new2 w3 42 va vb
          replace hu := hu.trans m0.1
          replace HB := Lib.hid (hu.obj HB.out)
          replace HU := Lib.hid (HU.out.trans hu)
          clear f0 f1 b0 b1
          have f0 := blk_free HB.out 0
          have f1 := blk_free HB.out 1
          have b0 := blk_cell HB.out 0 _ rfl
          have b1 := blk_cell HB.out 1 _ rfl
          clear hu
          have c0 := m0.2.1
          have c1 := m0.2.2
          clear m0
          go_wp2_with fail
          refine (NU _).out.mono ?_
          rintro e w4 ⟨rfl, rfl⟩
          go_wp2_with fail
          refine (CH _).out.mono ?_
          rintro e w5 ⟨rfl, hu⟩
          replace c0 := hu.cell c0
          replace c1 := hu.cell c1
          replace HB := Lib.hid (hu.obj HB.out)
          replace HU := Lib.hid (HU.out.trans hu)
          clear f0 f1 b0 b1
          have f0 := blk_free HB.out 0
          have f1 := blk_free HB.out 1
          have b0 := blk_cell HB.out 0 _ rfl
          have b1 := blk_cell HB.out 1 _ rfl
          clear hu
          go_wp2_with fail
          have hb9 := blk_set2 HB.out (.int .i64 va) (.int .i64 vb)
          have d0 := blk_cell hb9 0 _ rfl
          have d1 := blk_cell hb9 1 _ rfl
          refine bodyPost_ret (v := .tuple #[.agg #[.int .i64 va, .int .i64 vb], .int .i64 vc, .int .i64 0]) (by simp [results, Tryd.results35, go_sem, d0, d1]) rfl ⟨rfl, ?_⟩
          exact up_set2 HU.out (Nat.le_refl _) _ _
      · rw [show tellV l = ((0, 0), 0, 8) from by rw [HA.out, if_neg (by simp), if_neg (by simp), if_pos (by unfold wrongV; rw [if_pos (by omega)]; omega)]]
        rw [h] at CH
        clear h HA hn hle
        go_enter Tryd.func35, Tryd.ntmps35
        go_wp2_with fail
        refine (CC _).out.mono ?_
        rintro e w1 ⟨rfl, hu⟩
        have HB := Lib.hid (hu.obj n2)
        have f0 := blk_free HB.out 0
        have f1 := blk_free HB.out 1
        have b0 := blk_cell HB.out 0 _ rfl
        have b1 := blk_cell HB.out 1 _ rfl
        have HU := Lib.hid (n1.trans hu)
        clear hu n1 n2
        go_wp2_with fail
        refine (CD _).out.mono ?_
        rintro e w2 ⟨rfl, hu⟩
        replace HB := Lib.hid (hu.obj HB.out)
        replace HU := Lib.hid (HU.out.trans hu)
        clear f0 f1 b0 b1
        have f0 := blk_free HB.out 0
        have f1 := blk_free HB.out 1
        have b0 := blk_cell HB.out 0 _ rfl
        have b1 := blk_cell HB.out 1 _ rfl
        clear hu
        go_wp2_with fail
        refine (TW _).out.mono ?_
        rintro e w3 ⟨rfl, hu⟩
        have m0 := new2 w3 42 va vb
        replace hu := hu.trans m0.1
        replace HB := Lib.hid (hu.obj HB.out)
        replace HU := Lib.hid (HU.out.trans hu)
        clear f0 f1 b0 b1
        have f0 := blk_free HB.out 0
        have f1 := blk_free HB.out 1
        have b0 := blk_cell HB.out 0 _ rfl
        have b1 := blk_cell HB.out 1 _ rfl
        clear hu
        have c0 := m0.2.1
        have c1 := m0.2.2
        clear m0
        go_wp2_with fail
        refine (NU _).out.mono ?_
        rintro e w4 ⟨rfl, rfl⟩
        go_wp2_with fail
        refine (CH _).out.mono ?_
        rintro e w5 ⟨rfl, hu⟩
        replace c0 := hu.cell c0
        replace c1 := hu.cell c1
        replace HB := Lib.hid (hu.obj HB.out)
        replace HU := Lib.hid (HU.out.trans hu)
        clear f0 f1 b0 b1
        have f0 := blk_free HB.out 0
        have f1 := blk_free HB.out 1
        have b0 := blk_cell HB.out 0 _ rfl
        have b1 := blk_cell HB.out 1 _ rfl
        clear hu
        go_wp2_with fail
        have hb9 := blk_set2 HB.out (.int .i64 0) (.int .i64 0)
        have d0 := blk_cell hb9 0 _ rfl
        have d1 := blk_cell hb9 1 _ rfl
        refine bodyPost_ret (v := .tuple #[.agg #[.int .i64 0, .int .i64 0], .int .i64 0, .int .i64 8]) (by simp [results, Tryd.results35, go_sem, d0, d1]) rfl ⟨rfl, ?_⟩
        exact up_set2 HU.out (Nat.le_refl _) _ _
    · rw [show tellV l = ((0, 0), 0, numE c) from by rw [HA.out, if_neg (by simp), if_pos hn]]
      have hb2 : (numE c != 0) = true := by rw [bne_iff_ne]; exact hn
      have hb3 : (numE c == 0) = false := by rw [beq_eq_false_iff_ne]; exact hn
      clear HA hn hle
      generalize numE c = ec at *
      generalize numV c = vc at *
      go_enter Tryd.func35, Tryd.ntmps35
      go_wp2_with fail
      refine (CC _).out.mono ?_
      rintro e w1 ⟨rfl, hu⟩
      have HB := Lib.hid (hu.obj n2)
      have f0 := blk_free HB.out 0
      have f1 := blk_free HB.out 1
      have b0 := blk_cell HB.out 0 _ rfl
      have b1 := blk_cell HB.out 1 _ rfl
      have HU := Lib.hid (n1.trans hu)
      clear hu n1 n2
      go_wp2_with fail
      refine (CD _).out.mono ?_
      rintro e w2 ⟨rfl, hu⟩
      replace HB := Lib.hid (hu.obj HB.out)
      replace HU := Lib.hid (HU.out.trans hu)
      clear f0 f1 b0 b1
      have f0 := blk_free HB.out 0
      have f1 := blk_free HB.out 1
      have b0 := blk_cell HB.out 0 _ rfl
      have b1 := blk_cell HB.out 1 _ rfl
      clear hu
      go_wp2_with fail
      refine (TW _).out.mono ?_
      rintro e w3 ⟨rfl, hu⟩
      have m0 := new2 w3 42 va vb
      replace hu := hu.trans m0.1
      replace HB := Lib.hid (hu.obj HB.out)
      replace HU := Lib.hid (HU.out.trans hu)
      clear f0 f1 b0 b1
      have f0 := blk_free HB.out 0
      have f1 := blk_free HB.out 1
      have b0 := blk_cell HB.out 0 _ rfl
      have b1 := blk_cell HB.out 1 _ rfl
      clear hu
      have c0 := m0.2.1
      have c1 := m0.2.2
      clear m0
      go_wp2_with fail
      refine (NU _).out.mono ?_
      rintro e w4 ⟨rfl, rfl⟩
      go_wp2_with fail
      have hb9 := blk_set2 HB.out (.int .i64 0) (.int .i64 0)
      have d0 := blk_cell hb9 0 _ rfl
      have d1 := blk_cell hb9 1 _ rfl
      refine bodyPost_ret (v := .tuple #[.agg #[.int .i64 0, .int .i64 0], .int .i64 0, .int .i64 ec]) (by simp [results, Tryd.results35, go_sem, d0, d1]) rfl ⟨rfl, ?_⟩
      exact up_set2 HU.out (Nat.le_refl _) _ _
  · rw [show tellV l = ((0, 0), 0, (twoV a b).2) from by rw [HA.out, if_pos ht]]
    have hb2 : ((twoV a b).2 != 0) = true := by rw [bne_iff_ne]; exact ht
    have hb3 : ((twoV a b).2 == 0) = false := by rw [beq_eq_false_iff_ne]; exact ht
    clear ht HA
    generalize twoV a b = tv at *
    obtain ⟨⟨tf, tt⟩, te⟩ := tv
    go_enter Tryd.func35, Tryd.ntmps35
    go_wp2_with fail
    refine (CC _).out.mono ?_
    rintro e w1 ⟨rfl, hu⟩
    have HB := Lib.hid (hu.obj n2)
    have f0 := blk_free HB.out 0
    have f1 := blk_free HB.out 1
    have b0 := blk_cell HB.out 0 _ rfl
    have b1 := blk_cell HB.out 1 _ rfl
    have HU := Lib.hid (n1.trans hu)
    clear hu n1 n2
    go_wp2_with fail
    refine (CD _).out.mono ?_
    rintro e w2 ⟨rfl, hu⟩
    replace HB := Lib.hid (hu.obj HB.out)
    replace HU := Lib.hid (HU.out.trans hu)
    clear f0 f1 b0 b1
    have f0 := blk_free HB.out 0
    have f1 := blk_free HB.out 1
    have b0 := blk_cell HB.out 0 _ rfl
    have b1 := blk_cell HB.out 1 _ rfl
    clear hu
    go_wp2_with fail
    refine (TW _).out.mono ?_
    rintro e w3 ⟨rfl, hu⟩
    have m0 := new2 w3 42 tf tt
    replace hu := hu.trans m0.1
    replace HB := Lib.hid (hu.obj HB.out)
    replace HU := Lib.hid (HU.out.trans hu)
    clear f0 f1 b0 b1
    have f0 := blk_free HB.out 0
    have f1 := blk_free HB.out 1
    have b0 := blk_cell HB.out 0 _ rfl
    have b1 := blk_cell HB.out 1 _ rfl
    clear hu
    have c0 := m0.2.1
    have c1 := m0.2.2
    clear m0
    go_wp2_with fail
    have hb9 := blk_set2 HB.out (.int .i64 0) (.int .i64 0)
    have d0 := blk_cell hb9 0 _ rfl
    have d1 := blk_cell hb9 1 _ rfl
    refine bodyPost_ret (v := .tuple #[.agg #[.int .i64 0, .int .i64 0], .int .i64 0, .int .i64 te]) (by simp [results, Tryd.results35, go_sem, d0, d1]) rfl ⟨rfl, ?_⟩
    exact up_set2 HU.out (Nat.le_refl _) _ _
set_option maxHeartbeats 2000000 in
theorem rtell_any (l : Bs) (hl : l.length ≤ 1000000) (w : World) :
    Calls Tryd.prog 35 #[.string ⟨l.toArray⟩] w fun e w' => e = .returned (.tuple #[.agg #[.int .i64 (tellV l).1.1, .int .i64 (tellV l).1.2], .int .i64 (tellV l).2.1, .int .i64 (tellV l).2.2]) ∧ Up w w' := by
  have hp0 := pre_take l [98, 121, 116, 101, 115, 32]
  have x1 := extract_take l 6
  have x2 := extract_mk l 6
  by_cases h6 : l.length < 6
  · have hp : Lib.hasPrefix l [98, 121, 116, 101, 115, 32] = false := by
      rw [hp0, beq_eq_false_iff_ne]; intro e
      have := congrArg List.length e
      simp at this; omega
    rw [show tellV l = ((0, 0), 0, 4) from by unfold tellV; rw [if_pos hp]]
    clear hp hp0 x1 x2
    go_enter Tryd.func35, Tryd.ntmps35
    go_wp2_with fail
    refine bodyPost_ret (v := .tuple #[.agg #[.int .i64 0, .int .i64 0], .int .i64 0, .int .i64 4]) (by simp [results, Tryd.results35, go_sem]) rfl ⟨rfl, (Up.refl w).alloc _⟩
  have hb6 : (6 : Int) ≤ (l.length : Int) := by omega
  simp only [List.length_cons, List.length_nil] at hp0
  obtain ⟨p, hp⟩ : ∃ p, l.take 6 = p := ⟨_, rfl⟩
  obtain ⟨r, hr⟩ : ∃ r, l.drop 6 = r := ⟨_, rfl⟩
  have hrl : r.length ≤ 1000000 := by rw [← hr, List.length_drop]; omega
  rw [hp] at x1 hp0
  rw [hr] at x2
  by_cases hpp : (p == [98, 121, 116, 101, 115, 32]) = true
  · have hpx := hp0.trans hpp
    cases hc : cutC 45 r with
    | none => exact rtell_none l p r w hb6 x1 x2 hpp hrl (tell_none l r hpx hr (.inl hc)) (.inl hc)
    | some q =>
      obtain ⟨a, q⟩ := q
      cases hq : cutC 47 q with
      | none => exact rtell_none l p r w hb6 x1 x2 hpp hrl (tell_none l r hpx hr (.inr ⟨a, q, hc, hq⟩)) (.inr ⟨a, q, hc, hq⟩)
      | some s =>
        obtain ⟨b, c⟩ := s
        exact rtell_some l p r a q b c w hb6 x1 x2 hpp hrl (tell_some l r a q b c hpx hr hc hq) hc hq
  · have hpf : (p == [98, 121, 116, 101, 115, 32]) = false := by simpa using hpp
    have hpt : (!(p == [98, 121, 116, 101, 115, 32])) = true := by rw [hpf]; rfl
    rw [show tellV l = ((0, 0), 0, 4) from by unfold tellV; rw [if_pos (hp0.trans hpf)]]
    clear hpp hp0 hp hr
    go_enter Tryd.func35, Tryd.ntmps35
    go_wp2_with fail
    refine bodyPost_ret (v := .tuple #[.agg #[.int .i64 0, .int .i64 0], .int .i64 0, .int .i64 4]) (by simp [results, Tryd.results35, go_sem]) rfl ⟨rfl, (Up.refl w).alloc _⟩
end Go.Proofs.YteeenbhmdacdiaaDoor
