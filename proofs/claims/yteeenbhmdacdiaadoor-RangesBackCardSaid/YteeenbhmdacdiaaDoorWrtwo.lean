/- Walks: the reference's two, Asked. -/
import Derived.Test.YteeenbhmdacdiaaDoorWrcut
import Derived.Test.YteeenbhmdacdiaaDoorWrnumber
namespace Go.Proofs.YteeenbhmdacdiaaDoor
open Go.RowKit Go.Gz

set_option maxHeartbeats 1000000 in
theorem rtwo_any (a b : Bs) (ha : a.length ≤ 1000000) (hb : b.length ≤ 1000000) (w : World) :
    Calls Tryd.prog 60 #[.string ⟨a.toArray⟩, .string ⟨b.toArray⟩] w fun e w' => e = .returned (.tuple #[.agg #[.int .i64 (twoV a b).1.1, .int .i64 (twoV a b).1.2], .int .i64 (twoV a b).2]) ∧ Up w w' := by
  have A := fun w => Lib.hid (rnum_any a ha w)
  have B := fun w => Lib.hid (rnum_any b hb w)
  by_cases h1 : numE a = 0
  · by_cases h2 : numE b = 0
    · rw [show twoV a b = ((numV a, numV b), 0) from by unfold twoV; rw [if_neg (by omega), if_neg (by omega)]]
      rw [h1] at A
      rw [h2] at B
      clear h1 h2
      generalize numV a = va at *
      generalize numV b = vb at *
      go_enter Tryd.func60, Tryd.ntmps60
      go_wp2_with fail
      refine (A _).out.mono ?_
      rintro e w3 ⟨rfl, rfl⟩
      go_wp2_with fail
      refine (B _).out.mono ?_
      rintro e w3 ⟨rfl, rfl⟩
      go_wp2_with fail
      refine bodyPost_ret (v := .tuple #[.agg #[.int .i64 va, .int .i64 vb], .int .i64 0]) (by simp [results, Tryd.results60, go_sem]) rfl ⟨rfl, (Up.refl w).alloc _⟩
    · rw [show twoV a b = ((0, 0), numE b) from by unfold twoV; rw [if_neg (by omega), if_pos (by omega)]]
      rw [h1] at A
      have hb2 : (numE b != 0) = true := by rw [bne_iff_ne]; exact h2
      clear h1 h2
      generalize numE b = eb at *
      generalize numV a = va at *
      generalize numV b = vb at *
      go_enter Tryd.func60, Tryd.ntmps60
      go_wp2_with fail
      refine (A _).out.mono ?_
      rintro e w3 ⟨rfl, rfl⟩
      go_wp2_with fail
      refine (B _).out.mono ?_
      rintro e w3 ⟨rfl, rfl⟩
      go_wp2_with fail
      refine bodyPost_ret (v := .tuple #[.agg #[.int .i64 0, .int .i64 0], .int .i64 eb]) (by simp [results, Tryd.results60, go_sem]) rfl ⟨rfl, (Up.refl w).alloc _⟩
  · rw [show twoV a b = ((0, 0), numE a) from by unfold twoV; rw [if_pos h1]]
    have hb2 : (numE a != 0) = true := by rw [bne_iff_ne]; exact h1
    clear h1 B
    generalize numE a = ea at *
    generalize numV a = va at *
    go_enter Tryd.func60, Tryd.ntmps60
    go_wp2_with fail
    refine (A _).out.mono ?_
    rintro e w3 ⟨rfl, rfl⟩
    go_wp2_with fail
    refine bodyPost_ret (v := .tuple #[.agg #[.int .i64 0, .int .i64 0], .int .i64 ea]) (by simp [results, Tryd.results60, go_sem]) rfl ⟨rfl, (Up.refl w).alloc _⟩
theorem pre_take (l p : Bs) : Lib.hasPrefix l p = (l.take p.length == p) := by
  unfold Lib.hasPrefix
  rw [Bool.eq_iff_iff, List.isPrefixOf_iff_prefix, beq_iff_eq]
  constructor
  · intro h; exact (List.prefix_iff_eq_take.1 h).symm
  · intro h; exact List.prefix_iff_eq_take.2 h.symm
set_option maxHeartbeats 2000000 in
theorem rasked_any (l : Bs) (hl : l.length ≤ 1000000) (w : World) :
    Calls Tryd.prog 33 #[.string ⟨l.toArray⟩] w fun e w' => e = .returned (.tuple #[.agg #[.int .i64 (askedV l).1.1, .int .i64 (askedV l).1.2], .int .i64 (askedV l).2]) ∧ Up w w' := by
  have hp0 := pre_take l [98, 121, 116, 101, 115, 61]
  have x1 := extract_take l 6
  have x2 := extract_mk l 6
  by_cases h6 : l.length < 6
  · have hp : Lib.hasPrefix l [98, 121, 116, 101, 115, 61] = false := by
      rw [hp0, beq_eq_false_iff_ne]; intro e
      have := congrArg List.length e
      simp at this; omega
    rw [show askedV l = ((0, 0), 4) from by unfold askedV; rw [if_pos hp]]
    clear hp hp0 x1 x2
    go_enter Tryd.func33, Tryd.ntmps33
    go_wp2_with fail
    refine bodyPost_ret (v := .tuple #[.agg #[.int .i64 0, .int .i64 0], .int .i64 4]) (by simp [results, Tryd.results33, go_sem]) rfl ⟨rfl, (Up.refl w).alloc _⟩
  have hb6 : (6 : Int) ≤ (l.length : Int) := by omega
  simp only [List.length_cons, List.length_nil] at hp0
  obtain ⟨p, hp⟩ : ∃ p, l.take 6 = p := ⟨_, rfl⟩
  obtain ⟨r, hr⟩ : ∃ r, l.drop 6 = r := ⟨_, rfl⟩
  have hrl : r.length ≤ 1000000 := by rw [← hr, List.length_drop]; omega
  rw [hp] at x1 hp0
  rw [hr] at x2
  by_cases hpp : (p == [98, 121, 116, 101, 115, 61]) = true
  · have HPX := Lib.hid (hp0.trans hpp)
    have CC := fun w => Lib.hid (rcut_any r hrl 45 w)
    have n1 := (Up.refl w).alloc (.cells #[.int .i64 0, .int .i64 0] 42)
    have n2 := heap_alloc_new w (.cells #[.int .i64 0, .int .i64 0] 42)
    cases hc : cutC 45 r with
    | none =>
      rw [show askedV l = ((0, 0), 4) from by unfold askedV; rw [if_neg (by rw [HPX.out]; simp), hr, hc]]
      rw [show rcutV 45 r = ([], [], false) from by unfold rcutV; rw [hc]] at CC
      clear hc hp0 hp hr
      go_enter Tryd.func33, Tryd.ntmps33
      go_wp2_with fail
      refine (CC _).out.mono ?_
      rintro e w1 ⟨rfl, hu⟩
      have HB := Lib.hid (hu.obj n2)
      have f0 := blk_free HB.out 0
      have f1 := blk_free HB.out 1
      have b0 := blk_cell HB.out 0 _ rfl
      have b1 := blk_cell HB.out 1 _ rfl
      have HU := Lib.hid (n1.trans hu)
      clear hu n1 n2
      go_wp2_with fail
      have hb3 := blk_set2 HB.out (.int .i64 0) (.int .i64 0)
      have d0 := blk_cell hb3 0 _ rfl
      have d1 := blk_cell hb3 1 _ rfl
      refine bodyPost_ret (v := .tuple #[.agg #[.int .i64 0, .int .i64 0], .int .i64 4]) (by simp [results, Tryd.results33, go_sem, d0, d1]) rfl ⟨rfl, ?_⟩
      exact up_set2 HU.out (Nat.le_refl _) _ _
    | some q =>
      obtain ⟨a, b⟩ := q
      have hab := cutC_len hc
      have hal : a.length ≤ 1000000 := by have := congrArg List.length hab; simp at this; omega
      have hbl : b.length ≤ 1000000 := by have := congrArg List.length hab; simp at this; omega
      have HA := Lib.hid (show askedV l = (if (twoV a b).2 ≠ 0 then ((0, 0), (twoV a b).2) else if chk (numV a) (numV b) ≠ 0 then ((0, 0), 8) else ((numV a, numV b), 0)) from by unfold askedV; rw [if_neg (by rw [HPX.out]; simp), hr, hc])
      rw [show rcutV 45 r = (a, b, true) from by unfold rcutV; rw [hc]] at CC
      have TW := fun w => Lib.hid (rtwo_any a b hal hbl w)
      clear hc hp0 hp hr hab
      by_cases ht : (twoV a b).2 = 0
      · have htv : twoV a b = ((numV a, numV b), 0) := by
          unfold twoV at ht ⊢
          split
          · rename_i g; rw [if_pos g] at ht; exact absurd ht g
          · rename_i g; rw [if_neg g] at ht
            split
            · rename_i g2; rw [if_pos g2] at ht; exact absurd ht g2
            · rfl
        rw [htv] at TW HA
        have CH := fun w => Lib.hid (rcheck_any (numV a) (numV b) w)
        generalize numV a = va at *
        generalize numV b = vb at *
        rcases chk_cases va vb with h | h
        · rw [show askedV l = ((va, vb), 0) from by rw [HA.out, if_neg (by simp), if_neg (by omega)]]
          rw [h] at CH
          clear h ht htv HA
          go_enter Tryd.func33, Tryd.ntmps33
          go_wp2_with fail
          refine (CC _).out.mono ?_
          rintro e w1 ⟨rfl, hu⟩
          have HB := Lib.hid (hu.obj n2)
          have f0 := blk_free HB.out 0
          have f1 := blk_free HB.out 1
          have b0 := blk_cell HB.out 0 _ rfl
          have b1 := blk_cell HB.out 1 _ rfl
          have HU := Lib.hid (n1.trans hu)
          clear hu n1 n2
          go_wp2_with fail
          refine (TW _).out.mono ?_
          rintro e w2 ⟨rfl, hu⟩
          have m0 := new2 w2 42 va vb
          replace hu := hu.trans m0.1
          replace HB := Lib.hid (hu.obj HB.out)
          replace HU := Lib.hid (HU.out.trans hu)
          clear f0 f1 b0 b1
          have f0 := blk_free HB.out 0
          have f1 := blk_free HB.out 1
          have b0 := blk_cell HB.out 0 _ rfl
          have b1 := blk_cell HB.out 1 _ rfl
          clear hu
          have c0 := m0.2.1
          have c1 := m0.2.2
          clear m0
          go_wp2_with fail
          refine (CH _).out.mono ?_
          rintro e w3 ⟨rfl, hu⟩
          replace c0 := hu.cell c0
          replace c1 := hu.cell c1
          replace HB := Lib.hid (hu.obj HB.out)
          replace HU := Lib.hid (HU.out.trans hu)
          clear f0 f1 b0 b1
          have f0 := blk_free HB.out 0
          have f1 := blk_free HB.out 1
          have b0 := blk_cell HB.out 0 _ rfl
          have b1 := blk_cell HB.out 1 _ rfl
          clear hu
          go_wp2_with fail
          have hb3 := blk_set2 HB.out (.int .i64 va) (.int .i64 vb)
          have d0 := blk_cell hb3 0 _ rfl
          have d1 := blk_cell hb3 1 _ rfl
          refine bodyPost_ret (v := .tuple #[.agg #[.int .i64 va, .int .i64 vb], .int .i64 0]) (by simp [results, Tryd.results33, go_sem, d0, d1]) rfl ⟨rfl, ?_⟩
          exact up_set2 HU.out (Nat.le_refl _) _ _
        · rw [show askedV l = ((0, 0), 8) from by rw [HA.out, if_neg (by simp), if_pos (by omega)]]
          rw [h] at CH
          clear h ht htv HA
          go_enter Tryd.func33, Tryd.ntmps33
          go_wp2_with fail
          refine (CC _).out.mono ?_
          rintro e w1 ⟨rfl, hu⟩
          have HB := Lib.hid (hu.obj n2)
          have f0 := blk_free HB.out 0
          have f1 := blk_free HB.out 1
          have b0 := blk_cell HB.out 0 _ rfl
          have b1 := blk_cell HB.out 1 _ rfl
          have HU := Lib.hid (n1.trans hu)
          clear hu n1 n2
          go_wp2_with fail
          refine (TW _).out.mono ?_
          rintro e w2 ⟨rfl, hu⟩
          have m0 := new2 w2 42 va vb
          replace hu := hu.trans m0.1
          replace HB := Lib.hid (hu.obj HB.out)
          replace HU := Lib.hid (HU.out.trans hu)
          clear f0 f1 b0 b1
          have f0 := blk_free HB.out 0
          have f1 := blk_free HB.out 1
          have b0 := blk_cell HB.out 0 _ rfl
          have b1 := blk_cell HB.out 1 _ rfl
          clear hu
          have c0 := m0.2.1
          have c1 := m0.2.2
          clear m0
          go_wp2_with fail
          refine (CH _).out.mono ?_
          rintro e w3 ⟨rfl, hu⟩
          replace c0 := hu.cell c0
          replace c1 := hu.cell c1
          replace HB := Lib.hid (hu.obj HB.out)
          replace HU := Lib.hid (HU.out.trans hu)
          clear f0 f1 b0 b1
          have f0 := blk_free HB.out 0
          have f1 := blk_free HB.out 1
          have b0 := blk_cell HB.out 0 _ rfl
          have b1 := blk_cell HB.out 1 _ rfl
          clear hu
          go_wp2_with fail
          have hb3 := blk_set2 HB.out (.int .i64 0) (.int .i64 0)
          have d0 := blk_cell hb3 0 _ rfl
          have d1 := blk_cell hb3 1 _ rfl
          refine bodyPost_ret (v := .tuple #[.agg #[.int .i64 0, .int .i64 0], .int .i64 8]) (by simp [results, Tryd.results33, go_sem, d0, d1]) rfl ⟨rfl, ?_⟩
          exact up_set2 HU.out (Nat.le_refl _) _ _
      · rw [show askedV l = ((0, 0), (twoV a b).2) from by rw [HA.out, if_pos ht]]
        have hb2 : ((twoV a b).2 != 0) = true := by rw [bne_iff_ne]; exact ht
        have hb3 : ((twoV a b).2 == 0) = false := by rw [beq_eq_false_iff_ne]; exact ht
        clear ht HA
        generalize twoV a b = tv at *
        obtain ⟨⟨tf, tt⟩, te⟩ := tv
        go_enter Tryd.func33, Tryd.ntmps33
        go_wp2_with fail
        refine (CC _).out.mono ?_
        rintro e w1 ⟨rfl, hu⟩
        have HB := Lib.hid (hu.obj n2)
        have f0 := blk_free HB.out 0
        have f1 := blk_free HB.out 1
        have b0 := blk_cell HB.out 0 _ rfl
        have b1 := blk_cell HB.out 1 _ rfl
        have HU := Lib.hid (n1.trans hu)
        clear hu n1 n2
        go_wp2_with fail
        refine (TW _).out.mono ?_
        rintro e w2 ⟨rfl, hu⟩
        replace hu := hu.alloc (.cells #[.int .i64 tf, .int .i64 tt] 42)
        replace HB := Lib.hid (hu.obj HB.out)
        replace HU := Lib.hid (HU.out.trans hu)
        clear f0 f1 b0 b1
        have f0 := blk_free HB.out 0
        have f1 := blk_free HB.out 1
        have b0 := blk_cell HB.out 0 _ rfl
        have b1 := blk_cell HB.out 1 _ rfl
        clear hu
        go_wp2_with fail
        have hb3 := blk_set2 HB.out (.int .i64 0) (.int .i64 0)
        have d0 := blk_cell hb3 0 _ rfl
        have d1 := blk_cell hb3 1 _ rfl
        refine bodyPost_ret (v := .tuple #[.agg #[.int .i64 0, .int .i64 0], .int .i64 te]) (by simp [results, Tryd.results33, go_sem, d0, d1]) rfl ⟨rfl, ?_⟩
        exact up_set2 HU.out (Nat.le_refl _) _ _
  · have hpf : (p == [98, 121, 116, 101, 115, 61]) = false := by simpa using hpp
    have hpt : (!(p == [98, 121, 116, 101, 115, 61])) = true := by rw [hpf]; rfl
    rw [show askedV l = ((0, 0), 4) from by unfold askedV; rw [if_pos (hp0.trans hpf)]]
    clear hpp hp0 hp hr
    go_enter Tryd.func33, Tryd.ntmps33
    go_wp2_with fail
    refine bodyPost_ret (v := .tuple #[.agg #[.int .i64 0, .int .i64 0], .int .i64 4]) (by simp [results, Tryd.results33, go_sem]) rfl ⟨rfl, (Up.refl w).alloc _⟩
end Go.Proofs.YteeenbhmdacdiaaDoor
