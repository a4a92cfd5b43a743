/- Walks: dirs.next, number, numbers, Size, Encode. -/
import Derived.Test.YtkfococpanailaaGreatDoorGB18
import Derived.Test.YtkfococpanailaaGreatDoorGB15
namespace Go.Proofs.YtkfococpanailaaGreatDoor
open Go.RowKit Go.Gz Go.Shelf

set_option maxRecDepth 100000
attribute [local go_sem] Oper.semAt_some
theorem next_any (e : Ent) (h : e.off + e.len ≤ 1099511627776) (w : World) :
    Calls Tryz.prog 193 #[entA e] w fun en w' => en = .returned (.int .u64 ((e.off + e.len : Nat) : Int)) ∧ Up w w' := by
  obtain ⟨id, off, len, run⟩ := e
  simp only [entA] at *
  have e1 : IntKind.u64.wrap ((off : Int) + (len : Int)) = (off : Int) + (len : Int) := IntWalk.u64_in _ (by omega)
  go_enter Tryz.func193, Tryz.ntmps193
  go_wp2_with fail
  go_ret
  exact ⟨ret_int (by omega), (Up.refl w).alloc _⟩
set_option maxHeartbeats 2000000 in
theorem number_any (c i : Nat) (hc : c < 4) (hi : i ≤ 4096) (a e : Ent) (ha : a.off + a.len ≤ 1099511627776) (hae : a.id ≤ e.id) (he : okE e) (hc2 : chkE e = 0) (w : World) :
    Calls Tryz.prog 154 #[.int .i64 c, .int .i64 i, entA a, entA e] w fun en w' => en = .returned (.int .u64 (numC c i a e : Nat)) ∧ Up w w' := by
  have NX := fun w => Lib.hid (next_any a ha w)
  have hoff := (chk_ok hc2).2.2
  clear hc2
  have h0 : numC c i a e = if c = 0 then e.id - a.id else if c = 1 then e.run else if c = 2 then e.len else if 0 < i ∧ e.off = a.off + a.len then 0 else e.off + 1 := rfl
  generalize numC c i a e = v at *
  generalize a.off + a.len = na at *
  obtain ⟨aid, aoff, alen, arun⟩ := a
  obtain ⟨id, off, len, run⟩ := e
  obtain ⟨h1, h2, h3, h4⟩ := he
  simp only [entA] at *
  have H0 := Lib.hid h0
  clear h0
  have n0 := new4 w 93 (.int .u64 aid) (.int .u64 aoff) (.int .u32 alen) (.int .u32 arun)
  have HU0 := Lib.hid n0.1
  have NA := Lib.hid n0.2
  have n1 := new4 (w.alloc (.cells #[.int .u64 aid, .int .u64 aoff, .int .u32 alen, .int .u32 arun] 93)) 93 (.int .u64 id) (.int .u64 off) (.int .u32 len) (.int .u32 run)
  rw [show (w.alloc (.cells #[.int .u64 aid, .int .u64 aoff, .int .u32 alen, .int .u32 arun] 93)).heap.size = w.heap.size + 1 by simp] at n1
  have HU1 := Lib.hid n1.1
  have NE := Lib.hid n1.2
  clear n0 n1
  by_cases c0 : c = 0
  · subst c0
    have e1 : IntKind.u64.wrap ((id : Int) - (aid : Int)) = (id : Int) - (aid : Int) := IntWalk.u64_in _ (by omega)
    have E := H0.out
    rw [if_pos rfl] at E
    have EE := Lib.hid E
    clear E H0
    go_enter Tryz.func154, Tryz.ntmps154
    go_wp2_with fail
    go_ret
    exact ⟨ret_int (by rw [EE.out]; omega), HU0.out.trans HU1.out⟩
  by_cases c1 : c = 1
  · subst c1
    have E := H0.out
    rw [if_neg (by omega), if_pos rfl] at E
    have EE := Lib.hid E
    clear E H0 c0
    go_enter Tryz.func154, Tryz.ntmps154
    go_wp2_with fail
    go_ret
    exact ⟨ret_int (by rw [EE.out]), HU0.out.trans HU1.out⟩
  by_cases c2 : c = 2
  · subst c2
    have E := H0.out
    rw [if_neg (by omega), if_neg (by omega), if_pos rfl] at E
    have EE := Lib.hid E
    clear E H0 c0 c1
    go_enter Tryz.func154, Tryz.ntmps154
    go_wp2_with fail
    go_ret
    exact ⟨ret_int (by rw [EE.out]), HU0.out.trans HU1.out⟩
  obtain rfl : c = 3 := by omega
  have E := H0.out
  rw [if_neg (by omega), if_neg (by omega), if_neg (by omega)] at E
  have EE := Lib.hid E
  clear E H0 c0 c1 c2
  have e1 : IntKind.u64.wrap ((off : Int) + 1) = (off : Int) + 1 := IntWalk.u64_in _ (by omega)
  by_cases hi0 : 0 < i
  · have hiI : (0 : Int) < (i : Int) := by omega
    by_cases ho : off = na
    · have E2 := EE.out
      rw [if_pos ⟨hi0, ho⟩] at E2
      have E3 := Lib.hid E2
      subst ho
      clear E2 EE
      go_enter Tryz.func154, Tryz.ntmps154
      go_wp2_with fail
      obtain ⟨a0, a1, a2, a3⟩ := NA.out
      replace a0 := HU1.out.cell a0
      replace a1 := HU1.out.cell a1
      replace a2 := HU1.out.cell a2
      replace a3 := HU1.out.cell a3
      obtain ⟨d0, d1, d2, d3⟩ := NE.out
      have HUW := Lib.hid (HU0.out.trans HU1.out)
      clear NA NE HU0 HU1
      generalize hW : (w.alloc _).alloc _ = W at *
      have MK := Lib.hid (fun w' (h : Up W w') => (⟨h, h.cell a0, h.cell a1, h.cell a2, h.cell a3, h.cell d0, h.cell d1, h.cell d2, h.cell d3⟩ : Up W w' ∧ w'.cell? ⟨w.heap.size, 0, none⟩ = some (.int .u64 aid) ∧ w'.cell? ⟨w.heap.size, 1, none⟩ = some (.int .u64 aoff) ∧ w'.cell? ⟨w.heap.size, 2, none⟩ = some (.int .u32 alen) ∧ w'.cell? ⟨w.heap.size, 3, none⟩ = some (.int .u32 arun) ∧ w'.cell? ⟨(w.heap.size + 1), 0, none⟩ = some (.int .u64 id) ∧ w'.cell? ⟨(w.heap.size + 1), 1, none⟩ = some (.int .u64 off) ∧ w'.cell? ⟨(w.heap.size + 1), 2, none⟩ = some (.int .u32 len) ∧ w'.cell? ⟨(w.heap.size + 1), 3, none⟩ = some (.int .u32 run)))
      clear hW
      go_region_held3 (fun w' => Up W w' ∧ w'.cell? ⟨w.heap.size, 0, none⟩ = some (.int .u64 aid) ∧ w'.cell? ⟨w.heap.size, 1, none⟩ = some (.int .u64 aoff) ∧ w'.cell? ⟨w.heap.size, 2, none⟩ = some (.int .u32 alen) ∧ w'.cell? ⟨w.heap.size, 3, none⟩ = some (.int .u32 arun) ∧ w'.cell? ⟨(w.heap.size + 1), 0, none⟩ = some (.int .u64 id) ∧ w'.cell? ⟨(w.heap.size + 1), 1, none⟩ = some (.int .u64 off) ∧ w'.cell? ⟨(w.heap.size + 1), 2, none⟩ = some (.int .u32 len) ∧ w'.cell? ⟨(w.heap.size + 1), 3, none⟩ = some (.int .u32 run))
        (first
          | assumption
          | exact MK.out _ (Up.refl _)
          | exact MK.out _ (Up.refl _).drew
          | exact MK.out _ (Up.trans (And.left (by assumption)) (by assumption))
          | exact MK.out _ (Up.alloc (And.left (by assumption)) _)
          | exact MK.out _ (Up.trans (Up.alloc (And.left (by assumption)) _) (by assumption)))
        (first
          | (go_at_call 193; refine (NX _).out.mono ?_; rintro e w1 ⟨rfl, hu1⟩))
      all_goals
        obtain ⟨su, s0, s1, s2, s3, t0, t1, t2, t3⟩ : Up W w1 ∧ w1.cell? ⟨w.heap.size, 0, none⟩ = some (.int .u64 aid) ∧ w1.cell? ⟨w.heap.size, 1, none⟩ = some (.int .u64 aoff) ∧ w1.cell? ⟨w.heap.size, 2, none⟩ = some (.int .u32 alen) ∧ w1.cell? ⟨w.heap.size, 3, none⟩ = some (.int .u32 arun) ∧ w1.cell? ⟨(w.heap.size + 1), 0, none⟩ = some (.int .u64 id) ∧ w1.cell? ⟨(w.heap.size + 1), 1, none⟩ = some (.int .u64 off) ∧ w1.cell? ⟨(w.heap.size + 1), 2, none⟩ = some (.int .u32 len) ∧ w1.cell? ⟨(w.heap.size + 1), 3, none⟩ = some (.int .u32 run) := by assumption
        go_wp2_with fail
        go_ret
        exact ⟨ret_int (by rw [E3.out]; rfl), HUW.out.trans su⟩
    · have E2 := EE.out
      rw [if_neg (by omega)] at E2
      have E3 := Lib.hid E2
      have hb : ((off : Int) == (na : Int)) = false := by rw [beq_eq_false_iff_ne]; omega
      clear E2 EE ho
      go_enter Tryz.func154, Tryz.ntmps154
      go_wp2_with fail
      obtain ⟨a0, a1, a2, a3⟩ := NA.out
      replace a0 := HU1.out.cell a0
      replace a1 := HU1.out.cell a1
      replace a2 := HU1.out.cell a2
      replace a3 := HU1.out.cell a3
      obtain ⟨d0, d1, d2, d3⟩ := NE.out
      have HUW := Lib.hid (HU0.out.trans HU1.out)
      clear NA NE HU0 HU1
      generalize hW : (w.alloc _).alloc _ = W at *
      have MK := Lib.hid (fun w' (h : Up W w') => (⟨h, h.cell a0, h.cell a1, h.cell a2, h.cell a3, h.cell d0, h.cell d1, h.cell d2, h.cell d3⟩ : Up W w' ∧ w'.cell? ⟨w.heap.size, 0, none⟩ = some (.int .u64 aid) ∧ w'.cell? ⟨w.heap.size, 1, none⟩ = some (.int .u64 aoff) ∧ w'.cell? ⟨w.heap.size, 2, none⟩ = some (.int .u32 alen) ∧ w'.cell? ⟨w.heap.size, 3, none⟩ = some (.int .u32 arun) ∧ w'.cell? ⟨(w.heap.size + 1), 0, none⟩ = some (.int .u64 id) ∧ w'.cell? ⟨(w.heap.size + 1), 1, none⟩ = some (.int .u64 off) ∧ w'.cell? ⟨(w.heap.size + 1), 2, none⟩ = some (.int .u32 len) ∧ w'.cell? ⟨(w.heap.size + 1), 3, none⟩ = some (.int .u32 run)))
      clear hW
      go_region_held3 (fun w' => Up W w' ∧ w'.cell? ⟨w.heap.size, 0, none⟩ = some (.int .u64 aid) ∧ w'.cell? ⟨w.heap.size, 1, none⟩ = some (.int .u64 aoff) ∧ w'.cell? ⟨w.heap.size, 2, none⟩ = some (.int .u32 alen) ∧ w'.cell? ⟨w.heap.size, 3, none⟩ = some (.int .u32 arun) ∧ w'.cell? ⟨(w.heap.size + 1), 0, none⟩ = some (.int .u64 id) ∧ w'.cell? ⟨(w.heap.size + 1), 1, none⟩ = some (.int .u64 off) ∧ w'.cell? ⟨(w.heap.size + 1), 2, none⟩ = some (.int .u32 len) ∧ w'.cell? ⟨(w.heap.size + 1), 3, none⟩ = some (.int .u32 run))
        (first
          | assumption
          | exact MK.out _ (Up.refl _)
          | exact MK.out _ (Up.refl _).drew
          | exact MK.out _ (Up.trans (And.left (by assumption)) (by assumption))
          | exact MK.out _ (Up.alloc (And.left (by assumption)) _)
          | exact MK.out _ (Up.trans (Up.alloc (And.left (by assumption)) _) (by assumption)))
        (first
          | (go_at_call 193; refine (NX _).out.mono ?_; rintro e w1 ⟨rfl, hu1⟩))
      all_goals
        obtain ⟨su, s0, s1, s2, s3, t0, t1, t2, t3⟩ : Up W w1 ∧ w1.cell? ⟨w.heap.size, 0, none⟩ = some (.int .u64 aid) ∧ w1.cell? ⟨w.heap.size, 1, none⟩ = some (.int .u64 aoff) ∧ w1.cell? ⟨w.heap.size, 2, none⟩ = some (.int .u32 alen) ∧ w1.cell? ⟨w.heap.size, 3, none⟩ = some (.int .u32 arun) ∧ w1.cell? ⟨(w.heap.size + 1), 0, none⟩ = some (.int .u64 id) ∧ w1.cell? ⟨(w.heap.size + 1), 1, none⟩ = some (.int .u64 off) ∧ w1.cell? ⟨(w.heap.size + 1), 2, none⟩ = some (.int .u32 len) ∧ w1.cell? ⟨(w.heap.size + 1), 3, none⟩ = some (.int .u32 run) := by assumption
        go_wp2_with fail
        go_ret
        exact ⟨ret_int (by rw [E3.out]; omega), HUW.out.trans su⟩
  · have E2 := EE.out
    rw [if_neg (by omega)] at E2
    have E3 := Lib.hid E2
    obtain rfl : i = 0 := by omega
    clear E2 EE hi0
    go_enter Tryz.func154, Tryz.ntmps154
    go_wp2_with fail
    obtain ⟨d0, d1, d2, d3⟩ := NE.out
    have HUW := Lib.hid (HU0.out.trans HU1.out)
    clear NA NE HU0 HU1
    generalize hW : (w.alloc _).alloc _ = W at *
    clear hW
    refine wp_region_held_drew (S := fun w' => Up W w') (by kernel_rfl) ?_ (fun hHeld => ?_)
    · exact (Up.refl W).drew
    first | refine tku 0 rfl ?_ | refine tkv 0 rfl ?_
    (try simp only [Act.put, tz1, tz2, tz3])
    first | refine tku 1 rfl ?_ | refine tkv 1 rfl ?_
    (try simp only [Act.put, tz1, tz2, tz3])
    first | refine tku 2 rfl ?_ | refine tkv 2 rfl ?_
    (try simp only [Act.put, tz1, tz2, tz3])
    first | refine tku 3 rfl ?_ | refine tkv 3 rfl ?_
    (try simp only [Act.put, tz1, tz2, tz3])
    first | refine tku 4 rfl ?_ | refine tkv 4 rfl ?_
    (try simp only [Act.put, tz1, tz2, tz3])
    first | refine tku 5 rfl ?_ | refine tkv 5 rfl ?_
    (try simp only [Act.put, tz1, tz2, tz3])
    first | refine tku 6 rfl ?_ | refine tkv 6 rfl ?_
    (try simp only [Act.put, tz1, tz2, tz3])
    first | refine tku 7 rfl ?_ | refine tkv 7 rfl ?_
    (try simp only [Act.put, tz1, tz2, tz3])
    first | refine tku 8 rfl ?_ | refine tkv 8 rfl ?_
    (try simp only [Act.put, tz1, tz2, tz3])
    first | refine tku 9 rfl ?_ | refine tkv 9 rfl ?_
    (try simp only [Act.put, tz1, tz2, tz3])
    refine wpAnyH_done (by kernel_rfl) ?_ _
    have d1' : W.drew.cell? ⟨w.heap.size + 1, 1, none⟩ = some (.int .u64 off) := ((Up.refl W).drew).cell d1
    go_wp2_with fail
    go_ret
    exact ⟨ret_int (by rw [E3.out]; omega), HUW.out.trans (Up.refl W).drew⟩
end Go.Proofs.YtkfococpanailaaGreatDoor
