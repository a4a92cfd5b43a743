/- Walk: leaves.piece, of any text. -/
import Derived.Test.YtkfococpanailaaGreatDoorGA23
import Derived.Test.YtkfococpanailaaGreatDoorGA13
import Derived.Test.YtkfococpanailaaGreatDoorGA20
namespace Go.Gz
theorem setE_ok2 {c i : Nat} {a e : Ent} {x : Nat} (he : okE e) : okE (setE c i a e x).2 := by
  unfold okE at he ⊢
  unfold setE nextE
  split
  · exact ⟨Nat.mod_lt _ (by decide), he.2⟩
  · split
    · split
      · exact he
      · exact ⟨he.1, he.2.1, he.2.2.1, by simp only; omega⟩
    · split
      · split
        · exact he
        · exact ⟨he.1, he.2.1, by simp only; omega, he.2.2.2⟩
      · split
        · exact he
        · refine ⟨he.1, ?_, he.2.2⟩
          simp only
          split <;> exact Nat.mod_lt _ (by decide)
theorem colD_okE (c : Nat) : ∀ (l : Ents) (i : Nat) (a : Ent) (t : Bs), (∀ e ∈ l, okE e) → (colD c i a l t).1 = 0 → ∀ e ∈ (colD c i a l t).2.1, okE e := by
  intro l
  induction l with
  | nil => intro i a t _ _ e he; simp [colD] at he
  | cons x r ih =>
    intro i a t hok h
    by_cases h1 : (getV t).1 = 0
    · by_cases h2 : (setE c i a x (getV t).2.1).1 = 0
      · rw [colD_go h1 h2] at h ⊢
        simp only at h ⊢
        intro e he
        rcases List.mem_cons.1 he with rfl | he
        · exact setE_ok2 (hok x (by simp))
        · exact ih _ _ _ (fun e he => hok e (by simp [he])) h e he
      · rw [colD_err2 h1 h2] at h
        exact absurd h h2
    · rw [colD_err1 h1] at h
      exact absurd h h1
theorem colsD_okE : ∀ (k c : Nat) (l : Ents) (t : Bs), (∀ e ∈ l, okE e) → (colsD c k l t).1 = 0 → ∀ e ∈ (colsD c k l t).2.1, okE e := by
  intro k
  induction k with
  | zero => intro c l t hok _ e he; exact hok e he
  | succ k ih =>
    intro c l t hok h
    by_cases hq : (colD c 0 zE l t).1 = 0
    · rw [cols_go rfl hq] at h ⊢
      exact ih _ _ _ (colD_okE c l 0 zE t hok hq) h
    · rw [cols_err rfl hq] at h
      exact absurd h hq
theorem decD_okE {s : Bs} (h : (decD s).1 = 0) : ∀ e ∈ (decD s).2, okE e := by
  unfold decD at h ⊢
  split at h
  · simp at h
  · rename_i g1
    split at h
    · contradiction
    · rename_i g2
      split at h
      · simp at h
      · rename_i g3
        rw [if_neg g1, if_neg g2, if_neg g3]
        have hz : ∀ e ∈ List.replicate (getV s).2.1 zE, okE e := fun e he => by
          rw [List.eq_of_mem_replicate he]; exact ⟨by decide, by decide, by decide, by decide⟩
        unfold endD at h ⊢
        split at h
        · contradiction
        · rename_i g4
          split at h
          · simp at h
          · rename_i g5
            split at h
            · contradiction
            · rename_i g6
              rw [if_neg g4, if_neg g5, if_neg g6]
              exact colsD_okE 4 0 _ _ hz (by omega)
end Go.Gz
namespace Go.Proofs.YtkfococpanailaaGreatDoor
open Go.RowKit Go.Gz Go.Shelf

set_option maxRecDepth 100000
/-- entries, or why there are none -/
def EntsE (w : World) (r : Int × Ents) (e : Ending) (w' : World) : Prop := ∃ v : Value, e = .returned (.tuple #[v, .int .i64 r.1]) ∧ Up w w' ∧ (r.1 = 0 → ∃ A c, v = .slice A r.2.length c ∧ Rd w' 4 A r.2.length c (entV r.2)) ∧ (r.1 ≠ 0 → v = .slice none 0 0)
theorem ents_bad {w w' : World} {E : Int} {l : Ents} (h : E ≠ 0) (hu : Up w w') : EntsE w (E, l) (.returned (.tuple #[.slice none 0 0, .int .i64 E])) w' :=
  ⟨_, rfl, hu, fun h2 => absurd h2 h, fun _ => rfl⟩
set_option maxHeartbeats 8000000 in
theorem piece_any (p : Ent) (hp : chkE p = 0) (text : Bs) (hs : text.length ≤ 1000000000) (w : World) :
    Calls Tryz.prog 140 #[.agg #[.int .u64 (p.id : Int), .int .u64 (p.off : Int), .int .u32 (p.len : Int), .int .u32 (p.run : Int)], .string ⟨text.toArray⟩] w (EntsE w (pieceE p text)) := by
  obtain ⟨k1, k2, k3⟩ := chk_ok hp
  have e1 : IntKind.u64.wrap (p.len : Int) = (p.len : Int) := IntWalk.u64_in _ (by omega)
  obtain ⟨q, hq⟩ : ∃ q, p.off + p.len = q := ⟨_, rfl⟩
  have e2 : IntKind.u64.wrap ((p.off : Int) + (p.len : Int)) = (q : Int) := by rw [IntWalk.u64_in _ (by omega)]; omega
  have e3 : IntKind.u64.wrap (text.length : Int) = (text.length : Int) := IntWalk.u64_in _ (by omega)
  obtain ⟨nu, d0, d1, d2, d3⟩ := new4 w 93 (.int .u64 (p.id : Int)) (.int .u64 (p.off : Int)) (.int .u32 (p.len : Int)) (.int .u32 (p.run : Int))
  have HU := Lib.hid nu
  obtain ⟨P, hP⟩ : ∃ r, pieceE p text = r := ⟨_, rfl⟩
  rw [hP]
  unfold pieceE at hP
  rw [hq] at hP
  have x0 := part_mk text p.off p.len q hq
  unfold Gz.part at x0
  generalize hT : (text.drop p.off).take p.len = T at *
  have hTl : T.length ≤ 1000000000 := by rw [← hT, List.length_take, List.length_drop]; omega
  clear nu hp k1 k2 hT
  go_enter Tryz.func140, Tryz.ntmps140
  by_cases hlong : text.length < q
  · rw [if_pos hlong] at hP
    subst hP
    have t0 : (text.length : Int) < (q : Int) := by omega
    go_wp2_with fail
    change bodyPost _ _ _ _ _ _
    refine bodyPost_ret (v := .tuple #[.slice none 0 0, .int .i64 8]) (by simp [results, Tryz.results140, go_sem]) rfl ?_

    exact ents_bad (by decide) HU.out
  · rw [if_neg hlong] at hP
    have t0 : ¬ (text.length : Int) < (q : Int) := by omega
    have b1 : (p.off : Int) ≤ (q : Int) := by omega
    have b2 : (q : Int) ≤ (text.length : Int) := by omega
    have DC := fun w => Lib.hid (ddec_any T hTl w)
    have hok := decD_okE (s := T)
    have hrow := decD_row (s := T)
    obtain ⟨⟨E, l⟩, hr⟩ : ∃ r, decD T = r := ⟨_, rfl⟩
    rw [hr] at DC hok hrow hP
    unfold DdecE at DC
    simp only at DC hok hrow hP
    clear hr hlong
    go_wp2_with fail
    with_reducible refine (DC _).out.mono ?_
    rintro e w1 ⟨v, at', rfl, hu1, hv1, hv2⟩
    by_cases hE : E = 0
    · subst hE
      rw [if_neg (by simp)] at hP
      obtain ⟨A, c, rfl, hrd⟩ := hv1 rfl
      have hll := row_len (hrow rfl)
      have HP := fun w hr => Lib.hid (hasp_any l (by omega) A c w hr)
      have HRD := Lib.hid hrd
      have HU1 := Lib.hid (HU.out.trans hu1)
      replace d0 := hu1.cell d0
      clear hv1 hv2 hrd hu1 HU d1 d2 d3 DC
      obtain ⟨an, han⟩ : ∃ b, (l.any fun e => e.run == 0) = b := ⟨_, rfl⟩
      rw [han] at HP hP
      go_wp2_with fail
      with_reducible refine (HP _ HRD.out).out.mono ?_
      rintro e w2 ⟨rfl, hu2⟩
      have HU2 := Lib.hid (HU1.out.trans hu2)
      have HRD2 := Lib.hid (HRD.out.up hu2)
      replace d0 := hu2.cell d0
      clear hu2 HU1 HRD HP
      cases an with
      | true =>
        rw [if_pos rfl] at hP
        subst hP
        go_wp2_with fail
        change bodyPost _ _ _ _ _ _
        refine bodyPost_ret (v := .tuple #[.slice none 0 0, .int .i64 20]) (by simp [results, Tryz.results140, go_sem]) rfl ?_

        exact ents_bad (by decide) HU2.out
      | false =>
        rw [if_neg (by simp)] at hP
        cases l with
        | nil =>
          rw [if_pos (by simp)] at hP
          subst hP
          go_wp2_with fail
          refine wp_region_held_drew (S := fun w' => True) (by kernel_rfl) trivial (fun hHeld => ?_)
          first | refine tku 0 rfl ?_ | refine tkv 0 rfl ?_
          (try simp only [Act.put, tz1, tz2, tz3])
          first | refine tku 1 rfl ?_ | refine tkv 1 rfl ?_
          (try simp only [Act.put, tz1, tz2, tz3])
          first | refine tku 2 rfl ?_ | refine tkv 2 rfl ?_
          (try simp only [Act.put, tz1, tz2, tz3])
          first | refine tku 3 rfl ?_ | refine tkv 3 rfl ?_
          (try simp only [Act.put, tz1, tz2, tz3])
          first | refine tku 4 rfl ?_ | refine tkv 4 rfl ?_
          (try simp only [Act.put, tz1, tz2, tz3])
          first | refine tku 5 rfl ?_ | refine tkv 5 rfl ?_
          (try simp only [Act.put, tz1, tz2, tz3])
          first | refine tku 6 rfl ?_ | refine tkv 6 rfl ?_
          (try simp only [Act.put, tz1, tz2, tz3])
          first | refine tku 7 rfl ?_ | refine tkv 7 rfl ?_
          (try simp only [Act.put, tz1, tz2, tz3])
          first | refine tku 8 rfl ?_ | refine tkv 8 rfl ?_
          (try simp only [Act.put, tz1, tz2, tz3])
          first | refine tku 9 rfl ?_ | refine tkv 9 rfl ?_
          (try simp only [Act.put, tz1, tz2, tz3])
          first | refine tku 10 rfl ?_ | refine tkv 10 rfl ?_
          (try simp only [Act.put, tz1, tz2, tz3])
          first | refine tku 11 rfl ?_ | refine tkv 11 rfl ?_
          (try simp only [Act.put, tz1, tz2, tz3])
          first | refine tku 12 rfl ?_ | refine tkv 12 rfl ?_
          (try simp only [Act.put, tz1, tz2, tz3])
          refine wpAnyH_done (by kernel_rfl) ?_ _
          clear hHeld

          go_wp2_with fail
          change bodyPost _ _ _ _ _ _
          refine bodyPost_ret (v := .tuple #[.slice none 0 0, .int .i64 10]) (by simp [results, Tryz.results140, go_sem]) rfl ?_

          exact ents_bad (by decide) HU2.out.drew
        | cons x r =>
          obtain ⟨b, o, rfl, f0, f1, f2, f3⟩ := HRD2.out.ent (k := 0) (by simp)
          simp only [List.getElem_cons_zero, Nat.zero_mul, Nat.add_zero] at f0
          obtain ⟨n, hn⟩ : ∃ n, (x :: r).length = n := ⟨_, rfl⟩
          rw [hn] at HRD2 ⊢
          have hnp : 0 < n := by rw [← hn]; simp
          have e0 : ((n : Int) == 0) = false := by rw [beq_eq_false_iff_ne]; omega
          have n0 : (0 : Int) < (n : Int) := by omega
          clear f1 f2 f3
          by_cases hx : x.id = p.id
          · rw [if_neg (by simp [hx])] at hP
            subst hP
            have i0 : ((x.id : Int) == (p.id : Int)) = true := by rw [beq_iff_eq]; omega
            go_wp2_with fail
            refine wp_region_held_drew (S := fun w' => (w'.cell? ⟨b, o, none⟩ = some (.int .u64 (x.id : Int)) ∧ w'.cell? ⟨w.heap.size, 0, none⟩ = some (.int .u64 (p.id : Int)))) (by kernel_rfl) ⟨f0, d0⟩ (fun hHeld => ?_)
            first | refine tku 0 rfl ?_ | refine tkv 0 rfl ?_
            (try simp only [Act.put, tz1, tz2, tz3])
            first | refine tku 1 rfl ?_ | refine tkv 1 rfl ?_
            (try simp only [Act.put, tz1, tz2, tz3])
            first | refine tku 2 rfl ?_ | refine tkv 2 rfl ?_
            (try simp only [Act.put, tz1, tz2, tz3])
            first | refine tku 3 rfl ?_ | refine tkv 3 rfl ?_
            (try simp only [Act.put, tz1, tz2, tz3])
            first | refine tku 4 rfl ?_ | refine tkv 4 rfl ?_
            (try simp only [Act.put, tz1, tz2, tz3])
            first | refine tku 5 rfl ?_ | refine tkv 5 rfl ?_
            (try simp only [Act.put, tz1, tz2, tz3])
            first | refine tku 6 rfl ?_ | refine tkv 6 rfl ?_
            (try simp only [Act.put, tz1, tz2, tz3])
            first | refine tku 7 rfl ?_ | refine tkv 7 rfl ?_
            (try simp only [Act.put, tz1, tz2, tz3])
            first | refine tku 8 rfl ?_ | refine tkv 8 rfl ?_
            (try simp only [Act.put, tz1, tz2, tz3])
            first | refine tku 9 rfl ?_ | refine tkv 9 rfl ?_
            (try simp only [Act.put, tz1, tz2, tz3])
            first | refine tku 10 rfl ?_ | refine tkv 10 rfl ?_
            (try simp only [Act.put, tz1, tz2, tz3])
            first | refine tku 11 rfl ?_ | refine tkv 11 rfl ?_
            (try simp only [Act.put, tz1, tz2, tz3])
            first | refine tku 12 rfl ?_ | refine tkv 12 rfl ?_
            (try simp only [Act.put, tz1, tz2, tz3])
            refine wpAnyH_done (by kernel_rfl) ?_ _
            clear hHeld

            go_wp2_with fail
            change bodyPost _ _ _ _ _ _
            refine bodyPost_ret (v := .tuple #[.slice (some ⟨b, o, none⟩) n c, .int .i64 0]) (by simp [results, Tryz.results140, go_sem]) rfl ?_

            exact ⟨_, rfl, HU2.out.drew, fun _ => ⟨_, c, by rw [hn], by rw [hn]; exact HRD2.out.up (Up.refl w2).drew⟩, fun h => absurd rfl h⟩
          · rw [if_pos (by simpa using hx)] at hP
            subst hP
            have i0 : ((x.id : Int) == (p.id : Int)) = false := by rw [beq_eq_false_iff_ne]; omega
            go_wp2_with fail
            refine wp_region_held_drew (S := fun w' => (w'.cell? ⟨b, o, none⟩ = some (.int .u64 (x.id : Int)) ∧ w'.cell? ⟨w.heap.size, 0, none⟩ = some (.int .u64 (p.id : Int)))) (by kernel_rfl) ⟨f0, d0⟩ (fun hHeld => ?_)
            first | refine tku 0 rfl ?_ | refine tkv 0 rfl ?_
            (try simp only [Act.put, tz1, tz2, tz3])
            first | refine tku 1 rfl ?_ | refine tkv 1 rfl ?_
            (try simp only [Act.put, tz1, tz2, tz3])
            first | refine tku 2 rfl ?_ | refine tkv 2 rfl ?_
            (try simp only [Act.put, tz1, tz2, tz3])
            first | refine tku 3 rfl ?_ | refine tkv 3 rfl ?_
            (try simp only [Act.put, tz1, tz2, tz3])
            first | refine tku 4 rfl ?_ | refine tkv 4 rfl ?_
            (try simp only [Act.put, tz1, tz2, tz3])
            first | refine tku 5 rfl ?_ | refine tkv 5 rfl ?_
            (try simp only [Act.put, tz1, tz2, tz3])
            first | refine tku 6 rfl ?_ | refine tkv 6 rfl ?_
            (try simp only [Act.put, tz1, tz2, tz3])
            first | refine tku 7 rfl ?_ | refine tkv 7 rfl ?_
            (try simp only [Act.put, tz1, tz2, tz3])
            first | refine tku 8 rfl ?_ | refine tkv 8 rfl ?_
            (try simp only [Act.put, tz1, tz2, tz3])
            first | refine tku 9 rfl ?_ | refine tkv 9 rfl ?_
            (try simp only [Act.put, tz1, tz2, tz3])
            first | refine tku 10 rfl ?_ | refine tkv 10 rfl ?_
            (try simp only [Act.put, tz1, tz2, tz3])
            first | refine tku 11 rfl ?_ | refine tkv 11 rfl ?_
            (try simp only [Act.put, tz1, tz2, tz3])
            first | refine tku 12 rfl ?_ | refine tkv 12 rfl ?_
            (try simp only [Act.put, tz1, tz2, tz3])
            refine wpAnyH_done (by kernel_rfl) ?_ _
            clear hHeld

            go_wp2_with fail
            change bodyPost _ _ _ _ _ _
            refine bodyPost_ret (v := .tuple #[.slice none 0 0, .int .i64 10]) (by simp [results, Tryz.results140, go_sem]) rfl ?_

            exact ents_bad (by decide) HU2.out.drew
    · rw [if_pos hE] at hP
      subst hP
      have hEb : (E == 0) = false := by rw [beq_eq_false_iff_ne]; exact hE
      go_wp2_with fail
      change bodyPost _ _ _ _ _ _
      refine bodyPost_ret (v := .tuple #[.slice none 0 0, .int .i64 E]) (by simp [results, Tryz.results140, go_sem]) rfl ?_

      exact ents_bad hE (HU.out.trans hu1)
end Go.Proofs.YtkfococpanailaaGreatDoor
