/- Walk: leaves.piece, of any text. -/
import Derived.Test.YtbfieomjobbhoaaGreatDoorMN24
import Derived.Test.YtbfieomjobbhoaaGreatDoorMN12
import Derived.Test.YtbfieomjobbhoaaGreatDoorMN19
namespace Go.Proofs.YtbfieomjobbhoaaGreatDoor
open Go.RowKit Go.Gz Go.Shelf

set_option maxRecDepth 100000
/-- entries, or why there are none -/
def EntsE (w : World) (r : Int × Ents) (e : Ending) (w' : World) : Prop := ∃ v : Value, e = .returned (.tuple #[v, .int .i64 r.1]) ∧ Up w w' ∧ (r.1 = 0 → ∃ A c, v = .slice A r.2.length c ∧ Rd w' 4 A r.2.length c (entV r.2)) ∧ (r.1 ≠ 0 → v = .slice none 0 0)
theorem ents_bad {w w' : World} {E : Int} {l : Ents} (h : E ≠ 0) (hu : Up w w') : EntsE w (E, l) (.returned (.tuple #[.slice none 0 0, .int .i64 E])) w' :=
  ⟨_, rfl, hu, fun h2 => absurd h2 h, fun _ => rfl⟩
set_option maxHeartbeats 8000000 in
theorem piece_any (p : Ent) (hp : chkE p = 0) (text : Bs) (hs : text.length ≤ 1000000000) (w : World) :
    Calls Tryz.prog 65 #[.agg #[.int .u64 (p.id : Int), .int .u64 (p.off : Int), .int .u32 (p.len : Int), .int .u32 (p.run : Int)], .string ⟨text.toArray⟩] w (EntsE w (pieceE p text)) := by
  obtain ⟨k1, k2, k3⟩ := chk_ok hp;have e1 : IntKind.u64.wrap (p.len : Int) = (p.len : Int) := IntWalk.u64_in _ (by omega);obtain ⟨q, hq⟩ : ∃ q, p.off + p.len = q := ⟨_, rfl⟩;have e2 : IntKind.u64.wrap ((p.off : Int) + (p.len : Int)) = (q : Int) := by rw [IntWalk.u64_in _ (by omega)]; omega
  have e3 : IntKind.u64.wrap (text.length : Int) = (text.length : Int) := IntWalk.u64_in _ (by omega);obtain ⟨nu, d0, d1, d2, d3⟩ := new4 w 84 (.int .u64 (p.id : Int)) (.int .u64 (p.off : Int)) (.int .u32 (p.len : Int)) (.int .u32 (p.run : Int));have HU := Lib.hid nu;obtain ⟨P, hP⟩ : ∃ r, pieceE p text = r := ⟨_, rfl⟩;rw [hP];unfold pieceE at hP;rw [hq] at hP;have x0 := part_mk text p.off p.len q hq;unfold Gz.part at x0;generalize hT : (text.drop p.off).take p.len = T at *;have hTl : T.length ≤ 1000000000 := by rw [← hT, List.length_take, List.length_drop]; omega
  clear nu hp k1 k2 hT;go_enter Tryz.func65, Tryz.ntmps65;by_cases hlong : text.length < q
  · rw [if_pos hlong] at hP;subst hP;have t0 : (text.length : Int) < (q : Int) := by omega
    go_wp2_with fail;change bodyPost _ _ _ _ _ _;refine bodyPost_ret (v := .tuple #[.slice none 0 0, .int .i64 8]) (by simp [results, Tryz.results65, go_sem]) rfl ?_

    exact ents_bad (by decide) HU.out
  · rw [if_neg hlong] at hP;have t0 : ¬ (text.length : Int) < (q : Int) := by omega
    have b1 : (p.off : Int) ≤ (q : Int) := by omega
    have b2 : (q : Int) ≤ (text.length : Int) := by omega
    have DC := fun w => Lib.hid (ddec_any T hTl w);have hok := decD_okE (s := T);have hrow := decD_row (s := T);obtain ⟨⟨E, l⟩, hr⟩ : ∃ r, decD T = r := ⟨_, rfl⟩;rw [hr] at DC hok hrow hP;unfold DdecE at DC;simp only at DC hok hrow hP;clear hr hlong;go_wp2_with fail;with_reducible refine (DC _).out.mono ?_
    rintro e w1 ⟨v, at', rfl, hu1, hv1, hv2⟩;by_cases hE : E = 0
    · subst hE;rw [if_neg (by simp)] at hP;obtain ⟨A, c, rfl, hrd⟩ := hv1 rfl;have hll := row_len (hrow rfl);have HP := fun w hr => Lib.hid (hasp_any l (by omega) A c w hr);have HRD := Lib.hid hrd;have HU1 := Lib.hid (HU.out.trans hu1);replace d0 := hu1.cell d0;clear hv1 hv2 hrd hu1 HU d1 d2 d3 DC;obtain ⟨an, han⟩ : ∃ b, (l.any fun e => e.run == 0) = b := ⟨_, rfl⟩;rw [han] at HP hP;go_wp2_with fail;with_reducible refine (HP _ HRD.out).out.mono ?_
      rintro e w2 ⟨rfl, hu2⟩;have HU2 := Lib.hid (HU1.out.trans hu2);have HRD2 := Lib.hid (HRD.out.up hu2);replace d0 := hu2.cell d0;clear hu2 HU1 HRD HP;cases an with
      | true =>
        rw [if_pos rfl] at hP;subst hP;go_wp2_with fail;change bodyPost _ _ _ _ _ _;refine bodyPost_ret (v := .tuple #[.slice none 0 0, .int .i64 20]) (by simp [results, Tryz.results65, go_sem]) rfl ?_

        exact ents_bad (by decide) HU2.out
      | false =>
        rw [if_neg (by simp)] at hP;cases l with
        | nil =>
          rw [if_pos (by simp)] at hP;subst hP;go_wp2_with fail;refine wp_region_held_drew (S := fun w' => True) (by kernel_rfl) trivial (fun hHeld => ?_);refine tk 0 rfl ?_;(try simp only [Act.put, tz1, tz2, tz3]);refine tk 1 rfl ?_;(try simp only [Act.put, tz1, tz2, tz3]);refine tk 2 rfl ?_;(try simp only [Act.put, tz1, tz2, tz3]);refine tk 3 rfl ?_;(try simp only [Act.put, tz1, tz2, tz3]);refine tk 4 rfl ?_;(try simp only [Act.put, tz1, tz2, tz3]);refine tk 5 rfl ?_;(try simp only [Act.put, tz1, tz2, tz3]);refine tk 6 rfl ?_;(try simp only [Act.put, tz1, tz2, tz3]);refine tk 7 rfl ?_;(try simp only [Act.put, tz1, tz2, tz3]);refine tk 8 rfl ?_;(try simp only [Act.put, tz1, tz2, tz3]);refine tk 9 rfl ?_;(try simp only [Act.put, tz1, tz2, tz3]);refine tk 10 rfl ?_;(try simp only [Act.put, tz1, tz2, tz3]);refine tk 11 rfl ?_;(try simp only [Act.put, tz1, tz2, tz3]);refine tk 12 rfl ?_;(try simp only [Act.put, tz1, tz2, tz3]);refine wpAnyH_done (by kernel_rfl) ?_ _;clear hHeld

          go_wp2_with fail;change bodyPost _ _ _ _ _ _;refine bodyPost_ret (v := .tuple #[.slice none 0 0, .int .i64 10]) (by simp [results, Tryz.results65, go_sem]) rfl ?_

          exact ents_bad (by decide) HU2.out.drew
        | cons x r =>
          obtain ⟨b, o, rfl, f0, f1, f2, f3⟩ := HRD2.out.ent (k := 0) (by simp);simp only [List.getElem_cons_zero, Nat.zero_mul, Nat.add_zero] at f0;obtain ⟨n, hn⟩ : ∃ n, (x :: r).length = n := ⟨_, rfl⟩;rw [hn] at HRD2 ⊢;have hnp : 0 < n := by rw [← hn]; simp
          have e0 : ((n : Int) == 0) = false := by rw [beq_eq_false_iff_ne]; omega
          have n0 : (0 : Int) < (n : Int) := by omega
          clear f1 f2 f3;by_cases hx : x.id = p.id
          · rw [if_neg (by simp [hx])] at hP;subst hP;have i0 : ((x.id : Int) == (p.id : Int)) = true := by rw [beq_iff_eq]; omega
            go_wp2_with fail;refine wp_region_held_drew (S := fun w' => (w'.cell? ⟨b, o, none⟩ = some (.int .u64 (x.id : Int)) ∧ w'.cell? ⟨w.heap.size, 0, none⟩ = some (.int .u64 (p.id : Int)))) (by kernel_rfl) ⟨f0, d0⟩ (fun hHeld => ?_);refine tk 0 rfl ?_;(try simp only [Act.put, tz1, tz2, tz3]);refine tk 1 rfl ?_;(try simp only [Act.put, tz1, tz2, tz3]);refine tk 2 rfl ?_;(try simp only [Act.put, tz1, tz2, tz3]);refine tk 3 rfl ?_;(try simp only [Act.put, tz1, tz2, tz3]);refine tk 4 rfl ?_;(try simp only [Act.put, tz1, tz2, tz3]);refine tk 5 rfl ?_;(try simp only [Act.put, tz1, tz2, tz3]);refine tk 6 rfl ?_;(try simp only [Act.put, tz1, tz2, tz3]);refine tk 7 rfl ?_;(try simp only [Act.put, tz1, tz2, tz3]);refine tk 8 rfl ?_;(try simp only [Act.put, tz1, tz2, tz3]);refine tk 9 rfl ?_;(try simp only [Act.put, tz1, tz2, tz3]);refine tk 10 rfl ?_;(try simp only [Act.put, tz1, tz2, tz3]);refine tk 11 rfl ?_;(try simp only [Act.put, tz1, tz2, tz3]);refine tk 12 rfl ?_;(try simp only [Act.put, tz1, tz2, tz3]);refine wpAnyH_done (by kernel_rfl) ?_ _;clear hHeld

            go_wp2_with fail;change bodyPost _ _ _ _ _ _;refine bodyPost_ret (v := .tuple #[.slice (some ⟨b, o, none⟩) n c, .int .i64 0]) (by simp [results, Tryz.results65, go_sem]) rfl ?_

            exact ⟨_, rfl, HU2.out.drew, fun _ => ⟨_, c, by rw [hn], by rw [hn]; exact HRD2.out.up (Up.refl w2).drew⟩, fun h => absurd rfl h⟩
          · rw [if_pos (by simpa using hx)] at hP;subst hP;have i0 : ((x.id : Int) == (p.id : Int)) = false := by rw [beq_eq_false_iff_ne]; omega
            go_wp2_with fail;refine wp_region_held_drew (S := fun w' => (w'.cell? ⟨b, o, none⟩ = some (.int .u64 (x.id : Int)) ∧ w'.cell? ⟨w.heap.size, 0, none⟩ = some (.int .u64 (p.id : Int)))) (by kernel_rfl) ⟨f0, d0⟩ (fun hHeld => ?_);refine tk 0 rfl ?_;(try simp only [Act.put, tz1, tz2, tz3]);refine tk 1 rfl ?_;(try simp only [Act.put, tz1, tz2, tz3]);refine tk 2 rfl ?_;(try simp only [Act.put, tz1, tz2, tz3]);refine tk 3 rfl ?_;(try simp only [Act.put, tz1, tz2, tz3]);refine tk 4 rfl ?_;(try simp only [Act.put, tz1, tz2, tz3]);refine tk 5 rfl ?_;(try simp only [Act.put, tz1, tz2, tz3]);refine tk 6 rfl ?_;(try simp only [Act.put, tz1, tz2, tz3]);refine tk 7 rfl ?_;(try simp only [Act.put, tz1, tz2, tz3]);refine tk 8 rfl ?_;(try simp only [Act.put, tz1, tz2, tz3]);refine tk 9 rfl ?_;(try simp only [Act.put, tz1, tz2, tz3]);refine tk 10 rfl ?_;(try simp only [Act.put, tz1, tz2, tz3]);refine tk 11 rfl ?_;(try simp only [Act.put, tz1, tz2, tz3]);refine tk 12 rfl ?_;(try simp only [Act.put, tz1, tz2, tz3]);refine wpAnyH_done (by kernel_rfl) ?_ _;clear hHeld

            go_wp2_with fail;change bodyPost _ _ _ _ _ _;refine bodyPost_ret (v := .tuple #[.slice none 0 0, .int .i64 10]) (by simp [results, Tryz.results65, go_sem]) rfl ?_

            exact ents_bad (by decide) HU2.out.drew
    · rw [if_pos hE] at hP;subst hP;have hEb : (E == 0) = false := by rw [beq_eq_false_iff_ne]; exact hE
      go_wp2_with fail;change bodyPost _ _ _ _ _ _;refine bodyPost_ret (v := .tuple #[.slice none 0 0, .int .i64 E]) (by simp [results, Tryz.results65, go_sem]) rfl ?_

      exact ents_bad hE (HU.out.trans hu1)
end Go.Proofs.YtbfieomjobbhoaaGreatDoor
/- Walk: leaves.Join of a root that may be, any text. -/
namespace Go.Gz
theorem piece_okE {p : Ent} {text : Bs} (h : (pieceE p text).1 = 0) : ∀ e ∈ (pieceE p text).2, okE e := by
  unfold pieceE at h ⊢;split at h
  · simp at h
  · rename_i g1;split at h
    · contradiction
    · rename_i g2;split at h
      · simp at h
      · rename_i g3;split at h
        · simp at h
        · rename_i g4;rw [if_neg g1, if_neg g2, if_neg g3, if_neg g4];exact decD_okE (by omega)
end Go.Gz
namespace Go.Proofs.YtbfieomjobbhoaaGreatDoor
open Go.RowKit Go.Gz Go.Shelf

set_option maxRecDepth 100000
def JnR (w : World) (root : Ents) (text : Bs) (M : Nat) (J : Int × Ents) (gk : Nat) (v i : Value) (wr : World) : Prop := ∃ (k : Nat) (out : Ents), k + gk = root.length ∧ i = .int .i64 (k : Int) ∧ wr.ownsRow w.heap.size 84 4 v out.length (entV out) ∧ out.length ≤ k * (M + 1) ∧ (∀ e ∈ out, okE e) ∧ joinGo text (root.drop k) out = J ∧ Up w wr
set_option maxHeartbeats 8000000 in
theorem ljoin_any (root : Ents) (hok : ∀ e ∈ root, okE e) (hrow : rowE root = 0) (text : Bs) (hs : text.length ≤ 1000000000) (M : Nat) (hM : ∀ x ∈ root, x.run = 0 → (pieceE x text).2.length ≤ M) (hB : root.length * (M + 1) ≤ 1000000) (A : Option Addr) (c : Nat) (w : World) (hr : Rd w 4 A root.length c (entV root)) :
    Calls Tryz.prog 26 #[.slice A root.length c, .string ⟨text.toArray⟩] w (EntsE w (joinE root text)) := by
  have hll := row_len hrow;have hchk : ∀ x ∈ root, chkE x = 0 := fun x hx => row_chk hrow hx;have RW := fun w hr => Lib.hid (row_any root hok (by omega) A c w hr);rw [hrow] at RW;obtain ⟨i0, hi0, hz0, hz1, hz2⟩ := info_parts infoEn;obtain ⟨D, hD⟩ : ∃ D, joinE root text = D := ⟨_, rfl⟩;rw [hD];unfold joinE at hD;rw [if_neg (by omega)] at hD;obtain ⟨J, hJ⟩ : ∃ J, joinGo text root [] = J := ⟨_, rfl⟩;rw [hJ] at hD;have HR := Lib.hid hr;clear hr hrow;go_enter Tryz.func26, Tryz.ntmps26;go_wp2_with fail;with_reducible refine (RW _ HR.out).out.mono ?_
  rintro e w1 ⟨rfl, hu1⟩;have HU1 := Lib.hid hu1;clear hu1 RW;go_wp2_with fail;go_loopg [7, 20] root.length (fun gk v i wr => JnR w root text M J gk v i wr)
  case atStart => exact ⟨0, [], by omega, rfl, by simpa [entV_nil] using World.ownsRow_nil _ _ _ _, by simp, by simp, by rw [List.drop_zero]; exact hJ, HU1.out⟩
  case round =>
    obtain ⟨k, out, hk, rfl, ho, hol, hoo, hgo, hu⟩ := hrel;have HO := Lib.hid ho;have HU := Lib.hid hu;have HOO := Lib.hid hoo;clear ho hoo hJ;by_cases hlt : k < root.length
    · obtain ⟨m, rfl⟩ : ∃ x, gk = x + 1 := ⟨gk - 1, by omega⟩;obtain ⟨b, o, rfl, d0, d1, d2, d3⟩ := (HR.out.up hu).ent hlt;have hmem := List.getElem_mem hlt;have hc := hchk _ hmem;have hpl := hM _ hmem;have hxo := hok _ hmem;rw [List.drop_eq_getElem_cons hlt] at hgo;obtain ⟨x, hx⟩ : ∃ x, root[k] = x := ⟨_, rfl⟩;rw [hx] at d0 d1 d2 d3 hc hgo hpl hxo;have PT := fun w => Lib.hid (ptr_any x w);have PC := fun w => Lib.hid (piece_any x hc text hs w);unfold EntsE at PC;have hkB : (k + 1) * (M + 1) ≤ 1000000 := Nat.le_trans (Nat.mul_le_mul_right _ (by omega)) hB;have hkB2 : (k + 1) * (M + 1) = k * (M + 1) + (M + 1) := by rw [Nat.add_mul, Nat.one_mul]
      have kI : (k : Int) < (root.length : Int) := by omega
      have ne := new4 wr 84 (.int .u64 (x.id : Int)) (.int .u64 (x.off : Int)) (.int .u32 (x.len : Int)) (.int .u32 (x.run : Int));obtain ⟨nu, z0, z1, z2, z3⟩ := ne;have NU := Lib.hid nu;have HGO := Lib.hid hgo;simp only [entA] at PT;clear nu hx hmem hc hgo hu;go_wp2_with fail;refine (PT _).out.mono ?_;rintro e w2 ⟨rfl, hu2⟩;replace z0 := hu2.cell z0;replace z1 := hu2.cell z1;replace z2 := hu2.cell z2;replace z3 := hu2.cell z3;have o2 := own_up HO.out (NU.out.trans hu2);have HU2 := Lib.hid (HU.out.trans (NU.out.trans hu2));clear HO HU NU hu2 d0 d1 d2 d3 PT;by_cases hrun : x.run = 0
      · have r0 : (x.run == 0) = true := by rw [beq_iff_eq]; exact hrun
        replace hpl := hpl hrun;have O2 := Lib.hid o2;have hg2 := HGO.out;unfold joinGo at hg2;rw [if_neg (by omega)] at hg2;clear o2 hrun;go_wp2_with fail;with_reducible refine (PC _).out.mono ?_
        rintro e w3 ⟨v3, rfl, hu3, hv3, _⟩;have hpo := piece_okE (p := x) (text := text);generalize pieceE x text = PE at *;obtain ⟨E3, l3⟩ := PE;simp only at hg2 hv3 hpo;have hpl : l3.length ≤ M := hpl;by_cases hE3 : E3 = 0
        · subst hE3;rw [if_neg (by simp)] at hg2;obtain ⟨A3, c3, rfl, r3⟩ := hv3 rfl;have o3 := own_up O2.out hu3;have HU3 := Lib.hid (HU2.out.trans hu3);have HG2 := Lib.hid hg2;have HPO := Lib.hid (hpo rfl);have R3 := Lib.hid r3;clear hg2 hpo hv3 hu3 r3 z0 z1 z2 z3 O2 HU2 PC;go_wp2_with (at_builtin; refine wpList_append_rd _ rfl _ _ 24 rfl w.heap.size 84 i0 _ 4 24 Tryz.underlying24 hi0 hz0 hz1 hz2 rfl (by decide) _ _ _ rfl o3 A3 l3.length c3 (entV l3) rfl R3.out (entV_one _) (by omega) (by omega) HU3.out.le ?_; intro v7 w7 ho7 hb7; have HO7 := Lib.hid ho7; have HB7 := Lib.hid hb7; clear ho7 hb7)
          go_roundg m
          case measure => omega
          case rel =>
            refine ⟨k + 1, out ++ l3, by omega, by go_num, ?_, ?_, ?_, HG2.out, HU3.out.base (Nat.le_refl _) HB7.out⟩
            · rw [List.length_append, entV_app]; exact HO7.out
            · rw [List.length_append]; omega
            · intro e he;rcases List.mem_append.1 he with h | h
              · exact HOO.out e h
              · exact HPO.out e h
        · rw [if_pos hE3] at hg2;have hEb : (E3 == 0) = false := by rw [beq_eq_false_iff_ne]; exact hE3
          rw [← hg2, if_pos hE3] at hD;subst hD;go_wp2_with fail;change bodyPost _ _ _ _ _ _;refine bodyPost_ret (v := .tuple #[.slice none 0 0, .int .i64 E3]) (by simp [results, Tryz.results26, go_sem]) rfl ?_

          exact ents_bad hE3 (HU2.out.trans hu3)
      · have r0 : (x.run == 0) = false := by rw [beq_eq_false_iff_ne]; exact hrun
        have hg2 := HGO.out;unfold joinGo at hg2;rw [if_pos hrun] at hg2;have HG2 := Lib.hid hg2;have o3 := own_up o2 ((Up.refl w2).alloc (.cells #[.int .u64 (x.id : Int), .int .u64 (x.off : Int), .int .u32 (x.len : Int), .int .u32 (x.run : Int)] 84));clear hg2 hrun PC HGO;go_wp2_with (at_builtin; refine app_one w2 rfl _ _ 24 rfl w.heap.size 84 i0 _ 4 24 Tryz.underlying24 hi0 hz0 hz1 hz2 rfl (by decide) _ _ _ o2 rfl #[.int .u64 (x.id : Int), .int .u64 (x.off : Int), .int .u32 (x.len : Int), .int .u32 (x.run : Int)] rfl rfl (by simp [Value.oneCell']) (by omega) (by omega) HU2.out.le ?_; intro v7 w7 ho7 hg7 hb7; have HO7 := Lib.hid ho7; have HB7 := Lib.hid hb7; clear ho7 hb7 hg7)
        go_roundg m
        case measure => omega
        case rel =>
          refine ⟨k + 1, out ++ [x], by omega, by go_num, ?_, ?_, ?_, HG2.out, HU2.out.base (Nat.le_refl _) HB7.out⟩
          · rw [List.length_append, entV_snoc]; exact HO7.out
          · rw [List.length_append, List.length_singleton]; omega
          · intro e he;rcases List.mem_append.1 he with h | h
            · exact HOO.out e h
            · rw [List.mem_singleton.1 h]; exact hxo
    · obtain rfl : k = root.length := by omega
      obtain rfl : gk = 0 := by omega
      rw [List.drop_length] at hgo;have hJ2 : (0, out) = J := hgo;subst hJ2;rw [if_neg (by simp)] at hD;obtain ⟨A9, c9, rfl, r9⟩ := Rd.of_own HO.out;have R9 := Lib.hid r9;have RO := fun w hr => Lib.hid (row_any out HOO.out (by omega) A9 c9 w hr);obtain ⟨E, hE⟩ : ∃ x, rowE out = x := ⟨_, rfl⟩;simp only at hD;rw [hE] at RO hD;clear r9 hgo hlt hu HR hM hok hchk;go_wp2_with fail;with_reducible refine (RO _ R9.out).out.mono ?_
      rintro e w8 ⟨rfl, hu8⟩;by_cases hE0 : E = 0
      · subst hE0;rw [if_neg (by simp)] at hD;subst hD;go_wp2_with fail;change bodyPost _ _ _ _ _ _;refine bodyPost_ret (v := .tuple #[.slice A9 out.length c9, .int .i64 0]) (by simp [results, Tryz.results26, go_sem]) rfl ?_

        exact ⟨_, rfl, HU.out.trans hu8, fun _ => ⟨A9, c9, rfl, R9.out.up hu8⟩, fun h => absurd rfl h⟩
      · have hEb : (E == 0) = false := by rw [beq_eq_false_iff_ne]; exact hE0
        rw [if_pos hE0] at hD;subst hD;go_wp2_with fail;change bodyPost _ _ _ _ _ _;refine bodyPost_ret (v := .tuple #[.slice none 0 0, .int .i64 E]) (by simp [results, Tryz.results26, go_sem]) rfl ?_

        exact ents_bad hE0 (HU.out.trans hu8)
end Go.Proofs.YtbfieomjobbhoaaGreatDoor
