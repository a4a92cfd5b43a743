/- Walk: gazetteerref08.put. -/
import Derived.Test.YtbfieomjobbhoaaGreatDoorMN23
import Derived.Test.YtbfieomjobbhoaaGreatDoorMN02
import Derived.StillTailTactics
namespace Go.Proofs.YtbfieomjobbhoaaGreatDoor
open Go.RowKit Go.Gz
set_option maxRecDepth 100000
def PuE (w : World) (B : Nat) (L : Ents) (e : Ending) (w' : World) : Prop := e = .returned (.tuple #[]) ∧ EBr w' B L ∧ Tw [B] w w'
set_option maxHeartbeats 4000000 in
/-- the first column, the first entry -/
theorem r8put00 (B : Nat) (L : Ents) (hk : 0 < L.length) (x : Nat) (w : World) (hb : EBr w B L) :
    Calls Tryz.prog 68 #[.slice (some ⟨B, 0, none⟩) L.length L.length, .int .i64 0, .int .i64 0, .int .u64 (x : Int)] w (PuE w B (L.set 0 { L[0] with id := x })) := by
  obtain ⟨c0, c1, c2, c3, cz⟩ := hb.cell hk;have z0 := cz 0;have HS := Lib.hid (EBr.set hb hk { L[0] with id := x } 0 (by decide) (.int .u64 (x : Int)) rfl);have hkI : (0 : Int) < (L.length : Int) := by omega
  simp only [Nat.zero_mul] at c0;clear cz c1 c2 c3;go_enter Tryz.func68, Tryz.ntmps68;go_wp2_with fail;go_end0
  exact ⟨rfl, HS.out, (Tw.refl _ _).set (by simp) _ _⟩
set_option maxHeartbeats 4000000 in
theorem r8put0s (B : Nat) (L : Ents) (hL : L.length ≤ 4096) (k j : Nat) (hj : k = j + 1) (hk : k < L.length) (x q : Nat) (a : Ent) (ha : prevD L k = a) (hq : (a.id + x) % 18446744073709551616 = q) (w : World) (hb : EBr w B L) :
    Calls Tryz.prog 68 #[.slice (some ⟨B, 0, none⟩) L.length L.length, .int .i64 0, .int .i64 (k : Int), .int .u64 (x : Int)] w (PuE w B (L.set k { L[k] with id := q })) := by
  have hjl : j < L.length := by omega
  have ha2 : L[j] = a := by rw [← ha]; subst hj; exact (prev_s L hjl).symm
  obtain ⟨c0, c1, c2, c3, cz⟩ := hb.cell hk;obtain ⟨d0, d1, d2, d3, _⟩ := hb.cell hjl;rw [ha2] at d0;have z0 := cz (k * 4);have hs1 := EBr.set hb hk { L[k] with id := x } 0 (by decide) (.int .u64 (x : Int)) rfl;rw [Nat.add_zero] at hs1;have hk2 : k < (L.set k { L[k] with id := x }).length := by rw [List.length_set]; exact hk
  obtain ⟨e0, e1, e2, e3, ez⟩ := hs1.cell hk2;obtain ⟨f0, f1, f2, f3, _⟩ := hs1.cell (show j < (L.set k { L[k] with id := x }).length by rw [List.length_set]; exact hjl);rw [List.getElem_set_ne (by omega), ha2] at f0;have y0 := ez (k * 4);have hs2 := EBr.set hs1 hk2 { L[k] with id := q } 0 (by decide) (.int .u64 (q : Int)) (by rw [List.getElem_set_self]; rfl);rw [Nat.add_zero, List.set_set] at hs2;have HS := Lib.hid hs2;have eq : IntKind.u64.wrap ((a.id : Int) + (x : Int)) = (q : Int) := by rw [IntKind.wrap_u64]; omega
  have hkI : (k : Int) < (L.length : Int) := by omega
  have hk0 : (0 : Int) < (k : Int) := by omega
  have hk00 : (0 : Int) ≤ (k : Int) := by omega
  have e5 : IntKind.i64.wrap ((k : Int) - 1) = (j : Int) := by rw [IntWalk.i64_in _ (by omega)]; omega
  have hjI : (j : Int) < (L.length : Int) := by omega
  clear cz c1 c2 c3 d0 d1 d2 d3 hs1 hs2 e1 e2 e3 ez f1 f2 f3 ha hq ha2 hj hL;go_enter Tryz.func68, Tryz.ntmps68;go_wp2_with fail;go_end0
  exact ⟨rfl, HS.out, ((Tw.refl _ _).set (by simp) _ _).set (by simp) _ _⟩
set_option maxHeartbeats 4000000 in
theorem r8put1 (B : Nat) (L : Ents) (k : Nat) (hk : k < L.length) (x : Nat) (hx : x < 4294967296) (w : World) (hb : EBr w B L) :
    Calls Tryz.prog 68 #[.slice (some ⟨B, 0, none⟩) L.length L.length, .int .i64 1, .int .i64 (k : Int), .int .u64 (x : Int)] w (PuE w B (L.set k { L[k] with run := x })) := by
  obtain ⟨c0, c1, c2, c3, cz⟩ := hb.cell hk;have z0 := cz (k * 4 + 3);have HS := Lib.hid (EBr.set hb hk { L[k] with run := x } 3 (by decide) (.int .u32 (x : Int)) rfl);have hkI : (k : Int) < (L.length : Int) := by omega
  have hk00 : (0 : Int) ≤ (k : Int) := by omega
  have e1 : IntKind.u32.wrap (x : Int) = (x : Int) := IntWalk.u32_in _ (by omega);clear cz c0 c1 c2 hx;go_enter Tryz.func68, Tryz.ntmps68;go_wp2_with fail;go_end0
  exact ⟨rfl, HS.out, (Tw.refl _ _).set (by simp) _ _⟩
set_option maxHeartbeats 4000000 in
theorem r8put2 (B : Nat) (L : Ents) (k : Nat) (hk : k < L.length) (x : Nat) (hx : x < 4294967296) (w : World) (hb : EBr w B L) :
    Calls Tryz.prog 68 #[.slice (some ⟨B, 0, none⟩) L.length L.length, .int .i64 2, .int .i64 (k : Int), .int .u64 (x : Int)] w (PuE w B (L.set k { L[k] with len := x })) := by
  obtain ⟨c0, c1, c2, c3, cz⟩ := hb.cell hk;have z0 := cz (k * 4 + 2);have HS := Lib.hid (EBr.set hb hk { L[k] with len := x } 2 (by decide) (.int .u32 (x : Int)) rfl);have hkI : (k : Int) < (L.length : Int) := by omega
  have hk00 : (0 : Int) ≤ (k : Int) := by omega
  have e1 : IntKind.u32.wrap (x : Int) = (x : Int) := IntWalk.u32_in _ (by omega);clear cz c0 c1 c3 hx;go_enter Tryz.func68, Tryz.ntmps68;go_wp2_with fail;go_end0
  exact ⟨rfl, HS.out, (Tw.refl _ _).set (by simp) _ _⟩
set_option maxHeartbeats 4000000 in
theorem r8put3 (B : Nat) (L : Ents) (k : Nat) (hk : k < L.length) (x : Nat) (h0 : 0 < x) (hx : x < 18446744073709551616) (w : World) (hb : EBr w B L) :
    Calls Tryz.prog 68 #[.slice (some ⟨B, 0, none⟩) L.length L.length, .int .i64 3, .int .i64 (k : Int), .int .u64 (x : Int)] w (PuE w B (L.set k { L[k] with off := x - 1 })) := by
  obtain ⟨c0, c1, c2, c3, cz⟩ := hb.cell hk;have z0 := cz (k * 4 + 1);have hcast : ((x - 1 : Nat) : Int) = (x : Int) - 1 := by omega
  have hs := EBr.set hb hk { L[k] with off := x - 1 } 1 (by decide) (.int .u64 ((x - 1 : Nat) : Int)) rfl;rw [hcast] at hs;have HS := Lib.hid hs;have hkI : (k : Int) < (L.length : Int) := by omega
  have hk00 : (0 : Int) ≤ (k : Int) := by omega
  have e1 : IntKind.u64.wrap ((x : Int) - 1) = (x : Int) - 1 := IntWalk.u64_in _ (by omega);have e2 : ((x : Int) == 0) = false := by rw [beq_eq_false_iff_ne]; omega
  clear cz c0 c2 c3 hx h0 hcast hs;go_enter Tryz.func68, Tryz.ntmps68;go_wp2_with fail;go_end0
  exact ⟨rfl, HS.out, (Tw.refl _ _).set (by simp) _ _⟩
set_option maxHeartbeats 4000000 in
theorem r8put3z (B : Nat) (L : Ents) (hL : L.length ≤ 4096) (k j : Nat) (hj : k = j + 1) (hk : k < L.length) (a : Ent) (ha : prevD L k = a) (ho : okE a) (q : Nat) (hq : (a.off + a.len) % 18446744073709551616 = q) (w : World) (hb : EBr w B L) :
    Calls Tryz.prog 68 #[.slice (some ⟨B, 0, none⟩) L.length L.length, .int .i64 3, .int .i64 (k : Int), .int .u64 0] w (PuE w B (L.set k { L[k] with off := q })) := by
  have hjl : j < L.length := by omega
  have ha2 : L[j] = a := by rw [← ha]; subst hj; exact (prev_s L hjl).symm
  obtain ⟨c0, c1, c2, c3, cz⟩ := hb.cell hk;have z0 := cz (k * 4 + 1);have hs1 := EBr.set hb hk { L[k] with off := 18446744073709551615 } 1 (by decide) (.int .u64 18446744073709551615) rfl;have hk2 : k < (L.set k { L[k] with off := 18446744073709551615 }).length := by rw [List.length_set]; exact hk
  obtain ⟨e0, e1, e2, e3, ez⟩ := hs1.cell hk2;obtain ⟨f0, f1, f2, f3, _⟩ := hs1.cell (show j < (L.set k { L[k] with off := 18446744073709551615 }).length by rw [List.length_set]; exact hjl);rw [List.getElem_set_ne (by omega), ha2] at f1 f2;have y0 := ez (k * 4 + 1);have hs2 := EBr.set hs1 hk2 { L[k] with off := q } 1 (by decide) (.int .u64 (q : Int)) (by rw [List.getElem_set_self]; rfl);rw [List.set_set] at hs2;have HS := Lib.hid hs2;obtain ⟨_, _, h3, _⟩ := ho;have e4 : IntKind.u64.wrap (a.len : Int) = (a.len : Int) := IntWalk.u64_in _ (by omega);have eq : IntKind.u64.wrap ((a.off : Int) + (a.len : Int)) = (q : Int) := by rw [IntKind.wrap_u64]; omega
  have hkI : (k : Int) < (L.length : Int) := by omega
  have hk0 : (0 : Int) < (k : Int) := by omega
  have hk00 : (0 : Int) ≤ (k : Int) := by omega
  have e5 : IntKind.i64.wrap ((k : Int) - 1) = (j : Int) := by rw [IntWalk.i64_in _ (by omega)]; omega
  have hjI : (j : Int) < (L.length : Int) := by omega
  have e7 : IntKind.u64.wrap (-1) = 18446744073709551615 := by decide
  have hw1 : Tw [B] w (w.setCell ⟨B, k * 4 + 1, none⟩ (.int .u64 18446744073709551615)) := (Tw.refl _ _).set (by simp) _ _;have HT := Lib.hid hw1;obtain ⟨W1, hW1⟩ : ∃ y, w.setCell ⟨B, k * 4 + 1, none⟩ (.int .u64 18446744073709551615) = y := ⟨_, rfl⟩;rw [hW1] at e1 f1 f2 y0 HS HT;clear cz c0 c2 c3 hs1 hs2 e0 e2 e3 ez f0 f3 ha hq ha2 hj hL h3 hw1;have HW1 := Lib.hid hW1;clear hW1;go_enter Tryz.func68, Tryz.ntmps68;go_wp2_with fail;rw [HW1.out];go_still_tail 16, (by kernel_rfl)
  change wpList _ _ _ _ _ W1.drew;go_wp2_with fail;go_end0
  exact ⟨rfl, HS.out, (HT.out.drew).set (by simp) _ _⟩
end Go.Proofs.YtbfieomjobbhoaaGreatDoor
