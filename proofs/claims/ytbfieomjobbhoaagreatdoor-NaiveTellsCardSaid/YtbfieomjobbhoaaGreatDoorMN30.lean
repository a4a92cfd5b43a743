/- Walks: pool.end, at, Find. -/
import Derived.Test.YtbfieomjobbhoaaGreatDoorMN11
import Derived.Test.YtbfieomjobbhoaaGreatDoorMN12
import Derived.Maps.OwnRows
import Derived.Maps.Views
namespace Go.Proofs.YtbfieomjobbhoaaGreatDoor
open Go.RowKit Go.Gz Go.Shelf

set_option maxRecDepth 100000
theorem pend_any (o l : Nat) (h : o + l < 18446744073709551616) (w : World) :
    Calls Tryz.prog 254 #[.agg #[.int .u64 o, .int .u32 l]] w fun e w' => e = .returned (.int .u64 ((o + l : Nat) : Int)) ∧ Up w w' := by
  have e1 : IntKind.u64.wrap ((o : Int) + (l : Int)) = ((o + l : Nat) : Int) := by rw [IntWalk.u64_in _ (by omega)]; omega
  have hq := heap_alloc_new w (.cells #[.int .u64 o, .int .u32 l] 209);have c0 := blkc hq 0 _ rfl;have c1 := blkc hq 1 _ rfl;go_enter Tryz.func254, Tryz.ntmps254;go_wp2_with fail;go_ret;exact ⟨rfl, (Up.refl w).alloc _⟩
/-- a pool, to be read -/
def PoolR (w : World) (B : Nat) (cs : List Bs) (mv : Value) : Prop := ∃ At ct Ap cp, w.heap[B]? = some (.cells #[.slice At cs.flatten.length ct, .slice Ap cs.length cp, mv] 278 (0, 0)) ∧ Rd w 1 At cs.flatten.length ct (byV cs.flatten) ∧ Rd w 2 Ap cs.length cp (plV cs)
theorem PoolR.up {w w' : World} {B : Nat} {cs : List Bs} {mv : Value} (h : PoolR w B cs mv) (hu : Up w w') : PoolR w' B cs mv := by
  obtain ⟨At, ct, Ap, cp, h1, h2, h3⟩ := h;exact ⟨At, ct, Ap, cp, hu.obj h1, h2.up hu, h3.up hu⟩
/-- bytes of a slice, sliced -/
theorem Rd.cut1 {w : World} {A : Option Addr} {c b o : Nat} {l : Bs} (h : Rd w 1 A l.length c (byV l)) (i n : Nat) (hn : 0 < n) (hi : i + n ≤ l.length) (hA : A = some ⟨b, o, none⟩) : Rd w 1 (some ⟨b, o + i, none⟩) n (c - i) (byV ((l.drop i).take n)) := by
  obtain ⟨h1, h2, h3, h4, h5⟩ := h;obtain ⟨b', o', rfl, hc⟩ := h5 (by omega);injection hA with hA;injection hA with hb ho _;subst hb ho;refine ⟨by simp [byV]; omega, by omega, by omega, by simp, fun _ => ⟨b', o' + i, rfl, fun j u hj => ?_⟩⟩;have hlt : j < n := by
    have := (List.getElem?_eq_some_iff.1 hj).1;simp [byV] at this;omega
  have := hc (i + j) u (by
    unfold byV at hj ⊢;rw [List.getElem?_map] at hj ⊢;rw [← hj, List.getElem?_take, if_pos hlt, List.getElem?_drop])
  rwa [← Nat.add_assoc] at this
set_option maxHeartbeats 2000000 in
theorem at_any (cs : List Bs) (hne : ∀ t ∈ cs, t ≠ []) (hl : cs.flatten.length ≤ 900000) (k : Nat) (hk : k < cs.length) (B : Nat) (mv : Value) (w : World) (hp : PoolR w B cs mv) :
    Calls Tryz.prog 215 #[.pointer (some ⟨B, 0, none⟩), .agg #[.int .u64 (offK cs k : Int), .int .u32 (cs[k].length : Int)]] w fun e w' => e = .returned (.string ⟨cs[k].toArray⟩) ∧ Up w w' := by
  obtain ⟨h1, h2⟩ := offK_get hk;have h3 := List.length_pos_iff.2 (hne _ (List.getElem_mem hk));have H3 := Lib.hid (hne _ (List.getElem_mem hk));have HP := Lib.hid hp;have PE := fun w => Lib.hid (pend_any (offK cs k) cs[k].length (by omega) w);have H2 := Lib.hid h2;obtain ⟨At, ct, Ap, cp, g1, g2, g3⟩ := hp;obtain ⟨b, o, rfl, g4⟩ := g2.2.2.2.2 (by omega);have hr := g2.cut1 (offK cs k) cs[k].length h3 h1 rfl;rw [h2] at hr;have HR := Lib.hid hr;have hcap := g2.2.1;clear h2 g4 g2 g3 hr HP;generalize hfl : cs.flatten.length = fl at *;generalize hok : offK cs k = ok at *;clear hne;generalize cs[k] = t at *;have c0 := blkc g1 0 _ rfl;have hq := heap_alloc_new w (.cells #[.int .u64 ok, .int .u32 t.length] 209);have d0 := blkc hq 0 _ rfl;have d1 := blkc hq 1 _ rfl;have c0' := ((Up.refl w).alloc (.cells #[.int .u64 ok, .int .u32 t.length] 209)).cell c0;go_enter Tryz.func215, Tryz.ntmps215;go_wp2_with fail;have MK := Lib.hid (fun w' (h : Up (w.alloc (.cells #[.int .u64 ok, .int .u32 t.length] 209)) w') => (⟨h, h.cell c0', h.cell d0, h.cell d1, (HR.out.up (((Up.refl w).alloc _).trans h)).str H3.out⟩ : Up (w.alloc (.cells #[.int .u64 ok, .int .u32 t.length] 209)) w' ∧ w'.cell? ⟨B, 0, none⟩ = some (.slice (some ⟨b, o, none⟩) fl ct) ∧ w'.cell? ⟨w.heap.size, 0, none⟩ = some (.int .u64 ok) ∧ w'.cell? ⟨w.heap.size, 1, none⟩ = some (.int .u32 t.length) ∧ (convert 49 9 (.slice (some ⟨b, o + ok, none⟩) t.length (ct - ok))).run Tryz.prog w' = .ok (.string ⟨t.toArray⟩) w'));clear c0 c0' d0 d1 hq;have hi1 : (0 : Int) ≤ (ok : Int) + (t.length : Int) ∧ (ok : Int) + (t.length : Int) ≤ (ct : Int) := ⟨by omega, by omega⟩;have hi2 : (ok : Int) ≤ (ok : Int) + (t.length : Int) := by omega
  have hi3 : ¬ ct = ok := by omega
  have hi4 : ((ok : Int) + (t.length : Int)).toNat - ok = t.length := by omega
  go_region_held3 (fun w' => Up (w.alloc (.cells #[.int .u64 ok, .int .u32 t.length] 209)) w' ∧ w'.cell? ⟨B, 0, none⟩ = some (.slice (some ⟨b, o, none⟩) fl ct) ∧ w'.cell? ⟨w.heap.size, 0, none⟩ = some (.int .u64 ok) ∧ w'.cell? ⟨w.heap.size, 1, none⟩ = some (.int .u32 t.length) ∧ (convert 49 9 (.slice (some ⟨b, o + ok, none⟩) t.length (ct - ok))).run Tryz.prog w' = .ok (.string ⟨t.toArray⟩) w')
    (first
      | assumption
      | exact MK.out _ (Up.refl _).drew
      | exact MK.out _ (Up.trans (And.left (by assumption)) (by assumption)))
    (first
      | (go_at_call 254; refine (PE _).out.mono ?_; rintro e w3 ⟨rfl, hu3⟩)
      | fail)
  all_goals
    go_wp2_with fail;go_ret;exact ⟨rfl, (((Up.refl w).alloc _).drew).trans hu3⟩
theorem plV_two (cs : List Bs) {w : World} {A : Option Addr} {c : Nat} (h : Rd w 2 A cs.length c (plV cs)) {k : Nat} (hk : k < cs.length) : ∃ b o, A = some ⟨b, o, none⟩ ∧ w.cell? ⟨b, o + k * 2, none⟩ = some (.int .u64 (offK cs k : Int)) ∧ w.cell? ⟨b, o + k * 2 + 1, none⟩ = some (.int .u32 (cs[k].length : Int)) := by
  obtain ⟨b, o, u, v, e, h1, h2, h3, h4⟩ := h.two hk;obtain ⟨k1, k2⟩ := plV_get cs hk;rw [k1] at h1;rw [k2] at h2;injection h1 with h1;injection h2 with h2;exact ⟨b, o, e, h1 ▸ h3, h2 ▸ h4⟩
/-- which content's place is told: the first of a list that is the text -/
def findGo (cs : List Bs) (s : Bs) : List Nat → Option Nat
  | [] => none
  | k :: r => if cs.getD k [] = s then some k else findGo cs s r
def findE (cs : List Bs) (o : Option Nat) : Value × Value := match o with
  | some k => (.agg #[.int .u64 (offK cs k : Int), .int .u32 ((cs.getD k []).length : Int)], .bool true)
  | none => (.agg #[.int .u64 0, .int .u32 0], .bool false)
end Go.Proofs.YtbfieomjobbhoaaGreatDoor
