/- Walks: gazetteerlaw12.Over, Own. -/
import Derived.Test.YtjhgaildbeokkaaGreatDoorGT07
namespace Go.Gz
def sumL (L : Items) : Nat := (L.map fun x => x.2.length).sum
def ownL (l : Items) : Items := l.foldl (fun M x => putL M x.1 x.2) []
theorem own_succ {l : Items} {k : Nat} (hk : k < l.length) : ownL (l.take (k + 1)) = putL (ownL (l.take k)) l[k].1 l[k].2 := by
  unfold ownL; rw [List.take_succ_eq_append_getElem hk, List.foldl_append]; rfl
theorem own_snoc (l : Items) (x : Item) : ownL (l ++ [x]) = putL (ownL l) x.1 x.2 := by unfold ownL; rw [List.foldl_append]; rfl
theorem own_srt (l : Items) : Srt (ownL l) := by
  induction l using snoc_ind with
  | h0 => intro i j hi; simp [ownL] at hi
  | h1 l a ih => rw [own_snoc]; exact srt_put ih
theorem own_len (l : Items) : (ownL l).length ≤ l.length := by
  induction l using snoc_ind with
  | h0 => simp [ownL]
  | h1 l a ih => rw [own_snoc]; have := put_len (ownL l) a.1 a.2; simp; omega
theorem sum_succ {L : Items} {k : Nat} (hk : k < L.length) : sumL (L.take (k + 1)) = sumL (L.take k) + L[k].2.length := by
  unfold sumL; rw [List.take_succ_eq_append_getElem hk, List.map_append, List.sum_append]; simp only [List.map_cons, List.map_nil, List.sum_cons, List.sum_nil]; omega
end Go.Gz
namespace Go.Proofs.YtjhgaildbeokkaaGreatDoor
open Go.RowKit Go.Gz

set_option maxRecDepth 100000
def OverEnd (P : Prop) (w : World) (e : Ending) (w' : World) : Prop := ∃ b, e = .returned (.bool b) ∧ (b = false → P) ∧ w = w'
set_option maxHeartbeats 1000000 in
theorem over12_any (L : Items) (most bytes : Nat) (h2 : bytes ≤ 1000000) (hx : ∀ x ∈ L, x.2.length ≤ 9223372036854775807) (A : Option Addr) (c : Nat) (w : World) (hr : Rd w 2 A L.length c (itV L)) :
    Calls Tryz.prog 8 #[.slice A L.length c, .int .i64 most, .int .i64 bytes] w (OverEnd (L.length ≤ most ∧ sumL L ≤ bytes) w) := by
  have HR := Lib.hid hr;have hl : L.length ≤ 9223372036854775807 := by have := hr.2.1; have := hr.2.2.1; unfold maxLen at this; omega
  clear hr;have HX := Lib.hid hx;clear hx;go_enter Tryz.func8, Tryz.ntmps8;go_wp2_with fail;go_loopg [2, 7] L.length (fun gk v i wr => ∃ k m : Nat, k + gk = L.length ∧ i = .int .i64 k ∧ v = .int .i64 m ∧ m + sumL (L.take k) = bytes ∧ w = wr)
  case atStart => exact ⟨0, bytes, by omega, rfl, rfl, by simp [sumL], rfl⟩
  case round =>
    obtain ⟨k, m, hk, rfl, rfl, hsum, rfl⟩ := hrel;by_cases hlt : k < L.length
    · obtain ⟨g, rfl⟩ : ∃ g, gk = g + 1 := ⟨gk - 1, by omega⟩;have hss := sum_succ hlt;obtain ⟨B, o, rfl, hc1, hc2⟩ := HR.out.item hlt;have hxl := HX.out _ (List.getElem_mem hlt);obtain ⟨⟨xid, xt⟩, hx⟩ : ∃ x, L[k]'hlt = x := ⟨_, rfl⟩;rw [hx] at hc1 hc2 hss hxl;simp only at hc1 hc2 hss hxl;have HSS := Lib.hid hss;have HSUM := Lib.hid hsum;have hltI : (k : Int) < (L.length : Int) := by omega
      have hm : m ≤ 1000000 := by omega
      clear hx hss hsum;by_cases hneg : m < xt.length
      · have hd : (m : Int) - (xt.length : Int) < 0 := by omega
        have e1 : IntKind.i64.wrap ((m : Int) - (xt.length : Int)) = (m : Int) - (xt.length : Int) := IntWalk.i64_in _ (by omega);go_wp2_with fail;go_ret;exact ⟨true, rfl, fun h => Bool.noConfusion h, rfl⟩
      · have hd : ¬ (m : Int) - (xt.length : Int) < 0 := by omega
        go_wp2_with fail;go_roundg g
        case measure => omega
        case rel => exact ⟨k + 1, m - xt.length, by omega, by go_num, by go_num, by rw [HSS.out]; have := HSUM.out; omega, rfl⟩
    · obtain rfl : k = L.length := by omega
      rw [List.take_length] at hsum;have HSUM := Lib.hid hsum;clear hsum hlt;by_cases hmost : most < L.length
      · have hmI : (most : Int) < (L.length : Int) := by omega
        go_wp2_with fail;go_ret;exact ⟨true, rfl, fun h => Bool.noConfusion h, rfl⟩
      · have hmI : ¬ (most : Int) < (L.length : Int) := by omega
        go_wp2_with fail;go_ret;exact ⟨false, rfl, fun _ => ⟨by omega, by have := HSUM.out; omega⟩, rfl⟩
theorem Rd.far {w : World} {n c g : Nat} {A : Option Addr} {L : Items} {A' : Option Addr} {n' c' : Nat} {T : TypeId} (h : Rd w 2 A n c (itV L)) (hg : w.heap[g]? = some (.cells #[.slice A' n' c'] T (0, 0))) (x : Value) : Rd (w.setCell ⟨g, 0, none⟩ x) 2 A n c (itV L) := by
  refine ⟨h.1, h.2.1, h.2.2.1, h.2.2.2.1, fun hn => ?_⟩;obtain ⟨b, o, e, hc⟩ := h.2.2.2.2 hn;refine ⟨b, o, e, fun j u hj => ?_⟩;have hbg : b ≠ g := by
    rintro rfl;have hl := h.1;rw [itV_len] at hl;obtain ⟨g1, _⟩ := itV_get L 0 (by omega);have hc0 := hc 0 _ (by simpa using g1);rw [cell_of_row w b (o + 0) _ T (0, 0) hg] at hc0;cases o with
    | zero => cases hc0
    | succ o => simp at hc0
  have := hc j u hj;rw [← this];exact World.cell?_of_block (Below.heap_setCell w ⟨g, 0, none⟩ x b hbg)
/-- one slice in a block of its own -/
def One (w : World) (g : Nat) (T : TypeId) (v : Value) : Prop := w.heap[g]? = some (.cells #[v] T (0, 0))
def OwnEnd (w : World) (M : Items) (e : Ending) (w' : World) : Prop := ∃ A c A' c', e = .returned (.tuple #[.agg #[.slice A M.length c], .slice A' M.length c']) ∧ Rd w' 2 A M.length c (itV M) ∧ Rd w' 2 A' M.length c' (itV M) ∧ Up w w'
def OwRel (w : World) (l : Items) (gk : Nat) (d i : Value) (wr : World) : Prop := ∃ (k : Nat) (A1 : Option Addr) (c1 : Nat) (A2 : Option Addr) (c2 : Nat), k + gk = l.length ∧ i = .int .i64 k ∧ d = .slice A2 (ownL (l.take k)).length c2 ∧
  wr.heap[w.heap.size]? = some (.cells #[.slice none 0 0] 29 (0, 0)) ∧ wr.heap[w.heap.size + 1]? = some (.cells #[.slice A1 (ownL (l.take k)).length c1] 29 (0, 0)) ∧
  Rd wr 2 A1 (ownL (l.take k)).length c1 (itV (ownL (l.take k))) ∧ Rd wr 2 A2 (ownL (l.take k)).length c2 (itV (ownL (l.take k))) ∧ Up w wr
set_option maxHeartbeats 4000000 in
theorem own12_any (l : Items) (hl : l.length ≤ 1000) (A : Option Addr) (c : Nat) (w : World) (hr : Rd w 2 A l.length c (itV l)) :
    Calls Tryz.prog 10 #[.slice A l.length c] w (OwnEnd w (ownL l)) := by
  have HR := Lib.hid hr;have n0 := new1 w 29 (.slice none 0 0);have n1 := new1 (w.alloc (.cells #[.slice none 0 0] 29)) 29 (.slice none 0 0);have hsz : (w.alloc (.cells #[.slice none 0 0] 29)).heap.size = w.heap.size + 1 := by simp
  rw [hsz] at n1;have HU0 := Lib.hid (n0.1.trans n1.1);have HB0 := Lib.hid (n1.1.obj n0.2.2);have HB1 := Lib.hid n1.2.2;clear hr n0 n1 hsz;go_enter Tryz.func10, Tryz.ntmps10;go_wp2_with fail;go_loopg [5, 6] l.length (fun gk d i wr => OwRel w l gk d i wr)
  case atStart => exact ⟨0, none, 0, none, 0, by omega, rfl, rfl, HB0.out, HB1.out, Rd.nil_ _ _, Rd.nil_ _ _, HU0.out⟩
  case round =>
    obtain ⟨k, A1, c1, A2, c2, hk, rfl, rfl, hb0, hb1, hr1, hr2, hu⟩ := hrel;have HB0 := Lib.hid hb0;have HB1 := Lib.hid hb1;have HR1 := Lib.hid hr1;have HR2 := Lib.hid hr2;have HU := Lib.hid hu;clear hr1 hr2 hb0 hb1;obtain ⟨hx0, hf0⟩ := blk_one HB0.out;obtain ⟨hx1, hf1⟩ := blk_one HB1.out;by_cases hlt : k < l.length
    · obtain ⟨g, rfl⟩ : ∃ g, gk = g + 1 := ⟨gk - 1, by omega⟩;have hss := own_succ hlt;have hsr := own_srt (l.take k);have hle := own_len (l.take k);rw [List.length_take] at hle;generalize ownL (l.take k) = M at *;obtain ⟨B, o, rfl, hw1, hw2⟩ := HR.out.item hlt;obtain ⟨⟨xid, xt⟩, hx⟩ : ∃ x, l[k]'hlt = x := ⟨_, rfl⟩;rw [hx] at hw1 hw2 hss;simp only at hw1 hw2 hss;have hc1 := hu.cell hw1;have hc2 := hu.cell hw2;have HW1 := Lib.hid hw1;have HW2 := Lib.hid hw2;clear hw1 hw2;have HSS := Lib.hid hss;have hltI : (k : Int) < (l.length : Int) := by omega
      have PC := fun w hr => Lib.hid (cput12_any M (by omega) xid xt A1 c1 hsr w hr);have PR := fun w hr => Lib.hid (rput12_any M (by omega) xid xt A2 c2 w hr);have hcell0 := hx0;have hcell1 := hx1;clear hx hss;generalize hN : putL M xid xt = N at *;generalize hE : putE M xid xt = E at *;have HN := Lib.hid hN;have HE := Lib.hid hE;have MK := Lib.hid (fun w' (h : Up wr w') => (⟨h, h.cell hcell1, h.cell hc1, h.cell hc2⟩ : Up wr w' ∧ w'.cell? ⟨w.heap.size + 1, 0, none⟩ = some (.slice A1 M.length c1) ∧ w'.cell? ⟨B, o + k * 2, none⟩ = some (.int .u64 xid) ∧ w'.cell? ⟨B, o + k * 2 + 1, none⟩ = some (.string ⟨xt.toArray⟩)));clear hN hE hu;by_cases hE0 : E = 0
      · have hbE : (E == 0) = true := by rw [beq_iff_eq]; exact hE0
        have HE0 := Lib.hid hE0;clear hE0;go_wp2_with fail
        go_region_held3 (fun w' => Up wr w' ∧ w'.cell? ⟨w.heap.size + 1, 0, none⟩ = some (.slice A1 M.length c1) ∧ w'.cell? ⟨B, o + k * 2, none⟩ = some (.int .u64 xid) ∧ w'.cell? ⟨B, o + k * 2 + 1, none⟩ = some (.string ⟨xt.toArray⟩))
          (first
            | assumption
            | exact MK.out _ (Up.refl _).drew
            | exact MK.out _ (Up.trans (And.left (by assumption)) (by assumption))
            | exact MK.out _ (Up.alloc (And.left (by assumption)) _)
            | exact MK.out _ (Up.alloc (Up.trans (Up.drew (Up.refl _)) (by assumption)) _)
            | exact MK.out _ (Up.drew (Up.alloc (Up.refl _) _))
            | exact MK.out _ (Up.set (And.left (by assumption)) (Nat.le_refl _) _))
          ((go_at_call 47; refine (PC _ (HR1.out.up (And.left (by assumption)))).out.mono ?_; rintro e w8 ⟨A5, c5, rfl, r5, hu8⟩; have R5 := Lib.hid r5; clear r5; first | (have HQ := Lib.hid (hu8.obj (show (World.drew (wr.alloc (.cells #[.slice none 0 0] 29))).heap[wr.heap.size]? = _ from heap_alloc_new wr _)); obtain ⟨hq1, hq2⟩ := blk_one HQ.out) | skip))
        focus
          have HU9 := Lib.hid (((Up.refl wr).drew.trans hu8).alloc (.cells #[.slice A5 N.length c5] 29));have HX9 := Lib.hid (heap_alloc_new w8 (.cells #[.slice A5 N.length c5] 29));have HR5 := Lib.hid (R5.out.up ((Up.refl w8).alloc (.cells #[.slice A5 N.length c5] 29)));generalize hq : w8.heap.size = q at *;generalize hW9 : w8.alloc (.cells #[.slice A5 N.length c5] 29) = W9 at *
        rotate_left;focus
          have HU9 := Lib.hid ((((Up.refl wr).alloc (.cells #[.slice none 0 0] 29)).drew.trans hu8).set (p := ⟨wr.heap.size, 0, none⟩) (Nat.le_refl _) (.slice A5 N.length c5));have HX9 := Lib.hid (heap_setCell_same w8 wr.heap.size 0 #[.slice none 0 0] 29 (.slice A5 N.length c5) HQ.out);have HR5 := Lib.hid (R5.out.far HQ.out (.slice A5 N.length c5));clear hq1 hq2 HQ;generalize hq : wr.heap.size = q at *;generalize hW9 : w8.setCell ⟨q, 0, none⟩ (.slice A5 N.length c5) = W9 at *
        rotate_left;all_goals
          clear hq hW9 hu8 R5;have HB9 := Lib.hid (HU9.out.obj HB1.out);have HB9' := Lib.hid (HU9.out.obj HB0.out);obtain ⟨y0, y1⟩ := blk_one HX9.out;obtain ⟨z0, z1⟩ := blk_one HB9.out;have HR29 := Lib.hid (HR2.out.up HU9.out);have HR19 := Lib.hid (HR1.out.up HU9.out);have HUW := Lib.hid (HU.out.trans HU9.out);clear hcell0 hcell1 hx0 hx1 hf0 hf1 MK HU9 hc1 hc2;go_wp2_with fail;have HB10 := Lib.hid (heap_setCell_same W9 (w.heap.size + 1) 0 _ 29 (.slice A5 N.length c5) HB9.out);have HB10' := Lib.hid ((Below.heap_setCell W9 ⟨w.heap.size + 1, 0, none⟩ (.slice A5 N.length c5) w.heap.size (by simp)).trans HB9'.out);have HR210 := Lib.hid (HR29.out.far HB9.out (.slice A5 N.length c5));have HR110 := Lib.hid (HR5.out.far HB9.out (.slice A5 N.length c5));have HU10 := Lib.hid (HUW.out.set (p := ⟨w.heap.size + 1, 0, none⟩) (by simp) (.slice A5 N.length c5));clear y0 y1 z0 z1 HB9 HB9' HR29 HR19 HR5 HX9 HUW;generalize hW10 : W9.setCell ⟨w.heap.size + 1, 0, none⟩ (.slice A5 N.length c5) = W10 at *;clear hW10;have i0 := HU10.out.cell HW1.out;have i1 := HU10.out.cell HW2.out;have MK := Lib.hid (fun w' (h : Up W10 w') => (⟨h, h.cell i0, h.cell i1⟩ : Up W10 w' ∧ w'.cell? ⟨B, o + k * 2, none⟩ = some (.int .u64 xid) ∧ w'.cell? ⟨B, o + k * 2 + 1, none⟩ = some (.string ⟨xt.toArray⟩)))
          go_region_held3 (fun w' => Up W10 w' ∧ w'.cell? ⟨B, o + k * 2, none⟩ = some (.int .u64 xid) ∧ w'.cell? ⟨B, o + k * 2 + 1, none⟩ = some (.string ⟨xt.toArray⟩))
            (first
              | assumption
              | exact MK.out _ (Up.refl _).drew
              | exact MK.out _ (Up.trans (And.left (by assumption)) (by assumption)))
            ((go_at_call 48; refine (PR _ (HR210.out.up (And.left (by assumption)))).out.mono ?_; rintro e w12 ⟨A6, c6, rfl, r6, hu12⟩; have R6 := Lib.hid r6; clear r6))
          have HU12 := Lib.hid ((Up.refl W10).drew.trans hu12);clear hu12 i0 i1 MK;go_wp2_with fail;go_roundg g
          case measure => omega
          case rel =>
            have e := HSS.out;refine ⟨k + 1, A5, c5, A6, c6, by omega, by go_num, by rw [e], HU12.out.obj HB10'.out, ?_, ?_, ?_, HU10.out.trans HU12.out⟩
            · rw [e]; exact HU12.out.obj HB10.out
            · rw [e]; exact HR110.out.up HU12.out
            · rw [e]; exact R6.out
      · have hbE : (E == 0) = false := by rw [beq_eq_false_iff_ne]; exact hE0
        have HE0 := Lib.hid hE0;clear hE0;go_wp2_with fail
        go_region_held3 (fun w' => Up wr w' ∧ w'.cell? ⟨w.heap.size + 1, 0, none⟩ = some (.slice A1 M.length c1) ∧ w'.cell? ⟨B, o + k * 2, none⟩ = some (.int .u64 xid) ∧ w'.cell? ⟨B, o + k * 2 + 1, none⟩ = some (.string ⟨xt.toArray⟩))
          (first
            | assumption
            | exact MK.out _ (Up.refl _).drew
            | exact MK.out _ (Up.trans (And.left (by assumption)) (by assumption))
            | exact MK.out _ (Up.alloc (And.left (by assumption)) _)
            | exact MK.out _ (Up.alloc (Up.trans (Up.drew (Up.refl _)) (by assumption)) _)
            | exact MK.out _ (Up.drew (Up.alloc (Up.refl _) _))
            | exact MK.out _ (Up.set (And.left (by assumption)) (Nat.le_refl _) _))
          ((go_at_call 47; refine (PC _ (HR1.out.up (And.left (by assumption)))).out.mono ?_; rintro e w8 ⟨A5, c5, rfl, r5, hu8⟩; have R5 := Lib.hid r5; clear r5; first | (have HQ := Lib.hid (hu8.obj (show (World.drew (wr.alloc (.cells #[.slice none 0 0] 29))).heap[wr.heap.size]? = _ from heap_alloc_new wr _)); obtain ⟨hq1, hq2⟩ := blk_one HQ.out) | skip))
        focus
          have HU9 := Lib.hid (((Up.refl wr).drew.trans hu8).alloc (.cells #[.slice A5 N.length c5] 29));have HX9 := Lib.hid (heap_alloc_new w8 (.cells #[.slice A5 N.length c5] 29));have HR5 := Lib.hid (R5.out.up ((Up.refl w8).alloc (.cells #[.slice A5 N.length c5] 29)));generalize hq : w8.heap.size = q at *;generalize hW9 : w8.alloc (.cells #[.slice A5 N.length c5] 29) = W9 at *
        rotate_left;focus
          have HU9 := Lib.hid ((((Up.refl wr).alloc (.cells #[.slice none 0 0] 29)).drew.trans hu8).set (p := ⟨wr.heap.size, 0, none⟩) (Nat.le_refl _) (.slice A5 N.length c5));have HX9 := Lib.hid (heap_setCell_same w8 wr.heap.size 0 #[.slice none 0 0] 29 (.slice A5 N.length c5) HQ.out);have HR5 := Lib.hid (R5.out.far HQ.out (.slice A5 N.length c5));clear hq1 hq2 HQ;generalize hq : wr.heap.size = q at *;generalize hW9 : w8.setCell ⟨q, 0, none⟩ (.slice A5 N.length c5) = W9 at *
        rotate_left;all_goals
          clear hq hW9 hu8 R5;have HB9 := Lib.hid (HU9.out.obj HB1.out);have HB9' := Lib.hid (HU9.out.obj HB0.out);obtain ⟨y0, y1⟩ := blk_one HX9.out;obtain ⟨z0, z1⟩ := blk_one HB9.out;have HR29 := Lib.hid (HR2.out.up HU9.out);have HR19 := Lib.hid (HR1.out.up HU9.out);have HUW := Lib.hid (HU.out.trans HU9.out);clear hcell0 hcell1 hx0 hx1 hf0 hf1 MK HU9 hc1 hc2;go_wp2_with fail;have HB10 := HB9;have HB10' := HB9';have HR210 := HR29;have HR110 := HR19;have HU10 := HUW;clear y0 y1 z0 z1 HB9 HB9' HR29 HR19 HR5 HX9 HUW;obtain ⟨W10, rfl⟩ : ∃ W, W = W9 := ⟨_, rfl⟩;have i0 := HU10.out.cell HW1.out;have i1 := HU10.out.cell HW2.out;have MK := Lib.hid (fun w' (h : Up W10 w') => (⟨h, h.cell i0, h.cell i1⟩ : Up W10 w' ∧ w'.cell? ⟨B, o + k * 2, none⟩ = some (.int .u64 xid) ∧ w'.cell? ⟨B, o + k * 2 + 1, none⟩ = some (.string ⟨xt.toArray⟩)))
          go_region_held3 (fun w' => Up W10 w' ∧ w'.cell? ⟨B, o + k * 2, none⟩ = some (.int .u64 xid) ∧ w'.cell? ⟨B, o + k * 2 + 1, none⟩ = some (.string ⟨xt.toArray⟩))
            (first
              | assumption
              | exact MK.out _ (Up.refl _).drew
              | exact MK.out _ (Up.trans (And.left (by assumption)) (by assumption)))
            ((go_at_call 48; refine (PR _ (HR210.out.up (And.left (by assumption)))).out.mono ?_; rintro e w12 ⟨A6, c6, rfl, r6, hu12⟩; have R6 := Lib.hid r6; clear r6))
          have HU12 := Lib.hid ((Up.refl W10).drew.trans hu12);clear hu12 i0 i1 MK;go_wp2_with fail;go_roundg g
          case measure => omega
          case rel =>
            have e := HSS.out;have e2 : N = M := by rw [← HN.out]; exact put_bad HE.out HE0.out
            rw [e2] at e;refine ⟨k + 1, A1, c1, A2, c2, by omega, by go_num, by rw [e], HU12.out.obj HB10'.out, ?_, ?_, ?_, HU10.out.trans HU12.out⟩
            · rw [e]; exact HU12.out.obj HB10.out
            · rw [e]; exact HR110.out.up HU12.out
            · rw [e]; exact HR210.out.up HU12.out
    · obtain rfl : k = l.length := by omega
      rw [List.take_length] at HB1 HR1 HR2 hx1 ⊢;have HB5 := Lib.hid (heap_setCell_same wr w.heap.size 0 _ 29 (.slice A1 (ownL l).length c1) HB0.out);have HR15 := Lib.hid (HR1.out.far HB0.out (.slice A1 (ownL l).length c1));have HR25 := Lib.hid (HR2.out.far HB0.out (.slice A1 (ownL l).length c1));clear hlt hu;go_wp2_with fail;have d0 := (blk_one HB5.out).1;refine bodyPost_ret (v := .tuple #[.agg #[.slice A1 (ownL l).length c1], .slice A2 (ownL l).length c2]) (by simp [results, Tryz.results10, go_sem, d0]) rfl ⟨A1, c1, A2, c2, rfl, HR15.out, HR25.out, HU.out.set (by simp) _⟩
end Go.Proofs.YtjhgaildbeokkaaGreatDoor
