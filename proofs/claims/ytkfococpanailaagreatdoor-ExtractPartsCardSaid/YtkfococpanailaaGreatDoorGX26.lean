/- Walks: extract.Of's rules; slices.ContainsFunc of rectangles; gazetteerlaw38.rects. -/
import Derived.Test.YtkfococpanailaaGreatDoorGX24
import Derived.Test.YtkfococpanailaaGreatDoorGX25
namespace Go.Proofs.YtkfococpanailaaGreatDoor
open Go.RowKit Go.Gz Go.Shelf

set_option maxRecDepth 100000
/-- the cells of rectangle k -/
theorem Rd.rect {w : World} {l : Rcs} {A : Option Addr} {c : Nat} (h : Rd w 5 A l.length c (rcV l)) {k : Nat} (hk : k < l.length) : ∃ b o, A = some ⟨b, o, none⟩ ∧ w.cell? ⟨b, o + k * 5, none⟩ = some (.int .i64 l[k].z) ∧ w.cell? ⟨b, o + k * 5 + 1, none⟩ = some (.int .i64 l[k].x0) ∧ w.cell? ⟨b, o + k * 5 + 2, none⟩ = some (.int .i64 l[k].y0) ∧ w.cell? ⟨b, o + k * 5 + 3, none⟩ = some (.int .i64 l[k].x1) ∧ w.cell? ⟨b, o + k * 5 + 4, none⟩ = some (.int .i64 l[k].y1) := by
  obtain ⟨b, o, e, hc⟩ := h.2.2.2.2 (by omega)
  obtain ⟨g0, g1, g2, g3, g4⟩ := rcV_get l k hk
  exact ⟨b, o, e, hc _ _ g0, by have := hc _ _ g1; rwa [← Nat.add_assoc] at this, by have := hc _ _ g2; rwa [← Nat.add_assoc] at this, by have := hc _ _ g3; rwa [← Nat.add_assoc] at this, by have := hc _ _ g4; rwa [← Nat.add_assoc] at this⟩
theorem eof11_any (r : Rc) (z x y : Int) (B : Nat) (w : World) (hB : w.heap[B]? = some (tiC z x y)) :
    Calls Tryz.prog 73 #[rcA r, .pointer (some ⟨B, 0, none⟩)] w fun e w' => e = .returned (.bool (hasR r z x y)) ∧ Up w w' := by
  have HS := fun w => Lib.hid (chas_any r z x y w)
  generalize hasR r z x y = v at *
  obtain ⟨rz, x0, y0, x1, y1⟩ := r
  have hu := (Up.refl w).alloc (rcC ⟨rz, x0, y0, x1, y1⟩)
  obtain ⟨c0, c1, c2, c3, c4⟩ := rc_cells (r := ⟨rz, x0, y0, x1, y1⟩) (heap_alloc_new w _)
  simp only at c0 c1 c2 c3 c4
  obtain ⟨d0, d1, d2⟩ := ti_cells (hu.obj hB)
  clear hB
  go_enter Tryz.func73, Tryz.ntmps73
  go_wp2_with fail
  refine (HS _).out.mono ?_
  rintro e w1 ⟨rfl, hu1⟩
  go_wp2_with fail
  go_ret
  exact ⟨rfl, hu.trans hu1⟩
theorem any_succ (l : Rcs) (z x y : Int) {k : Nat} (hk : k < l.length) : anyR (l.take (k + 1)) z x y = (anyR (l.take k) z x y || hasR l[k] z x y) := by
  unfold anyR
  rw [List.take_succ_eq_append_getElem hk, List.any_append]; simp
theorem any_hit (l : Rcs) (z x y : Int) {k : Nat} (hk : k < l.length) (h : hasR l[k] z x y = true) : anyR l z x y = true := by
  unfold anyR
  rw [List.any_eq_true]
  exact ⟨_, List.getElem_mem hk, h⟩
set_option maxHeartbeats 4000000 in
theorem ridx_any (l : Rcs) (hl : l.length ≤ 1000000) (z x y : Int) (B : Nat) (A : Option Addr) (c : Nat) (w : World) (hr : Rd w 5 A l.length c (rcV l)) (hB : w.heap[B]? = some (tiC z x y)) :
    Calls Tryz.prog 120 #[.slice A l.length c, .func (.func 73) #[] #[.pointer (some ⟨B, 0, none⟩)]] w fun e w' => ∃ i : Int, e = .returned (.int .i64 i) ∧ (decide (0 ≤ i) = anyR l z x y) ∧ Up w w' := by
  have HR := Lib.hid hr
  have HB := Lib.hid hB
  clear hr hB
  go_enter Tryz.func120, Tryz.ntmps120
  go_wp2_with fail
  go_loopg [8] l.length (fun gk i wr => ∃ k : Nat, k + gk = l.length ∧ i = .int .i64 (k : Int) ∧ anyR (l.take k) z x y = false ∧ Up w wr)
  case atStart => exact ⟨0, by omega, rfl, by simp [anyR], Up.refl w⟩
  case round =>
    obtain ⟨k, hk, rfl, hany, hu⟩ := hrel
    by_cases hlt : k < l.length
    · obtain ⟨m, rfl⟩ : ∃ m, gk = m + 1 := ⟨gk - 1, by omega⟩
      have hltI : (k : Int) < (l.length : Int) := by omega
      have hst := any_succ l z x y hlt
      have hhit := any_hit l z x y hlt
      rw [hany, Bool.false_or] at hst
      obtain ⟨b, o, rfl, c0, c1, c2, c3, c4⟩ := (HR.out.up hu).rect hlt
      have EX := fun w hB => Lib.hid (eof11_any l[k] z x y B w hB)
      have HBk := Lib.hid (hu.obj HB.out)
      generalize l[k] = r at *
      obtain ⟨rz, x0, y0, x1, y1⟩ := r
      simp only at c0 c1 c2 c3 c4
      generalize hasR ⟨rz, x0, y0, x1, y1⟩ z x y = v at *
      have HU := Lib.hid hu
      have HST := Lib.hid hst
      have HH := Lib.hid hhit
      clear hst hhit hany hu
      go_wp2_with fail
      refine (EX _ HBk.out).out.mono ?_
      rintro e w1 ⟨rfl, hu1⟩
      cases v with
      | true =>
        go_wp2_with fail
        go_ret
        exact ⟨_, rfl, by rw [HH.out (by simp)]; exact decide_eq_true (by omega), HU.out.trans hu1⟩
      | false =>
        go_wp2_with fail
        go_roundg m
        case measure => omega
        case rel => exact ⟨k + 1, by omega, by go_num, HST.out, HU.out.trans hu1⟩
    · obtain rfl : k = l.length := by omega
      rw [List.take_length] at hany
      have HA := Lib.hid hany
      clear hany
      go_wp2_with fail
      go_ret
      exact ⟨_, rfl, by rw [HA.out]; rfl, hu⟩
theorem rcont_any (l : Rcs) (hl : l.length ≤ 1000000) (z x y : Int) (B : Nat) (A : Option Addr) (c : Nat) (w : World) (hr : Rd w 5 A l.length c (rcV l)) (hB : w.heap[B]? = some (tiC z x y)) :
    Calls Tryz.prog 72 #[.slice A l.length c, .func (.func 73) #[] #[.pointer (some ⟨B, 0, none⟩)]] w fun e w' => e = .returned (.bool (anyR l z x y)) ∧ Up w w' := by
  have IX := Lib.hid (ridx_any l hl z x y B A c w hr hB)
  clear hr hB
  generalize anyR l z x y = v at *
  go_enter Tryz.func72, Tryz.ntmps72
  go_wp2_with fail
  refine IX.out.mono ?_
  rintro e w1 ⟨i, rfl, hi, hu1⟩
  have HI := Lib.hid hi
  clear hi
  go_wp2_with fail
  go_ret
  exact ⟨ret_bool HI.out, hu1⟩
theorem eof1_any (l : Rcs) (hl : l.length ≤ 1000000) (z x y : Int) (BL : Nat) (A : Option Addr) (c : Nat) (w : World) (hr : Rd w 5 A l.length c (rcV l)) (hL : w.cell? ⟨BL, 0, none⟩ = some (.slice A l.length c)) :
    Calls Tryz.prog 71 #[tiA z x y, .pointer (some ⟨BL, 0, none⟩)] w fun e w' => e = .returned (.bool (anyR l z x y)) ∧ Up w w' := by
  have hu := (Up.refl w).alloc (tiC z x y)
  have CF := Lib.hid (rcont_any l hl z x y w.heap.size A c _ (hr.up hu) (heap_alloc_new w _))
  have d := hu.cell hL
  clear hr hL
  generalize anyR l z x y = v at *
  go_enter Tryz.func71, Tryz.ntmps71
  go_wp2_with fail
  refine CF.out.mono ?_
  rintro e w1 ⟨rfl, hu1⟩
  go_wp2_with fail
  go_ret
  exact ⟨rfl, hu.trans hu1⟩
theorem infoRc : (Tryz.prog.info? 127).map (fun i => (i.zero, i.size, i.bytes)) = some (some (.agg #[.int .i64 0, .int .i64 0, .int .i64 0, .int .i64 0, .int .i64 0]), 5, 40) := by kernel_rfl
def RcsE (w : World) (l : Rcs) (e : Ending) (w' : World) : Prop := ∃ v, e = .returned v ∧ w'.ownsRow w.heap.size 127 5 v l.length (rcV l) ∧ Up w w'
set_option maxHeartbeats 4000000 in
theorem rects_any (l : Rcs) (hl : l.length ≤ 100000) (A : Option Addr) (c : Nat) (w : World) (hr : Rd w 5 A l.length c (rcV l)) :
    Calls Tryz.prog 36 #[.slice A l.length c] w (RcsE w l) := by
  obtain ⟨i0, hi, hz0, hz1, hz2⟩ := info_parts infoRc
  have HR := Lib.hid hr
  clear hr
  go_enter Tryz.func36, Tryz.ntmps36
  go_wp2_with fail
  go_loopg [3, 4] l.length (fun gk v i wr => ∃ k : Nat, k + gk = l.length ∧ i = .int .i64 k ∧ wr.ownsRow w.heap.size 127 5 v (l.take k).length (rcV (l.take k)) ∧ Up w wr)
  case atStart => exact ⟨0, by omega, rfl, World.ownsRow_nil _ _ _ _, Up.refl w⟩
  case round =>
    obtain ⟨k, hk, rfl, ho, hu⟩ := hrel
    have HO := Lib.hid ho
    have HU := Lib.hid hu
    clear ho
    by_cases hlt : k < l.length
    · obtain ⟨m, rfl⟩ : ∃ m, gk = m + 1 := ⟨gk - 1, by omega⟩
      have hd : l.take (k + 1) = l.take k ++ [l[k]] := List.take_succ_eq_append_getElem hlt
      obtain ⟨b, o, rfl, c0, c1, c2, c3, c4⟩ := (HR.out.up hu).rect hlt
      obtain ⟨r, hx⟩ : ∃ x, l[k]'hlt = x := ⟨_, rfl⟩
      rw [hx] at c0 c1 c2 c3 c4 hd
      obtain ⟨rz, x0, y0, x1, y1⟩ := r
      simp only at c0 c1 c2 c3 c4
      have hltI : (k : Int) < (l.length : Int) := by omega
      have hml : (l.take k).length ≤ k := by rw [List.length_take]; omega
      have HD := Lib.hid hd
      clear hx hu hd
      go_wp2_with (at_builtin; refine app_one wr rfl _ _ 65 rfl w.heap.size 127 i0 _ 5 40 Tryz.underlying65 hi hz0 hz1 hz2 rfl (by decide) _ _ _ HO.out rfl #[.int .i64 rz, .int .i64 x0, .int .i64 y0, .int .i64 x1, .int .i64 y1] rfl rfl (by simp [Value.oneCell']) (by omega) (by omega) (by have := HU.out.le; omega) ?_; intro v3 w3 ho3 hg3 hb3)
      go_roundg m
      case measure => omega
      case rel =>
        refine ⟨k + 1, by omega, by go_num, ?_, Up.of (Below.trans HU.out.below hb3)⟩
        rw [HD.out, rcV_app, List.length_append]
        exact ho3
    · obtain rfl : k = l.length := by omega
      have hO := HO.out
      rw [List.take_length] at hO
      have HO2 := Lib.hid hO
      clear hO hu hlt
      go_wp2_with fail
      go_ret
      exact ⟨_, rfl, HO2.out, HU.out⟩
end Go.Proofs.YtkfococpanailaaGreatDoor
