/- Walks: strings.Builder: copyCheck, WriteRune. -/
import Derived.Test.YtbfieomjobbhoaaGreatDoorShelf2
import Derived.Test.YtbfieomjobbhoaaGreatDoorMN02
namespace Go.Proofs.YtbfieomjobbhoaaGreatDoor
open Go.RowKit Go.Gz Go.Shelf

set_option maxRecDepth 100000
set_option maxHeartbeats 1000000 in
theorem bcheck_used (b : Nat) (w : World) (h0 : w.cell? ⟨b, 0, none⟩ = some (.pointer (some ⟨b, 0, none⟩))) :
    Calls Tryz.prog 220 #[.pointer (some ⟨b, 0, none⟩)] w fun e w' => e = .returned (.tuple #[]) ∧ w' = w := by
  obtain ⟨j, hj, _⟩ := Option.map_eq_some_iff.1 Tryz.Builder_Extra_169.sizeBuilder;go_enter Tryz.func220, Tryz.ntmps220;go_wp2_with fail;rw [Lib.run_neq_ptr_same w _ Tryz.underlying292 hj];go_wp2_with fail;go_end0
  exact ⟨rfl, rfl⟩
set_option maxHeartbeats 1000000 in
theorem bcheck_fresh (b : Nat) (w : World) (h0 : w.cell? ⟨b, 0, none⟩ = some (.pointer none)) (hsh : w.shape? b = some (294, 2)) (hfz : w.frozen? ⟨b, 0, none⟩ = false) :
    Calls Tryz.prog 220 #[.pointer (some ⟨b, 0, none⟩)] w fun e w' => e = .returned (.tuple #[]) ∧ w' = w.setCell ⟨b, 0, none⟩ (.pointer (some ⟨b, 0, none⟩)) := by
  obtain ⟨j, hj, hjs⟩ := Option.map_eq_some_iff.1 Tryz.Builder_Extra_169.sizeBuilder;go_enter Tryz.func220, Tryz.ntmps220;go_wp2_with fail;rw [Lib.run_to_unsafe w ⟨b, 0, none⟩ Tryz.underlying292 Tryz.underlying358 hj (by rw [hjs]; decide) hsh (Nat.zero_lt_succ 1)];simp only [Result.andThen];rw [Oper.upon_value];go_wp2_with fail;rw [run_callFunc_extern Tryz.func256 (by kernel_rfl) (by kernel_rfl) (by kernel_rfl) (e := Extern.AbiNoEscape.same) (by kernel_rfl)];rw [Lib.run_noEscape];simp only [Result.andThen];rw [Oper.upon_value];go_wp2_with fail;rw [Lib.run_from_unsafe w ⟨b, 0, none⟩ Tryz.underlying358 Tryz.underlying292 hj hsh Tryz.Builder_Extra_169.liesBuilder];simp only [Result.andThen];rw [Oper.upon_value];go_wp2_with fail;go_end0
  exact ⟨rfl, rfl⟩
theorem arune_any (B : Nat) (v : Value) (n : Nat) (xs : List Value) (r : Int) (hr0 : -2147483648 ≤ r) (hr1 : r ≤ 2147483647) (w : World) (hown : w.ownsRowF B 5 1 v n xs) (hlen : n + 4 ≤ 140737488355328) (hBw : B ≤ w.heap.size) :
    Calls Tryz.prog 282 #[v, .int .i32 r] w fun e w' => ∃ v', e = .returned v' ∧ w'.ownsRowF B 5 1 v' (n + (Lib.runeCells r).length) (xs ++ Lib.runeCells r) ∧ ∃ o, (w.alloc o).grownBy w' v.ownBlock :=
  Any.utf8_AppendRune_row Tryz.lays242 (by kernel_rfl) B v n xs r hr0 hr1 w hown hlen hBw
/-- a builder in block b that holds these bytes -/
abbrev BldF (B b : Nat) (l : Bs) (w : World) : Prop := Lib.IsBuilderF 294 5 B b (Lib.byteCells l) w
theorem bcheck_any (B b : Nat) (bs : List Value) (w : World) (h : Lib.IsBuilderF 294 5 B b bs w) :
    Calls Tryz.prog 220 #[.pointer (some ⟨b, 0, none⟩)] w fun e w' => e = .returned (.tuple #[]) ∧ Lib.BuilderAtF 294 5 B b (.pointer (some ⟨b, 0, none⟩)) bs w' ∧ Below B w w' := by
  rcases h with h | h
  · refine (bcheck_fresh b w h.cell0 h.shape h.frozen0).mono ?_;rintro e w' ⟨rfl, rfl⟩;exact ⟨rfl, h.used _, (Below.refl B w).setCell (p := ⟨b, 0, none⟩) h.1 _⟩
  · refine (bcheck_used b w h.cell0).mono ?_;rintro e w' ⟨rfl, rfl⟩;exact ⟨rfl, h, Below.refl B _⟩
set_option maxHeartbeats 4000000 in
theorem wrune_any (B b : Nat) (l : Bs) (r : Int) (hr0 : -2147483648 ≤ r) (hr1 : r ≤ 2147483647) (w : World) (h : BldF B b l w) (hlen : l.length ≤ 1000000000) (hBw : B ≤ w.heap.size) :
    Calls Tryz.prog 260 #[.pointer (some ⟨b, 0, none⟩), .int .i32 r] w fun e w' => (∃ V, e = .returned V) ∧ BldF B b (l ++ Lib.encodeRune r) w' ∧ Below B w w' := by
  have key : Calls Tryz.prog 260 #[.pointer (some ⟨b, 0, none⟩), .int .i32 r] w fun e w' => (∃ V, e = .returned V) ∧ Lib.BuilderAtF 294 5 B b (.pointer (some ⟨b, 0, none⟩)) (Lib.byteCells l ++ Lib.runeCells r) w' ∧ Below B w w' := by
    have hbl : (Lib.byteCells l).length = l.length := Lib.byteCells_length l;unfold BldF at h;generalize Lib.byteCells l = bs at *;have HBL := Lib.hid hbl;have hk4 := Lib.runeCells_le r;have CC := fun w h => Lib.hid (bcheck_any B b bs w h);have AR := fun v w hown hB => Lib.hid (arune_any B v bs.length bs r hr0 hr1 w hown (by have := HBL.out; omega) hB);clear hbl;go_enter Tryz.func260, Tryz.ntmps260;go_wp2_with fail;with_reducible refine (CC _ h).out.mono ?_
    rintro e w1 ⟨rfl, h1, hb1⟩;obtain ⟨hB, v, hbk, hown, hne⟩ := h1;obtain ⟨ao, cap, rfl⟩ : ∃ ao cap, v = .slice ao bs.length cap := by
      rcases hown.2 with ⟨hv, h0⟩ | ⟨g, cap, cur, fz, hv, _⟩
      · exact ⟨none, 0, by rw [hv, h0]⟩
      · exact ⟨_, _, hv⟩
    have c0 : w1.cell? ⟨b, 0, none⟩ = some (.pointer (some ⟨b, 0, none⟩)) := by rw [Lib.cell_of_heap hbk]; rfl
    have c1 : w1.cell? ⟨b, 1, none⟩ = some (.slice ao bs.length cap) := by rw [Lib.cell_of_heap hbk]; rfl
    go_wp2_with fail;with_reducible refine (AR _ w1 hown (by have := hb1.size; omega)).out.mono ?_
    rintro e w2 ⟨v', rfl, hown', o, hgrow⟩;have hlt : b < w1.heap.size := (Array.getElem?_eq_some_iff.1 hbk).1;have hb2 : w2.heap[b]? = some (.cells #[.pointer (some ⟨b, 0, none⟩), .slice ao bs.length cap] 294 (0, 0)) := by
      rw [hgrow.block b (by simp; omega) (fun e => hne e.symm), Lib.alloc_old w1 _ b hlt];exact hbk
    have d0 : w2.cell? ⟨b, 0, none⟩ = some (.pointer (some ⟨b, 0, none⟩)) := by rw [Lib.cell_of_heap hb2]; rfl
    have d1 : w2.cell? ⟨b, 1, none⟩ = some (.slice ao bs.length cap) := by rw [Lib.cell_of_heap hb2]; rfl
    have f1 : w2.frozen? ⟨b, 1, none⟩ = false := Lib.frozen_of_heap hb2 1;obtain ⟨g, cap', rfl⟩ : ∃ g cap', v' = .slice (some ⟨g, 0, none⟩) (bs.length + (Lib.runeCells r).length) cap' := by
      rcases hown'.2 with ⟨_, h0⟩ | ⟨g, cap', cur, fz, hv, _⟩
      · omega
      · exact ⟨g, cap', hv⟩
    go_wp2_with fail;go_ret2
    refine ⟨⟨_, rfl⟩, ?_, ?_⟩
    · exact Lib.BuilderAtF.put (T := 294) (e := 5) hB hb2 (bs' := bs ++ Lib.runeCells r) (by simpa using hown') Tryz.Builder_Extra_169.neB5
    · exact ((hb1.alloc (by have := hb1.size; omega) _).grown hgrow (by have := hb1.size; simp; omega) (fun k hk => (hown.lt k hk).1)).setCell (p := ⟨b, 1, none⟩) hB _
  refine key.mono ?_;rintro e w' ⟨h1, h2, h3⟩;refine ⟨h1, ?_, h3⟩;unfold BldF;rw [Lib.byteCells_append, Lib.byteCells_encodeRune];exact Or.inr h2
end Go.Proofs.YtbfieomjobbhoaaGreatDoor
