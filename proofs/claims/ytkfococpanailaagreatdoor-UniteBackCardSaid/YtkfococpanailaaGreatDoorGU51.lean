/- Appends of items onto a row of the call's own, by their run. -/
import Derived.Test.YtkfococpanailaaGreatDoorGU07
namespace Go.Proofs.YtkfococpanailaaGreatDoor
open Go.RowKit Go.Gz Go.Maps Go.Shelf

set_option maxRecDepth 100000
/-- a row of the call's own, the world being W when it began -/
structure RowS (W : World) (L : Items) (v : Value) (w : World) : Prop where
  own : w.ownsRow W.heap.size 37 2 v L.length (itV L)
  up : Up W w
theorem RowS.alloc {W : World} {L : Items} {v : Value} {w : World} (h : RowS W L v w) (o : Obj) : RowS W L v (w.alloc o) := ⟨h.own.alloc o, h.up.alloc o⟩
theorem rowS_zero {W w : World} {b : Nat} (hu : Up W w) (hb : W.heap.size ≤ b) (h : w.heap[b]? = some (.cells #[] 37 (0, 0))) : RowS W [] (.slice (some ⟨b, 0, none⟩) 0 0) w :=
  ⟨⟨rfl, .inr ⟨b, 0, #[], rfl, hb, h, Nat.le_refl _, by unfold maxLen; omega, by simp, by simp [itV]⟩⟩, hu⟩
theorem RowS.app {W : World} {X Y : Items} {v : Value} {w : World} (h : RowS W X v w) {A : Option Addr} {c : Nat} (hr : Rd w 2 A Y.length c (itV Y)) (hn : X.length + Y.length ≤ 10000) :
    ∃ v' w', (∀ ty, (Builtin.append_ #[24, 24] ty #[v, .slice A Y.length c]).run Tryz.prog w = .ok v' w') ∧ RowS W (X ++ Y) v' w' ∧ (∀ (j : Nat) (o : Obj), w.heap[j]? = some o → (∀ cs fz, o ≠ .cells cs 37 fz) → w'.heap[j]? = some o) := by
  obtain ⟨i0, hi, hz0, hz1, hz2⟩ := info_parts infoCI;have hbase : W.heap.size ≤ w.heap.size := h.up.le;have key : ∃ v' w', (∀ ty, (Builtin.append_ #[24, 24] ty #[v, .slice A Y.length c]).run Tryz.prog w = .ok v' w') ∧ w'.ownsRow W.heap.size 37 2 v' (X.length + Y.length) (itV X ++ itV Y) ∧ w.grownBy w' v.ownBlock := by
    rcases A with _ | ad
    · have hm : Y.length = 0 := by have := hr.2.1; have := hr.2.2.2.1 rfl; omega
      have hY : itV Y = [] := List.eq_nil_of_length_eq_zero (by rw [itV_len, hm]);rw [hm, hY];exact ⟨v, w, fun ty => run_append_of_nil w W.heap.size 24 ty 37 i0 2 Tryz.underlying24 hi v X.length (itV X) h.own c, by simpa using h.own, World.grownBy.refl w _⟩
    · have hcells : ∀ j u, (itV Y)[j]? = some u → w.cell? (ad.add j) = some u := by
        intro j u hu;rcases Nat.eq_zero_or_pos Y.length with h0 | h0
        · have : itV Y = [] := List.eq_nil_of_length_eq_zero (by rw [itV_len, h0]);rw [this] at hu; simp at hu
        · obtain ⟨b, o', h, hc⟩ := hr.2.2.2.2 h0;injection h with h;subst h;rw [add_plain];exact hc j u hu
      have hmul : (X.length + Y.length) * 24 ≤ 140737488355328 := by omega
      obtain ⟨v', w', hrun, h2, h3, _⟩ := run_append_own_at (P := Tryz.prog) w W.heap.size 24 24 37 i0 _ 2 24 Tryz.underlying24 hi hz0 hz1 hz2 rfl (by decide) v X.length (itV X) h.own ad Y.length c (itV Y) hr.1 hcells (itV_one _) (by unfold maxLen; omega) hmul hbase;exact ⟨v', w', fun ty => hrun, h2, h3⟩
  obtain ⟨v', w', hrun, h2, h3⟩ := key;have own : ∀ g, v.ownBlock = some g → W.heap.size ≤ g ∧ ∃ cur fz, w.heap[g]? = some (.cells cur 37 fz) := by
    intro g hgb;rcases h.own.2 with ⟨rfl, _⟩ | ⟨g', cap, cur, rfl, hgb', hgh, _⟩
    · cases hgb
    · injection hgb with hgb; have : g' = g := hgb; subst this; exact ⟨hgb', cur, _, hgh⟩
  refine ⟨v', w', hrun, ⟨by rw [List.length_append, itV_app]; exact h2, Up.of (Below.grown h.up.below h3 h.up.le (fun j hj => (own j hj).1))⟩, fun j o ho hne => ?_⟩;rw [h3.block j (Array.getElem?_eq_some_iff.1 ho).1 (fun e => by
    obtain ⟨_, cur, fz, hh⟩ := own j e.symm;rw [ho] at hh; injection hh with hh; exact hne _ _ hh), ho]
end Go.Proofs.YtkfococpanailaaGreatDoor
