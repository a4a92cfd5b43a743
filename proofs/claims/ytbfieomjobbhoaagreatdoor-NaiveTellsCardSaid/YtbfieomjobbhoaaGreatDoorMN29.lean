/- A region that draws its order, in a round of a range over a function: driven like one outside of rounds (with a condition that is kept), where it defers nothing. -/
import Derived.OrdersHeld
import Derived.OrdersIn
import Derived.RangeFuncCalls
import Derived.Deep.RegionHeld
namespace Go.Proofs.YtbfieomjobbhoaaGreatDoor
open Go.RowKit

theorem upon_in {P : Program} {o : Oper} {a : Act} {K K' : Act → World → Prop} {Q : Exit → Act → World → Prop} {l n : Nat} (hK : ∀ a w, K a w → K' a w) (r : Result Next) (h : o.upon P a K Q r) : o.uponIn (Fence.wide.inRound l) n P a K' Q r := by
  cases r with
  | ok x w' =>
    cases x with
    | value v => exact hK _ _ h
    | skip => exact hK _ _ h
    | defer d => exact hK _ _ h
    | enter f args =>
      refine ⟨fun hd => (by simp [Fence.wide] at hd), CallsIn.inRound l (callsIn_wide.2 (Calls.mono h ?_))⟩;intro e w2 he;cases e with
      | returned v => exact hK _ _ he
      | panicked c => exact he
      | outgrown => exact he
    | row row args =>
      refine ⟨fun hd => (by simp [Fence.wide] at hd), ?_⟩;intro c cs _;obtain ⟨v, w2, hv, hs⟩ := h c cs;exact ⟨v, w2, hK _ _ hv, by rw [fenced_inRound]; exact stepsIn_wide.2 hs⟩
    | _ => exact False.elim h
  | halt x w' =>
    cases x <;> exact h
theorem ops_in {P : Program} {ops : Array Oper} {Q : Exit → Act → World → Prop} {l n : Nat} (hnd : ∀ (i : Nat) (o : Oper) c, ops[i]? = some o → o.op ≠ .defer c) (hQ : ¬ LetsOut Q) :
    ∀ (s : List Nat) (a : Act) (w : World), wpOps P ops Q s a w → wpOpsIn (Fence.wide.inRound l) n P ops Q s a w := by
  intro s;induction s with
  | nil => intro a w h; exact h
  | cons i r ih =>
    intro a w h;unfold wpOps at h;unfold wpOpsIn;cases ho : ops[i]? with
    | none => rw [ho] at h; exact ih _ _ h
    | some o =>
      rw [ho] at h;simp only at h ⊢;split at h
      · rename_i hw;rw [if_pos hw];rcases h with h | h
        · refine ⟨fun _ _ => trivial, ?_⟩;rw [Oper.semAt_eq _ _ _ (fun c => hnd i o c ho)];exact upon_in ih _ h
        · exact absurd h.2 hQ
      · rename_i hw;rw [if_neg hw];exact ⟨fun _ _ => trivial, ih _ _ h⟩
theorem wpIn_region_held {P : Program} {ops : Array Oper} {Q : Exit → Act → World → Prop} {S : World → Prop} {id l n : Nat} {a : Act} {w : World} (hm : P.follows .mixedOrders = true) (hnd : (ops.toList.all fun o => match o.op with | .defer _ => false | _ => true) = true) (hQ : ¬ LetsOut Q) (hS : S w.drew)
    (h : S w.drew → wpAnyH P .any ops Q S ops.size (Array.replicate ops.size false) a w.drew) : (Code.region id ops true).wpIn (Fence.wide.inRound l) n P Q a w := by
  refine wpIn_region_draw fun t => ?_;simp only [Region.schedule, hm, Bool.true_or, if_true];refine ops_in ?_ hQ _ _ _ (wpAny_sound _ t _ _ _ (wpAny_of_held _ _ _ _ (h hS)));intro i o c ho hc;have h1 := List.all_eq_true.1 hnd o (by
    rw [← Array.getElem?_toList] at ho;exact List.mem_of_getElem? ho)
  rw [hc] at h1;cases h1
end Go.Proofs.YtbfieomjobbhoaaGreatDoor
