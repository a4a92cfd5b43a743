/- The frame of the laws over charts: slices of items and of texts opened; what is read stays. -/
import Derived.Test.YtbfieomjobbhoaaGreatDoorMN03
import Derived.Test.YtbfieomjobbhoaaGreatDoorMN04
import Derived.Deep.Slices
import Derived.Deep.Strs
import Derived.Deep.Fields
import Derived.ChangeSame
import Derived.ChangeStays
import Derived.ChangeBears
namespace Go.Proofs.YtbfieomjobbhoaaGreatDoor
open Go.ChangeShapes Go.WideShapes Go.ChangeAt Go.RowKit Go.Lib Go.Gz Go.Deep

set_option maxRecDepth 100000
theorem kids : Kids Tryz.prog (· < Tryz.prog.types.size) := kids_rows (by kernel_rfl) (by kernel_rfl)
theorem rows_pos : ((List.range Tryz.prog.types.size).all fun t => match Tryz.prog.underlying t with | some (.slice e) => decide (0 < Tryz.prog.cellsOf e) | _ => true) = true := by kernel_rfl
theorem kid_pos {t e : TypeId} (ht : t < Tryz.prog.types.size) (h : Tryz.prog.underlying t = some (.slice e)) : 0 < Tryz.prog.cellsOf e := by
  have := List.all_eq_true.1 rows_pos t (List.mem_range.2 ht);rw [h] at this;simpa using this
section
variable {H : Type} {enc : TypeId × Value → H} {W W' : World}
theorem stays {t : TypeId} {v : Value} {d : DataW H} {ps : List MemPlace} (hup : Up W W') (ht : t < Tryz.prog.types.size) (h : DataW.Trod enc Tryz.prog W 0 (fun _ => true) true t v d ps) (sp : Nat → Bool) (hs : ∀ p ∈ ps, sp p.block = true) (hlt : ∀ p ∈ ps, p.block < W.heap.size) :
    DataW.Trod enc Tryz.prog W' 0 sp true t v d ps := by
  obtain ⟨n, hn⟩ := h;exact ⟨n, DataW.trod_stays kids (fun ht h => kid_pos ht h) (fun h => by cases h) ht hn (fun p hp => hup.below.same (hlt p hp)) hs⟩
theorem stays_all (hup : Up W W') (sp : Nat → Bool) : ∀ {ts : List TypeId} {vs : List Value} {ds : List (DataW H)} {ps : List MemPlace}, (∀ t ∈ ts, t < Tryz.prog.types.size) → DataW.TrodAll enc Tryz.prog W 0 (fun _ => true) true ts vs ds ps → (∀ p ∈ ps, sp p.block = true) → (∀ p ∈ ps, p.block < W.heap.size) →
    DataW.TrodAll enc Tryz.prog W' 0 sp true ts vs ds ps := by
  intro ts;induction ts with
  | nil =>
    intro vs ds ps _ h _ _;cases vs with
    | nil => cases ds with
      | nil => exact h
      | cons _ _ => exact h
    | cons _ _ => exact h
  | cons t ts ih =>
    intro vs ds ps ht h hs hlt;cases vs with
    | nil => exact h
    | cons v vs =>
      cases ds with
      | nil => exact h
      | cons d ds =>
        obtain ⟨p, q, h1, h2, rfl⟩ := h;exact ⟨p, q, stays hup (ht t (by simp)) h1 sp (fun x hx => hs x (by simp [hx])) (fun x hx => hlt x (by simp [hx])), ih (fun t ht' => ht t (by simp [ht'])) h2 (fun x hx => hs x (by simp [hx])) (fun x hx => hlt x (by simp [hx])), rfl⟩
end
theorem params_lt {ts : List TypeId} (h : (ts.all fun t => decide (t < Tryz.prog.types.size)) = true) : ∀ t ∈ ts, t < Tryz.prog.types.size := fun t ht => by
  have := List.all_eq_true.1 h t ht;simpa using this
section
variable {H : Type} {enc : TypeId × Value → H} {W : World}
theorem open_u64 {r : Reach} {b0 : Nat} {v : Value} {d : DataW H} {p : List MemPlace} (hv : Value.okWide Tryz.prog W r b0 22 v) (h : DataW.Trod enc Tryz.prog W 0 (fun _ => true) true 22 v d p) :
    ∃ n : Nat, v = .int .u64 (n : Int) ∧ n < 18446744073709551616 := by
  obtain ⟨n0, rfl, rfl, rfl, wf0⟩ := open_int Tryz.underlying22 hv h;have hn : 0 ≤ n0 ∧ n0 < 18446744073709551616 := by
    simp [Lit.wf, IntKind.min, IntKind.max, IntKind.bits, IntKind.signed] at wf0; omega
  obtain ⟨n, rfl⟩ := Int.eq_ofNat_of_zero_le hn.1;exact ⟨n, rfl, by omega⟩
theorem open_text {r : Reach} {b0 : Nat} {v : Value} {d : DataW H} {p : List MemPlace} (hv : Value.okWide Tryz.prog W r b0 9 v) (h : DataW.Trod enc Tryz.prog W 0 (fun _ => true) true 9 v d p) :
    ∃ s : Bs, v = .string ⟨s.toArray⟩ := by
  obtain ⟨s, rfl, _, _, _⟩ := Go.ChangeMaps.open_string Tryz.underlying9 hv h;exact ⟨s.data.toList, by rw [mk_bytes]⟩
end
end Go.Proofs.YtbfieomjobbhoaaGreatDoor
