/- The frame of the laws of ranges: a range opened and shut; the cell of bytealg.MaxLen. -/
import Derived.Test.YteeenbhmdacdiaaDoorFrame
import Derived.Test.YteeenbhmdacdiaaDoorWasked
namespace Go.Proofs.YteeenbhmdacdiaaDoor
open Go.ChangeShapes Go.WideShapes Go.ChangeAt Go.RowKit Go.Lib Go.Gz

set_option maxRecDepth 100000
theorem gm_of {W : World} (h : laidMet Tryd.prog allLaid W) (hs : W.ShapedOpen Tryd.prog) : Gm W :=
  ⟨gl_of_laid h, Go.Proofs.cell_of_shapedOpen_int (zero := #[.int .i64 0]) (t := 3) hs (of_decide_eq_true (by kernel_rfl)) (by kernel_rfl) rfl (by kernel_rfl) (by kernel_rfl) Tryd.underlying3⟩
theorem of_wf_i64 {n : Int} (h : (Lit.int .i64 n).wf = true) : -9223372036854775808 ≤ n ∧ n ≤ 9223372036854775807 := by
  simp [Lit.wf, IntKind.min, IntKind.max, IntKind.bits, IntKind.signed] at h
  omega
section
variable {H : Type} {enc : TypeId × Value → H} {W : World} {base : Nat} {sp : Nat → Bool} {hd : Bool}
theorem shut_range {f t : Int} (wf : (Lit.int .i64 f).wf = true) (wt : (Lit.int .i64 t).wf = true) :
    DataW.Trod enc Tryd.prog W base sp hd 42 (.agg #[.int .i64 f, .int .i64 t]) (.agg [.lit (.int .i64 f), .lit (.int .i64 t)]) [] := by
  simpa using Go.Joins.shut_agg2 (enc := enc) (w := W) (base := base) (spare := sp) (held := hd) (y0 := (.lit (.int .i64 f), [])) (y1 := (.lit (.int .i64 t), [])) Tryd.underlying42 (by kernel_rfl) (by kernel_rfl) ⟨1, by simp [DataW.trod, Tryd.underlying3, wf]⟩ ⟨1, by simp [DataW.trod, Tryd.underlying3, wt]⟩
theorem open_range {r : Reach} {b0 : Nat} {v : Value} {d : DataW H} {p : List MemPlace} (hv : Value.okWide Tryd.prog W r b0 42 v) (h : DataW.Trod enc Tryd.prog W base sp hd 42 v d p) :
    ∃ f t : Int, v = .agg #[.int .i64 f, .int .i64 t] ∧ d = .agg [.lit (.int .i64 f), .lit (.int .i64 t)] ∧ p = [] ∧ (Lit.int .i64 f).wf = true ∧ (Lit.int .i64 t).wf = true := by
  obtain ⟨c0, c1, y0, y1, n, rfl, rfl, rfl, t0, t1⟩ := Go.Joins.open_agg2 Tryd.underlying42 (by kernel_rfl) (by kernel_rfl) hv h
  obtain ⟨f, e0, rfl, wf⟩ := DataW.trod_int Tryd.underlying3 t0
  obtain ⟨t, e1, rfl, wt⟩ := DataW.trod_int Tryd.underlying3 t1
  simp at e0 e1
  subst e0 e1
  exact ⟨f, t, rfl, rfl, rfl, wf, wt⟩
end
end Go.Proofs.YteeenbhmdacdiaaDoor
