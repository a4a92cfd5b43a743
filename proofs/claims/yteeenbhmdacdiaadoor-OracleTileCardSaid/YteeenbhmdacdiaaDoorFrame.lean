/- The frame: what a row's list of variables gives ('gl_of_laid'); a world that fits it ('laid_met'); a struct of three numbers and a string opened and shut. -/
import Derived.Test.YteeenbhmdacdiaaDoorCards
import Derived.Test.YteeenbhmdacdiaaDoorTie
import Derived.Test.YteeenbhmdacdiaaDoorBase
import Derived.WalkKit
import Derived.ProofKit
import Derived.OpenShut
import Derived.Deep.DeepHandedRow
import Derived.Deep.DeepWitnessRowRef
import Derived.Stop.LaidErr
import Derived.Lib.LaidTab
import Derived.Lib.LaidIn
import Derived.Lib.SmallJoins
import Derived.ChangeMaps5
namespace Go.Proofs.YteeenbhmdacdiaaDoor
open Go.ChangeShapes Go.WideShapes Go.ChangeAt Go.RowKit Go.Lib Go.Gz
open Go.ChangeMaps (open_string shut_string)

set_option maxRecDepth 100000
theorem own : ownKnob Tryd.prog.godebug = none := by kernel_rfl
theorem err_star : "*" ++ "errors.errorString" = "*errors.errorString" := by decide
theorem err_row (u : TypeId) (h : Tryd.prog.typeName? 3 u = some "*errors.errorString") : u = 218 :=
  typeName_ptr_named (nm := "errors.errorString") (by rw [err_star]; kernel_rfl) (by kernel_rfl) (by decide) u (by rw [err_star]; exact h)

/-- the tables, the two errors -/
def allLaid : List (String × DataW Unit) := [("math/bits.deBruijn32tab", Rows.laid_math_bits_deBruijn32tab), ("math/bits.deBruijn64tab", Rows.laid_math_bits_deBruijn64tab), ("internal/strconv.uint64pow10", Rows.laid_internal_strconv_uint64pow10), ("strconv.ErrRange", Rows.laid_strconv_ErrRange), ("strconv.ErrSyntax", Rows.laid_strconv_ErrSyntax)]
theorem gl_of_laid {W : World} (h : laidMet Tryd.prog allLaid W) : Gl W := by
  have h2 := laidMet.tail (laidMet.tail h)
  have h3 := laidMet.tail h2
  have h4 := laidMet.tail h3
  obtain ⟨a1, s1, e1, _⟩ := laid_sentinel (g := 2) h3 (by kernel_rfl) (by kernel_rfl) Tryd.underlying139 err_row Tryd.underlying218 Tryd.underlying220 rfl rfl Tryd.underlying9 (by kernel_rfl) (by kernel_rfl)
  obtain ⟨a2, s2, e2, _⟩ := laid_sentinel (g := 1) h4 (by kernel_rfl) (by kernel_rfl) Tryd.underlying139 err_row Tryd.underlying218 Tryd.underlying220 rfl rfl Tryd.underlying9 (by kernel_rfl) (by kernel_rfl)
  refine ⟨Lib.tabIs_of_head (t := 212) (n := 20) (e := 85) g_pow10 (by kernel_rfl) (by kernel_rfl) (by kernel_rfl) (by kernel_rfl) (by kernel_rfl) h2, ⟨_, _, e2⟩, ⟨_, _, e1⟩⟩

def lits : DataW Unit → Array Value
  | .agg ds => (ds.map fun | .lit (.int k n) => Value.int k n | _ => .bool false).toArray
  | _ => #[]
/-- A WORLD FOR THE WITNESS -/
noncomputable def laidWorld (os : Os) : World :=
  let N := (World.settled Tryd.prog os).heap.size
  let w0 := World.holding Tryd.prog os ⟨#[
    .cells #[.string ⟨#[105, 110, 118, 97, 108, 105, 100, 32, 115, 121, 110, 116, 97, 120]⟩] 220, .cells #[.string ⟨#[118, 97, 108, 117, 101, 32, 111, 117, 116, 32, 111, 102, 32, 114, 97, 110, 103, 101]⟩] 220], #[], []⟩
  let put (h : Array Obj) (g : Nat) (cs : Array Value) : Array Obj := h.modify g fun
    | .cells _ t frozen => .cells cs t frozen
    | o => o
  let h0 := put (put w0.heap 1 #[.iface 218 (.pointer (some ⟨N, 0, none⟩))]) 2 #[.iface 218 (.pointer (some ⟨N + 1, 0, none⟩))]
  let h1 := put h0 3 (lits Rows.laid_internal_strconv_uint64pow10)
  let h2 := put h1 4 (lits Rows.laid_math_bits_deBruijn32tab)
  let h3 := put h2 5 (lits Rows.laid_math_bits_deBruijn64tab)
  { w0 with heap := h3 }
theorem mk_bytes (s : ByteArray) : (⟨s.data.toList.toArray⟩ : ByteArray) = s := by cases s; simp
section
variable {H : Type} {enc : TypeId × Value → H} {W : World} {base : Nat} {sp : Nat → Bool} {hd : Bool}
theorem shut_tile {z x y : Int} (wz : (Lit.int .i64 z).wf = true) (wx : (Lit.int .i64 x).wf = true) (wy : (Lit.int .i64 y).wf = true) :
    DataW.Trod enc Tryd.prog W base sp hd 23 (.agg #[.int .i64 z, .int .i64 x, .int .i64 y]) (.agg [.lit (.int .i64 z), .lit (.int .i64 x), .lit (.int .i64 y)]) [] := by
  simpa using Go.Joins.shut_agg3 (enc := enc) (w := W) (base := base) (spare := sp) (held := hd) (y0 := (.lit (.int .i64 z), [])) (y1 := (.lit (.int .i64 x), [])) (y2 := (.lit (.int .i64 y), [])) Tryd.underlying23 (by kernel_rfl) (by kernel_rfl) ⟨1, by simp [DataW.trod, Tryd.underlying3, wz]⟩ ⟨1, by simp [DataW.trod, Tryd.underlying3, wx]⟩ ⟨1, by simp [DataW.trod, Tryd.underlying3, wy]⟩
theorem open_tile {r : Reach} {b0 : Nat} {v : Value} {d : DataW H} {p : List MemPlace} (hv : Value.okWide Tryd.prog W r b0 23 v) (h : DataW.Trod enc Tryd.prog W base sp hd 23 v d p) :
    ∃ z x y : Int, v = .agg #[.int .i64 z, .int .i64 x, .int .i64 y] ∧ d = .agg [.lit (.int .i64 z), .lit (.int .i64 x), .lit (.int .i64 y)] ∧ p = [] ∧ (Lit.int .i64 z).wf = true ∧ (Lit.int .i64 x).wf = true ∧ (Lit.int .i64 y).wf = true := by
  obtain ⟨c0, c1, c2, y0, y1, y2, n, rfl, rfl, rfl, t0, t1, t2⟩ := Go.Joins.open_agg3 Tryd.underlying23 (by kernel_rfl) (by kernel_rfl) hv h
  obtain ⟨z, e0, rfl, wz⟩ := DataW.trod_int Tryd.underlying3 t0
  obtain ⟨x, e1, rfl, wx⟩ := DataW.trod_int Tryd.underlying3 t1
  obtain ⟨y, e2, rfl, wy⟩ := DataW.trod_int Tryd.underlying3 t2
  simp at e0 e1 e2
  subst e0 e1 e2
  exact ⟨z, x, y, rfl, rfl, rfl, wz, wx, wy⟩
end
noncomputable abbrev N0 : Nat := (World.settled Tryd.prog default).heap.size
theorem laid_met (os : Os) (args : Array Value) : laidMet Tryd.prog allLaid ((laidWorld os).forCall (fun _ _ => 0) ⟨#[], args, []⟩).memory :=
  (LaidIn.of_run [4, 5, 3, 2, N0 + 1, 1, N0] 8 (by kernel_rfl) (by kernel_rfl) (by kernel_rfl) (by kernel_rfl)).met
end Go.Proofs.YteeenbhmdacdiaaDoor
