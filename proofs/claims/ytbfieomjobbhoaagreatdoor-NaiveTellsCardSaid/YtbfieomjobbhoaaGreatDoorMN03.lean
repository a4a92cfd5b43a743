/- The frame: what a row's list of variables gives ('gl_of_laid'); a world that fits it ('laid_met'); a struct of three numbers and a string opened and shut. -/
import Derived.Test.YtbfieomjobbhoaaGreatDoorCards
import Derived.Test.YtbfieomjobbhoaaGreatDoorTie
import Derived.Test.YtbfieomjobbhoaaGreatDoorMN02
import Derived.WalkKit
import Derived.ProofKit
import Derived.OpenShut
import Derived.Deep.DeepHandedRow
import Derived.Deep.DeepWitnessRowRef
import Derived.Stop.LaidErr
import Derived.Lib.LaidTab
import Derived.Lib.LaidIn
import Derived.Lib.SmallJoins
import Derived.ChangeMaps5
import Derived.Lib.LaidU8
import Derived.PinnedBridge
import Derived.Test.YtbfieomjobbhoaaGreatDoorShelf
namespace Go.Proofs.YtbfieomjobbhoaaGreatDoor
open Go.ChangeShapes Go.WideShapes Go.ChangeAt Go.RowKit Go.Lib Go.Gz
open Go.ChangeMaps (open_string shut_string)

set_option maxRecDepth 100000
theorem own : ownKnob Tryz.prog.godebug = none := by kernel_rfl
theorem err_star : "*" ++ "errors.errorString" = "*errors.errorString" := by decide
theorem err_row (u : TypeId) (h : Tryz.prog.typeName? 3 u = some "*errors.errorString") : u = 407 :=
  typeName_ptr_named (nm := "errors.errorString") (by rw [err_star]; kernel_rfl) (by kernel_rfl) (by decide) u (by rw [err_star]; exact h)

/-- the tables, the two errors -/
def allLaid : List (String × DataW Unit) := [("math/bits.deBruijn32tab", Rows.laid_math_bits_deBruijn32tab), ("math/bits.deBruijn64tab", Rows.laid_math_bits_deBruijn64tab), ("internal/strconv.uint64pow10", Rows.laid_internal_strconv_uint64pow10), ("unicode/utf8.acceptRanges", Rows.laid_unicode_utf8_acceptRanges), ("strconv.ErrRange", Rows.laid_strconv_ErrRange), ("strconv.ErrSyntax", Rows.laid_strconv_ErrSyntax), ("unicode/utf8.first", Rows.laid_unicode_utf8_first)]
theorem first_eq : Rows.laid_unicode_utf8_first = firstData := Pinned.utf8First_eq
theorem accept_eq : (Rows.laid_unicode_utf8_acceptRanges : DataW Unit) = acceptData := by kernel_rfl
theorem u8extra : Proofs.U8Extra Tryz.prog Tryz.lays260_ren := ⟨by kernel_rfl, by kernel_rfl, by kernel_rfl, by kernel_rfl, by kernel_rfl, by kernel_rfl, by kernel_rfl⟩
theorem gl_of_laid {W : World} (h : laidMet Tryz.prog allLaid W) : Gl W := by
  have h2 := laidMet.tail (laidMet.tail h);have h3 := laidMet.tail (laidMet.tail h2);have h4 := laidMet.tail h3;obtain ⟨a1, s1, e1, _⟩ := laid_sentinel (g := 4) h3 (by kernel_rfl) (by kernel_rfl) Tryz.underlying296 err_row Tryz.underlying407 Tryz.underlying409 rfl rfl Tryz.underlying9 (by kernel_rfl) (by kernel_rfl);obtain ⟨a2, s2, e2, _⟩ := laid_sentinel (g := 3) h4 (by kernel_rfl) (by kernel_rfl) Tryz.underlying296 err_row Tryz.underlying407 Tryz.underlying409 rfl rfl Tryz.underlying9 (by kernel_rfl) (by kernel_rfl);have hf : VarReads Tryz.prog W "unicode/utf8.first" firstData := laidMet.reads h (by rw [← first_eq]; simp [allLaid]);have ha : VarReads Tryz.prog W "unicode/utf8.acceptRanges" acceptData := laidMet.reads h (by rw [← accept_eq]; simp [allLaid]);exact ⟨Lib.tabIs_of_head (t := 416) (n := 20) (e := 22) g_pow10 (by kernel_rfl) (by kernel_rfl) (by kernel_rfl) (by kernel_rfl) (by kernel_rfl) h2, ⟨_, _, e2⟩, ⟨_, _, e1⟩, Proofs.utf8Tabs_of_reads Tryz.lays260 u8extra hf ha⟩

def lits : DataW Unit → Array Value
  | .agg ds => (ds.map fun | .lit (.int k n) => Value.int k n | _ => .bool false).toArray
  | _ => #[]
def lits2 : DataW Unit → Array Value
  | .agg ds => (ds.map fun d => (lits d).toList).flatten.toArray
  | _ => #[]
/-- A WORLD FOR THE WITNESS -/
noncomputable def laidWorld (os : Os) : World :=
  let N := (World.settled Tryz.prog os).heap.size
  let w0 := World.holding Tryz.prog os ⟨#[
    .cells #[.string ⟨#[105, 110, 118, 97, 108, 105, 100, 32, 115, 121, 110, 116, 97, 120]⟩] 409, .cells #[.string ⟨#[118, 97, 108, 117, 101, 32, 111, 117, 116, 32, 111, 102, 32, 114, 97, 110, 103, 101]⟩] 409], #[], []⟩
  let put (h : Array Obj) (g : Nat) (cs : Array Value) : Array Obj := h.modify g fun
    | .cells _ t frozen => .cells cs t frozen
    | o => o
  let h0 := put (put w0.heap 3 #[.iface 407 (.pointer (some ⟨N, 0, none⟩))]) 4 #[.iface 407 (.pointer (some ⟨N + 1, 0, none⟩))]
  let h1 := put h0 5 (lits Rows.laid_internal_strconv_uint64pow10)
  let h2 := put h1 6 (lits Rows.laid_math_bits_deBruijn32tab)
  let h3 := put h2 7 (lits Rows.laid_math_bits_deBruijn64tab)
  let h4 := put h3 2 (lits2 Rows.laid_unicode_utf8_acceptRanges)
  let h5 := put h4 1 (lits Rows.laid_unicode_utf8_first)
  { w0 with heap := h5 }
theorem mk_bytes (s : ByteArray) : (⟨s.data.toList.toArray⟩ : ByteArray) = s := by cases s; simp
section
variable {H : Type} {enc : TypeId × Value → H} {W : World} {base : Nat} {sp : Nat → Bool} {hd : Bool}
end
noncomputable abbrev N0 : Nat := (World.settled Tryz.prog default).heap.size
theorem laid_met (os : Os) (args : Array Value) : laidMet Tryz.prog allLaid ((laidWorld os).forCall (fun _ _ => 0) ⟨#[], args, []⟩).memory :=
  (LaidIn.of_run [6, 7, 5, 2, 4, N0 + 1, 3, N0, 1] 8 (by kernel_rfl) (by kernel_rfl) (by kernel_rfl) (by kernel_rfl)).met
end Go.Proofs.YtbfieomjobbhoaaGreatDoor
