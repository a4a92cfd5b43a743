/- The frame of rows without handles whose awake the abstract machine evaluates: what a row's list of variables gives; a world that fits it. -/
import Derived.Test.YtongfkckenahnaaGreatDoorCards
import Derived.Test.YtongfkckenahnaaGreatDoorTie
import Derived.Test.YtongfkckenahnaaGreatDoorBase
import Derived.Test.YtongfkckenahnaaGreatDoorAwb
import Derived.WalkKit
import Derived.ProofKit
import Derived.OpenShut
import Derived.Deep.DeepHandedRow
import Derived.Deep.DeepWitnessRowRef
import Derived.Stop.LaidErr
import Derived.Lib.LaidTab
import Derived.Lib.LaidIn
import Derived.Lib.SmallJoins
import Derived.ChangeMaps5
import Derived.PinnedBridge
namespace Go.Proofs.YtongfkckenahnaaGreatDoor
open Go.ChangeShapes Go.WideShapes Go.ChangeAt Go.RowKit Go.Lib Go.Gz
open Go.ChangeMaps (open_string shut_string)
open Go.Ev (GlobW Kept GVar)

set_option maxRecDepth 100000
theorem own : ownKnob Tryz.prog.godebug = none := by kernel_rfl
theorem up_kept {w w' : World} (h : Kept w w') : Up w w' := ⟨h.os, h.tape, h.output, h.le, h.same⟩
/-- the row's variables -/
def allLaid : List (String × DataW Unit) := [("math/bits.deBruijn32tab", Rows.laid_math_bits_deBruijn32tab), ("math/bits.deBruijn64tab", Rows.laid_math_bits_deBruijn64tab), ("internal/strconv.uint64pow10", Rows.laid_internal_strconv_uint64pow10), ("unicode/utf8.acceptRanges", Rows.laid_unicode_utf8_acceptRanges), ("strconv.ErrRange", Rows.laid_strconv_ErrRange), ("strconv.ErrSyntax", Rows.laid_strconv_ErrSyntax), ("unicode/utf8.first", Rows.laid_unicode_utf8_first)]
theorem tab_of_laid {W : World} (h : laidMet Tryz.prog allLaid W) : Lib.TabIs Tryz.prog W "internal/strconv.uint64pow10" .u64 Lib.pow10Tab :=
  Lib.tabIs_of_head (t := 318) (n := 20) (e := 38) g_pow10 (by kernel_rfl) (by kernel_rfl) (by kernel_rfl) (by kernel_rfl) (by kernel_rfl) (laidMet.tail (laidMet.tail h))
theorem gv_vals : (Lib.pow10Tab.map fun z => Value.int .u64 z) = [1, 10, 100, 1000, 10000, 100000, 1000000, 10000000, 100000000, 1000000000, 10000000000, 100000000000, 1000000000000, 10000000000000, 100000000000000, 1000000000000000, 10000000000000000, 100000000000000000, 1000000000000000000, 10000000000000000000].map (Value.int .u64) := by kernel_rfl
theorem var_heap {W : World} {name : String} {g : Nat} {cs vs : Array Value} {t : TypeId} (hg : Tryz.prog.globalNamed name = some g) (hh : W.heap[g]? = some (.cells cs t)) (hv : W.var? Tryz.prog name = some vs) : cs = vs := by
  unfold World.var? at hv
  rw [hg] at hv
  simpa [hh] using hv
theorem globW_of {W : World} (hT : Lib.TabIs Tryz.prog W "internal/strconv.uint64pow10" .u64 Lib.pow10Tab) (hs : W.ShapedOpen Tryz.prog) : GlobW Tryz.prog gv W := by
  obtain ⟨cs, hh, _, _⟩ := hs.1 1 (Array.replicate 20 (.int .u64 0)) 318 (of_decide_eq_true (by kernel_rfl)) (by kernel_rfl)
  have hT' : W.var? Tryz.prog "internal/strconv.uint64pow10" = some (Lib.pow10Tab.map fun z => Value.int .u64 z).toArray := hT
  have hc := var_heap g_pow10 hh hT'
  rw [gv_vals] at hc
  subst hc
  intro q hq
  obtain rfl := List.mem_singleton.1 hq
  refine ⟨0, 0, hh, ?_, .inl rfl⟩
  intro x hx
  simp only [List.mem_map] at hx
  obtain ⟨n, _, rfl⟩ := hx
  rfl
def lits : DataW Unit → Array Value
  | .agg ds => (ds.map fun | .lit (.int k n) => Value.int k n | _ => .bool false).toArray
  | _ => #[]
def lits2 : DataW Unit → Array Value
  | .agg ds => (ds.map fun d => (lits d).toList).flatten.toArray
  | _ => #[]
/-- A WORLD FOR THE WITNESS -/
noncomputable def laidWorld (os : Os) : World :=
  let N := (World.settled Tryz.prog os).heap.size
  let w0 := World.holding Tryz.prog os ⟨#[
    .cells #[.string ⟨#[105, 110, 118, 97, 108, 105, 100, 32, 115, 121, 110, 116, 97, 120]⟩] 362, .cells #[.string ⟨#[118, 97, 108, 117, 101, 32, 111, 117, 116, 32, 111, 102, 32, 114, 97, 110, 103, 101]⟩] 362], #[], []⟩
  let put (h : Array Obj) (g : Nat) (cs : Array Value) : Array Obj := h.modify g fun
    | .cells _ t frozen => .cells cs t frozen
    | o => o
  let h0 := put (put w0.heap 2 #[.iface 360 (.pointer (some ⟨N, 0, none⟩))]) 3 #[.iface 360 (.pointer (some ⟨N + 1, 0, none⟩))]
  let h1 := put h0 1 (lits Rows.laid_internal_strconv_uint64pow10)
  let h2 := put h1 4 (lits Rows.laid_math_bits_deBruijn32tab)
  let h3 := put h2 5 (lits Rows.laid_math_bits_deBruijn64tab)
  let h4 := put h3 7 (lits2 Rows.laid_unicode_utf8_acceptRanges)
  let h5 := put h4 6 (lits Rows.laid_unicode_utf8_first)
  { w0 with heap := h5 }
theorem mk_bytes (s : ByteArray) : (⟨s.data.toList.toArray⟩ : ByteArray) = s := by cases s; simp
noncomputable abbrev N0 : Nat := (World.settled Tryz.prog default).heap.size
theorem laid_met (os : Os) (args : Array Value) : laidMet Tryz.prog allLaid ((laidWorld os).forCall (fun _ _ => 0) ⟨#[], args, []⟩).memory :=
  (LaidIn.of_run [4, 5, 1, 7, 3, N0 + 1, 2, N0, 6] 8 (by kernel_rfl) (by kernel_rfl) (by kernel_rfl) (by kernel_rfl)).met
end Go.Proofs.YtongfkckenahnaaGreatDoor
