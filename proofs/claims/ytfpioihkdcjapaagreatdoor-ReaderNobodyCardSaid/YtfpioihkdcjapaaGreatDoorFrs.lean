/- The frame of rows whose awake the abstract machine evaluates: what a row's list of variables gives; a world that fits it. -/
import Derived.Test.YtfpioihkdcjapaaGreatDoorCards
import Derived.Test.YtfpioihkdcjapaaGreatDoorTie
import Derived.Test.YtfpioihkdcjapaaGreatDoorBase
import Derived.Test.YtfpioihkdcjapaaGreatDoorAwb
import Derived.WalkKit
import Derived.ProofKit
import Derived.OpenShut
import Derived.Deep.DeepHandedRow
import Derived.Deep.DeepWitnessRowRef
import Derived.Stop.LaidErr
import Derived.Lib.LaidTab
import Derived.Lib.LaidIn
import Derived.Lib.SmallJoins
import Derived.ChangeMaps5
import Derived.LaidHandle
import Derived.PinnedBridge
namespace Go.Proofs.YtfpioihkdcjapaaGreatDoor
open Go.ChangeShapes Go.WideShapes Go.ChangeAt Go.RowKit Go.Lib Go.Gz
open Go.ChangeMaps (open_string shut_string)
open Go.Ev (GlobW Kept GVar)

set_option maxRecDepth 100000
theorem own : ownKnob Tryz.prog.godebug = none := by kernel_rfl
theorem up_kept {w w' : World} (h : Kept w w') : Up w w' := ⟨h.os, h.tape, h.output, h.le, h.same⟩
/-- the row's variables: those that are data; the one that is a type's handle -/
def plainLaid : List (String × DataW Unit) := [("math/bits.deBruijn32tab", Rows.laid_math_bits_deBruijn32tab), ("math/bits.deBruijn64tab", Rows.laid_math_bits_deBruijn64tab), ("internal/strconv.uint64pow10", Rows.laid_internal_strconv_uint64pow10), ("unicode/utf8.acceptRanges", Rows.laid_unicode_utf8_acceptRanges), ("strconv.ErrRange", Rows.laid_strconv_ErrRange), ("strconv.ErrSyntax", Rows.laid_strconv_ErrSyntax), ("unicode/utf8.first", Rows.laid_unicode_utf8_first)]
def allLaid : List (String × DataW Unit) := [("math/bits.deBruijn32tab", Rows.laid_math_bits_deBruijn32tab), ("math/bits.deBruijn64tab", Rows.laid_math_bits_deBruijn64tab), ("internal/strconv.uint64pow10", Rows.laid_internal_strconv_uint64pow10), ("unicode/utf8.acceptRanges", Rows.laid_unicode_utf8_acceptRanges), ("errors.errorType", Rows.laid_errors_errorType), ("strconv.ErrRange", Rows.laid_strconv_ErrRange), ("strconv.ErrSyntax", Rows.laid_strconv_ErrSyntax), ("unicode/utf8.first", Rows.laid_unicode_utf8_first)]
theorem laid_two {W : World} (h : laidMetH Tryz.prog allLaid W) : laidMet Tryz.prog plainLaid W ∧ handlesMet Tryz.prog [("errors.errorType", Rows.laid_errors_errorType)] W := h
theorem tab_of_laid {W : World} (h : laidMet Tryz.prog plainLaid W) : Lib.TabIs Tryz.prog W "internal/strconv.uint64pow10" .u64 Lib.pow10Tab :=
  Lib.tabIs_of_head (t := 482) (n := 20) (e := 22) g_pow10 (by kernel_rfl) (by kernel_rfl) (by kernel_rfl) (by kernel_rfl) (by kernel_rfl) (laidMet.tail (laidMet.tail h))
theorem gv_vals : (Lib.pow10Tab.map fun z => Value.int .u64 z) = [1, 10, 100, 1000, 10000, 100000, 1000000, 10000000, 100000000, 1000000000, 10000000000, 100000000000, 1000000000000, 10000000000000, 100000000000000, 1000000000000000, 10000000000000000, 100000000000000000, 1000000000000000000, 10000000000000000000].map (Value.int .u64) := by kernel_rfl
theorem et_g : Tryz.prog.globalNamed "errors.errorType" = some 0 := by kernel_rfl
theorem et_rt : (Tryz.prog.cutTypes.find? (·.1 == "internal/reflectlite.rtype")).map (·.2) = some 356 := by kernel_rfl
theorem et_one : ((List.range Tryz.prog.types.size).filter fun t => Tryz.prog.rowNamed t [101, 114, 114, 111, 114]) = [241] := by kernel_rfl
/-- the variable that holds the type of errors -/
theorem handle_of_laid {W : World} (h : handlesMet Tryz.prog [("errors.errorType", Rows.laid_errors_errorType)] W) : W.var? Tryz.prog "errors.errorType" = some #[.iface 356 (.agg #[typeHandle Tryz.prog 241])] := by
  obtain ⟨name, u, ty, e1, e2, e3, e4, e5⟩ := h _ (List.mem_singleton.2 rfl)
  have en : name = [101, 114, 114, 111, 114] := (Option.some.inj e1).symm
  subst en
  obtain rfl := Option.some.inj (et_rt.symm.trans e2)
  have hm : ty ∈ (List.range Tryz.prog.types.size).filter fun t => Tryz.prog.rowNamed t [101, 114, 114, 111, 114] := List.mem_filter.2 ⟨List.mem_range.2 e3, e4⟩
  rw [et_one] at hm
  obtain rfl := List.mem_singleton.1 hm
  exact e5
theorem var_heap {W : World} {name : String} {g : Nat} {cs vs : Array Value} {t : TypeId} (hg : Tryz.prog.globalNamed name = some g) (hh : W.heap[g]? = some (.cells cs t)) (hv : W.var? Tryz.prog name = some vs) : cs = vs := by
  unfold World.var? at hv
  rw [hg] at hv
  simpa [hh] using hv
theorem globW_of {W : World} (hT : Lib.TabIs Tryz.prog W "internal/strconv.uint64pow10" .u64 Lib.pow10Tab) (hE : W.var? Tryz.prog "errors.errorType" = some #[.iface 356 (.agg #[typeHandle Tryz.prog 241])]) (hs : W.ShapedOpen Tryz.prog) : GlobW Tryz.prog gv W := by
  rw [th_err] at hE
  obtain ⟨cs, hh, _, _⟩ := hs.1 6 (Array.replicate 20 (.int .u64 0)) 482 (of_decide_eq_true (by kernel_rfl)) (by kernel_rfl)
  obtain ⟨ds, hd, _, _⟩ := hs.1 0 #[.nilIface] 302 (of_decide_eq_true (by kernel_rfl)) (by kernel_rfl)
  have hT' : W.var? Tryz.prog "internal/strconv.uint64pow10" = some (Lib.pow10Tab.map fun z => Value.int .u64 z).toArray := hT
  have hc := var_heap g_pow10 hh hT'
  have hc2 := var_heap et_g hd hE
  rw [gv_vals] at hc
  subst hc hc2
  intro q hq
  rcases List.mem_cons.1 hq with rfl | hq
  · refine ⟨0, 0, hh, ?_, .inl rfl⟩
    intro x hx
    simp only [List.mem_map] at hx
    obtain ⟨n, _, rfl⟩ := hx
    rfl
  · obtain rfl := List.mem_singleton.1 hq
    refine ⟨0, 0, hd, ?_, .inl rfl⟩
    intro x hx
    obtain rfl := List.mem_singleton.1 hx
    rfl
def lits : DataW Unit → Array Value
  | .agg ds => (ds.map fun | .lit (.int k n) => Value.int k n | _ => .bool false).toArray
  | _ => #[]
def lits2 : DataW Unit → Array Value
  | .agg ds => (ds.map fun d => (lits d).toList).flatten.toArray
  | _ => #[]
/-- A WORLD FOR THE WITNESS -/
noncomputable def laidWorld (os : Os) : World :=
  let N := (World.settled Tryz.prog os).heap.size
  let w0 := World.holding Tryz.prog os ⟨#[
    .cells #[.string ⟨#[105, 110, 118, 97, 108, 105, 100, 32, 115, 121, 110, 116, 97, 120]⟩] 471, .cells #[.string ⟨#[118, 97, 108, 117, 101, 32, 111, 117, 116, 32, 111, 102, 32, 114, 97, 110, 103, 101]⟩] 471], #[], []⟩
  let put (h : Array Obj) (g : Nat) (cs : Array Value) : Array Obj := h.modify g fun
    | .cells _ t frozen => .cells cs t frozen
    | o => o
  let h0 := put (put w0.heap 4 #[.iface 469 (.pointer (some ⟨N, 0, none⟩))]) 5 #[.iface 469 (.pointer (some ⟨N + 1, 0, none⟩))]
  let h1 := put h0 6 (lits Rows.laid_internal_strconv_uint64pow10)
  let h2 := put h1 7 (lits Rows.laid_math_bits_deBruijn32tab)
  let h3 := put h2 8 (lits Rows.laid_math_bits_deBruijn64tab)
  let h4 := put h3 3 (lits2 Rows.laid_unicode_utf8_acceptRanges)
  let h5 := put h4 2 (lits Rows.laid_unicode_utf8_first)
  let h6 := put h5 0 #[.iface 356 (.agg #[typeHandle Tryz.prog 241])]
  { w0 with heap := h6 }
theorem mk_bytes (s : ByteArray) : (⟨s.data.toList.toArray⟩ : ByteArray) = s := by cases s; simp
noncomputable abbrev N0 : Nat := (World.settled Tryz.prog default).heap.size
theorem laid_met (os : Os) (args : Array Value) : laidMetH Tryz.prog allLaid ((laidWorld os).forCall (fun _ _ => 0) ⟨#[], args, []⟩).memory :=
  laidMetH_of_parts (LaidIn.of_run (P := Tryz.prog) (l := plainLaid) [7, 8, 6, 3, 5, N0 + 1, 4, N0, 2] 8 (by kernel_rfl) (by kernel_rfl) (by kernel_rfl) (by kernel_rfl)).met (by kernel_rfl)
end Go.Proofs.YtfpioihkdcjapaaGreatDoor
