/- The chart of one tile, and its archive. -/
import Derived.Test.YtbfieomjobbhoaaGreatDoorMN42
import Derived.Test.YtbfieomjobbhoaaGreatDoorMN27
import Derived.Test.YtbfieomjobbhoaaGreatDoorMN10
namespace Go.Proofs.YtbfieomjobbhoaaGreatDoor
open Go.RowKit Go.Gz Go.Shelf

set_option maxRecDepth 100000
theorem mark_no {s : Bs} (h : s.contains 92 = false) : MarkOK s := fun i hi => by
  have := List.mem_of_getElem? hi;rw [List.contains_eq_mem] at h;simp [this] at h
theorem word_no {s : Bs} (h : s.contains 110 = false) (h2 : s.contains 102 = false) (h3 : s.contains 116 = false) : WordOK s := fun a w v hc => by
  rw [List.contains_eq_mem] at h h2 h3;rcases hc with ⟨e, _⟩ | ⟨e, _⟩ | ⟨e, _⟩
  · have := List.mem_of_getElem? e; simp [this] at h
  · have := List.mem_of_getElem? e; simp [this] at h2
  · have := List.mem_of_getElem? e; simp [this] at h3
theorem check_no (b : Int) (kind : Nat) {s : Bs} (hs : s.length ≤ 1000000) (h0 : s.contains 92 = false) (h : s.contains 110 = false) (h2 : s.contains 102 = false) (h3 : s.contains 116 = false) (E : Int) (hE : planN b kind s = E) (w : World) (hg : Gl w) :
    Calls Tryz.prog 53 #[.agg #[.int .i64 b, .int .u8 (kind : Int), .string ⟨s.toArray⟩]] w fun e w' => e = .returned (.int .i64 E) ∧ Up w w' := by
  rw [← hE];exact pcheck_any b kind s hs (rval_any s hs (mark_no h0) (word_no h h2 h3) (numOK s hs) 4) w hg
def L1 : Items := [(0, [120])]
def T1 : Bs := (pressV L1 512 0 [123, 125]).2
def Of1 (w : World) (e : Ending) (w' : World) : Prop := ∃ A c, e = .returned (.tuple #[.agg #[.slice A 1 c], .int .i64 0]) ∧ Rd w' 2 A 1 c (itV L1) ∧ Up w w'
end Go.Proofs.YtbfieomjobbhoaaGreatDoor
