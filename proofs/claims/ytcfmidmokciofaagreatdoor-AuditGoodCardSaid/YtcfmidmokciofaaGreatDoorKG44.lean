/- The chart of one tile, and its archive. -/
import Derived.Test.YtcfmidmokciofaaGreatDoorKG29
import Derived.Test.YtcfmidmokciofaaGreatDoorKG43
import Derived.Test.YtcfmidmokciofaaGreatDoorKG07
namespace Go.Proofs.YtcfmidmokciofaaGreatDoor
open Go.RowKit Go.Gz Go.Shelf

set_option maxRecDepth 100000
theorem mark_no {s : Bs} (h : s.contains 92 = false) : MarkOK s := fun i hi => by
  have := List.mem_of_getElem? hi;rw [List.contains_eq_mem] at h;simp [this] at h
theorem word_no {s : Bs} (h : s.contains 110 = false) (h2 : s.contains 102 = false) (h3 : s.contains 116 = false) : WordOK s := fun a w v hc => by
  rw [List.contains_eq_mem] at h h2 h3;rcases hc with ⟨e, _⟩ | ⟨e, _⟩ | ⟨e, _⟩
  · have := List.mem_of_getElem? e; simp [this] at h
  · have := List.mem_of_getElem? e; simp [this] at h2
  · have := List.mem_of_getElem? e; simp [this] at h3
theorem check_no (b : Int) (kind : Nat) {s : Bs} (hs : s.length ≤ 1000000) (h0 : s.contains 92 = false) (h : s.contains 110 = false) (h2 : s.contains 102 = false) (h3 : s.contains 116 = false) (E : Int) (hE : planN b kind s = E) (w : World) (hg : Gl w) :
    Calls Tryz.prog 22 #[.agg #[.int .i64 b, .int .u8 (kind : Int), .string ⟨s.toArray⟩]] w fun e w' => e = .returned (.int .i64 E) ∧ Up w w' := by
  rw [← hE];exact pcheck_any b kind s hs (rval_any s hs (mark_no h0) (word_no h h2 h3) (numOK s hs) 4) w hg
def L1 : Items := [(0, [120])]
theorem good1 : Gz.Good L1 := ⟨by intro i j hi hj h; simp [L1] at hi hj; omega, by decide, by decide, by decide, by decide⟩
theorem srt1 : Srt L1 := good1.srt
theorem fit1 : Fit L1 := good_fit good1
def T1 : Bs := (pressV L1 512 0 [123, 125]).2
theorem t1_len : T1.length = 135 := by decide +kernel
theorem t1_end : T1.drop 127 = [1, 0, 1, 1, 1, 123, 125, 120] := by decide +kernel
def Of1 (w : World) (e : Ending) (w' : World) : Prop := ∃ A c, e = .returned (.tuple #[.agg #[.slice A 1 c], .int .i64 0]) ∧ Rd w' 2 A 1 c (itV L1) ∧ Up w w'
theorem of1_any (b : Nat) (w : World) (h : w.heap[b]? = some (.cells #[.int .u64 0, .string ⟨#[120]⟩] 59 (0, 0))) :
    Calls Tryz.prog 19 #[.slice (some ⟨b, 0, none⟩) 1 1] w (Of1 w) := by
  refine (of_any L1 fit1 (by decide) (some ⟨b, 0, none⟩) 1 w ?_).mono ?_
  · exact ⟨rfl, by decide, by unfold maxLen; omega, fun h => by (cases h), fun _ => ⟨b, 0, rfl, fun j u hj => by
      rw [cell_of_row w b (0 + j) _ _ (0, 0) h, Nat.zero_add];simpa [itV, L1] using hj⟩⟩
  · rintro e w' ⟨M, hp, hs, A, c, he, hr, hu⟩;obtain rfl := srt_perm srt1 hs hp;exact ⟨A, c, he, hr, hu⟩
end Go.Proofs.YtcfmidmokciofaaGreatDoor
