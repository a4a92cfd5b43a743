/- The chart of one tile, and its archive. -/
import Derived.Test.YtcfmidmokciofaaGreatDoorKR26
import Derived.Test.YtcfmidmokciofaaGreatDoorKR42
import Derived.Test.YtcfmidmokciofaaGreatDoorKR04
namespace Go.Proofs.YtcfmidmokciofaaGreatDoor
open Go.RowKit Go.Gz Go.Shelf

set_option maxRecDepth 100000
def L1 : Items := [(0, [120])]
theorem good1 : Gz.Good L1 := ⟨by intro i j hi hj h; simp [L1] at hi hj; omega, by decide, by decide, by decide, by decide⟩
theorem srt1 : Srt L1 := good1.srt
theorem fit1 : Fit L1 := good_fit good1
def T1 : Bs := (pressV L1 512 0 [123, 125]).2
def Of1 (w : World) (e : Ending) (w' : World) : Prop := ∃ A c, e = .returned (.tuple #[.agg #[.slice A 1 c], .int .i64 0]) ∧ Rd w' 2 A 1 c (itV L1) ∧ Up w w'
theorem of1_any (b : Nat) (w : World) (h : w.heap[b]? = some (.cells #[.int .u64 0, .string ⟨#[120]⟩] 59 (0, 0))) :
    Calls Tryz.prog 19 #[.slice (some ⟨b, 0, none⟩) 1 1] w (Of1 w) := by
  refine (of_any L1 fit1 (by decide) (some ⟨b, 0, none⟩) 1 w ?_).mono ?_
  · exact ⟨rfl, by decide, by unfold maxLen; omega, fun h => by (cases h), fun _ => ⟨b, 0, rfl, fun j u hj => by
      rw [cell_of_row w b (0 + j) _ _ (0, 0) h, Nat.zero_add];simpa [itV, L1] using hj⟩⟩
  · rintro e w' ⟨M, hp, hs, A, c, he, hr, hu⟩;obtain rfl := srt_perm srt1 hs hp;exact ⟨A, c, he, hr, hu⟩
end Go.Proofs.YtcfmidmokciofaaGreatDoor
