/- What script.Read tells. -/
import Derived.Test.YtongfkckenahnaaGreatDoorTab
import Derived.Test.YtongfkckenahnaaGreatDoorPscr
namespace Go.Proofs.YtongfkckenahnaaGreatDoor
open Go.RowKit Go.Gz
set_option maxRecDepth 100000
/-- a slice of cells -/
def SlR (w : World) (B : Option Addr) (xs : List Value) : Prop := xs = [] ∨ ∃ g, B = some ⟨g, 0, none⟩ ∧ ∀ j v, xs[j]? = some v → w.cell? ⟨g, j, none⟩ = some v
theorem SlR.up {w w' : World} {B : Option Addr} {xs : List Value} (h : SlR w B xs) (hu : Up w w') : SlR w' B xs := by
  rcases h with h | ⟨g, h1, h2⟩
  · exact .inl h
  · exact .inr ⟨g, h1, fun j v hj => hu.cell (h2 j v hj)⟩
/-- what script.Read tells of bytes -/
def ReadE (l : Bs) (w : World) (e : Ending) (w' : World) : Prop := ∃ A c B d xs, e = .returned (.agg #[.slice A (itmN l) c, .int .i64 (retV l : Int), .int .i64 (mosV l : Int), .slice B (plyV l).length d]) ∧ StX (plyV l) xs ∧ SlR w' B xs ∧ Up w w'
end Go.Proofs.YtongfkckenahnaaGreatDoor
