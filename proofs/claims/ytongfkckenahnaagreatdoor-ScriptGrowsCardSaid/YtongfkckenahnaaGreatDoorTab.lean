/- script.path at every byte, by the machine: what it tells. -/
import Derived.Test.YtongfkckenahnaaGreatDoorKup
namespace Go.Proofs.YtongfkckenahnaaGreatDoor
open Go.RowKit Go.Gz
open Go.Ev (GlobW Kept GVar Memo MemoOK ev endsV eqV mapR ofV globH SV HS FP nilR)
set_option maxRecDepth 100000
noncomputable def strO (r : Option (SV × HS × FP)) : Bs := match r with
  | some (.str l, _, _) => l
  | _ => []
/-- it tells a text, and turns nothing -/
noncomputable def isStr (r : Option (SV × HS × FP)) : Bool := match r with
  | some (.str _, s, p) => nilR (FP.wrs 9 s.c p [])
  | _ => false
theorem isStr_ends {r : Option (SV × HS × FP)} (h : isStr r = true) : endsV 9 (.string ⟨(strO r).toArray⟩) r = true := by
  unfold isStr at h
  split at h
  · rename_i l s p
    show (eqV 5 (.str l) (.string ⟨l.toArray⟩) && nilR (FP.wrs 9 s.c p [])) = true
    rw [h]
    simp [eqV]
  · cases h
noncomputable def pathR (n : Nat) : Option (SV × HS × FP) := ((ev (EI []) 100000 1000).c 11 (mapR ofV [.int .i64 (n : Int)]) ⟨globH gv, 9⟩).run
/-- the path of a byte -/
noncomputable def pathT (n : Nat) : Bs := strO (pathR n)
/-- a list of steps as cells: their paths, and so many faults -/
def StX (P : List (Nat × Nat)) (xs : List Value) : Prop := xs.length = 2 * P.length ∧ ∀ i (h : i < P.length), xs[2 * i]? = some (.string ⟨(pathT P[i].1).toArray⟩) ∧ ∃ F c, xs[2 * i + 1]? = some (.slice F P[i].2 c)
theorem stX_nil : StX [] [] := ⟨rfl, fun i h => by simp at h⟩
theorem stX_snoc {P : List (Nat × Nat)} {xs : List Value} (h : StX P xs) (a b : Nat) (F : Option Addr) (c : Nat) : StX (P ++ [(a, b)]) (xs ++ [.string ⟨(pathT a).toArray⟩, .slice F b c]) := by
  refine ⟨by rw [List.length_append, List.length_append, h.1]; simp; omega, fun i hi => ?_⟩
  rw [List.length_append] at hi
  by_cases he : i < P.length
  · obtain ⟨h1, F', c', h2⟩ := h.2 i he
    have hl := h.1
    rw [List.getElem?_append_left (by omega), List.getElem?_append_left (by omega), List.getElem_append_left he]
    exact ⟨h1, F', c', h2⟩
  · have e : i = P.length := by simp at hi; omega
    subst e
    have hl := h.1
    rw [List.getElem?_append_right (by omega), List.getElem?_append_right (by omega), hl]
    simp
end Go.Proofs.YtongfkckenahnaaGreatDoor
