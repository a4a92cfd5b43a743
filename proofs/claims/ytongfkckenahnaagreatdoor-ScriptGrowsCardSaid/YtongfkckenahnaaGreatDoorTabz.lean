/- script.path at every byte. -/
import Derived.Test.YtongfkckenahnaaGreatDoorTaba
import Derived.Test.YtongfkckenahnaaGreatDoorTabb
import Derived.Test.YtongfkckenahnaaGreatDoorTabc
import Derived.Test.YtongfkckenahnaaGreatDoorTabd
import Derived.Test.YtongfkckenahnaaGreatDoorTabe
import Derived.Test.YtongfkckenahnaaGreatDoorTabf
import Derived.Test.YtongfkckenahnaaGreatDoorTabg
import Derived.Test.YtongfkckenahnaaGreatDoorTabh
namespace Go.Proofs.YtongfkckenahnaaGreatDoor
open Go.RowKit Go.Gz
open Go.Ev (GlobW Kept GVar Memo MemoOK ev endsV eqV mapR ofV globH SV HS FP nilR)
set_option maxRecDepth 100000
theorem path_ok (n : Nat) (h : n < 256) : isStr (pathR n) = true := by
  have hn : n < 32 ∨ (32 ≤ n ∧ n < 64) ∨ (64 ≤ n ∧ n < 96) ∨ (96 ≤ n ∧ n < 128) ∨ (128 ≤ n ∧ n < 160) ∨ (160 ≤ n ∧ n < 192) ∨ (192 ≤ n ∧ n < 224) ∨ (224 ≤ n ∧ n < 256) := by omega
  rcases hn with hn | hn | hn | hn | hn | hn | hn | hn
  · exact List.all_eq_true.1 path_oka n (List.mem_range'_1.2 ⟨by omega, by omega⟩)
  · exact List.all_eq_true.1 path_okb n (List.mem_range'_1.2 ⟨by omega, by omega⟩)
  · exact List.all_eq_true.1 path_okc n (List.mem_range'_1.2 ⟨by omega, by omega⟩)
  · exact List.all_eq_true.1 path_okd n (List.mem_range'_1.2 ⟨by omega, by omega⟩)
  · exact List.all_eq_true.1 path_oke n (List.mem_range'_1.2 ⟨by omega, by omega⟩)
  · exact List.all_eq_true.1 path_okf n (List.mem_range'_1.2 ⟨by omega, by omega⟩)
  · exact List.all_eq_true.1 path_okg n (List.mem_range'_1.2 ⟨by omega, by omega⟩)
  · exact List.all_eq_true.1 path_okh n (List.mem_range'_1.2 ⟨by omega, by omega⟩)
theorem path_any (n : Nat) (h : n < 256) (w : World) (hg : GlobW Tryz.prog gv w) : Calls Tryz.prog 11 #[.int .i64 (n : Int)] w fun e w' => e = .returned (.string ⟨(pathT n).toArray⟩) ∧ Up w w' :=
  (known (tb := []) (by simp) (m := ⟨11, [.int .i64 (n : Int)], .string ⟨(pathT n).toArray⟩⟩) (isStr_ends (path_ok n h)) w hg).mono fun _ _ h => ⟨h.1, kept_up h.2⟩
end Go.Proofs.YtongfkckenahnaaGreatDoor
