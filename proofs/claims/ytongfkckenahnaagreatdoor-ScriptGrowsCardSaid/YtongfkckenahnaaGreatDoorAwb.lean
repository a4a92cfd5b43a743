/- The abstract machine at this program: its tables, the package variables it reads, what is known of a call. -/
import Derived.Test.YtongfkckenahnaaGreatDoorInsf
import Derived.Test.YtongfkckenahnaaGreatDoorEvg
namespace Go.Proofs.YtongfkckenahnaaGreatDoor
open Go.Ev
set_option maxRecDepth 100000
noncomputable def tyT : T TypeInfo := T.ofL 12 Tryz.prog.types.toList
noncomputable def fnT : T Func := T.ofL 14 Tryz.prog.funcs.toList
def gv : List GVar := [⟨1, 318, [1, 10, 100, 1000, 10000, 100000, 1000000, 10000000, 100000000, 1000000000, 10000000000, 100000000000, 1000000000000, 10000000000000, 100000000000000, 1000000000000000, 10000000000000000, 100000000000000000, 1000000000000000000, 10000000000000000000].map (.int .u64)⟩]
noncomputable def EI (tb : List Memo) : Env := envI Tryz.prog 9 tyT fnT gv 320 471 tb
theorem un : unnamed Tryz.prog = true := by kernel_rfl
theorem gok : gsOK 9 gv = true := by kernel_rfl
theorem mixO : Tryz.prog.follows .mixedOrders = true := by kernel_rfl
theorem hU : Tryz.prog.underlying 471 ≠ some (.int .u8) := by rw [Tryz.underlying471]; intro h; cases h
theorem hCI : ∀ z, 0 < z → (∃ ti, tyT.get 471 = some ti ∧ ti.size = z) → InsC Tryz.prog 320 471 z := by
  rintro z _ ⟨ti, h1, rfl⟩
  have h2 : tyT.get 471 = some Tryz.t471 := by kernel_rfl
  rw [h2] at h1
  injection h1 with h1
  subst h1
  exact ins_field
theorem known {tb : List Memo} (h : ∀ m ∈ tb, MemoOK Tryz.prog gv m) {m : Memo} (hr : endsV 9 m.v ((ev (EI tb) 100000 1000).c m.f (mapR ofV m.vs) ⟨globH gv, 9⟩).run = true) : MemoOK Tryz.prog gv m := by
  obtain ⟨h1, h2⟩ := envI_ok (ty := tyT) (fn := fnT) (fi := 320) (e := 471) rfl rfl un gok h hU hCI
  exact memo_next h1 rfl mixO h2 gok hr
end Go.Proofs.YtongfkckenahnaaGreatDoor
