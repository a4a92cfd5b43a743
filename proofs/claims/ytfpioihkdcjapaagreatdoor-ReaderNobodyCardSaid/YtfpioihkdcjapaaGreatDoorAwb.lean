/- The abstract machine at this program: its tables, the package variables it reads, what is known of a call. -/
import Derived.Test.YtfpioihkdcjapaaGreatDoorInsf
import Derived.Test.YtfpioihkdcjapaaGreatDoorEvg
namespace Go.Proofs.YtfpioihkdcjapaaGreatDoor
open Go.Ev
set_option maxRecDepth 100000
noncomputable def tyT : T TypeInfo := T.ofL 12 Tryz.prog.types.toList
noncomputable def fnT : T Func := T.ofL 14 Tryz.prog.funcs.toList
def gv : List GVar := [⟨6, 482, [1, 10, 100, 1000, 10000, 100000, 1000000, 10000000, 100000000, 1000000000, 10000000000, 100000000000, 1000000000000, 10000000000000, 100000000000000, 1000000000000000, 10000000000000000, 100000000000000000, 1000000000000000000, 10000000000000000000].map (.int .u64)⟩, ⟨0, 302, [.iface 356 (.agg #[.pointer (some ⟨9, 241, none⟩)])]⟩]
noncomputable def EI (tb : List Memo) : Env := envI Tryz.prog 9 tyT fnT gv 225 348 tb
theorem th_err : typeHandle Tryz.prog 241 = .pointer (some ⟨9, 241, none⟩) := by kernel_rfl
theorem un : unnamed Tryz.prog = true := by kernel_rfl
theorem gok : gsOK 9 gv = true := by kernel_rfl
theorem mixO : Tryz.prog.follows .mixedOrders = true := by kernel_rfl
theorem hU : Tryz.prog.underlying 348 ≠ some (.int .u8) := by rw [Tryz.underlying348]; intro h; cases h
theorem hCI : ∀ z, 0 < z → (∃ ti, tyT.get 348 = some ti ∧ ti.size = z) → InsC Tryz.prog 225 348 z := by
  rintro z _ ⟨ti, h1, rfl⟩
  have h2 : tyT.get 348 = some Tryz.t348 := by kernel_rfl
  rw [h2] at h1
  injection h1 with h1
  subst h1
  exact ins_field
theorem known {tb : List Memo} (h : ∀ m ∈ tb, MemoOK Tryz.prog gv m) {m : Memo} (hr : endsV 9 m.v ((ev (EI tb) 100000 1000).c m.f (mapR ofV m.vs) ⟨globH gv, 9⟩).run = true) : MemoOK Tryz.prog gv m := by
  obtain ⟨h1, h2⟩ := envI_ok (ty := tyT) (fn := fnT) (fi := 225) (e := 348) rfl rfl un gok h hU hCI
  exact memo_next h1 rfl mixO h2 gok hr
end Go.Proofs.YtfpioihkdcjapaaGreatDoor
