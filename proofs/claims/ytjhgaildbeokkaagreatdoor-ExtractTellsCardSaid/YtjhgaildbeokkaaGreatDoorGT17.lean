/- Walk: the reference's tile of an identifier. -/
import Derived.Test.YtjhgaildbeokkaaGreatDoorGT13
import Derived.Test.YtjhgaildbeokkaaGreatDoorGT16
namespace Go.Proofs.YtjhgaildbeokkaaGreatDoor
open Go.RowKit Go.Gz Go.Shelf

set_option maxRecDepth 100000
set_option maxHeartbeats 4000000 in
theorem rof_any (id : Nat) (h : id < 6004799503160661) (w : World) :
    Calls Tryz.prog 89 #[.int .u64 (id : Int)] w fun e w' => e = .returned (.tuple #[.agg #[.int .i64 (zoomN id : Int), .int .i64 ((tileXY id).1 : Int), .int .i64 ((tileXY id).2 : Int)], .int .i64 0]) ∧ Up w w' := by
  have Z := fun w => Lib.hid (rzoom_any id h w);have hz := zoomN_le h;have hzb := zoomN_base h;have B := fun w => Lib.hid (rbase_any (zoomN id) (by omega) w);have PT := fun w => Lib.hid (rPoint_any (zoomN id) (id - baseN (zoomN id)) hz (by omega) w);unfold tileXY;have hsub : IntKind.u64.wrap ((id : Int) - (baseN (zoomN id) : Int)) = ((id - baseN (zoomN id) : Nat) : Int) := by rw [IntWalk.u64_in _ (by omega)]; omega
  generalize unhil (zoomN id) (id - baseN (zoomN id)) = U at *;generalize id - baseN (zoomN id) = d at *;generalize zoomN id = n at *;generalize baseN n = x at *;clear h hzb;go_enter Tryz.func89, Tryz.ntmps89;go_wp2_with (first | (go_at_call 92; refine (Z _).out.mono ?_; rintro e w1 ⟨rfl, rfl⟩) | (go_at_call 161; refine (B _).out.mono ?_; rintro e w1 ⟨rfl, rfl⟩) | (go_at_call 162; refine (PT _).out.mono ?_; rintro e w1 ⟨rfl, rfl⟩))
  have hq := heap_alloc_new w (.cells #[.int .i64 (n : Int), .int .i64 (U.1 : Int), .int .i64 (U.2 : Int)] 176);have k0 := blkc hq 0 (.int .i64 (n : Int)) rfl;have k1 := blkc hq 1 (.int .i64 (U.1 : Int)) rfl;have k2 := blkc hq 2 (.int .i64 (U.2 : Int)) rfl;refine bodyPost_ret (v := .tuple #[.agg #[.int .i64 (n : Int), .int .i64 (U.1 : Int), .int .i64 (U.2 : Int)], .int .i64 0]) (by simp [results, Tryz.results89, go_sem, k0, k1, k2]) rfl ⟨rfl, (Up.refl w).alloc _⟩
end Go.Proofs.YtjhgaildbeokkaaGreatDoor
