/- Walks: chart.Each and its iterator; pool.New; pool.Text. -/
import Derived.Test.YtjhgaildbeokkaaGreatDoorGT16
import Derived.Test.YtjhgaildbeokkaaGreatDoorGT21
import Derived.Test.YtjhgaildbeokkaaGreatDoorGT22
namespace Go.Proofs.YtjhgaildbeokkaaGreatDoor
open Go.RowKit Go.Gz Go.Shelf

set_option maxRecDepth 100000
attribute [local go_sem] Oper.semAt_some
theorem each_any (A : Option Addr) (n c : Nat) (w : World) :
    Calls Tryz.prog 107 #[.agg #[.slice A n c]] w fun e w' => e = .returned (.func (.func 179) #[] #[.pointer (some ⟨w.heap.size, 0, none⟩)]) ∧ w' = w.alloc (.cells #[.slice A n c] 29) := by
  go_enter Tryz.func107, Tryz.ntmps107;go_wp2_with fail;go_ret;exact ⟨rfl, rfl⟩
set_option maxHeartbeats 2000000 in
theorem each_all (T : TypeId) (n : Nat) (hn : 1 ≤ n) (L : Items) (hl : L.length ≤ 1000000) (B n₀ : Nat) (A : Option Addr) (c : Nat) (w : World) (hb : w.cell? ⟨B, 0, none⟩ = some (.slice A L.length c)) (hr : Rd w 2 A L.length c (itV L)) (hA : ∀ a, A = some a → 0 < L.length → a.block < n₀) :
    SeqAll Fence.wide n Tryz.prog 179 #[.pointer (some ⟨B, 0, none⟩)] (fun x : Gz.Item => #[.int .u64 (x.1 : Int), .string ⟨x.2.toArray⟩]) (KeepB T n₀ [B]) L T w := by
  intro lp J W hu hJ hT hY h0;have hb1 := hu.cell hb;have hr1 := hr.up hu;refine callsIn_of_wp Tryz.func179 rfl trivial ?_ rfl;simp only [Tryz.ntmps179, List.size_toArray, List.length_cons, List.length_nil, Nat.reduceAdd, Nat.reduceSub, Array.replicate_succ, Array.replicate_zero, List.push_toArray, List.append_toArray, List.nil_append, List.cons_append];gi_wp2
  gi_loopw [8] (fun i wr => ∃ k : Nat, k ≤ L.length ∧ i = .int .i64 k ∧ J k wr ∧ wr.cell? ⟨B, 0, none⟩ = some (.slice A L.length c) ∧ Rd wr 2 A L.length c (itV L))
    (fun i _ => L.length - (intOf i).toNat)
  case atStart => exact ⟨0, by omega, rfl, h0, hb1, hr1⟩
  case round =>
    obtain ⟨k, hk, rfl, hJk, hbk, hrk⟩ := hrel;by_cases hlt : k < L.length
    · have hltI : (k : Int) < (L.length : Int) := by omega
      obtain ⟨rb, ro, rfl, d0, d1⟩ := hrk.item hlt;have YY := Lib.hid (fun W1 => hY k _ W1 (List.getElem?_eq_getElem hlt));generalize L[k] = x at *;obtain ⟨id, tx⟩ := x;have hu2 := (Up.refl wr).alloc (.cells #[.int .u64 (id : Int), .string ⟨tx.toArray⟩] 102);have hq := heap_alloc_new wr (.cells #[.int .u64 (id : Int), .string ⟨tx.toArray⟩] 102);have q0 := blkc hq 0 _ rfl;have q1 := blkc hq 1 _ rfl;have hJ5 := hJ _ _ _ hJk hu2;have HB := Lib.hid (hu2.cell hbk);have HR := Lib.hid (hrk.up hu2);obtain ⟨fn2, tmps2, assign2, body2, hy2, hR2⟩ := YY.out _ hJ5;(try dsimp only at hy2);gi_wp2;refine hR2.mono ?_;rintro e W3 ⟨rfl, hJ3, hk3⟩;have g1 := (hk3.cell ⟨B, 0, none⟩ (.inr (by simp))).trans HB.out;have g2 := HR.out.keep hA hk3.cell;gi_wp2;exact ⟨⟨k + 1, by omega, by go_num, hJ3, g1, g2⟩, by simp [intOf]; omega⟩
    · obtain rfl : k = L.length := by omega
      gi_wp2;go_end0
      exact ⟨⟨_, rfl⟩, hJk⟩
theorem new_any (w : World) :
    Calls Tryz.prog 106 #[] w fun e w' => e = .returned (.pointer (some ⟨w.heap.size, 0, none⟩)) ∧ w' = w.alloc (.cells #[.slice none 0 0, .slice none 0 0, .map none] 303) := by
  go_enter Tryz.func106, Tryz.ntmps106;go_wp2_with fail;go_ret;exact ⟨rfl, rfl⟩
end Go.Proofs.YtjhgaildbeokkaaGreatDoor
