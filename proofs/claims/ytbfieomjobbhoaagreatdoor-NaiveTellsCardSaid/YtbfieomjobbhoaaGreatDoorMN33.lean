/- Walks: chart.Each and its iterator; pool.New; pool.Text. -/
import Derived.Test.YtbfieomjobbhoaaGreatDoorMN11
import Derived.Test.YtbfieomjobbhoaaGreatDoorMN12
import Derived.Test.YtbfieomjobbhoaaGreatDoorMN29
import Derived.Test.YtbfieomjobbhoaaGreatDoorMN08
namespace Go.Proofs.YtbfieomjobbhoaaGreatDoor
open Go.RowKit Go.Gz Go.Shelf

set_option maxRecDepth 100000
attribute [local go_sem] Oper.semAt_some
theorem each_any (A : Option Addr) (n c : Nat) (w : World) :
    Calls Tryz.prog 110 #[.agg #[.slice A n c]] w fun e w' => e = .returned (.func (.func 169) #[] #[.pointer (some ⟨w.heap.size, 0, none⟩)]) ∧ w' = w.alloc (.cells #[.slice A n c] 33) := by
  go_enter Tryz.func110, Tryz.ntmps110;go_wp2_with fail;go_ret;exact ⟨rfl, rfl⟩
set_option maxHeartbeats 2000000 in
theorem each_all (T : TypeId) (n : Nat) (hn : 1 ≤ n) (L : Items) (hl : L.length ≤ 1000000) (B n₀ : Nat) (A : Option Addr) (c : Nat) (w : World) (hb : w.cell? ⟨B, 0, none⟩ = some (.slice A L.length c)) (hr : Rd w 2 A L.length c (itV L)) (hA : ∀ a, A = some a → 0 < L.length → a.block < n₀) :
    SeqAll Fence.wide n Tryz.prog 169 #[.pointer (some ⟨B, 0, none⟩)] (fun x : Gz.Item => #[.int .u64 (x.1 : Int), .string ⟨x.2.toArray⟩]) (KeepB T n₀ [B]) L T w := by
  intro lp J W hu hJ hT hY h0;have hb1 := hu.cell hb;have hr1 := hr.up hu;refine callsIn_of_wp Tryz.func169 rfl trivial ?_ rfl;simp only [Tryz.ntmps169, List.size_toArray, List.length_cons, List.length_nil, Nat.reduceAdd, Nat.reduceSub, Array.replicate_succ, Array.replicate_zero, List.push_toArray, List.append_toArray, List.nil_append, List.cons_append];gi_wp2
  gi_loopw [8] (fun i wr => ∃ k : Nat, k ≤ L.length ∧ i = .int .i64 k ∧ J k wr ∧ wr.cell? ⟨B, 0, none⟩ = some (.slice A L.length c) ∧ Rd wr 2 A L.length c (itV L))
    (fun i _ => L.length - (intOf i).toNat)
  case atStart => exact ⟨0, by omega, rfl, h0, hb1, hr1⟩
  case round =>
    obtain ⟨k, hk, rfl, hJk, hbk, hrk⟩ := hrel;by_cases hlt : k < L.length
    · have hltI : (k : Int) < (L.length : Int) := by omega
      obtain ⟨rb, ro, rfl, d0, d1⟩ := hrk.item hlt;have YY := Lib.hid (fun W1 => hY k _ W1 (List.getElem?_eq_getElem hlt));generalize L[k] = x at *;obtain ⟨id, tx⟩ := x;have hu2 := (Up.refl wr).alloc (.cells #[.int .u64 (id : Int), .string ⟨tx.toArray⟩] 54);have hq := heap_alloc_new wr (.cells #[.int .u64 (id : Int), .string ⟨tx.toArray⟩] 54);have q0 := blkc hq 0 _ rfl;have q1 := blkc hq 1 _ rfl;have hJ5 := hJ _ _ _ hJk hu2;have HB := Lib.hid (hu2.cell hbk);have HR := Lib.hid (hrk.up hu2);obtain ⟨fn2, tmps2, assign2, body2, hy2, hR2⟩ := YY.out _ hJ5;(try dsimp only at hy2);gi_wp2;refine hR2.mono ?_;rintro e W3 ⟨rfl, hJ3, hk3⟩;have g1 := (hk3.cell ⟨B, 0, none⟩ (.inr (by simp))).trans HB.out;have g2 := HR.out.keep hA hk3.cell;gi_wp2;exact ⟨⟨k + 1, by omega, by go_num, hJ3, g1, g2⟩, by simp [intOf]; omega⟩
    · obtain rfl : k = L.length := by omega
      gi_wp2;go_end0
      exact ⟨⟨_, rfl⟩, hJk⟩
theorem new_any (w : World) :
    Calls Tryz.prog 109 #[] w fun e w' => e = .returned (.pointer (some ⟨w.heap.size, 0, none⟩)) ∧ w' = w.alloc (.cells #[.slice none 0 0, .slice none 0 0, .map none] 278) := by
  go_enter Tryz.func109, Tryz.ntmps109;go_wp2_with fail;go_ret;exact ⟨rfl, rfl⟩
end Go.Proofs.YtbfieomjobbhoaaGreatDoor
/- Walk: merge.run.goes. -/
namespace Go.Proofs.YtbfieomjobbhoaaGreatDoor
open Go.RowKit Go.Gz Go.Shelf

set_option maxRecDepth 100000
set_option maxHeartbeats 4000000 in
theorem goes_any (a b : Ent) (ha : okE a) (hl : lastE a + 1 < 18446744073709551616) (w : World) :
    Calls Tryz.prog 108 #[entA a, entA b] w fun en w' => en = .returned (.bool (goesE a b)) ∧ Up w w' := by
  have LS := fun w => Lib.hid (last_any a ha w);have g0 : goesE a b = (decide (b.id = lastE a + 1) && decide (b.off = a.off) && decide (b.len = a.len)) := rfl;have G0 := Lib.hid g0;clear g0 ha;generalize goesE a b = T at *;generalize lastE a = la at *;obtain ⟨aid, aoff, alen, arun⟩ := a;obtain ⟨id, off, len, run⟩ := b;simp only [entA] at *;have e1 : IntKind.u64.wrap ((la : Int) + 1) = (la : Int) + 1 := IntWalk.u64_in _ (by omega);have n0 := new4 w 202 (.int .u64 aid) (.int .u64 aoff) (.int .u32 alen) (.int .u32 arun);have HU0 := Lib.hid n0.1;have NA := Lib.hid n0.2;have n1 := new4 (w.alloc (.cells #[.int .u64 aid, .int .u64 aoff, .int .u32 alen, .int .u32 arun] 202)) 202 (.int .u64 id) (.int .u64 off) (.int .u32 len) (.int .u32 run);rw [show (w.alloc (.cells #[.int .u64 aid, .int .u64 aoff, .int .u32 alen, .int .u32 arun] 202)).heap.size = w.heap.size + 1 by simp] at n1;have HU1 := Lib.hid n1.1;have NE := Lib.hid n1.2;clear n0 n1;go_enter Tryz.func108, Tryz.ntmps108;go_wp2_with fail;obtain ⟨a0, a1, a2, a3⟩ := NA.out;replace a0 := HU1.out.cell a0;replace a1 := HU1.out.cell a1;replace a2 := HU1.out.cell a2;replace a3 := HU1.out.cell a3;obtain ⟨d0, d1, d2, d3⟩ := NE.out;have HUW := Lib.hid (HU0.out.trans HU1.out);clear NA NE HU0 HU1;generalize hW : (w.alloc _).alloc _ = W at *;have MK := Lib.hid (fun w' (h : Up W w') => (⟨h, h.cell a0, h.cell a1, h.cell a2, h.cell a3, h.cell d0, h.cell d1, h.cell d2, h.cell d3⟩ : Up W w' ∧ w'.cell? ⟨w.heap.size, 0, none⟩ = some (.int .u64 aid) ∧ w'.cell? ⟨w.heap.size, 1, none⟩ = some (.int .u64 aoff) ∧ w'.cell? ⟨w.heap.size, 2, none⟩ = some (.int .u32 alen) ∧ w'.cell? ⟨w.heap.size, 3, none⟩ = some (.int .u32 arun) ∧ w'.cell? ⟨(w.heap.size + 1), 0, none⟩ = some (.int .u64 id) ∧ w'.cell? ⟨(w.heap.size + 1), 1, none⟩ = some (.int .u64 off) ∧ w'.cell? ⟨(w.heap.size + 1), 2, none⟩ = some (.int .u32 len) ∧ w'.cell? ⟨(w.heap.size + 1), 3, none⟩ = some (.int .u32 run)));clear hW a0 a1 a2 a3 d0 d1 d2 d3;by_cases h1 : id = la + 1
  · have b1 : ((id : Int) == (la : Int) + 1) = true := by rw [beq_iff_eq]; omega
    have b1' : decide (id = la + 1) = true := by simp [h1]
    by_cases h2 : off = aoff
    focus
      have b2 : ((off : Int) == (aoff : Int)) = true := by rw [beq_iff_eq]; omega
      have b2' : decide (off = aoff) = true := by simp [h2]
      have b3 : ((len : Int) == (alen : Int)) = decide (len = alen) := by
        by_cases h : len = alen
        · simp [h]
        · rw [decide_eq_false h, beq_eq_false_iff_ne]; omega
      simp only [b1', b2', Bool.true_and] at G0
    rotate_left;focus
      have b2 : ((off : Int) == (aoff : Int)) = false := by rw [beq_eq_false_iff_ne]; omega
      have b2' : decide (off = aoff) = false := by simp [h2]
      simp only [b1', b2', Bool.true_and, Bool.false_and] at G0
    rotate_left;all_goals
      clear h1 h2 b1' b2';refine wp_region_held_drew (S := fun w' => Up W w' ∧ w'.cell? ⟨w.heap.size, 0, none⟩ = some (.int .u64 aid) ∧ w'.cell? ⟨w.heap.size, 1, none⟩ = some (.int .u64 aoff) ∧ w'.cell? ⟨w.heap.size, 2, none⟩ = some (.int .u32 alen) ∧ w'.cell? ⟨w.heap.size, 3, none⟩ = some (.int .u32 arun) ∧ w'.cell? ⟨(w.heap.size + 1), 0, none⟩ = some (.int .u64 id) ∧ w'.cell? ⟨(w.heap.size + 1), 1, none⟩ = some (.int .u64 off) ∧ w'.cell? ⟨(w.heap.size + 1), 2, none⟩ = some (.int .u32 len) ∧ w'.cell? ⟨(w.heap.size + 1), 3, none⟩ = some (.int .u32 run)) (by kernel_rfl) ?_ (fun hHeld => ?_)
      · exact MK.out _ (Up.refl W).drew
      refine tk 0 rfl ?_;(try simp only [Act.put, tz1, tz2, tz3]);refine tk 1 rfl ?_;(try simp only [Act.put, tz1, tz2, tz3]);refine tk 2 rfl ?_;(try simp only [Act.put, tz1, tz2, tz3]);refine tk 3 rfl ?_;(try simp only [Act.put, tz1, tz2, tz3]);refine tk 4 rfl ?_;(try simp only [Act.put, tz1, tz2, tz3]);refine rd1 5 rfl (fun K hK => ?_);go_simp;go_at_call 73;refine (LS _).out.mono ?_;rintro e w1 ⟨rfl, hu1⟩;refine hK.out _ _ ?_ (fun hHeld2 => ?_)
      · exact MK.out _ (((Up.refl W).drew).trans hu1)
      clear hK K;(try simp only [Act.put, tz1, tz2, tz3]);refine tk 6 rfl ?_;(try simp only [Act.put, tz1, tz2, tz3]);refine tk 7 rfl ?_;(try simp only [Act.put, tz1, tz2, tz3]);refine tk 8 rfl ?_;(try simp only [Act.put, tz1, tz2, tz3]);refine tk 9 rfl ?_;(try simp only [Act.put, tz1, tz2, tz3]);refine tk 10 rfl ?_;(try simp only [Act.put, tz1, tz2, tz3]);refine tk 11 rfl ?_;(try simp only [Act.put, tz1, tz2, tz3]);refine tk 12 rfl ?_;(try simp only [Act.put, tz1, tz2, tz3]);refine tk 13 rfl ?_;(try simp only [Act.put, tz1, tz2, tz3]);refine tk 14 rfl ?_;(try simp only [Act.put, tz1, tz2, tz3]);refine tk 15 rfl ?_;(try simp only [Act.put, tz1, tz2, tz3]);refine tk 16 rfl ?_;(try simp only [Act.put, tz1, tz2, tz3]);refine tk 17 rfl ?_;(try simp only [Act.put, tz1, tz2, tz3]);refine tk 18 rfl ?_;(try simp only [Act.put, tz1, tz2, tz3]);refine tk 19 rfl ?_;(try simp only [Act.put, tz1, tz2, tz3]);refine tk 20 rfl ?_;(try simp only [Act.put, tz1, tz2, tz3]);refine tk 21 rfl ?_;(try simp only [Act.put, tz1, tz2, tz3]);refine tk 22 rfl ?_;(try simp only [Act.put, tz1, tz2, tz3]);refine tk 23 rfl ?_;(try simp only [Act.put, tz1, tz2, tz3]);refine tk 24 rfl ?_;(try simp only [Act.put, tz1, tz2, tz3]);refine tk 25 rfl ?_;(try simp only [Act.put, tz1, tz2, tz3]);refine tk 26 rfl ?_;(try simp only [Act.put, tz1, tz2, tz3]);refine wpAnyH_done (by kernel_rfl) ?_ _;go_wp2_with fail;go_ret;exact ⟨ret_bool (by rw [G0.out]), HUW.out.trans (((Up.refl W).drew).trans hu1)⟩
  · have b1 : ((id : Int) == (la : Int) + 1) = false := by rw [beq_eq_false_iff_ne]; omega
    have b1' : decide (id = la + 1) = false := by simp [h1]
    simp only [b1', Bool.false_and] at G0;clear h1 b1';refine wp_region_held_drew (S := fun w' => Up W w' ∧ w'.cell? ⟨w.heap.size, 0, none⟩ = some (.int .u64 aid) ∧ w'.cell? ⟨w.heap.size, 1, none⟩ = some (.int .u64 aoff) ∧ w'.cell? ⟨w.heap.size, 2, none⟩ = some (.int .u32 alen) ∧ w'.cell? ⟨w.heap.size, 3, none⟩ = some (.int .u32 arun) ∧ w'.cell? ⟨(w.heap.size + 1), 0, none⟩ = some (.int .u64 id) ∧ w'.cell? ⟨(w.heap.size + 1), 1, none⟩ = some (.int .u64 off) ∧ w'.cell? ⟨(w.heap.size + 1), 2, none⟩ = some (.int .u32 len) ∧ w'.cell? ⟨(w.heap.size + 1), 3, none⟩ = some (.int .u32 run)) (by kernel_rfl) ?_ (fun hHeld => ?_)
    · exact MK.out _ (Up.refl W).drew
    refine tk 0 rfl ?_;(try simp only [Act.put, tz1, tz2, tz3]);refine tk 1 rfl ?_;(try simp only [Act.put, tz1, tz2, tz3]);refine tk 2 rfl ?_;(try simp only [Act.put, tz1, tz2, tz3]);refine tk 3 rfl ?_;(try simp only [Act.put, tz1, tz2, tz3]);refine tk 4 rfl ?_;(try simp only [Act.put, tz1, tz2, tz3]);refine rd1 5 rfl (fun K hK => ?_);go_simp;go_at_call 73;refine (LS _).out.mono ?_;rintro e w1 ⟨rfl, hu1⟩;refine hK.out _ _ ?_ (fun hHeld2 => ?_)
    · exact MK.out _ (((Up.refl W).drew).trans hu1)
    clear hK K;(try simp only [Act.put, tz1, tz2, tz3]);refine tk 6 rfl ?_;(try simp only [Act.put, tz1, tz2, tz3]);refine tk 7 rfl ?_;(try simp only [Act.put, tz1, tz2, tz3]);refine tk 8 rfl ?_;(try simp only [Act.put, tz1, tz2, tz3]);refine tk 9 rfl ?_;(try simp only [Act.put, tz1, tz2, tz3]);refine tk 10 rfl ?_;(try simp only [Act.put, tz1, tz2, tz3]);refine tk 11 rfl ?_;(try simp only [Act.put, tz1, tz2, tz3]);refine tk 12 rfl ?_;(try simp only [Act.put, tz1, tz2, tz3]);refine tk 13 rfl ?_;(try simp only [Act.put, tz1, tz2, tz3]);refine tk 14 rfl ?_;(try simp only [Act.put, tz1, tz2, tz3]);refine tk 15 rfl ?_;(try simp only [Act.put, tz1, tz2, tz3]);refine tk 16 rfl ?_;(try simp only [Act.put, tz1, tz2, tz3]);refine tk 17 rfl ?_;(try simp only [Act.put, tz1, tz2, tz3]);refine tk 18 rfl ?_;(try simp only [Act.put, tz1, tz2, tz3]);refine tk 19 rfl ?_;(try simp only [Act.put, tz1, tz2, tz3]);refine tk 20 rfl ?_;(try simp only [Act.put, tz1, tz2, tz3]);refine tk 21 rfl ?_;(try simp only [Act.put, tz1, tz2, tz3]);refine tk 22 rfl ?_;(try simp only [Act.put, tz1, tz2, tz3]);refine tk 23 rfl ?_;(try simp only [Act.put, tz1, tz2, tz3]);refine tk 24 rfl ?_;(try simp only [Act.put, tz1, tz2, tz3]);refine tk 25 rfl ?_;(try simp only [Act.put, tz1, tz2, tz3]);refine tk 26 rfl ?_;(try simp only [Act.put, tz1, tz2, tz3]);refine wpAnyH_done (by kernel_rfl) ?_ _;go_wp2_with fail;go_ret;exact ⟨ret_bool (by rw [G0.out]), HUW.out.trans (((Up.refl W).drew).trans hu1)⟩
end Go.Proofs.YtbfieomjobbhoaaGreatDoor
