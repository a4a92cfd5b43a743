/- Walks: dirs.next, number, numbers, Size, Encode. -/
import Derived.Test.YtbfieomjobbhoaaGreatDoorMN07
import Derived.Test.YtbfieomjobbhoaaGreatDoorMN09
import Derived.Test.YtbfieomjobbhoaaGreatDoorMN01
import Derived.Test.YtbfieomjobbhoaaGreatDoorMN04
namespace Go.Proofs.YtbfieomjobbhoaaGreatDoor
open Go.RowKit Go.Gz Go.Shelf

set_option maxRecDepth 100000
attribute [local go_sem] Oper.semAt_some
theorem next_any (e : Ent) (h : e.off + e.len ≤ 1099511627776) (w : World) :
    Calls Tryz.prog 127 #[entA e] w fun en w' => en = .returned (.int .u64 ((e.off + e.len : Nat) : Int)) ∧ Up w w' := by
  obtain ⟨id, off, len, run⟩ := e;simp only [entA] at *;have e1 : IntKind.u64.wrap ((off : Int) + (len : Int)) = (off : Int) + (len : Int) := IntWalk.u64_in _ (by omega);go_enter Tryz.func127, Tryz.ntmps127;go_wp2_with fail;go_ret;exact ⟨ret_int (by omega), (Up.refl w).alloc _⟩
set_option maxHeartbeats 2000000 in
theorem number_any (c i : Nat) (hc : c < 4) (hi : i ≤ 4096) (a e : Ent) (ha : a.off + a.len ≤ 1099511627776) (hae : a.id ≤ e.id) (he : okE e) (hc2 : chkE e = 0) (w : World) :
    Calls Tryz.prog 177 #[.int .i64 c, .int .i64 i, entA a, entA e] w fun en w' => en = .returned (.int .u64 (numC c i a e : Nat)) ∧ Up w w' := by
  have NX := fun w => Lib.hid (next_any a ha w);have hoff := (chk_ok hc2).2.2;clear hc2;have h0 : numC c i a e = if c = 0 then e.id - a.id else if c = 1 then e.run else if c = 2 then e.len else if 0 < i ∧ e.off = a.off + a.len then 0 else e.off + 1 := rfl
  generalize numC c i a e = v at *;generalize a.off + a.len = na at *;obtain ⟨aid, aoff, alen, arun⟩ := a;obtain ⟨id, off, len, run⟩ := e;obtain ⟨h1, h2, h3, h4⟩ := he;simp only [entA] at *;have H0 := Lib.hid h0;clear h0;have n0 := new4 w 84 (.int .u64 aid) (.int .u64 aoff) (.int .u32 alen) (.int .u32 arun);have HU0 := Lib.hid n0.1;have NA := Lib.hid n0.2;have n1 := new4 (w.alloc (.cells #[.int .u64 aid, .int .u64 aoff, .int .u32 alen, .int .u32 arun] 84)) 84 (.int .u64 id) (.int .u64 off) (.int .u32 len) (.int .u32 run);rw [show (w.alloc (.cells #[.int .u64 aid, .int .u64 aoff, .int .u32 alen, .int .u32 arun] 84)).heap.size = w.heap.size + 1 by simp] at n1;have HU1 := Lib.hid n1.1;have NE := Lib.hid n1.2;clear n0 n1;by_cases c0 : c = 0
  · subst c0;have e1 : IntKind.u64.wrap ((id : Int) - (aid : Int)) = (id : Int) - (aid : Int) := IntWalk.u64_in _ (by omega);have E := H0.out;rw [if_pos rfl] at E;have EE := Lib.hid E;clear E H0;go_enter Tryz.func177, Tryz.ntmps177;go_wp2_with fail;go_ret;exact ⟨ret_int (by rw [EE.out]; omega), HU0.out.trans HU1.out⟩
  by_cases c1 : c = 1
  · subst c1;have E := H0.out;rw [if_neg (by omega), if_pos rfl] at E;have EE := Lib.hid E;clear E H0 c0;go_enter Tryz.func177, Tryz.ntmps177;go_wp2_with fail;go_ret;exact ⟨ret_int (by rw [EE.out]), HU0.out.trans HU1.out⟩
  by_cases c2 : c = 2
  · subst c2;have E := H0.out;rw [if_neg (by omega), if_neg (by omega), if_pos rfl] at E;have EE := Lib.hid E;clear E H0 c0 c1;go_enter Tryz.func177, Tryz.ntmps177;go_wp2_with fail;go_ret;exact ⟨ret_int (by rw [EE.out]), HU0.out.trans HU1.out⟩
  obtain rfl : c = 3 := by omega
  have E := H0.out;rw [if_neg (by omega), if_neg (by omega), if_neg (by omega)] at E;have EE := Lib.hid E;clear E H0 c0 c1 c2;have e1 : IntKind.u64.wrap ((off : Int) + 1) = (off : Int) + 1 := IntWalk.u64_in _ (by omega);by_cases hi0 : 0 < i
  · have hiI : (0 : Int) < (i : Int) := by omega
    by_cases ho : off = na
    · have E2 := EE.out;rw [if_pos ⟨hi0, ho⟩] at E2;have E3 := Lib.hid E2;subst ho;clear E2 EE;go_enter Tryz.func177, Tryz.ntmps177;go_wp2_with fail;obtain ⟨a0, a1, a2, a3⟩ := NA.out;replace a0 := HU1.out.cell a0;replace a1 := HU1.out.cell a1;replace a2 := HU1.out.cell a2;replace a3 := HU1.out.cell a3;obtain ⟨d0, d1, d2, d3⟩ := NE.out;have HUW := Lib.hid (HU0.out.trans HU1.out);clear NA NE HU0 HU1;generalize hW : (w.alloc _).alloc _ = W at *;have MK := Lib.hid (fun w' (h : Up W w') => (⟨h, h.cell a0, h.cell a1, h.cell a2, h.cell a3, h.cell d0, h.cell d1, h.cell d2, h.cell d3⟩ : Up W w' ∧ w'.cell? ⟨w.heap.size, 0, none⟩ = some (.int .u64 aid) ∧ w'.cell? ⟨w.heap.size, 1, none⟩ = some (.int .u64 aoff) ∧ w'.cell? ⟨w.heap.size, 2, none⟩ = some (.int .u32 alen) ∧ w'.cell? ⟨w.heap.size, 3, none⟩ = some (.int .u32 arun) ∧ w'.cell? ⟨(w.heap.size + 1), 0, none⟩ = some (.int .u64 id) ∧ w'.cell? ⟨(w.heap.size + 1), 1, none⟩ = some (.int .u64 off) ∧ w'.cell? ⟨(w.heap.size + 1), 2, none⟩ = some (.int .u32 len) ∧ w'.cell? ⟨(w.heap.size + 1), 3, none⟩ = some (.int .u32 run)));clear hW
      go_region_held3 (fun w' => Up W w' ∧ w'.cell? ⟨w.heap.size, 0, none⟩ = some (.int .u64 aid) ∧ w'.cell? ⟨w.heap.size, 1, none⟩ = some (.int .u64 aoff) ∧ w'.cell? ⟨w.heap.size, 2, none⟩ = some (.int .u32 alen) ∧ w'.cell? ⟨w.heap.size, 3, none⟩ = some (.int .u32 arun) ∧ w'.cell? ⟨(w.heap.size + 1), 0, none⟩ = some (.int .u64 id) ∧ w'.cell? ⟨(w.heap.size + 1), 1, none⟩ = some (.int .u64 off) ∧ w'.cell? ⟨(w.heap.size + 1), 2, none⟩ = some (.int .u32 len) ∧ w'.cell? ⟨(w.heap.size + 1), 3, none⟩ = some (.int .u32 run))
        (first
          | assumption
          | exact MK.out _ (Up.refl _)
          | exact MK.out _ (Up.refl _).drew
          | exact MK.out _ (Up.trans (And.left (by assumption)) (by assumption))
          | exact MK.out _ (Up.alloc (And.left (by assumption)) _)
          | exact MK.out _ (Up.trans (Up.alloc (And.left (by assumption)) _) (by assumption)))
        (first
          | (go_at_call 127; refine (NX _).out.mono ?_; rintro e w1 ⟨rfl, hu1⟩))
      all_goals
        obtain ⟨su, s0, s1, s2, s3, t0, t1, t2, t3⟩ : Up W w1 ∧ w1.cell? ⟨w.heap.size, 0, none⟩ = some (.int .u64 aid) ∧ w1.cell? ⟨w.heap.size, 1, none⟩ = some (.int .u64 aoff) ∧ w1.cell? ⟨w.heap.size, 2, none⟩ = some (.int .u32 alen) ∧ w1.cell? ⟨w.heap.size, 3, none⟩ = some (.int .u32 arun) ∧ w1.cell? ⟨(w.heap.size + 1), 0, none⟩ = some (.int .u64 id) ∧ w1.cell? ⟨(w.heap.size + 1), 1, none⟩ = some (.int .u64 off) ∧ w1.cell? ⟨(w.heap.size + 1), 2, none⟩ = some (.int .u32 len) ∧ w1.cell? ⟨(w.heap.size + 1), 3, none⟩ = some (.int .u32 run) := by assumption
        go_wp2_with fail;go_ret;exact ⟨ret_int (by rw [E3.out]; rfl), HUW.out.trans su⟩
    · have E2 := EE.out;rw [if_neg (by omega)] at E2;have E3 := Lib.hid E2;have hb : ((off : Int) == (na : Int)) = false := by rw [beq_eq_false_iff_ne]; omega
      clear E2 EE ho;go_enter Tryz.func177, Tryz.ntmps177;go_wp2_with fail;obtain ⟨a0, a1, a2, a3⟩ := NA.out;replace a0 := HU1.out.cell a0;replace a1 := HU1.out.cell a1;replace a2 := HU1.out.cell a2;replace a3 := HU1.out.cell a3;obtain ⟨d0, d1, d2, d3⟩ := NE.out;have HUW := Lib.hid (HU0.out.trans HU1.out);clear NA NE HU0 HU1;generalize hW : (w.alloc _).alloc _ = W at *;have MK := Lib.hid (fun w' (h : Up W w') => (⟨h, h.cell a0, h.cell a1, h.cell a2, h.cell a3, h.cell d0, h.cell d1, h.cell d2, h.cell d3⟩ : Up W w' ∧ w'.cell? ⟨w.heap.size, 0, none⟩ = some (.int .u64 aid) ∧ w'.cell? ⟨w.heap.size, 1, none⟩ = some (.int .u64 aoff) ∧ w'.cell? ⟨w.heap.size, 2, none⟩ = some (.int .u32 alen) ∧ w'.cell? ⟨w.heap.size, 3, none⟩ = some (.int .u32 arun) ∧ w'.cell? ⟨(w.heap.size + 1), 0, none⟩ = some (.int .u64 id) ∧ w'.cell? ⟨(w.heap.size + 1), 1, none⟩ = some (.int .u64 off) ∧ w'.cell? ⟨(w.heap.size + 1), 2, none⟩ = some (.int .u32 len) ∧ w'.cell? ⟨(w.heap.size + 1), 3, none⟩ = some (.int .u32 run)));clear hW
      go_region_held3 (fun w' => Up W w' ∧ w'.cell? ⟨w.heap.size, 0, none⟩ = some (.int .u64 aid) ∧ w'.cell? ⟨w.heap.size, 1, none⟩ = some (.int .u64 aoff) ∧ w'.cell? ⟨w.heap.size, 2, none⟩ = some (.int .u32 alen) ∧ w'.cell? ⟨w.heap.size, 3, none⟩ = some (.int .u32 arun) ∧ w'.cell? ⟨(w.heap.size + 1), 0, none⟩ = some (.int .u64 id) ∧ w'.cell? ⟨(w.heap.size + 1), 1, none⟩ = some (.int .u64 off) ∧ w'.cell? ⟨(w.heap.size + 1), 2, none⟩ = some (.int .u32 len) ∧ w'.cell? ⟨(w.heap.size + 1), 3, none⟩ = some (.int .u32 run))
        (first
          | assumption
          | exact MK.out _ (Up.refl _)
          | exact MK.out _ (Up.refl _).drew
          | exact MK.out _ (Up.trans (And.left (by assumption)) (by assumption))
          | exact MK.out _ (Up.alloc (And.left (by assumption)) _)
          | exact MK.out _ (Up.trans (Up.alloc (And.left (by assumption)) _) (by assumption)))
        (first
          | (go_at_call 127; refine (NX _).out.mono ?_; rintro e w1 ⟨rfl, hu1⟩))
      all_goals
        obtain ⟨su, s0, s1, s2, s3, t0, t1, t2, t3⟩ : Up W w1 ∧ w1.cell? ⟨w.heap.size, 0, none⟩ = some (.int .u64 aid) ∧ w1.cell? ⟨w.heap.size, 1, none⟩ = some (.int .u64 aoff) ∧ w1.cell? ⟨w.heap.size, 2, none⟩ = some (.int .u32 alen) ∧ w1.cell? ⟨w.heap.size, 3, none⟩ = some (.int .u32 arun) ∧ w1.cell? ⟨(w.heap.size + 1), 0, none⟩ = some (.int .u64 id) ∧ w1.cell? ⟨(w.heap.size + 1), 1, none⟩ = some (.int .u64 off) ∧ w1.cell? ⟨(w.heap.size + 1), 2, none⟩ = some (.int .u32 len) ∧ w1.cell? ⟨(w.heap.size + 1), 3, none⟩ = some (.int .u32 run) := by assumption
        go_wp2_with fail;go_ret;exact ⟨ret_int (by rw [E3.out]; omega), HUW.out.trans su⟩
  · have E2 := EE.out;rw [if_neg (by omega)] at E2;have E3 := Lib.hid E2;obtain rfl : i = 0 := by omega
    clear E2 EE hi0;go_enter Tryz.func177, Tryz.ntmps177;go_wp2_with fail;obtain ⟨d0, d1, d2, d3⟩ := NE.out;have HUW := Lib.hid (HU0.out.trans HU1.out);clear NA NE HU0 HU1;generalize hW : (w.alloc _).alloc _ = W at *;clear hW;refine wp_region_held_drew (S := fun w' => Up W w') (by kernel_rfl) ?_ (fun hHeld => ?_)
    · exact (Up.refl W).drew
    refine tk 0 rfl ?_;(try simp only [Act.put, tz1, tz2, tz3]);refine tk 1 rfl ?_;(try simp only [Act.put, tz1, tz2, tz3]);refine tk 2 rfl ?_;(try simp only [Act.put, tz1, tz2, tz3]);refine tk 3 rfl ?_;(try simp only [Act.put, tz1, tz2, tz3]);refine tk 4 rfl ?_;(try simp only [Act.put, tz1, tz2, tz3]);refine tk 5 rfl ?_;(try simp only [Act.put, tz1, tz2, tz3]);refine tk 6 rfl ?_;(try simp only [Act.put, tz1, tz2, tz3]);refine tk 7 rfl ?_;(try simp only [Act.put, tz1, tz2, tz3]);refine tk 8 rfl ?_;(try simp only [Act.put, tz1, tz2, tz3]);refine tk 9 rfl ?_;(try simp only [Act.put, tz1, tz2, tz3]);refine wpAnyH_done (by kernel_rfl) ?_ _;have d1' : W.drew.cell? ⟨w.heap.size + 1, 1, none⟩ = some (.int .u64 off) := ((Up.refl W).drew).cell d1;go_wp2_with fail;go_ret;exact ⟨ret_int (by rw [E3.out]; omega), HUW.out.trans (Up.refl W).drew⟩
end Go.Proofs.YtbfieomjobbhoaaGreatDoor
/- Walks: dirs.numbers: the iterator over all numbers of a directory. -/
namespace Go.Gz
def prevE (l : Ents) (i : Nat) : Ent := if i = 0 then zE else l.getD (i - 1) zE
theorem colN_get (c : Nat) (l : Ents) : ∀ (j : Nat) (a : Ent) (i : Nat) (h : i < l.length), (colN c j a l)[i]? = some (numC c (j + i) (if i = 0 then a else l.getD (i - 1) zE) l[i]) := by
  induction l with
  | nil => intro j a i h; simp at h
  | cons e r ih =>
    intro j a i h;unfold colN;cases i with
    | zero => rfl
    | succ i =>
      have hi : i < r.length := by simpa using h
      rw [List.getElem?_cons_succ, ih (j + 1) e i hi];simp only [List.getElem_cons_succ, Nat.succ_ne_zero, if_false, Nat.add_sub_cancel];congr 2
      · omega
      · cases i with
        | zero => rfl
        | succ i => simp
theorem nums_get (l : Ents) (c i : Nat) (hc : c < 4) (hi : i < l.length) : (nums l)[1 + (c * l.length + i)]? = some (numC c i (prevE l i) l[i]) := by
  have g := fun c => colN_get c l 0 zE i hi;have hl := fun c => colN_len c l 0 zE;unfold nums prevE;rw [show 1 + (c * l.length + i) = (c * l.length + i) + 1 by omega, List.getElem?_cons_succ];match c, hc with
  | 0, _ => rw [Nat.zero_mul, Nat.zero_add, List.getElem?_append_left (by rw [hl]; omega), g]; simp
  | 1, _ => rw [Nat.one_mul, List.getElem?_append_right (by rw [hl]; omega), hl, Nat.add_sub_cancel_left, List.getElem?_append_left (by rw [hl]; omega), g]; simp
  | 2, _ => rw [List.getElem?_append_right (by rw [hl]; omega), hl, List.getElem?_append_right (by rw [hl]; omega), hl, show 2 * l.length + i - l.length - l.length = i by omega, List.getElem?_append_left (by rw [hl]; omega), g]; simp
  | 3, _ => rw [List.getElem?_append_right (by rw [hl]; omega), hl, List.getElem?_append_right (by rw [hl]; omega), hl, List.getElem?_append_right (by rw [hl]; omega), hl, show 3 * l.length + i - l.length - l.length - l.length = i by omega, g]; simp
theorem prev_ok {l : Ents} (h : rowE l = 0) (i : Nat) (hi : i < l.length) : (prevE l i).off + (prevE l i).len ≤ 1099511627776 ∧ (prevE l i).id ≤ l[i].id := by
  unfold prevE;by_cases h0 : i = 0
  · rw [if_pos h0]; simp [zE]
  · rw [if_neg h0];obtain ⟨j, rfl⟩ : ∃ j, i = j + 1 := ⟨i - 1, by omega⟩;have hj : j < l.length := by omega
    have e : l.getD (j + 1 - 1) zE = l[j] := by simp [List.getD, List.getElem?_eq_getElem hj]
    rw [e];have hr := (row_iff l).1 h;have h1 := chk_ok (hr.2.1 l[j] (List.getElem_mem hj));have h2 := (List.pairwise_iff_getElem.1 hr.2.2) j (j + 1) hj hi (by omega);have := wide_pos l[j];omega
end Go.Gz
namespace Go.Proofs.YtbfieomjobbhoaaGreatDoor
open Go.RowKit Go.Gz Go.Shelf

set_option maxRecDepth 100000
attribute [local go_sem] Oper.semAt_some
theorem Rd.keep {w w' : World} {size n c n₀ : Nat} {Bs : List Nat} {A : Option Addr} {xs : List Value} (h : Rd w size A n c xs) (hA : ∀ a, A = some a → 0 < n → a.block < n₀) (hk : ∀ p : Addr, p.block < n₀ ∨ p.block ∈ Bs → w'.cell? p = w.cell? p) : Rd w' size A n c xs :=
  ⟨h.1, h.2.1, h.2.2.1, h.2.2.2.1, fun hn => let ⟨b, o, e, hc⟩ := h.2.2.2.2 hn; ⟨b, o, e, fun j u hj => (hk ⟨b, o + j, none⟩ (.inl (hA ⟨b, o, none⟩ e hn))).trans (hc j u hj)⟩⟩
/-- a block of four cells -/
theorem blk_four {w : World} {b : Nat} {u0 u1 u2 u3 : Value} {t : TypeId} (h : w.heap[b]? = some (.cells #[u0, u1, u2, u3] t (0, 0))) :
    (w.cell? ⟨b, 0, none⟩ = some u0 ∧ w.frozen? ⟨b, 0, none⟩ = false) ∧ (w.cell? ⟨b, 1, none⟩ = some u1 ∧ w.frozen? ⟨b, 1, none⟩ = false) ∧ (w.cell? ⟨b, 2, none⟩ = some u2 ∧ w.frozen? ⟨b, 2, none⟩ = false) ∧ (w.cell? ⟨b, 3, none⟩ = some u3 ∧ w.frozen? ⟨b, 3, none⟩ = false) := by
  refine ⟨⟨cell_of_row _ b 0 _ _ _ h, ?_⟩, ⟨cell_of_row _ b 1 _ _ _ h, ?_⟩, ⟨cell_of_row _ b 2 _ _ _ h, ?_⟩, ⟨cell_of_row _ b 3 _ _ _ h, ?_⟩⟩;all_goals simp [World.frozen?, h]
theorem set_four {w : World} {b : Nat} {u0 u1 u2 u3 : Value} {t : TypeId} (h : w.heap[b]? = some (.cells #[u0, u1, u2, u3] t (0, 0))) (v0 v1 v2 v3 : Value) :
    w.grownBy ((((w.setCell ⟨b, 0, none⟩ v0).setCell ⟨b, 1, none⟩ v1).setCell ⟨b, 2, none⟩ v2).setCell ⟨b, 3, none⟩ v3) (some b) ∧
    ((((w.setCell ⟨b, 0, none⟩ v0).setCell ⟨b, 1, none⟩ v1).setCell ⟨b, 2, none⟩ v2).setCell ⟨b, 3, none⟩ v3).heap[b]? = some (.cells #[v0, v1, v2, v3] t (0, 0)) := by
  have g : ∀ (W : World) (o : Nat) (v : Value), W.grownBy (W.setCell ⟨b, o, none⟩ v) (some b) := fun W o v =>
    ⟨rfl, rfl, rfl, by simp, fun j hj hne => Below.heap_setCell W ⟨b, o, none⟩ v j (fun e => hne (by rw [e]))⟩
  refine ⟨(((g _ _ _).trans (g _ _ _)).trans (g _ _ _)).trans (g _ _ _), ?_⟩;have h1 := heap_setCell_same w b 0 _ _ v0 h;have h2 := heap_setCell_same _ b 1 _ _ v1 h1;have h3 := heap_setCell_same _ b 2 _ _ v2 h2;exact heap_setCell_same _ b 3 _ _ v3 h3
theorem numbers_any (A : Option Addr) (n c : Nat) (w : World) :
    Calls Tryz.prog 117 #[.slice A n c] w fun e w' => e = .returned (.func (.func 176) #[] #[.pointer (some ⟨w.heap.size, 0, none⟩)]) ∧ w' = w.alloc (.cells #[.slice A n c] 24) := by
  go_enter Tryz.func117, Tryz.ntmps117;go_wp2_with fail;go_ret;exact ⟨rfl, rfl⟩
set_option maxHeartbeats 4000000 in
theorem numbers_all (n : Nat) (hn : 1 ≤ n) (l : Ents) (hrow : rowE l = 0) (hok : ∀ e ∈ l, okE e) (B n₀ : Nat) (A : Option Addr) (c : Nat) (w : World) (hb : w.cell? ⟨B, 0, none⟩ = some (.slice A l.length c)) (hr : Rd w 4 A l.length c (entV l)) (hA : ∀ a, A = some a → 0 < l.length → a.block < n₀) (hn0 : n₀ ≤ w.heap.size) :
    SeqAll Fence.wide n Tryz.prog 176 #[.pointer (some ⟨B, 0, none⟩)] (fun x : Nat => #[.int .u64 x]) (KeepB 84 n₀ [B]) (nums l) 84 w := by
  intro lp J W hu hJ hT hY h0;have hlen := row_len hrow;have hb1 := hu.cell hb;have hr1 := hr.up hu;obtain ⟨fn, tmps, assign, body, hy, hR⟩ := hY 0 l.length W rfl h0;dsimp only at hy;refine callsIn_of_wp Tryz.func176 rfl trivial ?_ rfl;simp only [Tryz.ntmps176, List.size_toArray, List.length_cons, List.length_nil, Nat.reduceAdd, Nat.reduceSub, Array.replicate_succ, Array.replicate_zero, List.push_toArray, List.append_toArray, List.nil_append, List.cons_append];gi_wp2;refine hR.mono ?_;rintro e W1 ⟨rfl, hJ1, hk1⟩;have hb2 := (hk1.cell ⟨B, 0, none⟩ (.inr (by simp))).trans hb1;have hr2 := hr1.keep hA hk1.cell;have HO := Lib.hid hok;have HROW := Lib.hid hrow;have hW1 : W.heap.size ≤ W1.heap.size := hk1.size;gi_wp2
  gi_loopw [13] (fun i wr => ∃ k : Nat, k ≤ 4 ∧ i = .int .i64 k ∧ J (1 + k * l.length) wr ∧ wr.cell? ⟨B, 0, none⟩ = some (.slice A l.length c) ∧ Rd wr 4 A l.length c (entV l) ∧ W.heap.size ≤ wr.heap.size)
    (fun i _ => 4 - (intOf i).toNat)
  case atStart => exact ⟨0, by omega, rfl, by simpa using hJ1, hb2, hr2, hW1⟩
  case round =>
    rename World => wo
    obtain ⟨k, hk, rfl, hJk, hbk, hrk, hWk⟩ := hrel;by_cases hk4 : k < 4
    · have hkI : (k : Int) < 4 := by omega
      have hn4 := new4 wo 84 (.int .u64 0) (.int .u64 0) (.int .u32 0) (.int .u32 0);have hb3 := hn4.1.cell hbk;gi_wp2
      gi_loopw [18] (fun i ws => ∃ j : Nat, j ≤ l.length ∧ i = .int .i64 j ∧ J (1 + (k * l.length + j)) ws ∧ ws.cell? ⟨B, 0, none⟩ = some (.slice A l.length c) ∧ Rd ws 4 A l.length c (entV l) ∧ W.heap.size ≤ ws.heap.size ∧
          ws.heap[wo.heap.size]? = some (.cells #[.int .u64 ((prevE l j).id : Int), .int .u64 ((prevE l j).off : Int), .int .u32 ((prevE l j).len : Int), .int .u32 ((prevE l j).run : Int)] 84 (0, 0)))
        (fun i _ => l.length - (intOf i).toNat)
      case atStart => exact ⟨0, by omega, rfl, hJ _ _ _ hJk hn4.1, hb3, hrk.up hn4.1, Nat.le_trans hWk hn4.1.le, heap_alloc_new _ _⟩
      case round =>
        obtain ⟨j, hj, rfl, hJj, hbj, hrj, hWj, hzj⟩ := hrel;by_cases hlt : j < l.length
        · have hltI : (j : Int) < (l.length : Int) := by omega
          obtain ⟨rb, ro, rfl, d0, d1, d2, d3⟩ := hrj.ent hlt;obtain ⟨g1, g2⟩ := prev_ok HROW.out j hlt;have hoj := HO.out l[j] (List.getElem_mem hlt);have hcj := row_chk HROW.out (List.getElem_mem hlt);have NB := fun w => Lib.hid (number_any k j hk4 (by omega) (prevE l j) l[j] g1 g2 hoj hcj w);have YY := Lib.hid (fun W1 => hY (1 + (k * l.length + j)) _ W1 (nums_get l k j hk4 hlt));generalize prevE l j = pe at *;have z0 := cell_of_row wr wo.heap.size 0 _ _ _ hzj;have z1 := cell_of_row wr wo.heap.size 1 _ _ _ hzj;have z2 := cell_of_row wr wo.heap.size 2 _ _ _ hzj;have z3 := cell_of_row wr wo.heap.size 3 _ _ _ hzj;generalize numC k j pe l[j] = nv at *;obtain ⟨x, hx⟩ : ∃ x, l[j]'hlt = x := ⟨_, rfl⟩;rw [hx] at d0 d1 d2 d3 NB;obtain ⟨pid, poff, plen, prun⟩ := pe;obtain ⟨id, off, len, run⟩ := x;simp only [entA] at *;have ne := new4 wr 84 (.int .u64 id) (.int .u64 off) (.int .u32 len) (.int .u32 run);replace z0 := ne.1.cell z0;replace z1 := ne.1.cell z1;replace z2 := ne.1.cell z2;replace z3 := ne.1.cell z3;have hze : (wr.alloc (.cells #[.int .u64 id, .int .u64 off, .int .u32 len, .int .u32 run] 84)).heap[wr.heap.size]? = some (.cells #[.int .u64 id, .int .u64 off, .int .u32 len, .int .u32 run] 84 (0, 0)) := heap_alloc_new wr _;gi_wp2;refine ⟨trivial, (callsIn_wide.2 (NB _).out).mono ?_⟩;rintro e w5 ⟨rfl, hu5⟩;have hJ5 := hJ _ _ _ hJj (ne.1.trans hu5);obtain ⟨fn2, tmps2, assign2, body2, hy2, hR2⟩ := YY.out w5 hJ5;(try dsimp only at hy2);gi_wp2;refine hR2.mono ?_;rintro e W3 ⟨rfl, hJ3, hk3⟩;have hze3 := hk3.own _ _ _ (hu5.obj hze);have hzj3 := hk3.own _ _ _ (hu5.obj (ne.1.obj hzj));obtain ⟨b0, b1, b2, b3⟩ := blk_four hze3;obtain ⟨q0, q1, q2, q3⟩ := blk_four hzj3;have hsz5 : wo.heap.size + 1 ≤ W3.heap.size := (Array.getElem?_eq_some_iff.1 hzj3).1;have hblt : B < w.heap.size := World.block_lt_of_cell? _ _ hb;have hle := hu.le;have hx2 := Lib.hid hx;clear hx;gi_wp2;obtain ⟨G1, G2⟩ := set_four hzj3 (.int .u64 id) (.int .u64 off) (.int .u32 len) (.int .u32 run);generalize (((W3.setCell _ _).setCell _ _).setCell _ _).setCell _ _ = W4 at *;have hkc : ∀ p : Addr, p.block < n₀ ∨ p.block ∈ [B] → W4.cell? p = W3.cell? p := fun p hp => by
            simp at hp;unfold World.cell?;rw [G1.block p.block (by omega) (by intro e; injection e with e; omega)]
          have hkr : ∀ p : Addr, p.block < n₀ ∨ p.block ∈ [B] → W4.cell? p = wr.cell? p := fun p hp => by
            have hpl : p.block < wr.heap.size := by have := ne.1.le; simp at hp; omega
            rw [hkc p hp, hk3.cell p hp, (ne.1.trans hu5).cellq hpl]
          refine ⟨⟨j + 1, by omega, by go_num, ?_, (hkr ⟨B, 0, none⟩ (.inr (by simp))).trans hbj, hrj.keep hA hkr, by have := G1.size; omega, ?_⟩, by simp [intOf]; omega⟩
          · have := hT _ _ _ _ _ _ hJ3 hWk hzj3 G1;rwa [show 1 + (k * l.length + j) + 1 = 1 + (k * l.length + (j + 1)) by omega] at this
          · rw [G2, show prevE l (j + 1) = ⟨id, off, len, run⟩ by
              unfold prevE;rw [if_neg (by omega), show j + 1 - 1 = j by omega];simp [List.getD, List.getElem?_eq_getElem hlt, hx2.out]]
        · obtain rfl : j = l.length := by omega
          gi_wp2;refine ⟨⟨k + 1, by omega, by go_num, ?_, hbj, hrj, hWj⟩, by simp [intOf]; omega⟩;rwa [show 1 + (k * l.length + l.length) = 1 + (k + 1) * l.length by rw [Nat.add_mul]; omega] at hJj
    · obtain rfl : k = 4 := by omega
      gi_wp2;go_end0
      exact ⟨⟨_, rfl⟩, by rw [nums_len]; exact hJk⟩
end Go.Proofs.YtbfieomjobbhoaaGreatDoor
/- Walks: dirs.Size, dirs.Encode: ranges over dirs.numbers. -/
namespace Go.Proofs.YtbfieomjobbhoaaGreatDoor
open Go.RowKit Go.Gz Go.Shelf

set_option maxRecDepth 100000
attribute [local go_sem] Oper.semAt_some
set_option maxHeartbeats 4000000 in
/-- bytes as a text -/
theorem Rd.str {w : World} {A : Option Addr} {c : Nat} {l : Bs} (h : Rd w 1 A l.length c (byV l)) (h0 : l ≠ []) : (convert 49 9 (.slice A l.length c)).run Tryz.prog w = .ok (.string ⟨l.toArray⟩) w := by
  obtain ⟨b, o, rfl, hc⟩ := h.2.2.2.2 (List.length_pos_iff.2 h0);refine Go.run_convert_bytes_back w 49 9 5 ⟨b, o, none⟩ c l Tryz.underlying49 Tryz.underlying5 Tryz.underlying9 (fun j hj => ?_);rw [add_plain];exact hc j _ (by unfold byV; rw [List.getElem?_map, List.getElem?_eq_getElem hj]; rfl)
theorem Rd.low {w : World} {l : Ents} {A : Option Addr} {c : Nat} (hr : Rd w 4 A l.length c (entV l)) : ∀ a, A = some a → 0 < l.length → a.block < w.heap.size := fun a ha hn => by
  obtain ⟨b, o, e, hc⟩ := hr.2.2.2.2 hn;rw [ha] at e; injection e with e; subst e;obtain ⟨u, hu⟩ : ∃ u, (entV l)[0]? = some u := ⟨_, List.getElem?_eq_getElem (by rw [entV_len]; omega)⟩;exact World.block_lt_of_cell? _ _ (hc 0 u hu)
theorem dsize_any (l : Ents) (hok : ∀ e ∈ l, okE e) (hl : l.length ≤ 1000000) (A : Option Addr) (c : Nat) (w : World) (hr : Rd w 4 A l.length c (entV l)) :
    Calls Tryz.prog 114 #[.slice A l.length c] w fun e w' => e = .returned (.int .i64 (sizeD l : Nat)) ∧ Up w w' := by
  have hA := hr.low;have RW := fun w hr => Lib.hid (row_any l hok hl A c w hr);by_cases hrow : rowE l = 0
  · rw [hrow] at RW;have hs : sizeD l = sizeL (nums l) := by unfold sizeD; rw [if_neg (by omega), dirB_len]
    refine (callsIn_wide (n := 3)).1 ?_;refine callsIn_of_wp_marks Tryz.func114 rfl trivial ?_ rfl;simp only [Tryz.ntmps114, List.size_toArray, List.length_cons, List.length_nil, Nat.reduceAdd, Nat.reduceSub, Array.replicate_succ, Array.replicate_zero, List.push_toArray, List.append_toArray, List.nil_append, List.cons_append];gi_wp2;refine ⟨trivial, (callsIn_wide.2 (RW _ hr).out).mono ?_⟩;rintro e w1 ⟨rfl, hu1⟩;gi_wp2;refine ⟨trivial, (callsIn_wide.2 (numbers_any _ _ _ _)).mono ?_⟩;rintro e w2 ⟨rfl, rfl⟩;gi_wp2;have hb0 := heap_alloc_new w1 (.cells #[.int .i64 0] 3);have hb1 := heap_alloc_new (w1.alloc (.cells #[.int .i64 0] 3)) (.cells #[.slice A l.length c] 24);rw [World.size_alloc] at hb1;have hu2 : Up w ((w1.alloc (.cells #[.int .i64 0] 3)).alloc (.cells #[.slice A l.length c] 24)) := (hu1.alloc _).alloc _;have hb0' := ((Up.refl _).alloc (.cells #[.slice A l.length c] 24)).obj hb0;have hle := hu1.le;have hsum : sizeL (nums l) ≤ 170000 := by
      have := size_le _ (nums_lt hrow hok);rw [nums_len] at this;have := row_len hrow;omega
    have SZ := fun x (hx : x < 18446744073709551616) w => Lib.hid (vsize_any x hx w)
    refine wpIn_rangeFunc_all rfl (by omega) (gf := 176) (lb := #[.pointer (some ⟨w1.heap.size + 1, 0, none⟩)]) rfl trivial (enters_of Tryz.func176 (by kernel_rfl) rfl)
      (numbers_all 2 (by omega) l hrow hok (w1.heap.size + 1) w.heap.size A c _ (blk_one hb1).1 (hr.up hu2) hA hu2.le) keepB_t
      (fun W k o o' h1 _ ho hc => keepB_b W k o o' (by simp at h1; omega) (by simp at h1 ⊢; omega) ho hc) (fun _ => rfl)
      (fun k W => W.heap[w1.heap.size]? = some (.cells #[.int .i64 (sizeL ((nums l).take k) : Nat)] 3 (0, 0)) ∧ Up w W)
      (fun s W k o' h1 _ _ hI => ?i1) (fun s W W' hI hu => ⟨hu.obj hI.1, hI.2.trans hu⟩) (fun s W W' r cs fz hI h1 hr hg => ?i3)
      ⟨by simpa [sizeL] using hb0', hu2⟩
      (fun x => { tmps := #[.slice A l.length c, undef, .int .i64 0, .pointer (some ⟨w1.heap.size, 0, none⟩), .int .u64 x, .slice A l.length c, .int .i64 0, .bool false, .slice A l.length c, .func (.func 176) #[] #[.pointer (some ⟨w1.heap.size + 1, 0, none⟩)], .int .u64 x, undef, undef, undef, undef, undef], defers := [] }) ?assign ?body ?done
    case i1 =>
      simp at h1;exact ⟨(World.putObj_heap_other (by omega)).trans hI.1, Up.of (hI.2.below.grown (grownBy_putObj' W k o') hI.2.le (fun j e => by cases e; omega))⟩
    case i3 =>
      simp at h1;exact ⟨(hg.block _ (Array.getElem?_eq_some_iff.1 hI.1).1 (by intro e; injection e with e; omega)).trans hI.1, Up.of (hI.2.below.grown hg hI.2.le (fun j e => by cases e; omega))⟩
    case assign =>
      intro lp x W K hK;gi_wp2;exact hK
    case body =>
      rintro lp k x W hx ⟨hI, hU⟩ hsz;obtain ⟨hc, hf⟩ := blk_one hI;have hd : 1 ≤ 3 - 1 - 1 := by omega
      have hmx : Tryz.prog.follows .mixedOrders = true := mixed;have hk := List.getElem?_eq_some_iff.1 hx;have hxl := nums_lt hrow hok x (by rw [← hk.2]; exact List.getElem_mem _);have hst : sizeL ((nums l).take (k + 1)) = sizeL ((nums l).take k) + (vB x).length := by
        rw [List.take_succ_eq_append_getElem hk.1, hk.2, sizeL_app]; simp [sizeL]
      have htot : sizeL ((nums l).take (k + 1)) ≤ sizeL (nums l) := by
        conv => rhs; rw [← List.take_append_drop (k + 1) (nums l)]
        rw [sizeL_app]; omega
      have e1 : IntKind.i64.wrap (((sizeL ((nums l).take k) : Nat) : Int) + ((vB x).length : Int)) = ((sizeL ((nums l).take k) : Nat) : Int) + ((vB x).length : Int) := IntWalk.i64_in _ (by omega);have SX := SZ x hxl;clear hx hk;generalize sizeL ((nums l).take k) = s0 at *;generalize sizeL ((nums l).take (k + 1)) = s1 at *;generalize (vB x).length = vl at *
      have fin := Lib.hid (show twoPost ((w1.alloc (.cells #[.int .i64 0] 3)).alloc (.cells #[.slice A l.length c] 24)).heap.size (KeepB 84 w.heap.size [w1.heap.size + 1])
          (fun W => W.heap[w1.heap.size]? = some (.cells #[.int .i64 (s1 : Nat)] 3 (0, 0)) ∧ Up w W) W .normal { tmps := #[], defers := [] } (W.setCell ⟨w1.heap.size, 0, none⟩ (.int .i64 ((s0 : Int) + (vl : Int)))).drew by
        simp at hsz;refine ⟨fun j h1 h2 => ?_, ?_, ?_, ?_⟩
        · simp at h1;exact Below.heap_setCell W ⟨w1.heap.size, 0, none⟩ _ j (by simp; omega)
        · exact keepB_t (keepB_grown (grown_set W w1.heap.size _) hI (by decide) hU.le (by omega) (by simp; omega)) (keepB_up ((Up.refl _).drew) (by simp; have := hU.le; omega) (by simp; omega))
        · have h := heap_setCell_same W w1.heap.size 0 _ _ (.int .i64 ((s0 : Int) + (vl : Int))) hI;rw [hst];rw [show ((s0 + vl : Nat) : Int) = (s0 : Int) + (vl : Int) by omega];exact h
        · exact (hU.set (by simp; omega) _).drew)
      gi_wp2;gi_region_with_o (refine ⟨trivial, ?_⟩; gi_at_call 174; refine (CallsIn.inRound lp (callsIn_wide.2 (SX _).out)).mono ?_; rintro e w' ⟨rfl, rfl⟩)
      all_goals gi_wp2
      all_goals exact fin.out
    case done =>
      rintro W ⟨hI, hU⟩ hD;obtain ⟨hc, hf⟩ := blk_one hI;gi_wp2;refine ⟨by simp, .inl ⟨_, _, rfl, run_takeDeferred hD, ?_⟩⟩;refine ⟨_, results_tmp rfl _ _ _, by rw [hs]; rfl, Up.of (hU.below.grown (grownBy_putObj' W _ _) hU.le (fun j e => by cases e; simp; omega))⟩
  · have hs : sizeD l = 0 := by unfold sizeD; rw [if_pos hrow]
    rw [hs];have hb : (rowE l != 0) = true := by rw [bne_iff_ne]; exact hrow
    generalize rowE l = rv at *;clear hrow;refine (callsIn_wide (n := 3)).1 ?_;refine callsIn_of_wp_marks Tryz.func114 rfl trivial ?_ rfl;simp only [Tryz.ntmps114, List.size_toArray, List.length_cons, List.length_nil, Nat.reduceAdd, Nat.reduceSub, Array.replicate_succ, Array.replicate_zero, List.push_toArray, List.append_toArray, List.nil_append, List.cons_append];gi_wp2;refine ⟨trivial, (callsIn_wide.2 (RW _ hr).out).mono ?_⟩;rintro e w1 ⟨rfl, hu1⟩;gi_wp2;exact ⟨_, results_tmp rfl _ _ _, rfl, hu1⟩
set_option maxHeartbeats 4000000 in
theorem denc_any (l : Ents) (hok : ∀ e ∈ l, okE e) (hl : l.length ≤ 1000000) (A : Option Addr) (c : Nat) (w : World) (hr : Rd w 4 A l.length c (entV l)) :
    Calls Tryz.prog 56 #[.slice A l.length c] w fun e w' => e = .returned (.tuple #[.string ⟨(encB l).toArray⟩, .int .i64 (encE l)]) ∧ Up w w' := by
  have hA := hr.low;have RW := fun w hr => Lib.hid (row_any l hok hl A c w hr);have SZ := fun w hr => Lib.hid (dsize_any l hok hl A c w hr);by_cases hrow : rowE l = 0
  · rw [hrow] at RW;have hs : sizeD l = sizeL (nums l) := by unfold sizeD; rw [if_neg (by omega), dirB_len]
    rw [hs] at SZ;by_cases hbig : 65536 < sizeL (nums l)
    · have he : encE l = 5 := by unfold encE; rw [if_neg (by omega), dirB_len, if_pos hbig]
      have hB : encB l = [] := by unfold encB; rw [he]; rfl
      rw [he, hB];have hbI : (65536 : Int) < ((sizeL (nums l) : Nat) : Int) := by omega
      generalize sizeL (nums l) = sz at *;refine (callsIn_wide (n := 3)).1 ?_;refine callsIn_of_wp_marks Tryz.func56 rfl trivial ?_ rfl;simp only [Tryz.ntmps56, List.size_toArray, List.length_cons, List.length_nil, Nat.reduceAdd, Nat.reduceSub, Array.replicate_succ, Array.replicate_zero, List.push_toArray, List.append_toArray, List.nil_append, List.cons_append];gi_wp2;refine ⟨trivial, (callsIn_wide.2 (RW _ hr).out).mono ?_⟩;rintro e w1 ⟨rfl, hu1⟩;gi_wp2;refine ⟨trivial, (callsIn_wide.2 (SZ _ (hr.up hu1)).out).mono ?_⟩;rintro e w2 ⟨rfl, hu2⟩;gi_wp2;exact ⟨_, results_tmp2 rfl _ _ _, rfl, hu1.trans hu2⟩
    · have he : encE l = 0 := by unfold encE; rw [if_neg (by omega), dirB_len, if_neg hbig]
      have hB : encB l = dirB l := by unfold encB; rw [if_pos he]
      rw [he, hB];have hbI : decide ((65536 : Int) < ((sizeL (nums l) : Nat) : Int)) = false := decide_eq_false (by omega);have AL := fun A c w hr => Lib.hid (all_any (nums l) (nums_lt hrow hok) (by rw [nums_len]; have := row_len hrow; omega) A c w hr);rw [show (nums l).flatMap vB = dirB l from rfl] at AL;have HNE := Lib.hid (List.length_pos_iff.1 (dirB_pos l));generalize dirB l = db at *;obtain ⟨i0, hi, hz0, hz1, hz2⟩ := info_parts infoU64;generalize sizeL (nums l) = sz at *;refine (callsIn_wide (n := 3)).1 ?_;refine callsIn_of_wp_marks Tryz.func56 rfl trivial ?_ rfl;simp only [Tryz.ntmps56, List.size_toArray, List.length_cons, List.length_nil, Nat.reduceAdd, Nat.reduceSub, Array.replicate_succ, Array.replicate_zero, List.push_toArray, List.append_toArray, List.nil_append, List.cons_append];gi_wp2;refine ⟨trivial, (callsIn_wide.2 (RW _ hr).out).mono ?_⟩;rintro e w0 ⟨rfl, hu0⟩;gi_wp2;refine ⟨trivial, (callsIn_wide.2 (SZ _ (hr.up hu0)).out).mono ?_⟩;rintro e w1 ⟨rfl, hu1'⟩;have hu1 := hu0.trans hu1';gi_wp2;refine ⟨trivial, (callsIn_wide.2 (numbers_any _ _ _ _)).mono ?_⟩;rintro e w2 ⟨rfl, rfl⟩;gi_wp2;have hb0 := heap_alloc_new w1 (.cells #[.slice none 0 0] 218);have hb1 := heap_alloc_new (w1.alloc (.cells #[.slice none 0 0] 218)) (.cells #[.slice A l.length c] 24);rw [World.size_alloc] at hb1;have hu2 : Up w ((w1.alloc (.cells #[.slice none 0 0] 218)).alloc (.cells #[.slice A l.length c] 24)) := (hu1.alloc _).alloc _;have hb0' := ((Up.refl _).alloc (.cells #[.slice A l.length c] 24)).obj hb0;have hle := hu1.le;have HNL := Lib.hid (nums_len l);have HRL := Lib.hid (row_len hrow)
      refine wpIn_rangeFunc_all rfl (by omega) (gf := 176) (lb := #[.pointer (some ⟨w1.heap.size + 1, 0, none⟩)]) rfl trivial (enters_of Tryz.func176 (by kernel_rfl) rfl)
        (numbers_all 2 (by omega) l hrow hok (w1.heap.size + 1) w.heap.size A c _ (blk_one hb1).1 (hr.up hu2) hA hu2.le) keepB_t
        (fun W k o o' h1 _ ho hc => keepB_b W k o o' (by simp at h1; omega) (by simp at h1 ⊢; omega) ho hc) (fun _ => rfl)
        (fun k W => ∃ v, W.heap[w1.heap.size]? = some (.cells #[v] 218 (0, 0)) ∧ W.ownsRow (w1.heap.size + 4) 22 1 v k (nuV ((nums l).take k)) ∧ Up w W)
        (fun s W k o' h1 h2 _ hI => ?i1) (fun s W W' hI hu => ?i2) (fun s W W' r cs fz hI h1 hr hg => ?i3)
        ⟨.slice none 0 0, hb0', by simpa [nuV] using World.ownsRow_nil _ _ _ _, hu2⟩
        (fun x => { tmps := #[.slice A l.length c, undef, .string ⟨#[]⟩, .int .i64 0, .int .i64 0, .pointer (some ⟨w1.heap.size, 0, none⟩), .int .u64 x, .slice A l.length c, .int .i64 0, .int .i64 0, .bool false, undef, .slice A l.length c, .int .i64 sz, .bool false, .slice A l.length c, .func (.func 176) #[] #[.pointer (some ⟨w1.heap.size + 1, 0, none⟩)], .int .u64 x, undef, undef, undef, undef, undef, undef, undef], defers := [] }) ?assign ?body ?done
      case i1 =>
        simp at h1 h2;obtain ⟨v, g1, g2, g3⟩ := hI;have hg := grownBy_putObj' W k o';refine ⟨v, (World.putObj_heap_other (by omega)).trans g1, g2.kept hg ?_, Up.of (g3.below.grown hg g3.le (fun j e => by cases e; omega))⟩;cases hv : v.ownBlock with
        | none => exact .inl rfl
        | some g => have := (g2.lt g hv).1; right; intro e; injection e with e; omega
      case i2 =>
        obtain ⟨v, g1, g2, g3⟩ := hI;exact ⟨v, hu.obj g1, own_up g2 hu, g3.trans hu⟩
      case i3 =>
        simp at h1;obtain ⟨v, g1, g2, g3⟩ := hI;refine ⟨v, (hg.block _ (Array.getElem?_eq_some_iff.1 g1).1 (by intro e; injection e with e; omega)).trans g1, g2.kept hg ?_, Up.of (g3.below.grown hg g3.le (fun j e => by cases e; omega))⟩;rcases g2.2 with ⟨rfl, _⟩ | ⟨g, cap, cur, rfl, _, hh, _⟩
        · exact .inl rfl
        · right;intro e;injection e with e;have e : g = r := e;subst e;rw [hh] at hr;injection hr with hr;injection hr with _ hr _;exact absurd hr (by decide)
      case assign =>
        intro lp x W K hK;gi_wp2;exact hK
      case body =>
        rintro lp k x W hx ⟨v, g1, g2, g3⟩ hsz;simp at hsz;obtain ⟨hc, hf⟩ := blk_one g1;have hk := List.getElem?_eq_some_iff.1 hx;have hkl : k ≤ 20000 := by have := hk.1; have := HNL.out; have := HRL.out; omega
        have hst : (nums l).take (k + 1) = (nums l).take k ++ [x] := by rw [List.take_succ_eq_append_getElem hk.1, hk.2]
        have HST := Lib.hid hst;clear hst hx hk;generalize (nums l).take k = Lk at *;gi_wp2_with (gi_at_builtin; refine app_oneIn W rfl _ _ 218 rfl (w1.heap.size + 4) 22 i0 _ 1 8 Tryz.underlying218 hi hz0 hz1 hz2 rfl (by decide) _ _ _ g2 rfl #[.int .u64 x] rfl rfl (by simp [Value.oneCell']) (by omega) (by omega) (by omega) ?_; intro g' cap' w3 ho3 hg3 hb3 hk3; have g4 := (hb3.block w1.heap.size (by omega)).trans g1; obtain ⟨c4, f4⟩ := blk_one g4)
        refine ⟨fun j h1 h2 => ?_, ?_, ?_⟩
        · (try simp at h1);exact (Below.heap_setCell w3 ⟨w1.heap.size, 0, none⟩ _ j (by simp; omega)).trans (hb3.block j (by omega))
        · have hs3 := hb3.size;exact keepB_t (hk3 84 w.heap.size [w1.heap.size + 1] (by decide) (by omega) (by simp)) (keepB_grown (grown_set w3 w1.heap.size _) g4 (by decide) (by omega) (by omega) (by simp; omega))
        · refine ⟨_, heap_setCell_same w3 w1.heap.size 0 _ _ _ g4, ?_, Up.of ((Below.trans g3.below (Below.mono hb3 (by omega))).setCell (p := ⟨w1.heap.size, 0, none⟩) (by simp; omega) _)⟩;rw [HST.out, nuV_app];exact ho3.kept (grown_set w3 w1.heap.size _) (.inr (by intro e; injection e with e; have e : g' = w1.heap.size := e; omega))
      case done =>
        rintro W ⟨v, g1, g2, g3⟩ hD;rw [List.take_length] at g2;obtain ⟨hc, hf⟩ := blk_one g1;obtain ⟨A2, c2, rfl, r2⟩ := Rd.of_own g2;gi_wp2;refine ⟨trivial, (callsIn_wide.2 (AL _ _ _ r2).out).mono ?_⟩;rintro e w5 ⟨v5, rfl, ho5, hu5⟩;obtain ⟨A5, c5, rfl, r5⟩ := Rd.of_own ho5;have hcv := r5.str HNE.out;have hD5 := hu5.obj hD;have HUU := Lib.hid (g3.trans hu5);have hD6 : w5.heap[w1.heap.size + 1 + 1]? = some (.deferred (some [])) := by simpa using hD5
        gi_wp2;refine ⟨by simp, .inl ⟨_, _, rfl, run_takeDeferred hD6, ?_⟩⟩;exact ⟨_, results_tmp2 rfl _ _ _, rfl, Up.of (HUU.out.below.grown (grownBy_putObj' w5 _ _) HUU.out.le (fun j e => by cases e; omega))⟩
  · have he : encE l = rowE l := by unfold encE; rw [if_pos hrow]
    have hB : encB l = [] := by unfold encB; rw [if_neg (by rw [he]; exact hrow)]
    rw [he, hB];have hb : (rowE l != 0) = true := by rw [bne_iff_ne]; exact hrow
    generalize rowE l = rv at *;clear hrow;refine (callsIn_wide (n := 3)).1 ?_;refine callsIn_of_wp_marks Tryz.func56 rfl trivial ?_ rfl;simp only [Tryz.ntmps56, List.size_toArray, List.length_cons, List.length_nil, Nat.reduceAdd, Nat.reduceSub, Array.replicate_succ, Array.replicate_zero, List.push_toArray, List.append_toArray, List.nil_append, List.cons_append];gi_wp2;refine ⟨trivial, (callsIn_wide.2 (RW _ hr).out).mono ?_⟩;rintro e w1 ⟨rfl, hu1⟩;gi_wp2;exact ⟨_, results_tmp2 rfl _ _ _, rfl, hu1⟩
end Go.Proofs.YtbfieomjobbhoaaGreatDoor
/- Walks: slices.ContainsFunc with leaves.pointer; slices.Chunk; leaves.Cut. -/
namespace Go.Proofs.YtbfieomjobbhoaaGreatDoor
open Go.RowKit Go.Gz Go.Shelf

set_option maxRecDepth 100000
attribute [local go_sem] Oper.semAt_some
theorem ptr_any (e : Ent) (w : World) :
    Calls Tryz.prog 64 #[entA e] w fun en w' => en = .returned (.bool (e.run == 0)) ∧ Up w w' := by
  obtain ⟨id, off, len, run⟩ := e;simp only [entA] at *;have h0 : ((run : Int) == 0) = (run == 0) := by
    rw [Bool.eq_iff_iff, beq_iff_eq, beq_iff_eq]; omega
  have H0 := Lib.hid h0;clear h0;go_enter Tryz.func64, Tryz.ntmps64;go_wp2_with fail;go_ret;exact ⟨ret_bool H0.out, (Up.refl w).alloc _⟩
/-- the place of the first pointer, or -1 -/
def fpE : Ents → Nat → Int
  | [], _ => -1
  | e :: r, k => if e.run == 0 then (k : Int) else fpE r (k + 1)
theorem fp_any (l : Ents) : ∀ k, (fpE l k ≥ 0) ↔ (l.any fun e => e.run == 0) = true := by
  induction l with
  | nil => intro k; simp [fpE]
  | cons e r ih =>
    intro k;unfold fpE;rw [List.any_cons];cases h : e.run == 0
    · simp only [Bool.false_or]; exact ih (k + 1)
    · simp
set_option maxHeartbeats 2000000 in
theorem ixf_any (l : Ents) (hl : l.length ≤ 1000000) (A : Option Addr) (c : Nat) (w : World) (hr : Rd w 4 A l.length c (entV l)) :
    Calls Tryz.prog 173 #[.slice A l.length c, .func (.func 64) #[] #[]] w fun e w' => e = .returned (.int .i64 (fpE l 0)) ∧ Up w w' := by
  have HR := Lib.hid hr;generalize hT : fpE l 0 = T at *;have HT := Lib.hid hT;clear hr hT;go_enter Tryz.func173, Tryz.ntmps173;go_wp2_with fail;go_loopg [8] l.length (fun gk i wr => ∃ k : Nat, k + gk = l.length ∧ i = .int .i64 k ∧ fpE (l.drop k) k = T ∧ Up w wr)
  case atStart => exact ⟨0, by omega, rfl, by simpa using HT.out, Up.refl w⟩
  case round =>
    obtain ⟨k, hk, rfl, hd, hu⟩ := hrel;have HU := Lib.hid hu;by_cases hlt : k < l.length
    · obtain ⟨m, rfl⟩ : ∃ m, gk = m + 1 := ⟨gk - 1, by omega⟩;obtain ⟨B, o, rfl, d0, d1, d2, d3⟩ := (HR.out.up hu).ent hlt;rw [List.drop_eq_getElem_cons hlt] at hd;unfold fpE at hd;obtain ⟨x, hx⟩ : ∃ x, l[k]'hlt = x := ⟨_, rfl⟩;rw [hx] at d0 d1 d2 d3 hd;have PT := fun w => Lib.hid (ptr_any x w);obtain ⟨bv, hbv⟩ : ∃ bv, (x.run == 0) = bv := ⟨_, rfl⟩;rw [hbv] at PT hd;obtain ⟨id, off, len, run⟩ := x;simp only [entA] at *;have HD := Lib.hid hd;have hltI : (k : Int) < (l.length : Int) := by omega
      clear hx hbv hd hu;cases bv
      · go_wp2_with fail;refine (PT _).out.mono ?_;rintro e w1 ⟨rfl, hu1⟩;go_wp2_with fail;go_roundg m
        case measure => omega
        case rel => exact ⟨k + 1, by omega, by go_num, by simpa using HD.out, HU.out.trans hu1⟩
      · go_wp2_with fail;refine (PT _).out.mono ?_;rintro e w1 ⟨rfl, hu1⟩;go_wp2_with fail;go_ret;exact ⟨ret_int (by simpa using HD.out), HU.out.trans hu1⟩
    · obtain rfl : k = l.length := by omega
      rw [List.drop_length] at hd;have hd : T = -1 := hd.symm;subst hd;clear hlt;go_wp2_with fail;go_ret;exact ⟨rfl, HU.out⟩
theorem hasp_any (l : Ents) (hl : l.length ≤ 1000000) (A : Option Addr) (c : Nat) (w : World) (hr : Rd w 4 A l.length c (entV l)) :
    Calls Tryz.prog 113 #[.slice A l.length c, .func (.func 64) #[] #[]] w fun e w' => e = .returned (.bool (l.any fun e => e.run == 0)) ∧ Up w w' := by
  have IX := fun w hr => Lib.hid (ixf_any l hl A c w hr);have hf := fp_any l 0;generalize fpE l 0 = T at *;obtain ⟨bv, hbv⟩ : ∃ bv, (l.any fun e => e.run == 0) = bv := ⟨_, rfl⟩;rw [hbv] at hf ⊢;have HR := Lib.hid hr;have HF := Lib.hid (show decide (0 ≤ T) = bv by rw [Bool.eq_iff_iff, decide_eq_true_eq]; exact hf);clear hf hbv hr;go_enter Tryz.func113, Tryz.ntmps113;go_wp2_with fail;refine (IX _ HR.out).out.mono ?_;rintro e w1 ⟨rfl, hu1⟩;go_wp2_with fail;go_ret;exact ⟨ret_bool HF.out, hu1⟩
end Go.Proofs.YtbfieomjobbhoaaGreatDoor
/- Walks: slices.Chunk, its iterator; leaves.Cut. -/
namespace Go.Proofs.YtbfieomjobbhoaaGreatDoor
open Go.RowKit Go.Gz Go.Shelf

set_option maxRecDepth 100000
attribute [local go_sem] Oper.semAt_some
/-- the k-th piece of a slice of so many entries -/
def pieceV (b o sz len k : Nat) : Value := .slice (some ⟨b, o + k * sz * 4, none⟩) (min sz (len - k * sz)) (min sz (len - k * sz))
theorem piece_rd {w : World} {l : Ents} {b o c : Nat} (h : Rd w 4 (some ⟨b, o, none⟩) l.length c (entV l)) {sz k : Nat} (hk : k * sz < l.length) (hs : 0 < sz) :
    Rd w 4 (some ⟨b, o + k * sz * 4, none⟩) ((l.drop (k * sz)).take sz).length (min sz (l.length - k * sz)) (entV ((l.drop (k * sz)).take sz)) := by
  have hr := h.cut (lo := k * sz) (hi := k * sz + min sz (l.length - k * sz)) (mx := k * sz + min sz (l.length - k * sz)) (by omega) (by omega) (Nat.le_refl _) (by have := h.2.1; omega);rw [if_neg (by omega)] at hr;simp only [Option.map_some, add_plain] at hr;rw [entV_take, entV_drop, List.length_take, List.length_drop];rw [show k * sz + min sz (l.length - k * sz) - k * sz = min sz (l.length - k * sz) by omega] at hr;have e : ((entV l).drop (k * sz * 4)).take (min sz (l.length - k * sz) * 4) = ((entV l).drop (k * sz * 4)).take (sz * 4) := by
    rcases Nat.le_total sz (l.length - k * sz) with g | g
    · rw [Nat.min_eq_left g]
    · rw [Nat.min_eq_right g, List.take_of_length_le (by rw [List.length_drop, entV_len, ← Nat.sub_mul]; exact Nat.le_refl _), List.take_of_length_le (by rw [List.length_drop, entV_len, ← Nat.sub_mul]; exact Nat.mul_le_mul_right _ g)]
  rw [e] at hr;exact hr
theorem run_lhm (b o n c lo hi : Nat) (h1 : lo < hi) (h2 : hi ≤ c) (w : World) :
    (Instr.slice 24 (.slice (some ⟨b, o, none⟩) n c) (some (.int .i64 (lo : Int))) (some (.int .i64 (hi : Int))) (some (.int .i64 (hi : Int)))).run Tryz.prog w = .ok (.slice (some ⟨b, o + lo * 4, none⟩) (hi - lo) (hi - lo)) w := by
  obtain ⟨i0, hi0, _, hz1, _⟩ := info_parts infoEn;have ht := Tryz.underlying24;rw [run_slice_lhm w 24 (some ⟨b, o, none⟩) n c (by rw [elem_of ht]; exact ht) _ _ _ _ _ _ (by omega) (by omega) (by omega) (by omega), elem_of ht, size_run hi0 hz1];simp [Result.andThen, sliced, add_plain];omega
theorem run_lo (b o n c lo : Nat) (h1 : lo < n) (h2 : n ≤ c) (w : World) :
    (Instr.slice 24 (.slice (some ⟨b, o, none⟩) n c) (some (.int .i64 (lo : Int))) none none).run Tryz.prog w = .ok (.slice (some ⟨b, o + lo * 4, none⟩) (n - lo) (c - lo)) w := by
  obtain ⟨i0, hi0, _, hz1, _⟩ := info_parts infoEn;have ht := Tryz.underlying24;rw [run_slice_l w 24 (some ⟨b, o, none⟩) n c (by rw [elem_of ht]; exact ht) _ _ (by omega) (by omega), elem_of ht, size_run hi0 hz1];simp [Result.andThen, sliced, add_plain];omega
theorem chunk_any (A : Option Addr) (n c sz : Nat) (hs : 0 < sz) (w : World) :
    Calls Tryz.prog 175 #[.slice A n c, .int .i64 sz] w fun e w' => e = .returned (.func (.func 217) #[] #[.pointer (some ⟨w.heap.size, 0, none⟩), .pointer (some ⟨w.heap.size + 1, 0, none⟩)]) ∧
      w' = (w.alloc (.cells #[.slice A n c] 24)).alloc (.cells #[.int .i64 sz] 3) := by
  have hlt : ¬ (sz : Int) < 1 := by omega
  go_enter Tryz.func175, Tryz.ntmps175;go_wp2_with fail;go_ret;exact ⟨rfl, rfl⟩
set_option maxHeartbeats 4000000 in
theorem chunks_all (T : TypeId) (n : Nat) (hn : 1 ≤ n) (l : Ents) (hl : l.length ≤ 1000000) (sz : Nat) (hs : 0 < sz) (hs2 : sz ≤ 4096) (B1 B2 n₀ b o : Nat) (c : Nat) (w : World) (hb1 : w.cell? ⟨B1, 0, none⟩ = some (.slice (some ⟨b, o, none⟩) l.length c)) (hb2 : w.cell? ⟨B2, 0, none⟩ = some (.int .i64 sz)) (hc : l.length ≤ c) :
    SeqAll Fence.wide n Tryz.prog 217 #[.pointer (some ⟨B1, 0, none⟩), .pointer (some ⟨B2, 0, none⟩)] (fun k : Nat => #[pieceV b o sz l.length k]) (KeepB T n₀ [B1, B2]) (List.range (cutL sz l).length) T w := by
  intro lp J W hu hJ hT hY h0;have hc1 := hu.cell hb1;have hc2 := hu.cell hb2;have RL := Lib.hid (fun lo hi (h1 : lo < hi) (h2 : hi ≤ c) w => run_lhm b o l.length c lo hi h1 h2 w);refine callsIn_of_wp Tryz.func217 rfl trivial ?_ rfl;simp only [Tryz.ntmps217, List.size_toArray, List.length_cons, List.length_nil, Nat.reduceAdd, Nat.reduceSub, Array.replicate_succ, Array.replicate_zero, List.push_toArray, List.append_toArray, List.nil_append, List.cons_append];have hmx : Tryz.prog.follows .mixedOrders = true := mixed;have CG := Lib.hid (fun k => (cut_get l hs k).1);gi_wp2
  gi_loopw [4] (fun i wr => ∃ k q : Nat, k * sz = q ∧ i = .int .i64 q ∧ k ≤ (cutL sz l).length ∧ J k wr ∧ wr.cell? ⟨B1, 0, none⟩ = some (.slice (some ⟨b, o, none⟩) l.length c) ∧ wr.cell? ⟨B2, 0, none⟩ = some (.int .i64 sz))
    (fun i _ => l.length - (intOf i).toNat)
  case atStart => exact ⟨0, 0, by omega, rfl, by omega, h0, hc1, hc2⟩
  case round =>
    obtain ⟨k, q, hq, rfl, hk, hJk, d1, d2⟩ := hrel;by_cases hlt : q < l.length
    · have hkK : k < (cutL sz l).length := (CG.out k).1 (by omega);have hltI : (q : Int) < (l.length : Int) := by omega
      obtain ⟨m, hm⟩ : ∃ m, min sz (l.length - q) = m := ⟨_, rfl⟩;have YY := Lib.hid (fun W1 => hY k k W1 (by rw [List.getElem?_range hkK]));have hpv : pieceV b o sz l.length k = .slice (some ⟨b, o + q * 4, none⟩) m m := by unfold pieceV; rw [hq, hm]
      rw [hpv] at YY;have R1 := fun w => run_lo b o l.length c q hlt hc w;have R2 := fun w => RL.out q (q + m) (by omega) (by omega) w;rw [show q + m - q = m by omega] at R2;have e0 : ((l.length - q : Nat) : Int) = (l.length : Int) - (q : Int) := by omega
      have e1 : IntKind.i64.wrap ((q : Int) + (m : Int)) = ((q + m : Nat) : Int) := by rw [IntWalk.i64_in _ (by omega)]; omega
      have e2 : min (sz : Int) ((l.length - q : Nat) : Int) = (m : Int) := by omega
      have e3 : IntKind.i64.wrap ((q : Int) + (sz : Int)) = ((q + sz : Nat) : Int) := by rw [IntWalk.i64_in _ (by omega)]; omega
      have dd1 := ((Up.refl wr).drew).cell d1;have dd2 := ((Up.refl wr).drew).cell d2;clear e0;gi_wp2;gi_region_with_o (fail)
      all_goals
        have hJ2 := hJ _ _ _ hJk ((Up.refl wr).drew);obtain ⟨fn2, tmps2, assign2, body2, hy2, hR2⟩ := YY.out wr.drew hJ2;(try dsimp only at hy2);gi_wp2;refine hR2.mono ?_;rintro e W3 ⟨rfl, hJ3, hk3⟩;have g1 := (hk3.cell ⟨B1, 0, none⟩ (.inr (by simp))).trans dd1;have g2 := (hk3.cell ⟨B2, 0, none⟩ (.inr (by simp))).trans dd2;gi_wp2;exact ⟨⟨k + 1, q + sz, by rw [Nat.add_mul]; omega, rfl, by omega, hJ3, g1, g2⟩, by simp [intOf]; omega⟩
    · have hkK : (cutL sz l).length = k := by
        have := CG.out k;omega
      gi_wp2;go_end0
      exact ⟨⟨_, rfl⟩, by rw [List.length_range, hkK]; exact hJk⟩
end Go.Proofs.YtbfieomjobbhoaaGreatDoor
/- Walk: leaves.Cut. -/
namespace Go.Proofs.YtbfieomjobbhoaaGreatDoor
open Go.RowKit Go.Gz Go.Shelf

set_option maxRecDepth 100000
attribute [local go_sem] Oper.semAt_some
theorem infoSl : (Tryz.prog.info? 24).map (fun i => (i.zero, i.size, i.bytes)) = some (some (.slice none 0 0), 1, 24) := by kernel_rfl
theorem own_low {w : World} {b b' : Nat} {e : TypeId} {size n : Nat} {v : Value} {xs : List Value} (h : w.ownsRow b e size v n xs) (hb : b' ≤ b) : w.ownsRow b' e size v n xs := by
  refine ⟨h.1, ?_⟩;rcases h.2 with g | ⟨g, cap, cur, g1, g2, g3⟩
  · exact .inl g
  · exact .inr ⟨g, cap, cur, g1, by omega, g3⟩
/-- slices of entries, each of memory of its own -/
def RowsO (W : World) (base : Nat) (vs : List Value) (cs : List Ents) : Prop := vs.length = cs.length ∧ ∀ (i : Nat) v c, vs[i]? = some v → cs[i]? = some c → W.ownsRow base 84 4 v c.length (entV c)
theorem rowsO_grown {W W' : World} {base r : Nat} {t : TypeId} {cur : Array Value} {fz : Nat × Nat} {vs : List Value} {cs : List Ents} (h : RowsO W base vs cs) (hg : W.grownBy W' (some r)) (hr : W.heap[r]? = some (.cells cur t fz)) (ht : t ≠ 84) : RowsO W' base vs cs := by
  refine ⟨h.1, fun i v c hv hc => ?_⟩;have ho := h.2 i v c hv hc;refine ho.kept hg ?_;rcases ho.2 with ⟨rfl, _⟩ | ⟨g, cap, cur', rfl, _, hh, _⟩
  · exact .inl rfl
  · right;intro e;injection e with e;have e : g = r := e;subst e;rw [hh] at hr;injection hr with hr;injection hr with _ hr _;exact ht hr.symm
theorem rowsO_up {W W' : World} {base : Nat} {vs : List Value} {cs : List Ents} (h : RowsO W base vs cs) (hu : Up W W') : RowsO W' base vs cs := ⟨h.1, fun i v c hv hc => own_up (h.2 i v c hv hc) hu⟩
theorem rowsO_put {W : World} {base k : Nat} {o' : Obj} {vs : List Value} {cs : List Ents} (h : RowsO W base vs cs) (hk : k < base) : RowsO (W.putObj k o') base vs cs := by
  refine ⟨h.1, fun i v c hv hc => ?_⟩;have ho := h.2 i v c hv hc;refine ho.kept (grownBy_putObj' W k o') ?_;cases hvv : v.ownBlock with
  | none => exact .inl rfl
  | some g => have := (ho.lt g hvv).1; right; intro e; injection e with e; omega
/-- pieces laid, each in memory of its own -/
def CutE (w : World) (cs : List Ents) (en : Ending) (w' : World) : Prop := ∃ v vs, en = .returned v ∧ w'.ownsRow w.heap.size 24 1 v cs.length vs ∧ RowsO w' w.heap.size vs cs ∧ Up w w'
set_option maxHeartbeats 8000000 in
theorem cut_any (l : Ents) (h0 : l ≠ []) (hl : l.length ≤ 10000) (sz : Nat) (hs : 0 < sz) (hs2 : sz ≤ 4096) (A : Option Addr) (c : Nat) (w : World) (hr : Rd w 4 A l.length c (entV l)) :
    Calls Tryz.prog 116 #[.slice A l.length c, .int .i64 sz] w (CutE w (cutL sz l)) := by
  have hA := hr.low;have hlp := List.length_pos_iff.2 h0;obtain ⟨b, o, rfl, _⟩ := hr.2.2.2.2 hlp;obtain ⟨i0, hi, hz0, hz1, hz2⟩ := info_parts infoSl;have hlt : ¬ (sz : Int) < 1 := by omega
  have HR := Lib.hid hr;refine (callsIn_wide (n := 3)).1 ?_;refine callsIn_of_wp_marks Tryz.func116 rfl trivial ?_ rfl;simp only [Tryz.ntmps116, List.size_toArray, List.length_cons, List.length_nil, Nat.reduceAdd, Nat.reduceSub, Array.replicate_succ, Array.replicate_zero, List.push_toArray, List.append_toArray, List.nil_append, List.cons_append];gi_wp2;refine ⟨trivial, (callsIn_wide.2 (chunk_any _ _ _ _ hs _)).mono ?_⟩;rintro e w2 ⟨rfl, rfl⟩;gi_wp2;have hq0 := heap_alloc_new w (.cells #[.slice none 0 0] 216);have hq1 := heap_alloc_new (w.alloc (.cells #[.slice none 0 0] 216)) (.cells #[.slice (some ⟨b, o, none⟩) l.length c] 24);have hq2 := heap_alloc_new ((w.alloc (.cells #[.slice none 0 0] 216)).alloc (.cells #[.slice (some ⟨b, o, none⟩) l.length c] 24)) (.cells #[.int .i64 sz] 3);rw [World.size_alloc] at hq1;rw [World.size_alloc, World.size_alloc] at hq2;have hu2 : Up w (((w.alloc (.cells #[.slice none 0 0] 216)).alloc (.cells #[.slice (some ⟨b, o, none⟩) l.length c] 24)).alloc (.cells #[.int .i64 sz] 3)) := (((Up.refl w).alloc _).alloc _).alloc _;have hq0' := (((Up.refl _).alloc (.cells #[.slice (some ⟨b, o, none⟩) l.length c] 24)).alloc (.cells #[.int .i64 sz] 3)).obj hq0;have hq1' := ((Up.refl _).alloc (.cells #[.int .i64 sz] 3)).obj hq1;have HK := Lib.hid (fun k => cut_get l hs k);have hKl : (cutL sz l).length ≤ 10000 := by
    have := flat_len (cut_ne l hs);rw [cut_flat l hs] at this;omega
  refine wpIn_rangeFunc_all rfl (by omega) (gf := 217) (lb := #[.pointer (some ⟨w.heap.size + 1, 0, none⟩), .pointer (some ⟨w.heap.size + 1 + 1, 0, none⟩)]) rfl trivial (enters_of Tryz.func217 (by kernel_rfl) rfl)
    (chunks_all 3 2 (by omega) l (by omega) sz hs hs2 (w.heap.size + 1) (w.heap.size + 1 + 1) w.heap.size b o c _ (blk_one hq1').1 (blk_one hq2).1 hr.2.1) keepB_t
    (fun W k o o' h1 _ ho hc => keepB_b W k o o' (by simp at h1; omega) (by simp at h1 ⊢; omega) ho hc) (fun _ => rfl)
    (fun k W => ∃ v vs, W.heap[w.heap.size]? = some (.cells #[v] 216 (0, 0)) ∧ W.ownsRow (w.heap.size + 5) 24 1 v k vs ∧ RowsO W (w.heap.size + 5) vs ((cutL sz l).take k) ∧ Up w W)
    (fun s W k o' h1 h2 _ hI => ?i1) (fun s W W' hI hu => ?i2) (fun s W W' r cs fz hI h1 hr hg => ?i3)
    ⟨.slice none 0 0, [], hq0', World.ownsRow_nil _ _ _ _, ⟨by simp, fun i v c hv hc => by simp at hv⟩, hu2⟩
    (fun k => { tmps := #[.slice (some ⟨b, o, none⟩) l.length c, .int .i64 sz, undef, undef, .slice none 0 0, .pointer (some ⟨w.heap.size, 0, none⟩), pieceV b o sz l.length k, .int .i64 sz, .bool false, .slice (some ⟨b, o, none⟩) l.length c, .int .i64 sz, .func (.func 217) #[] #[.pointer (some ⟨w.heap.size + 1, 0, none⟩), .pointer (some ⟨w.heap.size + 1 + 1, 0, none⟩)], pieceV b o sz l.length k, undef, undef, undef, undef, undef, undef], defers := [] }) ?assign ?body ?done
  case i1 =>
    simp at h1 h2;obtain ⟨v, vs, g1, g2, g4, g3⟩ := hI;have hg := grownBy_putObj' W k o';refine ⟨v, vs, (World.putObj_heap_other (by omega)).trans g1, g2.kept hg ?_, rowsO_put g4 (by omega), Up.of (g3.below.grown hg g3.le (fun j e => by cases e; omega))⟩;cases hv : v.ownBlock with
    | none => exact .inl rfl
    | some g => have := (g2.lt g hv).1; right; intro e; injection e with e; omega
  case i2 =>
    obtain ⟨v, vs, g1, g2, g4, g3⟩ := hI;exact ⟨v, vs, hu.obj g1, own_up g2 hu, rowsO_up g4 hu, g3.trans hu⟩
  case i3 =>
    simp at h1;obtain ⟨v, vs, g1, g2, g4, g3⟩ := hI;refine ⟨v, vs, (hg.block _ (Array.getElem?_eq_some_iff.1 g1).1 (by intro e; injection e with e; omega)).trans g1, g2.kept hg ?_, rowsO_grown g4 hg hr (by decide), Up.of (g3.below.grown hg g3.le (fun j e => by cases e; omega))⟩;rcases g2.2 with ⟨rfl, _⟩ | ⟨g, cap, cur, rfl, _, hh, _⟩
    · exact .inl rfl
    · right;intro e;injection e with e;have e : g = r := e;subst e;rw [hh] at hr;injection hr with hr;injection hr with _ hr _;exact absurd hr (by decide)
  case assign =>
    intro lp k W K hK;gi_wp2;exact hK
  case body =>
    rintro lp k x W hx ⟨v, vs, g1, g2, g4, g3⟩ hsz;simp at hsz;have hxk := List.getElem?_eq_some_iff.1 hx;obtain ⟨hkl, hkx⟩ := hxk;rw [List.length_range] at hkl;rw [List.getElem_range] at hkx;subst hkx;have hmx : Tryz.prog.follows .mixedOrders = true := mixed;obtain ⟨hc, hf⟩ := blk_one g1;have kd := ((Up.refl W).drew).cell hc;have hkq := (HK.out k).1.2 hkl;have hpc := piece_rd (HR.out.up (g3.trans (Up.refl W).drew)) hkq hs;have hcg := (HK.out k).2 hkl;rw [← hcg] at hpc;have hlen : (cutL sz l)[k].length = min sz (l.length - k * sz) := by rw [hcg, List.length_take, List.length_drop]
    have hpv : pieceV b o sz l.length k = .slice (some ⟨b, o + k * sz * 4, none⟩) (cutL sz l)[k].length (min sz (l.length - k * sz)) := by unfold pieceV; rw [hlen]
    have hst : (cutL sz l).take (k + 1) = (cutL sz l).take k ++ [(cutL sz l)[k]] := List.take_succ_eq_append_getElem hkl;rw [hpv];obtain ⟨ck, hck⟩ : ∃ ck, (cutL sz l)[k] = ck := ⟨_, rfl⟩;have hckl : ck.length ≤ 4096 := by rw [← hck, hlen]; omega
    rw [hck] at hpc hlen hst ⊢;obtain ⟨cc, hcc⟩ : ∃ cc, min sz (l.length - k * sz) = cc := ⟨_, rfl⟩;rw [hcc] at hpc ⊢;clear hpv hcg hck hlen;have HRW := Lib.hid hpc;have CL := fun w hrr => Lib.hid (cloneEn_any (some ⟨b, o + k * sz * 4, none⟩) ck.length cc (entV ck) (entV_one _) (by omega) w hrr)
    have FIN := Lib.hid (fun (a' : Act) (v5 : Value) (w5 w6 : World) (g' cap' : Nat) (row : Option Nat) (ho5 : w5.ownsRow W.drew.heap.size 84 4 v5 ck.length (entV ck)) (hu5 : Up W.drew w5)
        (ho6 : w6.ownsRow (w.heap.size + 5) 24 1 (.slice (some ⟨g', 0, none⟩) (k + 1) cap') (k + 1) (vs ++ [v5])) (hg0 : w.heap.size + 5 ≤ g') (hb6 : Below (w.heap.size + 5) w5 w6)
        (hk6 : ∀ T n₀ Bs, T ≠ 24 → n₀ ≤ w.heap.size + 5 → (∀ x ∈ Bs, x < w.heap.size + 5) → KeepB T n₀ Bs w5 w6) (hg6 : w5.grownBy w6 row) (hr6 : ∀ r, row = some r → ∃ cur fz, w5.heap[r]? = some (.cells cur 24 fz))
        (g46 : w6.heap[w.heap.size]? = some (.cells #[v] 216 (0, 0))) => (by
      have hW5 : W.heap.size ≤ w5.heap.size := hu5.le;have hs6 := hg6.size;refine ⟨fun j h1 h2 => ?_, ?_, ?_⟩
      · simp at h1 h2;exact (Below.heap_setCell w6 ⟨w.heap.size, 0, none⟩ _ j (by simp; omega)).trans ((hb6.block j (by omega)).trans (((Up.refl W).drew.trans hu5).block (by omega)))
      · refine keepB_t (keepB_up ((Up.refl W).drew.trans hu5) (by omega) (by simp; omega)) (keepB_t (hk6 _ _ _ (by decide) (by omega) (by simp)) (keepB_grown (grown_set w6 w.heap.size _) g46 (by decide) (by omega) (by omega) (by simp; omega)))
      · refine ⟨_, vs ++ [v5], heap_setCell_same w6 w.heap.size 0 _ _ _ g46, ho6.kept (grown_set w6 w.heap.size _) (.inr (by intro e; injection e with e; have e : g' = w.heap.size := e; omega)), ?_, Up.of ((Below.trans (g3.trans ((Up.refl W).drew.trans hu5)).below (Below.mono hb6 (by omega))).setCell (p := ⟨w.heap.size, 0, none⟩) (by simp) _)⟩;rw [hst];have r5 : RowsO w5 (w.heap.size + 5) (vs ++ [v5]) ((cutL sz l).take k ++ [ck]) := by
          have r4 := rowsO_up g4 ((Up.refl W).drew.trans hu5);refine ⟨by rw [List.length_append, List.length_append, r4.1]; rfl, fun i v c hv hc => ?_⟩;have hl4 := r4.1;rcases Nat.lt_or_ge i vs.length with hi | hi
          · rw [List.getElem?_append_left hi] at hv;rw [List.getElem?_append_left (by omega)] at hc;exact r4.2 i v c hv hc
          · rw [List.getElem?_append_right hi] at hv;rw [List.getElem?_append_right (by omega)] at hc;have hi0 : i - vs.length = 0 := by
              have := (List.getElem?_eq_some_iff.1 hv).1;simpa using this
            rw [hi0] at hv;rw [← hl4, hi0] at hc;simp at hv hc;subst hv hc;exact own_low ho5 (show w.heap.size + 5 ≤ W.heap.size by omega)
        have r6 : RowsO w6 (w.heap.size + 5) (vs ++ [v5]) ((cutL sz l).take k ++ [ck]) := by
          cases row with
          | none => exact rowsO_up r5 (Up.of ((Below.refl w5.heap.size w5).grown hg6 (Nat.le_refl _) (fun j e => by cases e)))
          | some r =>
            obtain ⟨cur, fz, hr⟩ := hr6 r rfl;exact rowsO_grown r5 hg6 hr (by decide)
        exact rowsO_grown r6 (grown_set w6 w.heap.size _) g46 (by decide) :
      twoPost (((w.alloc (.cells #[.slice none 0 0] 216)).alloc (.cells #[.slice (some ⟨b, o, none⟩) l.length c] 24)).alloc (.cells #[.int .i64 sz] 3)).heap.size (KeepB 3 w.heap.size [w.heap.size + 1, w.heap.size + 1 + 1])
        (fun W => ∃ v vs, W.heap[w.heap.size]? = some (.cells #[v] 216 (0, 0)) ∧ W.ownsRow (w.heap.size + 5) 24 1 v (k + 1) vs ∧ RowsO W (w.heap.size + 5) vs ((cutL sz l).take (k + 1)) ∧ Up w W) W .normal a' (w6.setCell ⟨w.heap.size, 0, none⟩ (.slice (some ⟨g', 0, none⟩) (k + 1) cap'))))
    gi_wp2;refine wpIn_region_any hmx ?_;(try change wpAnyIn _ _ _ _ _ _ _ _ _ (World.drew _));refine wpAnyIn_ready (rs := [0, 1]) (by kernel_rfl) (by simp) ?_;refine AllReadyIn.cons (o := ⟨_, _, _, _, _, _⟩) rfl (fun K hK => ?_) ?_
    · go_simp;refine hK _ _ ?_;clear hK K;(try simp only [Act.put, tz1, tz2, tz3]);refine wpAnyIn_ready (rs := [1]) (by kernel_rfl) (by simp) ?_;refine AllReadyIn.cons (o := ⟨_, _, _, _, _, _⟩) rfl (fun K hK => ?_) ?_
      · go_simp;refine hK _ _ ?_;clear hK K;(try simp only [Act.put, tz1, tz2, tz3]);refine wpAnyIn_ready (rs := [2]) (by kernel_rfl) (by simp) ?_;refine AllReadyIn.cons (o := ⟨_, _, _, _, _, _⟩) rfl (fun K hK => ?_) ?_
        · go_simp;refine ⟨trivial, (CallsIn.inRound lp (callsIn_wide.2 (CL _ HRW.out).out)).mono ?_⟩;rintro e w5 ⟨v5, rfl, ho5, hu5⟩;obtain ⟨A5, c5, rfl, r5⟩ := Rd.of_own ho5;have k5 := hu5.cell kd;have k6 := ((Up.refl w5).alloc (.cells #[.slice A5 ck.length c5] 24)).cell k5;have hle5 := hu5.le;refine hK _ _ ?_;clear hK K;(try simp only [Act.put, tz1, tz2, tz3]);refine wpAnyIn_ready (rs := [3]) (by kernel_rfl) (by simp) ?_;refine AllReadyIn.cons (o := ⟨_, _, _, _, _, _⟩) rfl (fun K hK => ?_) ?_
          · go_simp;refine hK _ _ ?_;clear hK K;(try simp only [Act.put, tz1, tz2, tz3]);refine wpAnyIn_ready (rs := [4]) (by kernel_rfl) (by simp) ?_;refine AllReadyIn.cons (o := ⟨_, _, _, _, _, _⟩) rfl (fun K hK => ?_) ?_
            · refine stepIn_app_one w5 rfl _ _ 216 rfl (w.heap.size + 5) 24 i0 _ 1 24 Tryz.underlying216 hi hz0 hz1 hz2 rfl (by decide) v k vs (own_up g2 ((Up.refl W).drew.trans hu5)) rfl #[.slice A5 ck.length c5] rfl rfl (by simp [Value.oneCell']) (by omega) (by omega) (by simp at hle5; omega) ?_;intro g' cap' w6 row ho6 hg0 hb6 hk6 hg6 hr6;have g46 := (hb6.block w.heap.size (by omega)).trans ((Up.refl W).drew.trans hu5 |>.obj g1);obtain ⟨c46, f46⟩ := blk_one g46;refine hK _ _ ?_;clear hK K;(try simp only [Act.put, tz1, tz2, tz3]);refine wpAnyIn_ready (rs := [5]) (by kernel_rfl) (by simp) ?_;refine AllReadyIn.cons (o := ⟨_, _, _, _, _, _⟩) rfl (fun K hK => ?_) ?_
              · go_simp;refine hK _ _ ?_;clear hK K;(try simp only [Act.put, tz1, tz2, tz3]);refine wpAnyIn_done (by kernel_rfl) ?_ _;exact FIN.out { tmps := #[], defers := [] } _ _ _ _ _ _ ho5 hu5 ho6 hg0 hb6 hk6 hg6 hr6 g46
              exact AllReadyIn.nil
            exact AllReadyIn.nil
          exact AllReadyIn.nil
        exact AllReadyIn.nil
      exact AllReadyIn.nil
    refine AllReadyIn.cons (o := ⟨_, _, _, _, _, _⟩) rfl (fun K hK => ?_) ?_
    · go_simp;refine hK _ _ ?_;clear hK K;(try simp only [Act.put, tz1, tz2, tz3]);refine wpAnyIn_ready (rs := [0, 2]) (by kernel_rfl) (by simp) ?_;refine AllReadyIn.cons (o := ⟨_, _, _, _, _, _⟩) rfl (fun K hK => ?_) ?_
      · go_simp;refine hK _ _ ?_;clear hK K;(try simp only [Act.put, tz1, tz2, tz3]);refine wpAnyIn_ready (rs := [2]) (by kernel_rfl) (by simp) ?_;refine AllReadyIn.cons (o := ⟨_, _, _, _, _, _⟩) rfl (fun K hK => ?_) ?_
        · go_simp;refine ⟨trivial, (CallsIn.inRound lp (callsIn_wide.2 (CL _ HRW.out).out)).mono ?_⟩;rintro e w5 ⟨v5, rfl, ho5, hu5⟩;obtain ⟨A5, c5, rfl, r5⟩ := Rd.of_own ho5;have k5 := hu5.cell kd;have k6 := ((Up.refl w5).alloc (.cells #[.slice A5 ck.length c5] 24)).cell k5;have hle5 := hu5.le;refine hK _ _ ?_;clear hK K;(try simp only [Act.put, tz1, tz2, tz3]);refine wpAnyIn_ready (rs := [3]) (by kernel_rfl) (by simp) ?_;refine AllReadyIn.cons (o := ⟨_, _, _, _, _, _⟩) rfl (fun K hK => ?_) ?_
          · go_simp;refine hK _ _ ?_;clear hK K;(try simp only [Act.put, tz1, tz2, tz3]);refine wpAnyIn_ready (rs := [4]) (by kernel_rfl) (by simp) ?_;refine AllReadyIn.cons (o := ⟨_, _, _, _, _, _⟩) rfl (fun K hK => ?_) ?_
            · refine stepIn_app_one w5 rfl _ _ 216 rfl (w.heap.size + 5) 24 i0 _ 1 24 Tryz.underlying216 hi hz0 hz1 hz2 rfl (by decide) v k vs (own_up g2 ((Up.refl W).drew.trans hu5)) rfl #[.slice A5 ck.length c5] rfl rfl (by simp [Value.oneCell']) (by omega) (by omega) (by simp at hle5; omega) ?_;intro g' cap' w6 row ho6 hg0 hb6 hk6 hg6 hr6;have g46 := (hb6.block w.heap.size (by omega)).trans ((Up.refl W).drew.trans hu5 |>.obj g1);obtain ⟨c46, f46⟩ := blk_one g46;refine hK _ _ ?_;clear hK K;(try simp only [Act.put, tz1, tz2, tz3]);refine wpAnyIn_ready (rs := [5]) (by kernel_rfl) (by simp) ?_;refine AllReadyIn.cons (o := ⟨_, _, _, _, _, _⟩) rfl (fun K hK => ?_) ?_
              · go_simp;refine hK _ _ ?_;clear hK K;(try simp only [Act.put, tz1, tz2, tz3]);refine wpAnyIn_done (by kernel_rfl) ?_ _;exact FIN.out { tmps := #[], defers := [] } _ _ _ _ _ _ ho5 hu5 ho6 hg0 hb6 hk6 hg6 hr6 g46
              exact AllReadyIn.nil
            exact AllReadyIn.nil
          exact AllReadyIn.nil
        exact AllReadyIn.nil
      refine AllReadyIn.cons (o := ⟨_, _, _, _, _, _⟩) rfl (fun K hK => ?_) ?_
      · go_simp;refine ⟨trivial, (CallsIn.inRound lp (callsIn_wide.2 (CL _ HRW.out).out)).mono ?_⟩;rintro e w5 ⟨v5, rfl, ho5, hu5⟩;obtain ⟨A5, c5, rfl, r5⟩ := Rd.of_own ho5;have k5 := hu5.cell kd;have k6 := ((Up.refl w5).alloc (.cells #[.slice A5 ck.length c5] 24)).cell k5;have hle5 := hu5.le;refine hK _ _ ?_;clear hK K;(try simp only [Act.put, tz1, tz2, tz3]);refine wpAnyIn_ready (rs := [0, 3]) (by kernel_rfl) (by simp) ?_;refine AllReadyIn.cons (o := ⟨_, _, _, _, _, _⟩) rfl (fun K hK => ?_) ?_
        · go_simp;refine hK _ _ ?_;clear hK K;(try simp only [Act.put, tz1, tz2, tz3]);refine wpAnyIn_ready (rs := [3]) (by kernel_rfl) (by simp) ?_;refine AllReadyIn.cons (o := ⟨_, _, _, _, _, _⟩) rfl (fun K hK => ?_) ?_
          · go_simp;refine hK _ _ ?_;clear hK K;(try simp only [Act.put, tz1, tz2, tz3]);refine wpAnyIn_ready (rs := [4]) (by kernel_rfl) (by simp) ?_;refine AllReadyIn.cons (o := ⟨_, _, _, _, _, _⟩) rfl (fun K hK => ?_) ?_
            · refine stepIn_app_one w5 rfl _ _ 216 rfl (w.heap.size + 5) 24 i0 _ 1 24 Tryz.underlying216 hi hz0 hz1 hz2 rfl (by decide) v k vs (own_up g2 ((Up.refl W).drew.trans hu5)) rfl #[.slice A5 ck.length c5] rfl rfl (by simp [Value.oneCell']) (by omega) (by omega) (by simp at hle5; omega) ?_;intro g' cap' w6 row ho6 hg0 hb6 hk6 hg6 hr6;have g46 := (hb6.block w.heap.size (by omega)).trans ((Up.refl W).drew.trans hu5 |>.obj g1);obtain ⟨c46, f46⟩ := blk_one g46;refine hK _ _ ?_;clear hK K;(try simp only [Act.put, tz1, tz2, tz3]);refine wpAnyIn_ready (rs := [5]) (by kernel_rfl) (by simp) ?_;refine AllReadyIn.cons (o := ⟨_, _, _, _, _, _⟩) rfl (fun K hK => ?_) ?_
              · go_simp;refine hK _ _ ?_;clear hK K;(try simp only [Act.put, tz1, tz2, tz3]);refine wpAnyIn_done (by kernel_rfl) ?_ _;exact FIN.out { tmps := #[], defers := [] } _ _ _ _ _ _ ho5 hu5 ho6 hg0 hb6 hk6 hg6 hr6 g46
              exact AllReadyIn.nil
            exact AllReadyIn.nil
          exact AllReadyIn.nil
        refine AllReadyIn.cons (o := ⟨_, _, _, _, _, _⟩) rfl (fun K hK => ?_) ?_
        · go_simp;refine hK _ _ ?_;clear hK K;(try simp only [Act.put, tz1, tz2, tz3]);refine wpAnyIn_ready (rs := [0]) (by kernel_rfl) (by simp) ?_;refine AllReadyIn.cons (o := ⟨_, _, _, _, _, _⟩) rfl (fun K hK => ?_) ?_
          · go_simp;refine hK _ _ ?_;clear hK K;(try simp only [Act.put, tz1, tz2, tz3]);refine wpAnyIn_ready (rs := [4]) (by kernel_rfl) (by simp) ?_;refine AllReadyIn.cons (o := ⟨_, _, _, _, _, _⟩) rfl (fun K hK => ?_) ?_
            · refine stepIn_app_one w5 rfl _ _ 216 rfl (w.heap.size + 5) 24 i0 _ 1 24 Tryz.underlying216 hi hz0 hz1 hz2 rfl (by decide) v k vs (own_up g2 ((Up.refl W).drew.trans hu5)) rfl #[.slice A5 ck.length c5] rfl rfl (by simp [Value.oneCell']) (by omega) (by omega) (by simp at hle5; omega) ?_;intro g' cap' w6 row ho6 hg0 hb6 hk6 hg6 hr6;have g46 := (hb6.block w.heap.size (by omega)).trans ((Up.refl W).drew.trans hu5 |>.obj g1);obtain ⟨c46, f46⟩ := blk_one g46;refine hK _ _ ?_;clear hK K;(try simp only [Act.put, tz1, tz2, tz3]);refine wpAnyIn_ready (rs := [5]) (by kernel_rfl) (by simp) ?_;refine AllReadyIn.cons (o := ⟨_, _, _, _, _, _⟩) rfl (fun K hK => ?_) ?_
              · go_simp;refine hK _ _ ?_;clear hK K;(try simp only [Act.put, tz1, tz2, tz3]);refine wpAnyIn_done (by kernel_rfl) ?_ _;exact FIN.out { tmps := #[], defers := [] } _ _ _ _ _ _ ho5 hu5 ho6 hg0 hb6 hk6 hg6 hr6 g46
              exact AllReadyIn.nil
            exact AllReadyIn.nil
          exact AllReadyIn.nil
        exact AllReadyIn.nil
      exact AllReadyIn.nil
    exact AllReadyIn.nil
  case done =>
    rintro W ⟨v, vs, g1, g2, g4, g3⟩ hD;rw [List.length_range] at g2 g4;rw [List.take_length] at g4;obtain ⟨hc, hf⟩ := blk_one g1;obtain ⟨A2, c2, rfl, r2⟩ := Rd.of_own g2;simp only [World.size_alloc] at hD ⊢;gi_wp2;refine ⟨by simp, .inl ⟨_, _, rfl, run_takeDeferred hD, ?_⟩⟩;refine ⟨_, results_tmp rfl _ _ _, _, vs, rfl, own_low (g2.kept (grownBy_putObj' W _ _) (.inr ?_)) (by omega), ?_, Up.of (g3.below.grown (grownBy_putObj' W _ _) g3.le (fun j e => by cases e; omega))⟩
    · intro e;have := (g2.lt _ e).1;omega
    · have := rowsO_put (o' := .deferred none) (k := w.heap.size + 1 + 1 + 1) g4 (by omega);exact ⟨this.1, fun i v c hv hc => own_low (this.2 i v c hv hc) (by omega)⟩
end Go.Proofs.YtbfieomjobbhoaaGreatDoor
/- Walk: leaves.Split. -/
namespace Go.Proofs.YtbfieomjobbhoaaGreatDoor
open Go.RowKit Go.Gz Go.Shelf

set_option maxRecDepth 100000
attribute [local go_sem] Oper.semAt_some
theorem any_run {l : Ents} (hrun : ∀ e ∈ l, 1 ≤ e.run) : (l.any fun e => e.run == 0) = false := by
  rw [List.any_eq_false];intro e he;have := hrun e he;simp; omega
theorem strC_by (l : Bs) : Lib.strCells ⟨l.toArray⟩ = byV l := rfl
theorem entV_snoc (l : Ents) (e : Ent) : entV (l ++ [e]) = entV l ++ [.int .u64 (e.id : Int), .int .u64 (e.off : Int), .int .u32 (e.len : Int), .int .u32 (e.run : Int)] := by
  simp [entV, entC]
theorem flat_snoc (l : List Ents) (c : Ents) : (l ++ [c]).flatMap dirB = l.flatMap dirB ++ dirB c := by simp
theorem flat_le50 {n : Nat} {l : Ents} (hn : 0 < n) (hr : rowE l = 0) (hok : ∀ e ∈ l, okE e) (hl : l.length ≤ 1024) (k : Nat) : (((cutL n l).take k).flatMap dirB).length ≤ 51200 := by
  have h1 := (cut_dirs hn hr hok hl ((cutL n l).take k) (fun c hc => List.mem_of_mem_take hc)).1;have h2 : ((cutL n l).take k).flatten.length ≤ l.length := by
    conv => rhs; rw [← cut_flat l hn, ← List.take_append_drop k (cutL n l), List.flatten_append, List.length_append]
    omega
  omega
theorem cut_pos {n : Nat} {l : Ents} (hn : 0 < n) (h0 : l ≠ []) : cutL n l ≠ [] := by
  intro h;have := cut_flat l hn;rw [h] at this;exact h0 this.symm
theorem flat_pos {cs : List Ents} (h : cs ≠ []) : cs.flatMap dirB ≠ [] := by
  cases cs with
  | nil => exact absurd rfl h
  | cons c r =>
    intro h2;have := congrArg List.length h2;have hp := dirB_pos c;rw [List.flatMap_cons, List.length_append, List.length_nil] at this;omega
/-- a root and its leaves' text -/
def SplitE (w : World) (r : Ents) (t : Bs) (n : Nat) (en : Ending) (w' : World) : Prop := ∃ A c, en = .returned (.tuple #[.slice A r.length c, .string ⟨t.toArray⟩, .int .i64 n, .int .i64 0]) ∧ Rd w' 4 A r.length c (entV r) ∧ Up w w'
set_option maxHeartbeats 4000000 in
theorem split_small (l : Ents) (hok : ∀ e ∈ l, okE e) (hl : l.length ≤ 1024) (hrow : rowE l = 0) (hrun : ∀ e ∈ l, 1 ≤ e.run) (b : Nat) (hb : 512 ≤ b) (hb2 : b ≤ 16257) (hs : sizeD l ≤ b) (A : Option Addr) (c : Nat) (w : World) (hr : Rd w 4 A l.length c (entV l)) :
    Calls Tryz.prog 55 #[.slice A l.length c, .int .i64 b] w (SplitE w l [] 0) := by
  have RW := fun w hr => Lib.hid (row_any l hok (by omega) A c w hr);have SZ := fun w hr => Lib.hid (dsize_any l hok (by omega) A c w hr);have HP := fun w hr => Lib.hid (hasp_any l (by omega) A c w hr);have CL := fun w hr => Lib.hid (cloneEn_any A l.length c (entV l) (entV_one _) (by omega) w hr);rw [hrow] at RW;rw [any_run hrun] at HP;have h1 : decide ((b : Int) < 1) = false := decide_eq_false (by omega);have h2 : decide ((16257 : Int) < b) = false := decide_eq_false (by omega);have h3 : (sizeD l : Int) ≤ b := by omega
  generalize sizeD l = sz at *;clear hrow hok hrun;go_enter Tryz.func55, Tryz.ntmps55;go_wp2_with fail;go_step3
  go_wp2_with fail;refine (RW _ hr).out.mono ?_;rintro e w1 ⟨rfl, hu1⟩;go_wp2_with fail;refine (HP _ (hr.up hu1)).out.mono ?_;rintro e w2 ⟨rfl, hu2⟩;go_wp2_with fail;refine (SZ _ (hr.up (hu1.trans hu2))).out.mono ?_;rintro e w3 ⟨rfl, hu3⟩;go_wp2_with fail;refine (CL _ (hr.up ((hu1.trans hu2).trans hu3))).out.mono ?_;rintro e w4 ⟨v4, rfl, ho4, hu4⟩;obtain ⟨A4, c4, rfl, r4⟩ := Rd.of_own ho4;go_wp2_with fail;rw [Exit.noGoto_ret];refine bodyPost_ret (v := .tuple #[.slice A4 l.length c4, .string ⟨#[]⟩, .int .i64 0, .int .i64 0]) (by simp [results, Tryz.results55, go_sem]) rfl ?_;exact ⟨A4, c4, rfl, r4, ((hu1.trans hu2).trans hu3).trans hu4⟩
set_option maxHeartbeats 8000000 in
theorem split_big (l : Ents) (hok : ∀ e ∈ l, okE e) (hl : l.length ≤ 1024) (hrow : rowE l = 0) (hrun : ∀ e ∈ l, 1 ≤ e.run) (b : Nat) (hb : 512 ≤ b) (hb2 : b ≤ 16257) (hs : ¬ sizeD l ≤ b) (A : Option Addr) (c : Nat) (w : World) (hr : Rd w 4 A l.length c (entV l)) (h0 : l ≠ []) :
    Calls Tryz.prog 55 #[.slice A l.length c, .int .i64 b] w (SplitE w (splitV l b).2.1 (splitV l b).2.2.1 (splitV l b).2.2.2) := by
  have RW := fun w hr => Lib.hid (row_any l hok (by omega) A c w hr);have SZ := fun w hr => Lib.hid (dsize_any l hok (by omega) A c w hr);have HP := fun w hr => Lib.hid (hasp_any l (by omega) A c w hr);have hsp := (split_ok hb hb2 hrow hok hl hrun).1;have hsv : splitV l b = splitS sizesL l b := by
    unfold splitV;rw [if_neg (by omega), if_neg (by omega), if_neg (by rw [any_run hrun]; simp), if_neg hs]
  rw [hsv] at hsp ⊢;rw [hrow] at RW;rw [any_run hrun] at HP;have h1 : decide ((b : Int) < 1) = false := decide_eq_false (by omega);have h2 : decide ((16257 : Int) < b) = false := decide_eq_false (by omega);have h3 : ¬ (sizeD l : Int) ≤ b := by omega
  generalize sizeD l = sz at *;have HR := Lib.hid hr;have CT := fun n hn hn2 w hr => Lib.hid (cut_any l h0 (by omega) n hn hn2 A c w hr);have ST := fun n (hn : 0 < n) => Lib.hid (split_step (b := b) hn hrow hok hl);have OK := fun n (hn : 0 < n) c hc => Lib.hid (cut_ok hn hrow hok hl (c := c) hc);obtain ⟨i0, hi0, hz0, hz1, hz2⟩ := info_parts infoEn;obtain ⟨i1, hi1, hy0, hy1, hy2⟩ := info_parts infoU8;have HSP := Lib.hid hsp;have HROW := Lib.hid hrow;have HOK := Lib.hid hok;clear hrow hok hrun hsp hsv;go_enter Tryz.func55, Tryz.ntmps55;go_wp2_with fail;go_step3
  go_wp2_with fail;refine (RW _ hr).out.mono ?_;rintro e w1 ⟨rfl, hu1⟩;go_wp2_with fail;refine (HP _ (hr.up hu1)).out.mono ?_;rintro e w2 ⟨rfl, hu2⟩;go_wp2_with fail;refine (SZ _ (hr.up (hu1.trans hu2))).out.mono ?_;rintro e w3 ⟨rfl, hu3⟩;have hu := (hu1.trans hu2).trans hu3;clear hu1 hu2 hu3;go_wp2_with fail;go_step3
  go_wp2_with fail;go_loopg [9] 13 (fun gk s wr => ∃ i, i + gk = 13 ∧ s = .int .i64 ((2 ^ i : Nat) : Int) ∧ splitS (sizesL.drop i) l b = splitS sizesL l b ∧ Up w wr)
  case atStart => exact ⟨0, rfl, rfl, rfl, hu⟩
  case round =>
    obtain ⟨i, hi, rfl, hd, hu4⟩ := hrel;have hi13 : i < 13 := by
      refine Nat.lt_of_not_le fun h => ?_;obtain rfl : i = 13 := by omega
      have := HSP.out;rw [← hd] at this;exact absurd this (by rw [show sizesL.drop 13 = [] from rfl]; unfold splitS; decide)
    obtain ⟨m, rfl⟩ : ∃ m, gk = m + 1 := ⟨gk - 1, by omega⟩
    have hst : splitS (sizesL.drop i) l b = match splitAt (2 ^ i) l b with
      | some st => (0, st.1, st.2, 2 ^ i)
      | none => splitS (sizesL.drop (i + 1)) l b := by
      have : ∀ i : Fin 13, sizesL.drop i.val = 2 ^ i.val :: sizesL.drop (i.val + 1) := by decide
      rw [this ⟨i, hi13⟩];rfl
    have hn0 : 0 < 2 ^ i := Nat.pow_pos (by omega);have hn1 : 2 ^ i ≤ 4096 := Nat.pow_le_pow_right (n := 2) (by omega) (show i ≤ 12 by omega);have hn2 : 2 ^ (i + 1) = 2 ^ i * 2 := Nat.pow_succ ..;rw [hst, (ST _ hn0).out] at hd;obtain ⟨n, hn⟩ : ∃ n, 2 ^ i = n := ⟨_, rfl⟩;rw [hn] at hn0 hn1 hn2 hd ⊢;have HN2 := Lib.hid hn2;have CT' := fun w hr => (CT n hn0 hn1 w hr);have OK' := fun c hc => (OK n hn0 c hc);have hcl : (cutL n l).length ≤ 1024 := by
      have := flat_len (cut_ne l hn0);rw [cut_flat l hn0] at this;omega
    have FL := fun k => Lib.hid (flat_le50 hn0 HROW.out HOK.out hl k);have DL := fun c hc => Lib.hid ((cut_dirs hn0 HROW.out HOK.out hl (cutL n l) (fun c hc => hc)).2 c hc);have RO := Lib.hid (root_okE hn0 HROW.out HOK.out hl);have FNE := Lib.hid (flat_pos (cut_pos (n := n) hn0 h0));clear HROW HOK;generalize cutL n l = cs at *;have HD := Lib.hid hd;have HU4 := Lib.hid hu4;have hnI : (n : Int) ≤ 4096 := by omega
    clear hst hd hu4 hn hn2 CT ST OK hu;go_wp2_with fail;refine (CT' _ (HR.out.up HU4.out)).out.mono ?_;rintro e w5 ⟨v5, vs, rfl, ho5, hrows, hu5⟩;obtain ⟨A5, c5, rfl, r5⟩ := Rd.of_own ho5;have HU5 := Lib.hid (HU4.out.trans hu5);have HROWS := Lib.hid hrows;have HR5 := Lib.hid r5;clear ho5 hrows hu5 r5 CT';go_wp2_with fail;go_loopg [10, 11, 43] cs.length (fun gj rv tv s wx => ∃ k tl : Nat, k + gj = cs.length ∧ s = .int .i64 k ∧ tl = ((cs.take k).flatMap dirB).length ∧ wx.ownsRow w5.heap.size 84 4 rv k (entV (roots 0 (cs.take k))) ∧ wx.ownsRow w5.heap.size 5 1 tv tl (byV ((cs.take k).flatMap dirB)) ∧ Up w5 wx)
    case atStart => exact ⟨0, 0, by omega, rfl, rfl, by simpa [roots, entV_nil] using World.ownsRow_nil _ _ _ _, by simpa [byV] using World.ownsRow_nil _ _ _ _, Up.refl w5⟩
    case round =>
      rename World => wx
      obtain ⟨k, tl, hk, rfl, htl, ho1, ho2, hu6⟩ := hrel;have HTL := Lib.hid htl;obtain ⟨A7, c7, rfl, r7⟩ := Rd.of_own ho2;have HR7 := Lib.hid r7;clear r7;have HO1 := Lib.hid ho1;have HO2 := Lib.hid ho2;have HU6 := Lib.hid hu6;clear ho1 ho2 hu6 htl;by_cases hlt : k < cs.length
      · obtain ⟨m2, rfl⟩ : ∃ m, gk = m + 1 := ⟨gk - 1, by omega⟩;obtain ⟨b5, o5, u, rfl, g1, g2⟩ := HR5.out.one hlt;have hmem := List.getElem_mem hlt;have ho := HROWS.out.2 k u cs[k] g1 (List.getElem?_eq_getElem hlt);obtain ⟨q1, q2, q3, q4⟩ := (OK' _ hmem).out;have hdl := (DL _ hmem).out;have hfl := (FL k).out;have hts : cs.take (k + 1) = cs.take k ++ [cs[k]] := List.take_succ_eq_append_getElem hlt;have HTS := Lib.hid hts;obtain ⟨ck, hck⟩ : ∃ ck, cs[k] = ck := ⟨_, rfl⟩;rw [hck] at ho q1 q2 q3 q4 hdl HTS;obtain ⟨x, t, rfl⟩ : ∃ x t, ck = x :: t := by
          cases ck with
          | nil => exact absurd rfl q4
          | cons x t => exact ⟨x, t, rfl⟩
        obtain ⟨A6, c6, rfl, r6⟩ := Rd.of_own ho;have d0 := HU6.out.cell g2;replace r6 := r6.up HU6.out;obtain ⟨b6, o6, rfl, f0, f1, f2, f3⟩ := r6.ent (k := 0) (by simp);clear f1 f2 f3;simp only [Nat.zero_mul, Nat.add_zero, List.getElem_cons_zero] at f0;have DE := Lib.hid (denc_any (x :: t) q3 (by omega) _ _ wx r6);rw [q1, show encB (x :: t) = dirB (x :: t) by unfold encB; rw [if_pos q1]] at DE;have hw1 : IntKind.u64.wrap ((((cs.take k).flatMap dirB).length : Nat) : Int) = ((((cs.take k).flatMap dirB).length : Nat) : Int) := IntWalk.u64_in _ (by omega);have hw2 : IntKind.u32.wrap (((dirB (x :: t)).length : Nat) : Int) = (((dirB (x :: t)).length : Nat) : Int) := IntWalk.u32_in _ (by omega);have hltI : (k : Int) < (cs.length : Int) := by omega
        have HRT := Lib.hid (roots_snoc (cs.take k) (x :: t) 0);have HFS := Lib.hid (flat_snoc (cs.take k) (x :: t));rw [Nat.zero_add, show ((x :: t).headD zE) = x from rfl] at HRT;obtain ⟨n2, hn2⟩ : ∃ n2, (x :: t).length = n2 := ⟨_, rfl⟩;rw [hn2] at d0 DE;have hn2p : 0 < n2 := by rw [← hn2]; simp
        clear ho q1 q2 q3 q4 hts hck hmem g1 g2 r6 hn2;generalize x :: t = ck at *;generalize dirB ck = ds at *;generalize cs.take k = p at *;generalize p.flatMap dirB = pf at *;obtain rfl : tl = pf.length := HTL.out;have HSZ := Lib.hid (show (ByteArray.mk ds.toArray).size = ds.length by simp [ByteArray.size]);go_wp2_with fail;refine DE.out.mono ?_;rintro e w6 ⟨rfl, hu7⟩;replace f0 := hu7.cell f0;have o1 := own_up HO1.out hu7;have o2 := own_up HO2.out hu7;have HUW := Lib.hid (HU6.out.trans hu7);clear HO1 HO2 hu7
        go_wp2_with (first
          | (at_builtin; refine app_one w6 rfl _ _ 24 rfl w5.heap.size 84 i0 _ 4 24 Tryz.underlying24 hi0 hz0 hz1 hz2 rfl (by decide) _ _ _ o1 rfl #[.int .u64 (x.id : Int), .int .u64 ((pf.length : Nat) : Int), .int .u32 ((ds.length : Nat) : Int), .int .u32 0] rfl rfl (by simp [Value.oneCell']) (by omega) (by omega) (by have := HUW.out.le; omega) ?_; intro v7 w7 ho7 hg7 hb7)
          | (at_builtin; have HOX := own_other o2 hg7 (own_row o1) (by decide); refine Lib.wpList_append_own_string w7 rfl _ _ 49 9 rfl w5.heap.size 5 i1 Tryz.underlying49 Tryz.underlying9 hi1 hy0 hy1 hy2 _ _ _ rfl HOX ⟨ds.toArray⟩ rfl (by rw [HSZ.out]; unfold maxLen; omega) (by rw [HSZ.out]; omega) (by have := HUW.out.le; have := hb7.size; omega) ?_; intro v8 w8 ho8 hg8 _))
        go_roundg m2
        case measure => omega
        case rel =>
          have hU7 := HUW.out.base (Nat.le_refl _) hb7;have hs7 := hb7.size;have hU8 : Up w5 w8 := hU7.base (Nat.le_refl _) ((Below.refl w5.heap.size w7).grown hg8 hU7.le (fun j hj => (HOX.lt j hj).1));refine ⟨k + 1, (pf ++ ds).length, by omega, by go_num, by rw [HTS.out, HFS.out], ?_, ?_, hU8⟩
          · rw [HTS.out, HRT.out, entV_snoc];exact own_other ho7 hg8 (own_row HOX) (by decide)
          · rw [HTS.out, HFS.out, List.length_append, byV_app];rw [strC_by, HSZ.out] at ho8;exact ho8
      · obtain rfl : k = cs.length := by omega
        rw [List.take_length] at HO1 HO2 HR7 HTL;obtain ⟨A9, c9, rfl, r9⟩ := Rd.of_own HO1.out;have hrl := roots_len cs 0;have hro := RO.out;have hfl := (FL cs.length).out;rw [List.take_length] at hfl;have DS := fun w hr => Lib.hid (dsize_any (roots 0 cs) hro (by omega) A9 c9 w hr);simp only [roots_len] at DS;generalize roots 0 cs = rl at *;generalize cs.flatMap dirB = fs at *;obtain rfl : tl = fs.length := HTL.out;have r10 := HR7.out;obtain rfl : gk = 0 := by omega
        have HRL := Lib.hid hrl;clear hlt hk hrl;generalize hT : splitS sizesL l b = T at *;by_cases hbs : b < sizeD rl
        · have hd := HD.out;rw [if_pos hbs] at hd;have HD2 := Lib.hid hd;have hbI : (b : Int) < (sizeD rl : Int) := by omega
          have e2 : IntKind.i64.wrap ((n : Int) * 2) = ((n * 2 : Nat) : Int) := by rw [IntWalk.i64_in _ (by omega)]; omega
          generalize sizeD rl = szr at *;clear hd HD r10;go_wp2_with fail;refine (DS _ r9).out.mono ?_;rintro e w6 ⟨rfl, hu7⟩;go_wp2_with fail;go_roundg m
          case measure => omega
          case rel => exact ⟨i + 1, by omega, by rw [HN2.out]; simp, HD2.out, (HU5.out.trans HU6.out).trans hu7⟩
        · have hd := HD.out;rw [if_neg hbs] at hd;have hd : (0, rl, fs, n) = T := hd;subst hd;have hbI : ¬ (b : Int) < (sizeD rl : Int) := by omega
          generalize sizeD rl = szr at *;clear HD;go_wp2_with fail;refine (DS _ r9).out.mono ?_;rintro e w6 ⟨rfl, hu7⟩;have MK := Lib.hid (fun w' (h : Up w6 w') => (⟨h, ((r10.up hu7).up h).str FNE.out⟩ : Up w6 w' ∧ (convert 49 9 (.slice A7 fs.length c7)).run Tryz.prog w' = .ok (.string ⟨fs.toArray⟩) w'));go_wp2_with fail
          go_region_held3 (fun w' => Up w6 w' ∧ (convert 49 9 (.slice A7 fs.length c7)).run Tryz.prog w' = .ok (.string ⟨fs.toArray⟩) w')
            (first
              | assumption
              | exact MK.out _ (Up.refl _).drew)
            (fail)
          go_wp2_with fail;(try rw [Exit.noGoto_ret]);refine bodyPost_ret (v := .tuple #[.slice A9 cs.length c9, .string ⟨fs.toArray⟩, .int .i64 n, .int .i64 0]) (by simp [results, Tryz.results55, go_sem]) rfl ?_;refine ⟨A9, c9, by rw [HRL.out], ?_, ((HU5.out.trans HU6.out).trans hu7).drew⟩;rw [HRL.out];exact (r9.up hu7).up (Up.refl _).drew
theorem split_any (l : Ents) (hok : ∀ e ∈ l, okE e) (hl : l.length ≤ 1024) (hrow : rowE l = 0) (hrun : ∀ e ∈ l, 1 ≤ e.run) (b : Nat) (hb : 512 ≤ b) (hb2 : b ≤ 16257) (A : Option Addr) (c : Nat) (w : World) (hr : Rd w 4 A l.length c (entV l)) :
    Calls Tryz.prog 55 #[.slice A l.length c, .int .i64 b] w (SplitE w (splitV l b).2.1 (splitV l b).2.2.1 (splitV l b).2.2.2) := by
  by_cases hs : sizeD l ≤ b
  · have hsv : splitV l b = (0, l, [], 0) := by
      unfold splitV;rw [if_neg (by omega), if_neg (by omega), if_neg (by rw [any_run hrun]; simp), if_pos hs]
    rw [hsv];exact split_small l hok hl hrow hrun b hb hb2 hs A c w hr
  · refine split_big l hok hl hrow hrun b hb hb2 hs A c w hr ?_;rintro rfl
    exact hs (by have : sizeD [] ≤ 512 := by decide +kernel
                 omega)
end Go.Proofs.YtbfieomjobbhoaaGreatDoor
