/- Walks: dirs.next, number, numbers, Size, Encode. -/
import Derived.Test.YtcfmidmokciofaaGreatDoorKR07
import Derived.Test.YtcfmidmokciofaaGreatDoorKR06
namespace Go.Proofs.YtcfmidmokciofaaGreatDoor
open Go.RowKit Go.Gz Go.Shelf

set_option maxRecDepth 100000
attribute [local go_sem] Oper.semAt_some
theorem next_any (e : Ent) (h : e.off + e.len ≤ 1099511627776) (w : World) :
    Calls Tryz.prog 181 #[entA e] w fun en w' => en = .returned (.int .u64 ((e.off + e.len : Nat) : Int)) ∧ Up w w' := by
  obtain ⟨id, off, len, run⟩ := e;simp only [entA] at *;have e1 : IntKind.u64.wrap ((off : Int) + (len : Int)) = (off : Int) + (len : Int) := IntWalk.u64_in _ (by omega);go_enter Tryz.func181, Tryz.ntmps181;go_wp2_with fail;go_ret;exact ⟨ret_int (by omega), (Up.refl w).alloc _⟩
set_option maxHeartbeats 2000000 in
theorem number_any (c i : Nat) (hc : c < 4) (hi : i ≤ 4096) (a e : Ent) (ha : a.off + a.len ≤ 1099511627776) (hae : a.id ≤ e.id) (he : okE e) (hc2 : chkE e = 0) (w : World) :
    Calls Tryz.prog 141 #[.int .i64 c, .int .i64 i, entA a, entA e] w fun en w' => en = .returned (.int .u64 (numC c i a e : Nat)) ∧ Up w w' := by
  have NX := fun w => Lib.hid (next_any a ha w);have hoff := (chk_ok hc2).2.2;clear hc2;have h0 : numC c i a e = if c = 0 then e.id - a.id else if c = 1 then e.run else if c = 2 then e.len else if 0 < i ∧ e.off = a.off + a.len then 0 else e.off + 1 := rfl
  generalize numC c i a e = v at *;generalize a.off + a.len = na at *;obtain ⟨aid, aoff, alen, arun⟩ := a;obtain ⟨id, off, len, run⟩ := e;obtain ⟨h1, h2, h3, h4⟩ := he;simp only [entA] at *;have H0 := Lib.hid h0;clear h0;have n0 := new4 w 72 (.int .u64 aid) (.int .u64 aoff) (.int .u32 alen) (.int .u32 arun);have HU0 := Lib.hid n0.1;have NA := Lib.hid n0.2;have n1 := new4 (w.alloc (.cells #[.int .u64 aid, .int .u64 aoff, .int .u32 alen, .int .u32 arun] 72)) 72 (.int .u64 id) (.int .u64 off) (.int .u32 len) (.int .u32 run);rw [show (w.alloc (.cells #[.int .u64 aid, .int .u64 aoff, .int .u32 alen, .int .u32 arun] 72)).heap.size = w.heap.size + 1 by simp] at n1;have HU1 := Lib.hid n1.1;have NE := Lib.hid n1.2;clear n0 n1;by_cases c0 : c = 0
  · subst c0;have e1 : IntKind.u64.wrap ((id : Int) - (aid : Int)) = (id : Int) - (aid : Int) := IntWalk.u64_in _ (by omega);have E := H0.out;rw [if_pos rfl] at E;have EE := Lib.hid E;clear E H0;go_enter Tryz.func141, Tryz.ntmps141;go_wp2_with fail;go_ret;exact ⟨ret_int (by rw [EE.out]; omega), HU0.out.trans HU1.out⟩
  by_cases c1 : c = 1
  · subst c1;have E := H0.out;rw [if_neg (by omega), if_pos rfl] at E;have EE := Lib.hid E;clear E H0 c0;go_enter Tryz.func141, Tryz.ntmps141;go_wp2_with fail;go_ret;exact ⟨ret_int (by rw [EE.out]), HU0.out.trans HU1.out⟩
  by_cases c2 : c = 2
  · subst c2;have E := H0.out;rw [if_neg (by omega), if_neg (by omega), if_pos rfl] at E;have EE := Lib.hid E;clear E H0 c0 c1;go_enter Tryz.func141, Tryz.ntmps141;go_wp2_with fail;go_ret;exact ⟨ret_int (by rw [EE.out]), HU0.out.trans HU1.out⟩
  obtain rfl : c = 3 := by omega
  have E := H0.out;rw [if_neg (by omega), if_neg (by omega), if_neg (by omega)] at E;have EE := Lib.hid E;clear E H0 c0 c1 c2;have e1 : IntKind.u64.wrap ((off : Int) + 1) = (off : Int) + 1 := IntWalk.u64_in _ (by omega);by_cases hi0 : 0 < i
  · have hiI : (0 : Int) < (i : Int) := by omega
    by_cases ho : off = na
    · have E2 := EE.out;rw [if_pos ⟨hi0, ho⟩] at E2;have E3 := Lib.hid E2;subst ho;clear E2 EE;go_enter Tryz.func141, Tryz.ntmps141;go_wp2_with fail;obtain ⟨a0, a1, a2, a3⟩ := NA.out;replace a0 := HU1.out.cell a0;replace a1 := HU1.out.cell a1;replace a2 := HU1.out.cell a2;replace a3 := HU1.out.cell a3;obtain ⟨d0, d1, d2, d3⟩ := NE.out;have HUW := Lib.hid (HU0.out.trans HU1.out);clear NA NE HU0 HU1;generalize hW : (w.alloc _).alloc _ = W at *;have MK := Lib.hid (fun w' (h : Up W w') => (⟨h, h.cell a0, h.cell a1, h.cell a2, h.cell a3, h.cell d0, h.cell d1, h.cell d2, h.cell d3⟩ : Up W w' ∧ w'.cell? ⟨w.heap.size, 0, none⟩ = some (.int .u64 aid) ∧ w'.cell? ⟨w.heap.size, 1, none⟩ = some (.int .u64 aoff) ∧ w'.cell? ⟨w.heap.size, 2, none⟩ = some (.int .u32 alen) ∧ w'.cell? ⟨w.heap.size, 3, none⟩ = some (.int .u32 arun) ∧ w'.cell? ⟨(w.heap.size + 1), 0, none⟩ = some (.int .u64 id) ∧ w'.cell? ⟨(w.heap.size + 1), 1, none⟩ = some (.int .u64 off) ∧ w'.cell? ⟨(w.heap.size + 1), 2, none⟩ = some (.int .u32 len) ∧ w'.cell? ⟨(w.heap.size + 1), 3, none⟩ = some (.int .u32 run)));clear hW
      go_region_held3 (fun w' => Up W w' ∧ w'.cell? ⟨w.heap.size, 0, none⟩ = some (.int .u64 aid) ∧ w'.cell? ⟨w.heap.size, 1, none⟩ = some (.int .u64 aoff) ∧ w'.cell? ⟨w.heap.size, 2, none⟩ = some (.int .u32 alen) ∧ w'.cell? ⟨w.heap.size, 3, none⟩ = some (.int .u32 arun) ∧ w'.cell? ⟨(w.heap.size + 1), 0, none⟩ = some (.int .u64 id) ∧ w'.cell? ⟨(w.heap.size + 1), 1, none⟩ = some (.int .u64 off) ∧ w'.cell? ⟨(w.heap.size + 1), 2, none⟩ = some (.int .u32 len) ∧ w'.cell? ⟨(w.heap.size + 1), 3, none⟩ = some (.int .u32 run))
        (first
          | assumption
          | exact MK.out _ (Up.refl _)
          | exact MK.out _ (Up.refl _).drew
          | exact MK.out _ (Up.trans (And.left (by assumption)) (by assumption))
          | exact MK.out _ (Up.alloc (And.left (by assumption)) _)
          | exact MK.out _ (Up.trans (Up.alloc (And.left (by assumption)) _) (by assumption)))
        (first
          | (go_at_call 181; refine (NX _).out.mono ?_; rintro e w1 ⟨rfl, hu1⟩))
      all_goals
        obtain ⟨su, s0, s1, s2, s3, t0, t1, t2, t3⟩ : Up W w1 ∧ w1.cell? ⟨w.heap.size, 0, none⟩ = some (.int .u64 aid) ∧ w1.cell? ⟨w.heap.size, 1, none⟩ = some (.int .u64 aoff) ∧ w1.cell? ⟨w.heap.size, 2, none⟩ = some (.int .u32 alen) ∧ w1.cell? ⟨w.heap.size, 3, none⟩ = some (.int .u32 arun) ∧ w1.cell? ⟨(w.heap.size + 1), 0, none⟩ = some (.int .u64 id) ∧ w1.cell? ⟨(w.heap.size + 1), 1, none⟩ = some (.int .u64 off) ∧ w1.cell? ⟨(w.heap.size + 1), 2, none⟩ = some (.int .u32 len) ∧ w1.cell? ⟨(w.heap.size + 1), 3, none⟩ = some (.int .u32 run) := by assumption
        go_wp2_with fail;go_ret;exact ⟨ret_int (by rw [E3.out]; rfl), HUW.out.trans su⟩
    · have E2 := EE.out;rw [if_neg (by omega)] at E2;have E3 := Lib.hid E2;have hb : ((off : Int) == (na : Int)) = false := by rw [beq_eq_false_iff_ne]; omega
      clear E2 EE ho;go_enter Tryz.func141, Tryz.ntmps141;go_wp2_with fail;obtain ⟨a0, a1, a2, a3⟩ := NA.out;replace a0 := HU1.out.cell a0;replace a1 := HU1.out.cell a1;replace a2 := HU1.out.cell a2;replace a3 := HU1.out.cell a3;obtain ⟨d0, d1, d2, d3⟩ := NE.out;have HUW := Lib.hid (HU0.out.trans HU1.out);clear NA NE HU0 HU1;generalize hW : (w.alloc _).alloc _ = W at *;have MK := Lib.hid (fun w' (h : Up W w') => (⟨h, h.cell a0, h.cell a1, h.cell a2, h.cell a3, h.cell d0, h.cell d1, h.cell d2, h.cell d3⟩ : Up W w' ∧ w'.cell? ⟨w.heap.size, 0, none⟩ = some (.int .u64 aid) ∧ w'.cell? ⟨w.heap.size, 1, none⟩ = some (.int .u64 aoff) ∧ w'.cell? ⟨w.heap.size, 2, none⟩ = some (.int .u32 alen) ∧ w'.cell? ⟨w.heap.size, 3, none⟩ = some (.int .u32 arun) ∧ w'.cell? ⟨(w.heap.size + 1), 0, none⟩ = some (.int .u64 id) ∧ w'.cell? ⟨(w.heap.size + 1), 1, none⟩ = some (.int .u64 off) ∧ w'.cell? ⟨(w.heap.size + 1), 2, none⟩ = some (.int .u32 len) ∧ w'.cell? ⟨(w.heap.size + 1), 3, none⟩ = some (.int .u32 run)));clear hW
      go_region_held3 (fun w' => Up W w' ∧ w'.cell? ⟨w.heap.size, 0, none⟩ = some (.int .u64 aid) ∧ w'.cell? ⟨w.heap.size, 1, none⟩ = some (.int .u64 aoff) ∧ w'.cell? ⟨w.heap.size, 2, none⟩ = some (.int .u32 alen) ∧ w'.cell? ⟨w.heap.size, 3, none⟩ = some (.int .u32 arun) ∧ w'.cell? ⟨(w.heap.size + 1), 0, none⟩ = some (.int .u64 id) ∧ w'.cell? ⟨(w.heap.size + 1), 1, none⟩ = some (.int .u64 off) ∧ w'.cell? ⟨(w.heap.size + 1), 2, none⟩ = some (.int .u32 len) ∧ w'.cell? ⟨(w.heap.size + 1), 3, none⟩ = some (.int .u32 run))
        (first
          | assumption
          | exact MK.out _ (Up.refl _)
          | exact MK.out _ (Up.refl _).drew
          | exact MK.out _ (Up.trans (And.left (by assumption)) (by assumption))
          | exact MK.out _ (Up.alloc (And.left (by assumption)) _)
          | exact MK.out _ (Up.trans (Up.alloc (And.left (by assumption)) _) (by assumption)))
        (first
          | (go_at_call 181; refine (NX _).out.mono ?_; rintro e w1 ⟨rfl, hu1⟩))
      all_goals
        obtain ⟨su, s0, s1, s2, s3, t0, t1, t2, t3⟩ : Up W w1 ∧ w1.cell? ⟨w.heap.size, 0, none⟩ = some (.int .u64 aid) ∧ w1.cell? ⟨w.heap.size, 1, none⟩ = some (.int .u64 aoff) ∧ w1.cell? ⟨w.heap.size, 2, none⟩ = some (.int .u32 alen) ∧ w1.cell? ⟨w.heap.size, 3, none⟩ = some (.int .u32 arun) ∧ w1.cell? ⟨(w.heap.size + 1), 0, none⟩ = some (.int .u64 id) ∧ w1.cell? ⟨(w.heap.size + 1), 1, none⟩ = some (.int .u64 off) ∧ w1.cell? ⟨(w.heap.size + 1), 2, none⟩ = some (.int .u32 len) ∧ w1.cell? ⟨(w.heap.size + 1), 3, none⟩ = some (.int .u32 run) := by assumption
        go_wp2_with fail;go_ret;exact ⟨ret_int (by rw [E3.out]; omega), HUW.out.trans su⟩
  · have E2 := EE.out;rw [if_neg (by omega)] at E2;have E3 := Lib.hid E2;obtain rfl : i = 0 := by omega
    clear E2 EE hi0;go_enter Tryz.func141, Tryz.ntmps141;go_wp2_with fail;obtain ⟨d0, d1, d2, d3⟩ := NE.out;have HUW := Lib.hid (HU0.out.trans HU1.out);clear NA NE HU0 HU1;generalize hW : (w.alloc _).alloc _ = W at *;clear hW;refine wp_region_held_drew (S := fun w' => Up W w') (by kernel_rfl) ?_ (fun hHeld => ?_)
    · exact (Up.refl W).drew
    refine tk 0 rfl ?_;(try simp only [Act.put, tz1, tz2, tz3]);refine tk 1 rfl ?_;(try simp only [Act.put, tz1, tz2, tz3]);refine tk 2 rfl ?_;(try simp only [Act.put, tz1, tz2, tz3]);refine tk 3 rfl ?_;(try simp only [Act.put, tz1, tz2, tz3]);refine tk 4 rfl ?_;(try simp only [Act.put, tz1, tz2, tz3]);refine tk 5 rfl ?_;(try simp only [Act.put, tz1, tz2, tz3]);refine tk 6 rfl ?_;(try simp only [Act.put, tz1, tz2, tz3]);refine tk 7 rfl ?_;(try simp only [Act.put, tz1, tz2, tz3]);refine tk 8 rfl ?_;(try simp only [Act.put, tz1, tz2, tz3]);refine tk 9 rfl ?_;(try simp only [Act.put, tz1, tz2, tz3]);refine wpAnyH_done (by kernel_rfl) ?_ _;have d1' : W.drew.cell? ⟨w.heap.size + 1, 1, none⟩ = some (.int .u64 off) := ((Up.refl W).drew).cell d1;go_wp2_with fail;go_ret;exact ⟨ret_int (by rw [E3.out]; omega), HUW.out.trans (Up.refl W).drew⟩
end Go.Proofs.YtcfmidmokciofaaGreatDoor
/- Walks: dirs.numbers: the iterator over all numbers of a directory. -/
namespace Go.Gz
def prevE (l : Ents) (i : Nat) : Ent := if i = 0 then zE else l.getD (i - 1) zE
theorem colN_get (c : Nat) (l : Ents) : ∀ (j : Nat) (a : Ent) (i : Nat) (h : i < l.length), (colN c j a l)[i]? = some (numC c (j + i) (if i = 0 then a else l.getD (i - 1) zE) l[i]) := by
  induction l with
  | nil => intro j a i h; simp at h
  | cons e r ih =>
    intro j a i h;unfold colN;cases i with
    | zero => rfl
    | succ i =>
      have hi : i < r.length := by simpa using h
      rw [List.getElem?_cons_succ, ih (j + 1) e i hi];simp only [List.getElem_cons_succ, Nat.succ_ne_zero, if_false, Nat.add_sub_cancel];congr 2
      · omega
      · cases i with
        | zero => rfl
        | succ i => simp
theorem nums_get (l : Ents) (c i : Nat) (hc : c < 4) (hi : i < l.length) : (nums l)[1 + (c * l.length + i)]? = some (numC c i (prevE l i) l[i]) := by
  have g := fun c => colN_get c l 0 zE i hi;have hl := fun c => colN_len c l 0 zE;unfold nums prevE;rw [show 1 + (c * l.length + i) = (c * l.length + i) + 1 by omega, List.getElem?_cons_succ];match c, hc with
  | 0, _ => rw [Nat.zero_mul, Nat.zero_add, List.getElem?_append_left (by rw [hl]; omega), g]; simp
  | 1, _ => rw [Nat.one_mul, List.getElem?_append_right (by rw [hl]; omega), hl, Nat.add_sub_cancel_left, List.getElem?_append_left (by rw [hl]; omega), g]; simp
  | 2, _ => rw [List.getElem?_append_right (by rw [hl]; omega), hl, List.getElem?_append_right (by rw [hl]; omega), hl, show 2 * l.length + i - l.length - l.length = i by omega, List.getElem?_append_left (by rw [hl]; omega), g]; simp
  | 3, _ => rw [List.getElem?_append_right (by rw [hl]; omega), hl, List.getElem?_append_right (by rw [hl]; omega), hl, List.getElem?_append_right (by rw [hl]; omega), hl, show 3 * l.length + i - l.length - l.length - l.length = i by omega, g]; simp
theorem prev_ok {l : Ents} (h : rowE l = 0) (i : Nat) (hi : i < l.length) : (prevE l i).off + (prevE l i).len ≤ 1099511627776 ∧ (prevE l i).id ≤ l[i].id := by
  unfold prevE;by_cases h0 : i = 0
  · rw [if_pos h0]; simp [zE]
  · rw [if_neg h0];obtain ⟨j, rfl⟩ : ∃ j, i = j + 1 := ⟨i - 1, by omega⟩;have hj : j < l.length := by omega
    have e : l.getD (j + 1 - 1) zE = l[j] := by simp [List.getD, List.getElem?_eq_getElem hj]
    rw [e];have hr := (row_iff l).1 h;have h1 := chk_ok (hr.2.1 l[j] (List.getElem_mem hj));have h2 := (List.pairwise_iff_getElem.1 hr.2.2) j (j + 1) hj hi (by omega);have := wide_pos l[j];omega
end Go.Gz
namespace Go.Proofs.YtcfmidmokciofaaGreatDoor
open Go.RowKit Go.Gz Go.Shelf

set_option maxRecDepth 100000
attribute [local go_sem] Oper.semAt_some
theorem Rd.keep {w w' : World} {size n c n₀ : Nat} {Bs : List Nat} {A : Option Addr} {xs : List Value} (h : Rd w size A n c xs) (hA : ∀ a, A = some a → 0 < n → a.block < n₀) (hk : ∀ p : Addr, p.block < n₀ ∨ p.block ∈ Bs → w'.cell? p = w.cell? p) : Rd w' size A n c xs :=
  ⟨h.1, h.2.1, h.2.2.1, h.2.2.2.1, fun hn => let ⟨b, o, e, hc⟩ := h.2.2.2.2 hn; ⟨b, o, e, fun j u hj => (hk ⟨b, o + j, none⟩ (.inl (hA ⟨b, o, none⟩ e hn))).trans (hc j u hj)⟩⟩
/-- a block of four cells -/
theorem blk_four {w : World} {b : Nat} {u0 u1 u2 u3 : Value} {t : TypeId} (h : w.heap[b]? = some (.cells #[u0, u1, u2, u3] t (0, 0))) :
    (w.cell? ⟨b, 0, none⟩ = some u0 ∧ w.frozen? ⟨b, 0, none⟩ = false) ∧ (w.cell? ⟨b, 1, none⟩ = some u1 ∧ w.frozen? ⟨b, 1, none⟩ = false) ∧ (w.cell? ⟨b, 2, none⟩ = some u2 ∧ w.frozen? ⟨b, 2, none⟩ = false) ∧ (w.cell? ⟨b, 3, none⟩ = some u3 ∧ w.frozen? ⟨b, 3, none⟩ = false) := by
  refine ⟨⟨cell_of_row _ b 0 _ _ _ h, ?_⟩, ⟨cell_of_row _ b 1 _ _ _ h, ?_⟩, ⟨cell_of_row _ b 2 _ _ _ h, ?_⟩, ⟨cell_of_row _ b 3 _ _ _ h, ?_⟩⟩;all_goals simp [World.frozen?, h]
theorem set_four {w : World} {b : Nat} {u0 u1 u2 u3 : Value} {t : TypeId} (h : w.heap[b]? = some (.cells #[u0, u1, u2, u3] t (0, 0))) (v0 v1 v2 v3 : Value) :
    w.grownBy ((((w.setCell ⟨b, 0, none⟩ v0).setCell ⟨b, 1, none⟩ v1).setCell ⟨b, 2, none⟩ v2).setCell ⟨b, 3, none⟩ v3) (some b) ∧
    ((((w.setCell ⟨b, 0, none⟩ v0).setCell ⟨b, 1, none⟩ v1).setCell ⟨b, 2, none⟩ v2).setCell ⟨b, 3, none⟩ v3).heap[b]? = some (.cells #[v0, v1, v2, v3] t (0, 0)) := by
  have g : ∀ (W : World) (o : Nat) (v : Value), W.grownBy (W.setCell ⟨b, o, none⟩ v) (some b) := fun W o v =>
    ⟨rfl, rfl, rfl, by simp, fun j hj hne => Below.heap_setCell W ⟨b, o, none⟩ v j (fun e => hne (by rw [e]))⟩
  refine ⟨(((g _ _ _).trans (g _ _ _)).trans (g _ _ _)).trans (g _ _ _), ?_⟩;have h1 := heap_setCell_same w b 0 _ _ v0 h;have h2 := heap_setCell_same _ b 1 _ _ v1 h1;have h3 := heap_setCell_same _ b 2 _ _ v2 h2;exact heap_setCell_same _ b 3 _ _ v3 h3
theorem numbers_any (A : Option Addr) (n c : Nat) (w : World) :
    Calls Tryz.prog 88 #[.slice A n c] w fun e w' => e = .returned (.func (.func 140) #[] #[.pointer (some ⟨w.heap.size, 0, none⟩)]) ∧ w' = w.alloc (.cells #[.slice A n c] 38) := by
  go_enter Tryz.func88, Tryz.ntmps88;go_wp2_with fail;go_ret;exact ⟨rfl, rfl⟩
set_option maxHeartbeats 4000000 in
theorem numbers_all (n : Nat) (hn : 1 ≤ n) (l : Ents) (hrow : rowE l = 0) (hok : ∀ e ∈ l, okE e) (B n₀ : Nat) (A : Option Addr) (c : Nat) (w : World) (hb : w.cell? ⟨B, 0, none⟩ = some (.slice A l.length c)) (hr : Rd w 4 A l.length c (entV l)) (hA : ∀ a, A = some a → 0 < l.length → a.block < n₀) (hn0 : n₀ ≤ w.heap.size) :
    SeqAll Fence.wide n Tryz.prog 140 #[.pointer (some ⟨B, 0, none⟩)] (fun x : Nat => #[.int .u64 x]) (KeepB 72 n₀ [B]) (nums l) 72 w := by
  intro lp J W hu hJ hT hY h0;have hlen := row_len hrow;have hb1 := hu.cell hb;have hr1 := hr.up hu;obtain ⟨fn, tmps, assign, body, hy, hR⟩ := hY 0 l.length W rfl h0;dsimp only at hy;refine callsIn_of_wp Tryz.func140 rfl trivial ?_ rfl;simp only [Tryz.ntmps140, List.size_toArray, List.length_cons, List.length_nil, Nat.reduceAdd, Nat.reduceSub, Array.replicate_succ, Array.replicate_zero, List.push_toArray, List.append_toArray, List.nil_append, List.cons_append];gi_wp2;refine hR.mono ?_;rintro e W1 ⟨rfl, hJ1, hk1⟩;have hb2 := (hk1.cell ⟨B, 0, none⟩ (.inr (by simp))).trans hb1;have hr2 := hr1.keep hA hk1.cell;have HO := Lib.hid hok;have HROW := Lib.hid hrow;have hW1 : W.heap.size ≤ W1.heap.size := hk1.size;gi_wp2
  gi_loopw [13] (fun i wr => ∃ k : Nat, k ≤ 4 ∧ i = .int .i64 k ∧ J (1 + k * l.length) wr ∧ wr.cell? ⟨B, 0, none⟩ = some (.slice A l.length c) ∧ Rd wr 4 A l.length c (entV l) ∧ W.heap.size ≤ wr.heap.size)
    (fun i _ => 4 - (intOf i).toNat)
  case atStart => exact ⟨0, by omega, rfl, by simpa using hJ1, hb2, hr2, hW1⟩
  case round =>
    rename World => wo
    obtain ⟨k, hk, rfl, hJk, hbk, hrk, hWk⟩ := hrel;by_cases hk4 : k < 4
    · have hkI : (k : Int) < 4 := by omega
      have hn4 := new4 wo 72 (.int .u64 0) (.int .u64 0) (.int .u32 0) (.int .u32 0);have hb3 := hn4.1.cell hbk;gi_wp2
      gi_loopw [18] (fun i ws => ∃ j : Nat, j ≤ l.length ∧ i = .int .i64 j ∧ J (1 + (k * l.length + j)) ws ∧ ws.cell? ⟨B, 0, none⟩ = some (.slice A l.length c) ∧ Rd ws 4 A l.length c (entV l) ∧ W.heap.size ≤ ws.heap.size ∧
          ws.heap[wo.heap.size]? = some (.cells #[.int .u64 ((prevE l j).id : Int), .int .u64 ((prevE l j).off : Int), .int .u32 ((prevE l j).len : Int), .int .u32 ((prevE l j).run : Int)] 72 (0, 0)))
        (fun i _ => l.length - (intOf i).toNat)
      case atStart => exact ⟨0, by omega, rfl, hJ _ _ _ hJk hn4.1, hb3, hrk.up hn4.1, Nat.le_trans hWk hn4.1.le, heap_alloc_new _ _⟩
      case round =>
        obtain ⟨j, hj, rfl, hJj, hbj, hrj, hWj, hzj⟩ := hrel;by_cases hlt : j < l.length
        · have hltI : (j : Int) < (l.length : Int) := by omega
          obtain ⟨rb, ro, rfl, d0, d1, d2, d3⟩ := hrj.ent hlt;obtain ⟨g1, g2⟩ := prev_ok HROW.out j hlt;have hoj := HO.out l[j] (List.getElem_mem hlt);have hcj := row_chk HROW.out (List.getElem_mem hlt);have NB := fun w => Lib.hid (number_any k j hk4 (by omega) (prevE l j) l[j] g1 g2 hoj hcj w);have YY := Lib.hid (fun W1 => hY (1 + (k * l.length + j)) _ W1 (nums_get l k j hk4 hlt));generalize prevE l j = pe at *;have z0 := cell_of_row wr wo.heap.size 0 _ _ _ hzj;have z1 := cell_of_row wr wo.heap.size 1 _ _ _ hzj;have z2 := cell_of_row wr wo.heap.size 2 _ _ _ hzj;have z3 := cell_of_row wr wo.heap.size 3 _ _ _ hzj;generalize numC k j pe l[j] = nv at *;obtain ⟨x, hx⟩ : ∃ x, l[j]'hlt = x := ⟨_, rfl⟩;rw [hx] at d0 d1 d2 d3 NB;obtain ⟨pid, poff, plen, prun⟩ := pe;obtain ⟨id, off, len, run⟩ := x;simp only [entA] at *;have ne := new4 wr 72 (.int .u64 id) (.int .u64 off) (.int .u32 len) (.int .u32 run);replace z0 := ne.1.cell z0;replace z1 := ne.1.cell z1;replace z2 := ne.1.cell z2;replace z3 := ne.1.cell z3;have hze : (wr.alloc (.cells #[.int .u64 id, .int .u64 off, .int .u32 len, .int .u32 run] 72)).heap[wr.heap.size]? = some (.cells #[.int .u64 id, .int .u64 off, .int .u32 len, .int .u32 run] 72 (0, 0)) := heap_alloc_new wr _;gi_wp2;refine ⟨trivial, (callsIn_wide.2 (NB _).out).mono ?_⟩;rintro e w5 ⟨rfl, hu5⟩;have hJ5 := hJ _ _ _ hJj (ne.1.trans hu5);obtain ⟨fn2, tmps2, assign2, body2, hy2, hR2⟩ := YY.out w5 hJ5;(try dsimp only at hy2);gi_wp2;refine hR2.mono ?_;rintro e W3 ⟨rfl, hJ3, hk3⟩;have hze3 := hk3.own _ _ _ (hu5.obj hze);have hzj3 := hk3.own _ _ _ (hu5.obj (ne.1.obj hzj));obtain ⟨b0, b1, b2, b3⟩ := blk_four hze3;obtain ⟨q0, q1, q2, q3⟩ := blk_four hzj3;have hsz5 : wo.heap.size + 1 ≤ W3.heap.size := (Array.getElem?_eq_some_iff.1 hzj3).1;have hblt : B < w.heap.size := World.block_lt_of_cell? _ _ hb;have hle := hu.le;have hx2 := Lib.hid hx;clear hx;gi_wp2;obtain ⟨G1, G2⟩ := set_four hzj3 (.int .u64 id) (.int .u64 off) (.int .u32 len) (.int .u32 run);generalize (((W3.setCell _ _).setCell _ _).setCell _ _).setCell _ _ = W4 at *;have hkc : ∀ p : Addr, p.block < n₀ ∨ p.block ∈ [B] → W4.cell? p = W3.cell? p := fun p hp => by
            simp at hp;unfold World.cell?;rw [G1.block p.block (by omega) (by intro e; injection e with e; omega)]
          have hkr : ∀ p : Addr, p.block < n₀ ∨ p.block ∈ [B] → W4.cell? p = wr.cell? p := fun p hp => by
            have hpl : p.block < wr.heap.size := by have := ne.1.le; simp at hp; omega
            rw [hkc p hp, hk3.cell p hp, (ne.1.trans hu5).cellq hpl]
          refine ⟨⟨j + 1, by omega, by go_num, ?_, (hkr ⟨B, 0, none⟩ (.inr (by simp))).trans hbj, hrj.keep hA hkr, by have := G1.size; omega, ?_⟩, by simp [intOf]; omega⟩
          · have := hT _ _ _ _ _ _ hJ3 hWk hzj3 G1;rwa [show 1 + (k * l.length + j) + 1 = 1 + (k * l.length + (j + 1)) by omega] at this
          · rw [G2, show prevE l (j + 1) = ⟨id, off, len, run⟩ by
              unfold prevE;rw [if_neg (by omega), show j + 1 - 1 = j by omega];simp [List.getD, List.getElem?_eq_getElem hlt, hx2.out]]
        · obtain rfl : j = l.length := by omega
          gi_wp2;refine ⟨⟨k + 1, by omega, by go_num, ?_, hbj, hrj, hWj⟩, by simp [intOf]; omega⟩;rwa [show 1 + (k * l.length + l.length) = 1 + (k + 1) * l.length by rw [Nat.add_mul]; omega] at hJj
    · obtain rfl : k = 4 := by omega
      gi_wp2;go_end0
      exact ⟨⟨_, rfl⟩, by rw [nums_len]; exact hJk⟩
end Go.Proofs.YtcfmidmokciofaaGreatDoor
