/- Walks: slices.Grow of nothing, slices.Concat of two rows of spans. -/
import Derived.Test.YtjhgaildbeokkaaGreatDoorGT33
import Derived.Shelf.Spec.SlicesGrow
import Derived.Test.YtjhgaildbeokkaaGreatDoorShelf2
namespace Go.Proofs.YtjhgaildbeokkaaGreatDoor
open Go.RowKit Go.Gz Go.Shelf

set_option maxRecDepth 100000
def NewSp (w : World) (v : Value) (L : Sps) (w' : World) : Prop := w'.ownsRow w.heap.size 168 2 v L.length (spV L) ∧ Up w w'
theorem sgrow0_any (w : World) :
    Calls Tryz.prog 240 #[.slice none 0 0, .int .i64 0] w fun e w' => e = .returned (.slice none 0 0) ∧ w = w' := by
  go_enter Tryz.func240, Tryz.ntmps240;go_wp2_with fail;go_ret;exact ⟨rfl, rfl⟩
set_option maxHeartbeats 4000000 in
theorem sgrow1_any (n : Nat) (h1 : 1 ≤ n) (hn : n ≤ 100000) (w : World) :
    Calls Tryz.prog 240 #[.slice none 0 0, .int .i64 (n : Int)] w fun e w' => ∃ v, e = .returned v ∧ NewSp w v [] w' := by
  obtain ⟨i0, hi, hz0, hz1, hz2⟩ := info_parts infoSp;have hbytes : n * i0.bytes ≤ 140737488355328 := by rw [hz2]; omega
  have hrz : ∀ ty, (Builtin.append_ #[90, 3] ty #[.slice none 0 0, .int .i64 (n : Int)]).run Tryz.prog w =
      .ok (.slice (some ⟨w.heap.size, 0, none⟩) n (grownCap w n 0 168)) (w.drew.alloc (.cells (([] : List Value).toArray ++ Builtin.zeroCells (#[.int .u64 0, .int .u64 0] : Array Value) n ++ Builtin.zeroCells (#[.int .u64 0, .int .u64 0] : Array Value) (grownCap w n 0 168 - n)) 168)) := fun ty => by
    have h := Lib.run_append_grow_zeros w 90 3 ty 168 i0 _ .i64 .i64 Tryz.underlying90 Tryz.underlying3 hi hz0 none 0 0 [] (run_firstCells_none w.drew i0.size 0 0 0) n (by omega) (by rw [hz1]; decide) (by omega) (by omega) (by omega) (by
      rw [Nat.zero_add]; exact growslice_fits (by omega) hbytes)
    rw [Nat.zero_add] at h;exact h
  have hGn : n ≤ grownCap w n 0 168 := grownCap_ge w _ _ _;have hGm : grownCap w n 0 168 ≤ maxLen := grownCap_le_maxLen w n 0 168 (by unfold maxLen; omega);generalize grownCap w n 0 168 = G at *;have hG63 : G ≤ 9223372036854775807 := by unfold maxLen at hGm; omega
  have h2 : ¬ (n : Int) < 0 := by omega
  have h3 : (0 : Int) < (n : Int) := by omega
  have HGM := Lib.hid hGm;clear hGm;go_enter Tryz.func240, Tryz.ntmps240;go_wp2_with (at_builtin; refine Lib.wpList_append_run _ rfl _ _ _ _ rfl _ _ rfl rfl _ _ (hrz _) ?_)
  all_goals
    go_ret;refine ⟨_, rfl, ⟨rfl, .inr ⟨w.heap.size, G, _, rfl, Nat.le_refl _, heap_alloc_new w.drew _, Nat.zero_le _, HGM.out, ?_, ?_⟩⟩, (Up.refl w).drew.alloc _⟩
    · simp only [Array.size_append, size_zeroCells, List.size_toArray, List.length_nil, List.length_cons];omega
    · simp [spV]
def NewSE (w : World) (L : Sps) (e : Ending) (w' : World) : Prop := ∃ v, e = .returned v ∧ NewSp w v L w'
theorem sgrow_any (n : Nat) (hn : n ≤ 100000) (w : World) :
    Calls Tryz.prog 240 #[.slice none 0 0, .int .i64 (n : Int)] w (NewSE w []) := by
  by_cases h : n = 0
  · subst h;refine (sgrow0_any w).mono ?_;rintro e w' ⟨rfl, rfl⟩;exact ⟨_, rfl, World.ownsRow_nil _ _ _ _, Up.refl w⟩
  · exact (sgrow1_any n (by omega) hn w).mono fun _ _ ⟨v, h1, h2⟩ => ⟨v, h1, h2⟩
set_option maxHeartbeats 8000000 in
theorem sconcat_any (L1 L2 : Sps) (hl1 : L1.length ≤ 50000) (hl2 : L2.length ≤ 50000) (A1 A2 : Option Addr) (c1 c2 bk : Nat) (w : World) (h0 : w.cell? ⟨bk, 0, none⟩ = some (.slice A1 L1.length c1)) (h1 : w.cell? ⟨bk, 1, none⟩ = some (.slice A2 L2.length c2)) (r1 : Rd w 2 A1 L1.length c1 (spV L1)) (r2 : Rd w 2 A2 L2.length c2 (spV L2)) :
    Calls Tryz.prog 168 #[.slice (some ⟨bk, 0, none⟩) 2 2] w (NewSE w (L1 ++ L2)) := by
  obtain ⟨i0, hi, hz0, hz1, hz2⟩ := info_parts infoSp;have GR := fun n h w => Lib.hid (sgrow_any n h w);have R1 := Lib.hid r1;have R2 := Lib.hid r2;have H1 := Lib.hid h1;have b1 : IntKind.i64.wrap ((L1.length : Int) + (L2.length : Int)) = ((L1.length + L2.length : Nat) : Int) := by rw [IntWalk.i64_in _ (by omega)]; omega
  have b2 : ¬ ((L1.length + L2.length : Nat) : Int) < 0 := by omega
  have b3 : ¬ (L1.length : Int) < 0 := by omega
  have b4 : IntKind.i64.wrap (L1.length : Int) = (L1.length : Int) := IntWalk.i64_in _ (by omega);have HG : ∀ w, Hid (Calls Tryz.prog 240 #[.slice none 0 0, .int .i64 ((L1.length + L2.length : Nat) : Int)] w (NewSE w [])) := fun w => GR _ (by omega) w;generalize ((L1.length + L2.length : Nat) : Int) = nn at *;clear r1 r2 GR;go_enter Tryz.func168, Tryz.ntmps168;go_wp2_with fail;refine wp_loop_rounds 3 ?_;rw [rounds_succ];go_wp2_with fail;rw [rounds_succ];go_wp2_with fail;rw [rounds_succ];go_wp2_with fail;with_reducible refine (HG _).out.mono ?_
  rintro e w1 ⟨v, rfl, ho, hu⟩;have HO := Lib.hid ho;have HU := Lib.hid hu;have k0 := hu.cell h0;have k1 := hu.cell h1;obtain ⟨Av, cv, rfl, hrd⟩ := Rd.of_own ho;have hs1 := hu.le;clear ho hu h0 h1 hrd;go_wp2_with fail;refine wp_loop_rounds 3 ?_;rw [rounds_succ];go_wp2_with (at_builtin; refine wpList_append_rd _ rfl _ _ 90 (by rfl) (w.heap.size) 168 i0 _ 2 16 Tryz.underlying90 hi hz0 hz1 hz2 rfl (by decide) (.slice Av 0 cv) 0 (spV []) (by rfl) HO.out A1 L1.length c1 (spV L1) (by rfl) (R1.out.up HU.out) (spV_one _) (by omega) (by omega) hs1 ?_; intro v2 w2 ho2 hb2)
  have HU2 := Lib.hid (Up.of (Below.trans HU.out.below hb2));have l1 := HU2.out.cell H1.out;have hs2 := HU2.out.le;rw [show spV [] ++ spV L1 = spV L1 from rfl, Nat.zero_add] at ho2;obtain ⟨Av2, cv2, rfl, hrd2⟩ := Rd.of_own ho2;have HO2 := Lib.hid ho2;clear ho2 hb2 hrd2 k0 k1;rw [rounds_succ];go_wp2_with (at_builtin; refine wpList_append_rd _ rfl _ _ 90 (by rfl) (w.heap.size) 168 i0 _ 2 16 Tryz.underlying90 hi hz0 hz1 hz2 rfl (by decide) (.slice Av2 L1.length cv2) L1.length (spV L1) (by rfl) HO2.out A2 L2.length c2 (spV L2) (by rfl) (R2.out.up HU2.out) (spV_one _) (by omega) (by omega) hs2 ?_; intro v3 w3 ho3 hb3)
  have HU3 := Lib.hid (Up.of (Below.trans HU2.out.below hb3));have HO3 := Lib.hid ho3;clear ho3 hb3 l1;rw [rounds_succ];go_wp2_with fail;go_ret;refine ⟨_, rfl, ?_, HU3.out⟩;rw [spV_app, List.length_append];exact HO3.out
end Go.Proofs.YtjhgaildbeokkaaGreatDoor
/- Walks: slices.SortFunc over spans, by the shelf. -/
namespace Go.Proofs.YtjhgaildbeokkaaGreatDoor
open Go.RowKit Go.Gz Go.Shelf Go.Sort

set_option maxRecDepth 100000
def encSp (x : Gz.Sp) : List Value := [.int .u64 (x.1 : Int), .int .u64 (x.2 : Int)]
theorem un2_cmp (x y : Gz.Sp) (W : World) : Calls Tryz.prog 171 #[.agg #[.int .u64 (x.1 : Int), .int .u64 (x.2 : Int)], .agg #[.int .u64 (y.1 : Int), .int .u64 (y.2 : Int)]] W fun e w' => e = .returned (.int .i64 (cmpV x.1 y.1)) ∧ ∃ q os', w' = Go.Sort.grow (W.drewN q) os' := by
  have C := fun w => Lib.hid (cmp_any x.1 y.1 w);generalize cmpV x.1 y.1 = v at *;obtain ⟨x1, x2⟩ := x;obtain ⟨y1, y2⟩ := y;simp only at C ⊢;have c0 := blkc (((Up.refl _).alloc (spC (y1, y2))).obj (heap_alloc_new W (spC (x1, x2)))) 0 _ rfl;have c1 := blkc (heap_alloc_new (W.alloc (spC (x1, x2))) (spC (y1, y2))) 0 _ rfl;simp only [List.getElem_toArray, List.getElem_cons_zero, World.size_alloc] at c0 c1;go_enter Tryz.func171, Tryz.ntmps171;go_wp2_with fail;with_reducible refine (C _).out.mono ?_
  rintro e w' ⟨rfl, rfl⟩;go_wp2_with fail;go_ret;exact ⟨rfl, 0, _, by rw [Go.Sort.alloc_eq_grow, Go.Sort.alloc_eq_grow, Go.Sort.grow_grow]; rfl⟩
theorem ltSp (x y : Gz.Sp) : ltOf (fun x y : Gz.Sp => cmpV x.1 y.1) x y = decide (x.1 < y.1) := by
  show decide (cmpV x.1 y.1 < 0) = _
  unfold cmpV;by_cases h1 : x.1 < y.1
  · rw [if_pos h1]; simp [h1]
  · rw [if_neg h1];split <;> simp [h1]
theorem swoSp : Go.Sort.SWO (ltOf fun x y : Gz.Sp => cmpV x.1 y.1) where
  irrefl x := by rw [ltSp]; simp
  trans x y z h1 h2 := by rw [ltSp] at *; simp at *; omega
  ntrans x y z h1 h2 := by rw [ltSp] at *; simp at *; omega
theorem ssortW_grown (w : World) (b off n : Nat) (d : Array Gz.Sp) (os : Array Obj) : w.grownBy (sortWorldK encSp 2 w b off n d os) (some b) := by
  unfold sortWorldK putRowK Go.Sort.putRow Go.Sort.mapBlock Go.Sort.grow Go.Sort.ahead;refine ⟨rfl, rfl, rfl, by simp, fun j hj hne => ?_⟩;have hb : b ≠ j := fun e => hne (by rw [e]);simp only;rw [Array.getElem?_append_left (by simpa using hj), Array.getElem?_modify, if_neg hb]
theorem flat_sp (L : Sps) (t : Nat) (h : t < L.length * 2) : (flatK encSp 2 L.toArray)[t]! = (spV L)[t]?.getD default := by
  rw [get_flatK _ _ _ _ (by simpa using h)];have hk : t / 2 < L.length := by omega
  obtain ⟨g1, g2⟩ := spV_get L (t / 2) hk;have e : L.toArray[t / 2]! = L[t / 2] := by rw [getElem!_pos L.toArray (t / 2) (by simpa using hk)]; simp
  rw [e];rcases Nat.mod_two_eq_zero_or_one t with hm | hm
  · have ht : t / 2 * 2 = t := by omega
    rw [ht] at g1;rw [hm, g1];rfl
  · have ht : t / 2 * 2 + 1 = t := by omega
    rw [ht] at g2;rw [hm, g2];rfl
def SortSE (w : World) (L : Sps) (v : Value) (e : Ending) (w' : World) : Prop := e = .returned (.tuple #[]) ∧ ∃ M : Sps, M.Perm L ∧ (∀ i j (hi : i < M.length) (hj : j < M.length), i < j → M[i].1 ≤ M[j].1) ∧ (∃ A c, v = .slice A L.length c ∧ Rd w' 2 A L.length c (spV M)) ∧ w.grownBy w' v.ownBlock
theorem ssort_some (L : Sps) (hl : L.length ≤ 1000000) (h0 : L ≠ []) (base : Nat) (T : TypeId) (v : Value) (w : World) (ho : w.ownsRow base T 2 v L.length (spV L)) :
    Calls Tryz.prog 170 #[v, .func (.func 171) #[] #[]] w (SortSE w L v) := by
  have hlen : 0 < L.length := List.length_pos_iff.2 h0;rcases ho.2 with ⟨_, hz⟩ | ⟨g, cap, cur, rfl, hg, hh, hn, hc, hsz, htk⟩
  · omega
  have hgl : g < w.heap.size := (Array.getElem?_eq_some_iff.1 hh).1;have hcell : ∀ t, t < L.length * 2 → w.cell? ⟨g, 0 + t, none⟩ = some ((flatK encSp 2 L.toArray)[t]!) ∧ w.frozen? ⟨g, 0 + t, none⟩ = false := by
    intro t ht;have h1 := ho.cells (g := g) rfl t _ (by
      rw [List.getElem?_eq_getElem (by rw [spV_len]; exact ht)])
    rw [add_plain] at h1;refine ⟨?_, frozen_of_row w g (0 + t) cur T hh⟩;rw [flat_sp L t ht, List.getElem?_eq_getElem (by rw [spV_len]; exact ht)];exact h1
  have hH : HoldsK encSp 2 w g 0 L.toArray := by
    intro j hj;rw [size_flatK] at hj;exact hcell j (by simpa using hj)
  have hcon := AnyQ.slices_SortFunc Tryz.sortSp 2 Tryz.isAgg168 Tryz.sizeOf168 encSp (fun _ => rfl) (fun x v hv => by simp [encSp] at hv; rcases hv with rfl | rfl <;> rfl) (fun x y : Gz.Sp => cmpV x.1 y.1) swoSp 171 #[] g 0 cap L.toArray w (enters_of Tryz.func171 (by kernel_rfl) rfl)
    (fun _ _ _ _ x y => un2_cmp x y _) hH hgl (by simp; omega)
  have hs : L.toArray.size = L.length := by simp
  rw [hs] at hcon;refine Calls.mono hcon ?_;rintro e w' ⟨rfl, d', n, os, hp, hso, rfl⟩;have hd : d'.size = L.length := by rw [hp.1, hs]
  have hperm : d'.toList.Perm L := by
    have := hp.2.2;have e : d'.toList.take L.length = d'.toList := List.take_of_length_le (by simpa using Nat.le_of_eq hd);simpa [e] using this
  refine ⟨rfl, d'.toList, hperm, fun i j hi hj hij => ?_, ⟨_, cap, rfl, ?_⟩, ssortW_grown w g 0 n d' os⟩
  · have hi' : i < d'.size := by simpa using hi
    have hj' : j < d'.size := by simpa using hj
    have := hso i j (by omega) hij (by omega);rw [ltSp, getElem!_pos d' j hj', getElem!_pos d' i hi'] at this;simp at this;simpa using this
  · have hll : d'.toList.length = L.length := by simpa using hd
    refine ⟨by rw [spV_len, hll], hn, hc, fun h => by (cases h), fun _ => ⟨g, 0, rfl, fun j u hj => ?_⟩⟩;have hj2 := (List.getElem?_eq_some_iff.1 hj).1;rw [spV_len, hll] at hj2;have hH2 : Go.Sort.Holds id (Go.Sort.ahead w n) g 0 (flatK encSp 2 L.toArray) := hH;have hc := Go.Sort.cell?_putRow id (Go.Sort.ahead w n) g 0 (flatK encSp 2 L.toArray) (flatK encSp 2 d') hH2 (by rw [size_flatK, size_flatK, hd, hs]) j (by rw [size_flatK, hd]; exact hj2);have e : (flatK encSp 2 d')[j]! = u := by
      have := flat_sp d'.toList j (by rw [hll]; exact hj2);rw [Array.toArray_toList, hj] at this;exact this
    rw [e] at hc;have hgr : (Go.Sort.putRow id (Go.Sort.ahead w n) g 0 (flatK encSp 2 d')).cell? ⟨g, 0 + j, none⟩ = some u := hc;show (Go.Sort.grow (Go.Sort.putRow id (Go.Sort.ahead w n) g 0 (flatK encSp 2 d')) os).cell? _ = _
    rw [Go.Sort.cell?_grow _ _ _ (by simpa [Go.Sort.ahead] using hgl)];exact hgr
end Go.Proofs.YtjhgaildbeokkaaGreatDoor
/- Walks: slices.DeleteFunc of spans of which none goes. -/
namespace Go.Proofs.YtjhgaildbeokkaaGreatDoor
open Go.RowKit Go.Gz Go.Shelf

set_option maxRecDepth 100000
theorem un1_any (s : Sp) (h : s.1 ≤ s.2) (w : World) :
    Calls Tryz.prog 169 #[spA s] w fun e w' => e = .returned (.bool false) ∧ Up w w' := by
  obtain ⟨sf, st⟩ := s;have hu := (Up.refl w).alloc (spC (sf, st));have hn := heap_alloc_new w (spC (sf, st));have c0 := blkc hn 0 _ rfl;have c1 := blkc hn 1 _ rfl;simp only [List.getElem_toArray, List.getElem_cons_succ, List.getElem_cons_zero] at c0 c1 h;have h' : ¬ st < sf := by omega
  clear hn;go_enter Tryz.func169, Tryz.ntmps169;go_wp2_with fail;go_ret;exact ⟨rfl, hu⟩
theorem Rd.span {w : World} {l : Sps} {A : Option Addr} {c : Nat} (h : Rd w 2 A l.length c (spV l)) {k : Nat} (hk : k < l.length) : ∃ b o, A = some ⟨b, o, none⟩ ∧ w.cell? ⟨b, o + k * 2, none⟩ = some (.int .u64 (l[k].1 : Int)) ∧ w.cell? ⟨b, o + k * 2 + 1, none⟩ = some (.int .u64 (l[k].2 : Int)) := by
  obtain ⟨b, o, e, hc⟩ := h.2.2.2.2 (by omega);obtain ⟨g0, g1⟩ := spV_get l k hk;exact ⟨b, o, e, hc _ _ g0, by have := hc _ _ g1; rwa [← Nat.add_assoc] at this⟩
set_option maxHeartbeats 4000000 in
theorem sidx_any (l : Sps) (hl : l.length ≤ 1000000) (hs : ∀ x ∈ l, x.1 ≤ x.2) (A : Option Addr) (c : Nat) (w : World) (hr : Rd w 2 A l.length c (spV l)) :
    Calls Tryz.prog 239 #[.slice A l.length c, .func (.func 169) #[] #[]] w fun e w' => e = .returned (.int .i64 (-1)) ∧ Up w w' := by
  have HR := Lib.hid hr;clear hr;go_enter Tryz.func239, Tryz.ntmps239;go_wp2_with fail;go_loopg [8] l.length (fun gk i wr => ∃ k : Nat, k + gk = l.length ∧ i = .int .i64 (k : Int) ∧ Up w wr)
  case atStart => exact ⟨0, by omega, rfl, Up.refl w⟩
  case round =>
    obtain ⟨k, hk, rfl, hu⟩ := hrel;by_cases hlt : k < l.length
    · obtain ⟨m, rfl⟩ : ∃ m, gk = m + 1 := ⟨gk - 1, by omega⟩;have hltI : (k : Int) < (l.length : Int) := by omega
      obtain ⟨b, o, rfl, c0, c1⟩ := Rd.span (HR.out.up hu) hlt;have EX := fun w => Lib.hid (un1_any l[k] (hs _ (List.getElem_mem hlt)) w);generalize l[k] = r at *;obtain ⟨sf, st⟩ := r;simp only at c0 c1;have HU := Lib.hid hu;clear hu;go_wp2_with fail;refine (EX _).out.mono ?_;rintro e w1 ⟨rfl, hu1⟩;go_wp2_with fail;go_roundg m
      case measure => omega
      case rel => exact ⟨k + 1, by omega, by go_num, HU.out.trans hu1⟩
    · obtain rfl : k = l.length := by omega
      go_wp2_with fail;go_ret;exact ⟨rfl, hu⟩
theorem sdel_any (l : Sps) (hl : l.length ≤ 1000000) (hs : ∀ x ∈ l, x.1 ≤ x.2) (A : Option Addr) (c : Nat) (w : World) (hr : Rd w 2 A l.length c (spV l)) :
    Calls Tryz.prog 167 #[.slice A l.length c, .func (.func 169) #[] #[]] w fun e w' => e = .returned (.slice A l.length c) ∧ Up w w' := by
  have IX := fun w hr => Lib.hid (sidx_any l hl hs A c w hr);have HR := Lib.hid hr;clear hr;go_enter Tryz.func167, Tryz.ntmps167;go_wp2_with fail;refine (IX _ HR.out).out.mono ?_;rintro e w1 ⟨rfl, hu1⟩;go_wp2_with fail;go_ret;exact ⟨rfl, hu1⟩
end Go.Proofs.YtjhgaildbeokkaaGreatDoor
/- Walks: cover.Union. -/
namespace Go.Gz
/-- what putting two lists together leaves -/
def uniP (L1 L2 R : Sps) : Prop := ∃ M : Sps, M.Perm (L1 ++ L2) ∧ (∀ i j (hi : i < M.length) (hj : j < M.length), i < j → M[i].1 ≤ M[j].1) ∧ R = M.foldl joinL []
theorem fold_take (M : Sps) {k : Nat} (hk : k < M.length) : (M.take (k + 1)).foldl joinL [] = joinL ((M.take k).foldl joinL []) M[k] := by
  rw [List.take_succ_eq_append_getElem hk, List.foldl_append]; rfl
theorem spOk_fold (M : Sps) (h : SpOk M) : ∀ l, SpOk l → SpOk (M.foldl joinL l) := by
  induction M with
  | nil => exact fun l hl => hl
  | cons s t ih => exact fun l hl => ih (fun x hx => h x (by simp [hx])) _ (spOk_join hl (h s (by simp)))
theorem fold_len (M : Sps) : ∀ l, (M.foldl joinL l).length ≤ l.length + M.length := by
  induction M with
  | nil => exact fun l => by simp
  | cons s t ih => exact fun l => by have h1 := ih (joinL l s); have h2 := join_len l s; simp only [List.foldl_cons, List.length_cons]; omega
end Go.Gz
namespace Go.Proofs.YtjhgaildbeokkaaGreatDoor
open Go.RowKit Go.Gz Go.Shelf

set_option maxRecDepth 100000
theorem sins0_any (v f : Value) (w : World) :
    Calls Tryz.prog 293 #[v, .int .i64 0, .int .i64 0, f] w fun e w' => e = .returned (.tuple #[]) ∧ w = w' := by
  go_enter Tryz.func293, Tryz.ntmps293;go_wp2_with fail;refine wp_loop_rounds 1 ?_;rw [rounds_succ];go_wp2_with fail;go_end0
  exact ⟨rfl, rfl⟩
theorem spdq0_any (v f : Value) (n : Int) (w : World) :
    Calls Tryz.prog 241 #[v, .int .i64 0, .int .i64 0, .int .i64 n, f] w fun e w' => e = .returned (.tuple #[]) ∧ w = w' := by
  go_enter Tryz.func241, Tryz.ntmps241;go_wp2_with fail;refine wp_loop_rounds 1 ?_;rw [rounds_succ];go_wp2_with (go_at_call 293; refine (sins0_any _ _ _).mono ?_; rintro e w' ⟨rfl, rfl⟩)
  refine bodyPost_ret (results_none rfl _ _ _) rfl ?_;exact ⟨rfl, rfl⟩
theorem ssort0_any (A : Option Addr) (c : Nat) (f : Value) (w : World) :
    Calls Tryz.prog 170 #[.slice A 0 c, f] w fun e w' => e = .returned (.tuple #[]) ∧ w = w' := by
  have B := fun w => Lib.hid (Tryz.bits_Len 0 w (by decide) (by decide));go_enter Tryz.func170, Tryz.ntmps170;go_wp2_with fail;refine (B _).out.mono ?_;rintro e w' ⟨rfl, rfl⟩;go_wp2_with fail;refine (spdq0_any _ _ _ _).mono ?_;rintro e w' ⟨rfl, rfl⟩;go_wp2_with fail;go_end0
  exact ⟨rfl, rfl⟩
theorem ssort_any (L : Sps) (hl : L.length ≤ 1000000) (base : Nat) (T : TypeId) (v : Value) (w : World) (ho : w.ownsRow base T 2 v L.length (spV L)) :
    Calls Tryz.prog 170 #[v, .func (.func 171) #[] #[]] w (SortSE w L v) := by
  by_cases h0 : L = []
  · subst h0;obtain ⟨A, c, rfl, hr⟩ := Rd.of_own ho;refine (ssort0_any A c _ w).mono ?_;rintro e w' ⟨rfl, rfl⟩;exact ⟨rfl, [], List.Perm.refl _, fun i j hi => absurd hi (by simp), ⟨A, c, rfl, hr⟩, World.grownBy.refl w _⟩
  · exact ssort_some L hl h0 base T v w ho
theorem own_mono {w : World} {base base' : Nat} {e : TypeId} {size : Nat} {v : Value} {n : Nat} {xs : List Value} (h : w.ownsRow base e size v n xs) (hb : base' ≤ base) : w.ownsRow base' e size v n xs := by
  refine ⟨h.1, h.2.imp id ?_⟩;rintro ⟨g, cap, cur, h1, h2, h3⟩;exact ⟨g, cap, cur, h1, Nat.le_trans hb h2, h3⟩
def UnR (w0 : World) (M : Sps) (gk : Nat) (v i : Value) (wr : World) : Prop := ∃ k : Nat, k + gk = M.length ∧ i = .int .i64 (k : Int) ∧ wr.ownsRow w0.heap.size 168 2 v ((M.take k).foldl joinL []).length (spV ((M.take k).foldl joinL [])) ∧ Up w0 wr
set_option maxHeartbeats 4000000 in
theorem union_any (L1 L2 : Sps) (hl1 : L1.length ≤ 50000) (hl2 : L2.length ≤ 50000) (hs1 : ∀ x ∈ L1, x.1 ≤ x.2) (hs2 : ∀ x ∈ L2, x.1 ≤ x.2) (ho1 : SpOk L1) (ho2 : SpOk L2) (A1 A2 : Option Addr) (c1 c2 : Nat) (w : World) (r1 : Rd w 2 A1 L1.length c1 (spV L1)) (r2 : Rd w 2 A2 L2.length c2 (spV L2)) :
    Calls Tryz.prog 95 #[.slice A1 L1.length c1, .slice A2 L2.length c2] w fun e w' => ∃ R v, uniP L1 L2 R ∧ e = .returned v ∧ NewSp w v R w' := by
  have CO := fun bk w h0 h1 r1 r2 => Lib.hid (sconcat_any L1 L2 hl1 hl2 A1 A2 c1 c2 bk w h0 h1 r1 r2);have hall : ∀ x ∈ L1 ++ L2, x.1 ≤ x.2 := fun x hx => (List.mem_append.1 hx).elim (hs1 x) (hs2 x);have hok : SpOk (L1 ++ L2) := fun x hx => (List.mem_append.1 hx).elim (ho1 x) (ho2 x);have hlen : (L1 ++ L2).length ≤ 100000 := by rw [List.length_append]; omega
  have DL := fun A c w hr => Lib.hid (sdel_any (L1 ++ L2) (by omega) hall A c w hr);have SO := fun base v w ho => Lib.hid (ssort_any (L1 ++ L2) (by omega) base 168 v w ho);have R1 := Lib.hid r1;have R2 := Lib.hid r2;unfold uniP;generalize L1 ++ L2 = N at *;have q := heap_alloc_new w (.cells #[.slice A1 L1.length c1, .slice A2 L2.length c2] 90);have hu0 := (Up.refl w).alloc (.cells #[.slice A1 L1.length c1, .slice A2 L2.length c2] 90);have Q0 := Lib.hid (blkc q 0 _ rfl);have Q1 := Lib.hid (blkc q 1 _ rfl);clear q r1 r2 hs1 hs2 ho1 ho2;go_enter Tryz.func95, Tryz.ntmps95;go_wp2_with fail;refine (CO w.heap.size _ Q0.out Q1.out (R1.out.up hu0) (R2.out.up hu0)).out.mono ?_;rintro e w2 ⟨v2, rfl, ho2, hu2⟩;obtain ⟨A3, c3, rfl, r3⟩ := Rd.of_own ho2;have HU2 := Lib.hid (hu0.trans hu2);clear hu2 hu0 Q0 Q1 R1 R2 CO;go_wp2_with fail;refine (DL _ _ _ r3).out.mono ?_;rintro e w3 ⟨rfl, hu3⟩;have ho3 := own_up ho2 hu3;have HU3 := Lib.hid (HU2.out.trans hu3);clear ho2 r3 hu3 HU2 DL;go_wp2_with fail;refine (SO _ _ _ ho3).out.mono ?_;rintro e w4 ⟨rfl, M, hp, hso, ⟨A4, c4, e4, r4⟩, hg⟩;injection e4 with e4 _ e5;subst e4 e5;have HU4 := Lib.hid (Up.of (Below.grown HU3.out.below hg HU3.out.le (fun j hj => by have := (ho3.lt j hj).1; simp at this; omega)));have hml : M.length = N.length := hp.length_eq;have hok' : SpOk M := fun x hx => hok x (hp.subset hx);have HAL : Hid (∀ x ∈ M, x.1 ≤ x.2) := Lib.hid fun x hx => hall x (hp.subset hx);rw [← hml] at r4 hlen ⊢;have HP := Lib.hid hp;have HSO := Lib.hid hso;have HR := Lib.hid r4;have HOK := Lib.hid hok';clear ho3 hg SO hall hok hml hp hso r4 hok' HU3;go_wp2_with fail;go_loopg [6, 18] M.length (fun gk v i wr => UnR w4 M gk v i wr)
  case atStart => exact ⟨0, by omega, rfl, World.ownsRow_nil _ _ _ _, Up.refl _⟩
  case round =>
    obtain ⟨k, hk, rfl, ho, hu⟩ := hrel;by_cases hlt : k < M.length
    · obtain ⟨m, rfl⟩ : ∃ m, gk = m + 1 := ⟨gk - 1, by omega⟩;have hltI : (k : Int) < (M.length : Int) := by omega
      have HST := Lib.hid (fold_take M hlt);obtain ⟨b, o, rfl, c0, c1⟩ := Rd.span (HR.out.up hu) hlt;have hfl := fold_len (M.take k) [];simp only [List.length_nil, List.length_take] at hfl;have hfo : SpOk ((M.take k).foldl joinL []) := spOk_fold _ (fun x hx => HOK.out x (List.mem_of_mem_take hx)) _ (spOk_nil);have hsf := HOK.out _ (List.getElem_mem hlt);have hs1 : M[k].1 < 18446744073709551616 := by have := HAL.out _ (List.getElem_mem hlt); omega
      generalize M[k] = r at *;have hua := (Up.refl wr).alloc (spC r);have JN := Lib.hid (join_any ((M.take k).foldl joinL []) r (by omega) w4.heap.size u6 (wr.alloc (spC r)) (Nat.le_trans hu.le hua.le) (own_up ho hua) hs1 hfo);have HO := Lib.hid (own_up ho hua);have HU := Lib.hid (hu.trans hua);have hn := heap_alloc_new wr (spC r);have d0 := blkc hn 0 _ rfl;have d1 := blkc hn 1 _ rfl;simp only [List.getElem_toArray, List.getElem_cons_succ, List.getElem_cons_zero] at d0 d1;obtain ⟨sf, st⟩ := r;simp only at c0 c1 d0 d1 JN;generalize (M.take k).foldl joinL [] = F at *;clear ho hu hua hn hfl hfo;go_wp2_with fail;refine JN.out.mono ?_;rintro e w6 ⟨v', rfl, ho6, hg6⟩;have HU6 := Lib.hid (Up.of (Below.grown HU.out.below hg6 HU.out.le (fun j hj => by have := (HO.out.lt j hj).1; omega)));have HO6 := Lib.hid ho6;clear ho6 hg6 c0 c1 d0 d1;go_wp2_with fail;go_roundg m
      case measure => omega
      case rel =>
        refine ⟨k + 1, by omega, by go_num, ?_, HU6.out⟩;rw [HST.out]; exact HO6.out
    · obtain rfl : k = M.length := by omega
      rw [List.take_length] at ho;go_wp2_with fail;go_ret;exact ⟨_, _, ⟨M, HP.out, HSO.out, rfl⟩, rfl, own_mono ho HU4.out.le, HU4.out.trans hu⟩
end Go.Proofs.YtjhgaildbeokkaaGreatDoor
/- Walks: extract.Spans. -/
namespace Go.Gz
def SpLe (l : Sps) : Prop := ∀ x ∈ l, x.1 ≤ x.2
theorem spLe_nil : SpLe [] := fun x hx => by simp at hx
theorem spLe_join {l : Sps} {s : Sp} (h : SpLe l) (hs : s.1 ≤ s.2) : SpLe (joinL l s) := by
  rcases List.eq_nil_or_concat l with rfl | ⟨pre, x, rfl⟩
  · intro y hy; simp [join_nil] at hy; subst hy; exact hs
  · rw [List.concat_eq_append] at *;rw [join_snoc];have hx := h x (by simp);have hp : ∀ y ∈ pre, y.1 ≤ y.2 := fun y hy => h y (by simp [hy]);split
    · intro y hy;rcases List.mem_append.1 hy with hy | hy
      · exact hp y hy
      · simp only [List.mem_singleton] at hy; subst hy; simp only; omega
    · intro y hy;rcases List.mem_append.1 hy with hy | hy
      · exact h y hy
      · simp only [List.mem_singleton] at hy; subst hy; exact hs
theorem spLe_fold (M : Sps) (h : SpLe M) : ∀ l, SpLe l → SpLe (M.foldl joinL l) := by
  induction M with
  | nil => exact fun l hl => hl
  | cons s t ih => exact fun l hl => ih (fun x hx => h x (by simp [hx])) _ (spLe_join hl (h s (by simp)))
theorem range_le (a b c d : Nat) : (rangeV a b c d).1 ≤ (rangeV a b c d).2 := by
  have hpos : 1 ≤ 4 ^ (d - a) := Nat.pos_of_ne_zero (by simp);unfold rangeV;simp only;omega
theorem goK_pres (P : Sps → Prop) (f : Til → Sps → Sps × Bool) (hf : ∀ t l, P l → P (f t l).1) : ∀ ts l, P l → P (goK f ts l).1
  | [], l, h => h
  | t :: ts, l, h => by
    unfold goK;split
    · exact goK_pres P f hf ts _ (hf t l h)
    · exact hf t l h
theorem walk_pres (P : Sps → Prop) (r : Rc) (rz : Nat) (most : Int) (hj : ∀ l (t : Til), P l → P (joinL l (rangeV t.1 t.2.1 t.2.2 rz))) : ∀ n t l, P l → P (walkV r rz most n t l).1
  | 0, t, l, h => by
    unfold walkV;split
    · exact h
    · exact hj _ _ h
  | n + 1, t, l, h => by
    unfold walkV;split
    · exact h
    · split
      · exact hj _ _ h
      · exact goK_pres P _ (fun t l h => walk_pres P r rz most hj n t l h) _ _ h
structure SpnOk (p : Sps × Int) : Prop where
  le : SpLe p.1
  ok : SpOk p.1
  len : p.1.length ≤ 4096
theorem spans_ok (r : Rc) (most : Int) : SpnOk (spansV r most) := by
  unfold spansV;split
  · exact ⟨spLe_nil, spOk_nil, by simp⟩
  · next hm =>
    split
    · exact ⟨spLe_nil, spOk_nil, by simp⟩
    · next hc =>
      split
      · next hb =>
        obtain ⟨n, hn, h26⟩ := chk_zoom (r := r) (by simpa using hc);rw [hn, Int.toNat_natCast] at hb ⊢;have hk := walk_ok r n h26 most n 0 (0, 0, 0) til_zero (by omega) [] spOk_nil (by simp; omega);exact ⟨walk_pres SpLe r n most (fun l t h => spLe_join h (range_le _ _ _ _)) n _ _ spLe_nil, hk.ok, by have := hk.len hb; simp only; omega⟩
      · exact ⟨spLe_nil, spOk_nil, by simp⟩
theorem uni_ok {L1 L2 R : Sps} (h : uniP L1 L2 R) (h1 : SpLe L1) (h2 : SpLe L2) (k1 : SpOk L1) (k2 : SpOk L2) : SpLe R ∧ SpOk R ∧ R.length ≤ L1.length + L2.length := by
  obtain ⟨M, hp, _, rfl⟩ := h;refine ⟨spLe_fold M (fun x hx => (List.mem_append.1 (hp.subset hx)).elim (h1 x) (h2 x)) _ spLe_nil, spOk_fold M (fun x hx => (List.mem_append.1 (hp.subset hx)).elim (k1 x) (k2 x)) _ spOk_nil, ?_⟩;have := fold_len M [];have e := hp.length_eq;simp at this e;omega
/-- the identifiers of rectangles, one after the other -/
def exsP : Rcs → Sps → Sps × Int → Prop
  | [], L, p => p = (L, 0)
  | r :: t, L, p => if (spansV r 4096).2 ≠ 0 then p = ([], (spansV r 4096).2) else ∃ R, uniP L (spansV r 4096).1 R ∧ exsP t R p
theorem exs_cons (r : Rc) (t : Rcs) (L : Sps) (p : Sps × Int) : exsP (r :: t) L p = (if (spansV r 4096).2 ≠ 0 then p = ([], (spansV r 4096).2) else ∃ R, uniP L (spansV r 4096).1 R ∧ exsP t R p) := rfl
end Go.Gz
namespace Go.Proofs.YtjhgaildbeokkaaGreatDoor
open Go.RowKit Go.Gz Go.Shelf

set_option maxRecDepth 100000
def ExR (w : World) (l : Rcs) (gk : Nat) (v i : Value) (wr : World) : Prop := ∃ (k : Nat) (L : Sps), k + gk = l.length ∧ i = .int .i64 (k : Int) ∧ (∀ p, exsP (l.drop k) L p → exsP l [] p) ∧ L.length ≤ k * 4096 ∧ SpLe L ∧ SpOk L ∧ (∃ A c, v = .slice A L.length c ∧ Rd wr 2 A L.length c (spV L)) ∧ Up w wr
set_option maxHeartbeats 4000000 in
theorem exspans_any (l : Rcs) (hl : l.length ≤ 8) (A : Option Addr) (c : Nat) (w : World) (hr : Rd w 5 A l.length c (rcV l)) :
    Calls Tryz.prog 42 #[.slice A l.length c] w fun e w' => ∃ p, exsP l [] p ∧ SpnE w p e w' := by
  have HR := Lib.hid hr;clear hr;go_enter Tryz.func42, Tryz.ntmps42;go_wp2_with fail;go_loopg [4, 11] l.length (fun gk v i wr => ExR w l gk v i wr)
  case atStart => exact ⟨0, [], by omega, rfl, fun p h => h, by simp, spLe_nil, spOk_nil, ⟨none, 0, rfl, Rd.nil_ _ _⟩, Up.refl w⟩
  case round =>
    obtain ⟨k, L, hk, rfl, hp, hL, hle, hok, ⟨A1, g1, rfl, r1⟩, hu⟩ := hrel;by_cases hlt : k < l.length
    · obtain ⟨m, rfl⟩ : ∃ m, gk = m + 1 := ⟨gk - 1, by omega⟩;have hltI : (k : Int) < (l.length : Int) := by omega
      obtain ⟨b, o, rfl, c0, c1, c2, c3, c4⟩ := (HR.out.up hu).rect hlt;rw [List.drop_eq_getElem_cons hlt] at hp;simp only [exs_cons] at hp;have SP := fun w => Lib.hid (spans_any l[k] 4096 w);have hso := spans_ok l[k] 4096;generalize l[k] = r at *;generalize spansV r 4096 = q at *;obtain ⟨S, er⟩ := q;obtain ⟨hsl, hsk, hsn⟩ := hso;simp only at hp hsl hsk hsn;obtain ⟨rz, x0, y0, x1, y1⟩ := r;simp only at c0 c1 c2 c3 c4;obtain ⟨d0, d1, d2, d3, d4⟩ := rc_cells (r := ⟨rz, x0, y0, x1, y1⟩) (heap_alloc_new wr (rcC ⟨rz, x0, y0, x1, y1⟩));simp only at d0 d1 d2 d3 d4;have hua := hu.trans ((Up.refl wr).alloc (rcC ⟨rz, x0, y0, x1, y1⟩));have HU := Lib.hid hua;have R1 := Lib.hid (r1.up ((Up.refl wr).alloc (rcC ⟨rz, x0, y0, x1, y1⟩)));have hlen : L.length ≤ 50000 := by omega
      have UN := fun A2 g2 w r1 r2 => Lib.hid (union_any L S hlen (by omega) hle hsl hok hsk A1 A2 g1 g2 w r1 r2);have UO := Lib.hid (fun R (h : uniP L S R) => uni_ok h hle hsl hok hsk);have HP := Lib.hid hp;clear hp hu hua r1 hle hok hsl hsk;go_wp2_with fail;with_reducible refine (SP _).out.mono ?_
      rintro e w2 ⟨A2, g2, rfl, r2, hu2⟩;simp only at r2;replace HU := Lib.hid (HU.out.trans hu2);replace R1 := Lib.hid (R1.out.up hu2);clear hu2 c0 c1 c2 c3 c4 d0 d1 d2 d3 d4 SP;by_cases he : er = 0
      · subst he;have hp := HP.out;simp only [ne_eq, not_true_eq_false, if_false] at hp;replace HP := Lib.hid hp;clear hp;go_wp2_with fail;refine (UN _ _ _ R1.out r2).out.mono ?_;rintro e w3 ⟨R, v3, hR, rfl, ho3, hu3⟩;obtain ⟨A3, c3, rfl, r3⟩ := Rd.of_own ho3;obtain ⟨q1, q2, q3⟩ := UO.out R hR;go_wp2_with fail;go_roundg m
        case measure => omega
        case rel => exact ⟨k + 1, R, by omega, by go_num, fun p h => HP.out p ⟨R, hR, h⟩, by omega, q1, q2, ⟨A3, c3, rfl, r3⟩, HU.out.trans hu3⟩
      · have hp := HP.out;simp only [ne_eq, he, not_false_eq_true, if_true] at hp;have HP2 := Lib.hid (hp _ rfl);have heb : (er == 0) = false := by rw [beq_eq_false_iff_ne]; exact he
        clear hp HP;go_wp2_with fail;go_ret2
        exact ⟨([], er), HP2.out, none, 0, rfl, Rd.nil_ _ _, HU.out⟩
    · obtain rfl : k = l.length := by omega
      rw [List.drop_length] at hp;have HP := Lib.hid (hp (L, 0) rfl);clear hp;go_wp2_with fail;go_ret2
      exact ⟨_, HP.out, A1, g1, rfl, r1, hu⟩
end Go.Proofs.YtjhgaildbeokkaaGreatDoor
