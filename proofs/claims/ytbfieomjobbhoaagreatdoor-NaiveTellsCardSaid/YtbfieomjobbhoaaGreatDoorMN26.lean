/- Walks: slices.SortFunc over items, by the shelf. -/
import Derived.Test.YtbfieomjobbhoaaGreatDoorShelf2
import Derived.Test.YtbfieomjobbhoaaGreatDoorMN10
namespace Go.Proofs.YtbfieomjobbhoaaGreatDoor
open Go.RowKit Go.Gz Go.Shelf Go.Sort

set_option maxRecDepth 100000
def encIt (x : Gz.Item) : List Value := [.int .u64 (x.1 : Int), .string ⟨x.2.toArray⟩]
theorem of1_cmp (x y : Gz.Item) (W : World) : Calls Tryz.prog 50 #[.agg #[.int .u64 (x.1 : Int), .string ⟨x.2.toArray⟩], .agg #[.int .u64 (y.1 : Int), .string ⟨y.2.toArray⟩]] W fun e w' => e = .returned (.int .i64 (cmpV x.1 y.1)) ∧ ∃ q os', w' = Go.Sort.grow (W.drewN q) os' := by
  have C := fun w => Lib.hid (cmp_any x.1 y.1 w);generalize cmpV x.1 y.1 = v at *;go_enter Tryz.func50, Tryz.ntmps50;go_wp2_with fail;with_reducible refine (C _).out.mono ?_
  rintro e w' ⟨rfl, rfl⟩;go_wp2_with fail;go_ret;exact ⟨rfl, 0, _, by rw [Go.Sort.alloc_eq_grow, Go.Sort.alloc_eq_grow, Go.Sort.grow_grow]; rfl⟩
theorem ltIt (x y : Gz.Item) : ltOf (fun x y : Gz.Item => cmpV x.1 y.1) x y = decide (x.1 < y.1) := by
  show decide (cmpV x.1 y.1 < 0) = _
  unfold cmpV;by_cases h1 : x.1 < y.1
  · rw [if_pos h1]; simp [h1]
  · rw [if_neg h1];split <;> simp [h1]
theorem swoIt : Go.Sort.SWO (ltOf fun x y : Gz.Item => cmpV x.1 y.1) where
  irrefl x := by rw [ltIt]; simp
  trans x y z h1 h2 := by rw [ltIt] at *; simp at *; omega
  ntrans x y z h1 h2 := by rw [ltIt] at *; simp at *; omega
theorem sortW_grown (w : World) (b off n : Nat) (d : Array Gz.Item) (os : Array Obj) : w.grownBy (sortWorldK encIt 2 w b off n d os) (some b) := by
  unfold sortWorldK putRowK Go.Sort.putRow Go.Sort.mapBlock Go.Sort.grow Go.Sort.ahead;refine ⟨rfl, rfl, rfl, by simp, fun j hj hne => ?_⟩;have hb : b ≠ j := fun e => hne (by rw [e]);simp only;rw [Array.getElem?_append_left (by simpa using hj), Array.getElem?_modify, if_neg hb]
theorem flat_it (L : Items) (t : Nat) (h : t < L.length * 2) : (flatK encIt 2 L.toArray)[t]! = (itV L)[t]?.getD default := by
  rw [get_flatK _ _ _ _ (by simpa using h)];have hk : t / 2 < L.length := by omega
  obtain ⟨g1, g2⟩ := itV_get L (t / 2) hk;have e : L.toArray[t / 2]! = L[t / 2] := by rw [getElem!_pos L.toArray (t / 2) (by simpa using hk)]; simp
  rw [e];rcases Nat.mod_two_eq_zero_or_one t with hm | hm
  · have ht : t / 2 * 2 = t := by omega
    rw [ht] at g1;rw [hm, g1];rfl
  · have ht : t / 2 * 2 + 1 = t := by omega
    rw [ht] at g2;rw [hm, g2];rfl
def SortE (w : World) (L : Items) (v : Value) (e : Ending) (w' : World) : Prop := e = .returned (.tuple #[]) ∧ ∃ M : Items, M.Perm L ∧ (∀ i j (hi : i < M.length) (hj : j < M.length), i < j → M[i].1 ≤ M[j].1) ∧ (∃ A c, v = .slice A L.length c ∧ Rd w' 2 A L.length c (itV M)) ∧ w.grownBy w' v.ownBlock
theorem sort_some (L : Items) (hl : L.length ≤ 1000000) (h0 : L ≠ []) (base : Nat) (T : TypeId) (v : Value) (w : World) (ho : w.ownsRow base T 2 v L.length (itV L)) :
    Calls Tryz.prog 49 #[v, .func (.func 50) #[] #[]] w (SortE w L v) := by
  have hlen : 0 < L.length := List.length_pos_iff.2 h0;rcases ho.2 with ⟨_, hz⟩ | ⟨g, cap, cur, rfl, hg, hh, hn, hc, hsz, htk⟩
  · omega
  have hgl : g < w.heap.size := (Array.getElem?_eq_some_iff.1 hh).1;have hcell : ∀ t, t < L.length * 2 → w.cell? ⟨g, 0 + t, none⟩ = some ((flatK encIt 2 L.toArray)[t]!) ∧ w.frozen? ⟨g, 0 + t, none⟩ = false := by
    intro t ht;have h1 := ho.cells (g := g) rfl t _ (by
      rw [List.getElem?_eq_getElem (by rw [itV_len]; exact ht)])
    rw [add_plain] at h1;refine ⟨?_, frozen_of_row w g (0 + t) cur T hh⟩;rw [flat_it L t ht, List.getElem?_eq_getElem (by rw [itV_len]; exact ht)];exact h1
  have hH : HoldsK encIt 2 w g 0 L.toArray := by
    intro j hj;rw [size_flatK] at hj;exact hcell j (by simpa using hj)
  have hcon := AnyQ.slices_SortFunc Tryz.sortIt 2 Tryz.isAgg54 Tryz.sizeOf54 encIt (fun _ => rfl) (fun x v hv => by simp [encIt] at hv; rcases hv with rfl | rfl <;> rfl) (fun x y : Gz.Item => cmpV x.1 y.1) swoIt 50 #[] g 0 cap L.toArray w (enters_of Tryz.func50 (by kernel_rfl) rfl)
    (fun _ _ _ _ x y => of1_cmp x y _) hH hgl (by simp; omega)
  have hs : L.toArray.size = L.length := by simp
  rw [hs] at hcon;refine Calls.mono hcon ?_;rintro e w' ⟨rfl, d', n, os, hp, hso, rfl⟩;have hd : d'.size = L.length := by rw [hp.1, hs]
  have hperm : d'.toList.Perm L := by
    have := hp.2.2;have e : d'.toList.take L.length = d'.toList := List.take_of_length_le (by simpa using Nat.le_of_eq hd);simpa [e] using this
  refine ⟨rfl, d'.toList, hperm, fun i j hi hj hij => ?_, ⟨_, cap, rfl, ?_⟩, sortW_grown w g 0 n d' os⟩
  · have hi' : i < d'.size := by simpa using hi
    have hj' : j < d'.size := by simpa using hj
    have := hso i j (by omega) hij (by omega);rw [ltIt, getElem!_pos d' j hj', getElem!_pos d' i hi'] at this;simp at this;simpa using this
  · have hll : d'.toList.length = L.length := by simpa using hd
    refine ⟨by rw [itV_len, hll], hn, hc, fun h => by (cases h), fun _ => ⟨g, 0, rfl, fun j u hj => ?_⟩⟩;have hj2 := (List.getElem?_eq_some_iff.1 hj).1;rw [itV_len, hll] at hj2;have hH2 : Go.Sort.Holds id (Go.Sort.ahead w n) g 0 (flatK encIt 2 L.toArray) := hH;have hc := Go.Sort.cell?_putRow id (Go.Sort.ahead w n) g 0 (flatK encIt 2 L.toArray) (flatK encIt 2 d') hH2 (by rw [size_flatK, size_flatK, hd, hs]) j (by rw [size_flatK, hd]; exact hj2);have e : (flatK encIt 2 d')[j]! = u := by
      have := flat_it d'.toList j (by rw [hll]; exact hj2);rw [Array.toArray_toList, hj] at this;exact this
    rw [e] at hc;have hgr : (Go.Sort.putRow id (Go.Sort.ahead w n) g 0 (flatK encIt 2 d')).cell? ⟨g, 0 + j, none⟩ = some u := hc;show (Go.Sort.grow (Go.Sort.putRow id (Go.Sort.ahead w n) g 0 (flatK encIt 2 d')) os).cell? _ = _
    rw [Go.Sort.cell?_grow _ _ _ (by simpa [Go.Sort.ahead] using hgl)];exact hgr
end Go.Proofs.YtbfieomjobbhoaaGreatDoor
