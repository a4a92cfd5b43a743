/- slices.Insert at a list of fields. -/
import Derived.Test.YtongfkckenahnaaGreatDoorInsg
namespace Go.Proofs.YtongfkckenahnaaGreatDoor
open Go.Ev
theorem ins_list (xs rest ys : List Value) (n m k : Nat) (hx : xs.length = n * 2) (hy : ys.length = m * 2) (hk : k < n) (hr : m * 2 ≤ rest.length) :
    putA (putA (xs ++ rest) ((k + m) * 2) (xs.drop (k * 2))) (k * 2) ys = insV (k * 2) xs ys ++ rest.drop (m * 2) := by
  have h1 : (xs.drop (k * 2)).length = (n - k) * 2 := by rw [List.length_drop, hx]; omega
  apply List.ext_getElem?
  intro j
  unfold putA insV
  simp only [List.getElem?_append, List.getElem?_take, List.getElem?_drop, List.length_append, List.length_take, List.length_drop, hx, hy, h1]
  repeat' split
  all_goals first
    | rfl
    | (exfalso; omega)
    | (congr 1; omega)
theorem ins_list2 (xs zs ys : List Value) (n m k : Nat) (hx : xs.length = n * 2) (hy : ys.length = m * 2) (hk : k < n) (z1 : List Value) (h1 : z1.length = (n + m - k) * 2) :
    putA (putA (xs.take (k * 2) ++ z1 ++ zs) (k * 2) ys) ((k + m) * 2) (xs.drop (k * 2)) = insV (k * 2) xs ys ++ zs := by
  have h2 : (xs.drop (k * 2)).length = (n - k) * 2 := by rw [List.length_drop, hx]; omega
  apply List.ext_getElem?
  intro j
  unfold putA insV
  simp only [List.getElem?_append, List.getElem?_take, List.getElem?_drop, List.length_append, List.length_take, List.length_drop, hx, hy, h1, h2]
  repeat' split
  all_goals first
    | rfl
    | (exfalso; omega)
    | (congr 1; omega)
theorem ins_field : InsC Tryz.prog 320 471 2 := by
  intro w g n c k h o m cv xs rest ys f1 f2 hg hx hc hf h1 hk hn hm hne hy hys h1y hnm hh
  subst hf
  obtain ⟨hs, f3, hh⟩ := hh
  have hcs : ∀ j v, xs[j]? = some v → w.cell? ⟨g, j, none⟩ = some v := fun j v hj => by
    have hlt := (List.getElem?_eq_some_iff.1 hj).1
    simp only [World.cell?, hg]
    simp [List.getElem?_append_left hlt, hj]
  have h1x : ∀ v ∈ xs, v.oneCell' = true := fun v hv => h1 v (List.mem_append_left _ hv)
  have hle : n ≤ c := by
    rw [List.length_append, hx] at hc
    omega
  by_cases hroom : n + m ≤ c
  · have hr : m * 2 ≤ rest.length := by rw [List.length_append, hx] at hc; omega
    refine (ins_shift g n c k h o m cv xs ys w hk hm hroom hnm hne hx hy hcs (fun j hj => ?_) (fun j => ?_) hys h1x h1y 471 471 hs.size (xs ++ rest).length ?_ ?_ (by rw [hc]; omega) ?_ ?_).mono ?_
    · simp only [World.cell?, hg]
      rw [List.length_append] at hc
      have : j < xs.length + rest.length := by omega
      simp [this]
    · simp [World.frozen?, hg]
    · simp [World.shape?, hh]
    · simp [World.shape?, hg]
    · simp [World.frozen?, hh]
    · simp [World.frozen?, hh]
    · rintro en w' ⟨rfl, rfl⟩
      have hd1 : (xs.drop (k * 2)).length = (n - k) * 2 := by rw [List.length_drop, hx]; omega
      obtain ⟨a1, a2, a3, a4, a5, a6⟩ := setCells_heap g (xs.drop (k * 2)) ((k + m) * 2) w.drew (xs ++ rest) 471 (f1, f1) hg (by rw [hd1, List.length_append, hx]; omega)
      have hl1 : (putA (xs ++ rest) ((k + m) * 2) (xs.drop (k * 2))).length = xs.length + rest.length := by
        unfold putA
        simp only [List.length_append, List.length_take, List.length_drop, hx]
        omega
      obtain ⟨b1, b2, b3, b4, b5, b6⟩ := setCells_heap g ys (k * 2) _ _ 471 (f1, f1) a1 (by rw [hl1, hx, hy]; omega)
      refine ⟨b4.trans a4, b5.trans a5, b6.trans a6, Or.inl ⟨hroom, rfl, ?_, fun r hr => (b2 r hr).trans (a2 r hr), b3.trans a3⟩⟩
      rw [b1, ins_list xs rest ys n m k hx hy hk hr]
  · refine (ins_grow g n c k h o m cv xs ys w hk hm hle (by omega) hnm hx hy hcs hys h1x h1y).mono ?_
    rintro en w' ⟨G, ROW, hG, rfl, hROW, rfl⟩
    have hd1 : (xs.drop (k * 2)).length = (n - k) * 2 := by rw [List.length_drop, hx]; omega
    generalize hz1 : (Builtin.zeroCells (#[.string ⟨#[]⟩, .string ⟨#[]⟩] : Array Value) (n + m - k)).toList = z1
    generalize hz2 : (Builtin.zeroCells (#[.string ⟨#[]⟩, .string ⟨#[]⟩] : Array Value) (G - (n + m))).toList = zs
    have l1 : z1.length = (n + m - k) * 2 := by rw [← hz1, zeroCells_len]; rfl
    have l2 : zs.length = (G - (n + m)) * 2 := by rw [← hz2, zeroCells_len]; rfl
    have o2 : ∀ v ∈ zs, one v := by
      rw [← hz2]
      exact zeroCells_one (by simp) (by simp [one, Value.oneCell']) _
    have hR : ROW = (xs.take (k * 2) ++ z1 ++ zs).toArray := by
      rw [hROW, ← hz1, ← hz2]
      apply Array.ext'
      simp
    subst hR
    have g0 : ((w.alloc (.cells (xs.take (k * 2) ++ z1 ++ zs).toArray 471)).drew).heap[w.heap.size]? = some (.cells (xs.take (k * 2) ++ z1 ++ zs).toArray 471 (0, 0)) := by
      show (w.heap.push _)[w.heap.size]? = _
      simp
    have t1 : (xs.take (k * 2)).length = k * 2 := by rw [List.length_take, hx]; omega
    obtain ⟨a1, a2, a3, a4, a5, a6⟩ := setCells_heap w.heap.size ys (k * 2) _ (xs.take (k * 2) ++ z1 ++ zs) 471 (0, 0) g0 (by rw [List.length_append, List.length_append, t1, l1, hy]; omega)
    have hl1 : (putA (xs.take (k * 2) ++ z1 ++ zs) (k * 2) ys).length = k * 2 + (n + m - k) * 2 + zs.length := by
      unfold putA
      simp only [List.length_append, List.length_take, List.length_drop, t1, l1, hy]
      have hx := hx
      omega
    obtain ⟨b1, b2, b3, b4, b5, b6⟩ := setCells_heap w.heap.size (xs.drop (k * 2)) ((k + m) * 2) (((w.alloc (.cells (xs.take (k * 2) ++ z1 ++ zs).toArray 471)).drew.setCells w.heap.size (k * 2) ys).drew) _ 471 (0, 0) a1 (by rw [hl1, hd1]; omega)
    refine ⟨b4.trans a4, b5.trans a5, b6.trans a6, Or.inr ⟨G, zs, rfl, ?_, o2, ?_⟩⟩
    · unfold insV
      simp only [List.length_append, List.length_take, List.length_drop, hx, hy, l2]
      omega
    · have hsz : ((((w.alloc (.cells (xs.take (k * 2) ++ z1 ++ zs).toArray 471)).drew.setCells w.heap.size (k * 2) ys).drew).setCells w.heap.size ((k + m) * 2) (xs.drop (k * 2))).heap.size = w.heap.size + 1 := by
        rw [b3]
        show ((w.alloc (.cells (xs.take (k * 2) ++ z1 ++ zs).toArray 471)).drew.setCells w.heap.size (k * 2) ys).heap.size = _
        rw [a3]
        show (w.heap.push _).size = _
        simp
      apply Array.ext_getElem?
      intro r
      by_cases hr : r = w.heap.size
      · subst hr
        rw [b1, ins_list2 xs zs ys n m k hx hy hk z1 l1]
        simp
      · rw [b2 r hr]
        show ((w.alloc (.cells (xs.take (k * 2) ++ z1 ++ zs).toArray 471)).drew.setCells w.heap.size (k * 2) ys).heap[r]? = _
        rw [a2 r hr]
        show (w.heap.push _)[r]? = _
        rw [Array.getElem?_push, Array.getElem?_push, if_neg hr, if_neg hr]
end Go.Proofs.YtongfkckenahnaaGreatDoor
