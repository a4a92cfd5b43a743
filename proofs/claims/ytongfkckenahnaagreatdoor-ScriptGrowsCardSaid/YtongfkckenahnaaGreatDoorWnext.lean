/- script.Read's closure: the next byte. -/
import Derived.Test.YtongfkckenahnaaGreatDoorBase
import Derived.Test.YtongfkckenahnaaGreatDoorPscr
namespace Go.Proofs.YtongfkckenahnaaGreatDoor
open Go.RowKit Go.Gz
set_option maxRecDepth 100000
theorem blk1 {w : World} {b : Nat} {v : Value} {t : TypeId} (h : w.heap[b]? = some (.cells #[v] t (0, 0))) : w.cell? ⟨b, 0, none⟩ = some v ∧ w.frozen? ⟨b, 0, none⟩ = false := ⟨by simp [World.cell?, h], by simp [World.frozen?, h]⟩
/-- what is left of a text: its place lies in block M, the text in block N -/
def ST (N M : Nat) (l R : Bs) (w : World) : Prop := ∃ k, k ≤ l.length ∧ R = l.drop k ∧ w.heap[M]? = some (.cells #[.int .i64 (k : Int)] 3 (0, 0)) ∧ w.heap[N]? = some (.cells #[.string ⟨l.toArray⟩] 9 (0, 0))
theorem ST.kept {N M : Nat} {l R : Bs} {w w' : World} (h : ST N M l R w) (h1 : w'.heap[M]? = w.heap[M]?) (h2 : w'.heap[N]? = w.heap[N]?) : ST N M l R w' := by
  obtain ⟨k, a, b, c, d⟩ := h
  exact ⟨k, a, b, by rw [h1, c], by rw [h2, d]⟩
set_option maxHeartbeats 1000000 in
theorem next_any (N M : Nat) (hne : N ≠ M) (l : Bs) (hl : l.length ≤ 1000) (R : Bs) (w : World) (h : ST N M l R w) :
    Calls Tryz.prog 9 #[.pointer (some ⟨M, 0, none⟩), .pointer (some ⟨N, 0, none⟩)] w fun e w' => e = .returned (.int .i64 (nxN R : Int)) ∧ ST N M l (R.drop 1) w' ∧ w.grownBy w' (some M) := by
  obtain ⟨k, hk, rfl, h1, h2⟩ := h
  obtain ⟨ca, fa⟩ := blk1 h1
  obtain ⟨cs, fs⟩ := blk1 h2
  have H1 := Lib.hid h1
  have H2 := Lib.hid h2
  by_cases hlt : k < l.length
  · obtain ⟨c, hc⟩ : ∃ c, (⟨l.toArray⟩ : ByteArray)[k]'(by rw [size_mk]; exact hlt) = c := ⟨_, rfl⟩
    have hck : Hid (l[k] = c) := hc
    have hd : l.drop k = c :: l.drop (k + 1) := by rw [← hck.out]; exact List.drop_eq_getElem_cons hlt
    have HD := Lib.hid hd
    have hI : ¬ (l.length : Int) ≤ (k : Int) := by omega
    have hI2 : (k : Int) < (l.length : Int) := by omega
    have hk2 : k ≤ 1000 := by omega
    clear hd h1 h2 hk
    go_enter Tryz.func9, Tryz.ntmps9
    go_wp2_with fail
    go_ret
    refine ⟨?_, ⟨k + 1, by omega, ?_, ?_, ?_⟩, ?_⟩
    · have hcw : RowKit.wrap64 (c.toNat : Int) = (c.toNat : Int) := by have := c.toNat_lt; unfold RowKit.wrap64; omega
      rw [HD.out]
      show Ending.returned (.int .i64 (RowKit.wrap64 (c.toNat : Int))) = _
      rw [hcw]; rfl
    · first | rfl | (rw [HD.out]; rfl)
    · rw [heap_setCell_same _ _ _ _ _ _ H1.out]; simp
    · rw [heap_setCell_other _ _ _ _ hne]; exact H2.out
    · exact ⟨rfl, rfl, rfl, by simp, fun j _ hj => heap_setCell_other _ _ _ _ (fun e => hj (by rw [e]))⟩
  · have he : k = l.length := by omega
    subst he
    have hd : l.drop l.length = [] := List.drop_length
    have HD := Lib.hid hd
    clear hd h1 h2 hk
    go_enter Tryz.func9, Tryz.ntmps9
    go_wp2_with fail
    go_ret
    refine ⟨by rw [HD.out]; rfl, ⟨l.length, Nat.le_refl _, by rw [HD.out]; rfl, H1.out, H2.out⟩, ⟨rfl, rfl, rfl, Nat.le_refl _, fun _ _ _ => rfl⟩⟩
theorem up_grown {w a b : World} {M : Nat} (h : Up w a) (g : a.grownBy b (some M)) (hM : w.heap.size ≤ M) : Up w b :=
  ⟨g.os.trans h.os, g.tape.trans h.tape, g.output.trans h.output, Nat.le_trans h.size g.size, fun k hk => (g.block k (Nat.lt_of_lt_of_le hk h.le) (by simp only [ne_eq, Option.some.injEq]; omega)).trans (h.block hk)⟩
theorem grown_obj {a b : World} {M k : Nat} {o : Obj} (g : a.grownBy b (some M)) (hk : a.heap[k]? = some o) (hne : k ≠ M) : b.heap[k]? = some o := by
  rw [g.block k (Array.getElem?_eq_some_iff.1 hk).1 (by simp only [ne_eq, Option.some.injEq]; omega)]; exact hk
end Go.Proofs.YtongfkckenahnaaGreatDoor
