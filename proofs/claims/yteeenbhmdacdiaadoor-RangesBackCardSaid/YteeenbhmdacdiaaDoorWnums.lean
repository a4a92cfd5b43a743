/- Walk: ranges.numbers. -/
import Derived.Test.YteeenbhmdacdiaaDoorWrtell
namespace Go.Proofs.YteeenbhmdacdiaaDoor
open Go.RowKit Go.Gz

theorem firstE_drop (ls : List Bs) : ∀ k, (∀ j < k, numE (ls.getD j []) = 0) → k ≤ ls.length → firstE ls = firstE (ls.drop k) := by
  induction ls with
  | nil => intro k _ _; simp
  | cons a r ih =>
    intro k h hk
    cases k with
    | zero => simp
    | succ k =>
      have h0 : numE a = 0 := h 0 (by omega)
      have := ih k (fun j hj => by have := h (j + 1) (by omega); simpa using this) (by simp at hk; omega)
      rw [List.drop_succ_cons, ← this]
      show (if numE a ≠ 0 then numE a else firstE r) = _
      rw [if_neg (by omega)]
def NumsEnd (w : World) (ls : List Bs) (e : Ending) (w' : World) : Prop := Up w w' ∧
  ((firstE ls ≠ 0 ∧ e = .returned (.tuple #[.slice none 0 0, .int .i64 (firstE ls)])) ∨ (firstE ls = 0 ∧ ∃ v, e = .returned (.tuple #[v, .int .i64 0]) ∧ OwnI w' w.heap.size v (ls.map numV)))
def NsRel (w : World) (ls : List Bs) (gk : Nat) (v i : Value) (wr : World) : Prop := ∃ k : Nat, k + gk = ls.length ∧ i = .int .i64 k ∧ (∀ j < k, numE (ls.getD j []) = 0) ∧ OwnI wr w.heap.size v ((ls.take k).map numV) ∧ Up w wr
set_option maxRecDepth 100000 in
set_option maxHeartbeats 2000000 in
theorem nums_any (ls : List Bs) (bk : Nat) (hls : ls.length ≤ 1000) (hlen : ∀ l ∈ ls, l.length ≤ 1000000) (w : World) (hg : Gl w) (hc : ∀ j < ls.length, w.cell? ⟨bk, j, none⟩ = some (strV (ls.getD j []))) :
    Calls Tryd.prog 58 #[.slice (some ⟨bk, 0, none⟩) ls.length ls.length] w (NumsEnd w ls) := by
  obtain ⟨i0, hi, hz0, hz1, hz2⟩ := info_parts infoI
  have HC := Lib.hid hc
  have HG := Lib.hid hg
  have HLE := Lib.hid hlen
  clear hc hg hlen
  go_enter Tryd.func58, Tryd.ntmps58
  go_wp2_with fail
  go_loopg [4, 11] ls.length (fun gk v i wr => NsRel w ls gk v i wr)
  case atStart => exact ⟨0, by omega, rfl, fun j hj => absurd hj (by omega), World.ownsRow_nil _ _ _ _, Up.refl w⟩
  case round =>
    obtain ⟨k, hk, rfl, hall, hown, hu⟩ := hrel
    have ALL := Lib.hid hall
    have HU := Lib.hid hu
    have HO := Lib.hid hown
    clear hall hown
    by_cases hlt : k < ls.length
    · obtain ⟨m, rfl⟩ : ∃ m, gk = m + 1 := ⟨gk - 1, by omega⟩
      obtain ⟨x, hx⟩ : ∃ x, ls.getD k [] = x := ⟨_, rfl⟩
      have hxm : x ∈ ls := by rw [← hx, List.getD_eq_getElem?_getD, List.getElem?_eq_getElem hlt]; exact List.getElem_mem _
      have hxl := HLE.out x hxm
      have hcell := hu.cell (HC.out k hlt)
      rw [hx] at hcell
      unfold strV at hcell
      have HX := Lib.hid hx
      have NU := fun w hg => Lib.hid (num_any x hxl w hg)
      have hltI : (k : Int) < (ls.length : Int) := by omega
      clear hx hu hxm
      by_cases hn : numE x = 0
      · rw [hn] at NU
        have HN := Lib.hid hn
        obtain ⟨nv, hnv⟩ : ∃ nv, numV x = nv := ⟨_, rfl⟩
        rw [hnv] at NU
        have HNV := Lib.hid hnv
        clear hn hnv
        go_wp2_with fail
        refine (NU _ (HG.out.up HU.out)).out.mono ?_
        rintro e w1 ⟨rfl, hu1⟩
        have HU1 := Lib.hid (HU.out.trans hu1)
        have HO1 := Lib.hid (HO.out.up hu1)
        clear hu1
        go_wp2_with (at_builtin; refine app_one w1 rfl _ _ 97 rfl w.heap.size 3 i0 _ 1 8 Tryd.underlying97 hi hz0 hz1 hz2 rfl (by decide) _ _ _ HO1.out rfl #[.int .i64 nv] rfl rfl (by simp [Value.oneCell']) (by simp; omega) (by omega) (by have := HU1.out.le; omega) ?_; intro v3 w3 ho3 hg3 hb3)
        go_roundg m
        case measure => omega
        case rel =>
          refine ⟨k + 1, by omega, by go_num, fun j hj => ?_, ?_, Up.of (Below.trans HU1.out.below hb3)⟩
          · by_cases e : j < k
            · exact ALL.out j e
            · obtain rfl : j = k := by omega
              rw [HX.out]; exact HN.out
          · have e : (ls.take (k + 1)).map numV = (ls.take k).map numV ++ [nv] := by
              rw [List.take_succ_eq_append_getElem hlt, List.map_append]
              have := HX.out
              rw [List.getD_eq_getElem?_getD, List.getElem?_eq_getElem hlt] at this
              simp only [Option.getD_some] at this
              rw [this, ← HNV.out]; rfl
            rw [e]
            simpa [OwnI] using ho3
      · have hb2 : (numE x != 0) = true := by rw [bne_iff_ne]; exact hn
        have HF := Lib.hid (show firstE ls = numE x from by
          rw [firstE_drop ls k ALL.out (by omega), List.drop_eq_getElem_cons hlt]
          have := HX.out
          rw [List.getD_eq_getElem?_getD, List.getElem?_eq_getElem hlt] at this
          simp only [Option.getD_some] at this
          rw [this]
          show (if numE x ≠ 0 then numE x else _) = _
          rw [if_pos hn])
        have HNE := Lib.hid hn
        clear hn
        generalize numE x = ex at *
        generalize numV x = nv at *
        go_wp2_with fail
        refine (NU _ (HG.out.up HU.out)).out.mono ?_
        rintro e w1 ⟨rfl, hu1⟩
        go_wp2_with fail
        go_ret2
        refine ⟨HU.out.trans hu1, .inl ⟨by rw [HF.out]; exact HNE.out, ?_⟩⟩
        exact ret_two rfl (int_eq HF.out.symm)
    · obtain rfl : k = ls.length := by omega
      have HF := Lib.hid (show firstE ls = 0 from by rw [firstE_drop ls ls.length ALL.out (by omega), List.drop_length]; rfl)
      have hO := HO.out
      rw [List.take_length] at hO
      have HO2 := Lib.hid hO
      clear hO
      go_wp2_with fail
      go_ret2
      exact ⟨HU.out, .inr ⟨HF.out, _, rfl, HO2.out⟩⟩
end Go.Proofs.YteeenbhmdacdiaaDoor
