/- Walk: the law RouteBytes. -/
import Derived.Test.YteeenbhmdacdiaaDoorWback34
import Derived.Lib.ConvBytes
import Derived.Laws.IdiomStrings
import Derived.Laws.BitsAllLaws
namespace Go.Proofs.YteeenbhmdacdiaaDoor
open Go.RowKit Go.Gz

set_option maxRecDepth 100000 in
set_option maxHeartbeats 8000000 in
theorem byte34_bad (z x y a b : Int) (w : World) (hg : Gl w) (hp : ¬ (prT z x y [112, 110, 103]).2 = 0) :
    Calls Tryd.prog 5 #[.agg #[.int .i64 z, .int .i64 x, .int .i64 y], .int .u8 a, .int .u8 b] w fun e w' => e = .returned (.bool true) ∧ Up w w' := by
  have AW := fun w hg => Lib.hid (awake34 w hg)
  have A4 := fun w hg => Lib.hid (print_any z x y [112, 110, 103] (by decide) w hg)
  have hr : prT z x y [112, 110, 103] = ([], (prT z x y [112, 110, 103]).2) := by
    unfold prT at hp ⊢
    split
    · rfl
    · rename_i h1
      rw [if_neg h1, if_neg (by decide)] at hp
      exact absurd rfl hp
  rw [hr] at A4
  simp only at A4
  clear hr
  generalize (prT z x y [112, 110, 103]).2 = pe at *
  have hb : (pe == 0) = false := by rw [beq_eq_false_iff_ne]; exact hp
  have hb2 : (pe != 0) = true := by rw [bne_iff_ne]; exact hp
  clear hp
  go_enter Tryd.func5, Tryd.ntmps5
  have n0 := new3 w 23 z x y
  go_wp2_with fail
  refine (A4 _ (hg.up n0.1)).out.mono ?_
  rintro e w1 ⟨rfl, hu⟩
  have HU := Lib.hid (n0.1.trans hu)
  clear hu n0
  go_wp2_with fail
  refine (AW _ (hg.up HU.out)).out.mono ?_
  rintro e w7 ⟨rfl, hu⟩
  go_wp2_with fail
  go_ret
  exact ⟨rfl, HU.out.trans hu⟩
set_option maxRecDepth 100000 in
set_option maxHeartbeats 8000000 in
theorem byte34_zero (z x y a : Int) (w : World) (hg : Gl w) (hp : placeE z x y = 0) :
    Calls Tryd.prog 5 #[.agg #[.int .i64 z, .int .i64 x, .int .i64 y], .int .u8 a, .int .u8 0] w fun e w' => e = .returned (.bool true) ∧ Up w w' := by
  have AW := fun w hg => Lib.hid (awake34 w hg)
  have A4 := fun w hg => Lib.hid (print_any z x y [112, 110, 103] (by decide) w hg)
  rw [print_of hp (.inr (by decide))] at A4
  clear hp
  generalize pathB z x y [112, 110, 103] = s at *
  go_enter Tryd.func5, Tryd.ntmps5
  have n0 := new3 w 23 z x y
  go_wp2_with fail
  refine (A4 _ (hg.up n0.1)).out.mono ?_
  rintro e w1 ⟨rfl, hu⟩
  have HU := Lib.hid (n0.1.trans hu)
  clear hu n0
  go_wp2_with fail
  refine (AW _ (hg.up HU.out)).out.mono ?_
  rintro e w7 ⟨rfl, hu⟩
  go_wp2_with fail
  go_ret
  exact ⟨rfl, HU.out.trans hu⟩
theorem of_wf_u8 {n : Int} (h : (Lit.int .u8 n).wf = true) : 0 ≤ n ∧ n < 256 := by
  simp [Lit.wf, IntKind.min, IntKind.max, IntKind.bits, IntKind.signed] at h
  omega
theorem xor_byte (x : UInt8) (b : Int) (hb : 0 < b ∧ b < 256) : ∃ c : UInt8, bits .xor .u8 (x.toNat : Int) b = (c.toNat : Int) ∧ c ≠ x := by
  obtain ⟨m, rfl⟩ : ∃ m : Nat, b = m := ⟨b.toNat, by omega⟩
  have hx : x.toNat < 256 := x.toNat_lt
  have hlt : x.toNat ^^^ m < 2 ^ 8 := Nat.xor_lt_two_pow (by omega) (by omega)
  refine ⟨UInt8.ofNat (x.toNat ^^^ m), ?_, ?_⟩
  · rw [u8_xor_nat _ _ hx (by omega)]
    simp only [UInt8.toNat_ofNat']
    rw [Nat.mod_eq_of_lt (by omega)]
  · intro e
    have e2 := congrArg UInt8.toNat e
    simp only [UInt8.toNat_ofNat'] at e2
    rw [Nat.mod_eq_of_lt (by omega)] at e2
    have e3 : x.toNat ^^^ (x.toNat ^^^ m) = x.toNat ^^^ x.toNat := by rw [e2]
    rw [← Nat.xor_assoc, Nat.xor_self, Nat.zero_xor] at e3
    omega
/-- 'string(b)' -/
theorem bytes_back (g n cap : Nat) (t : Bs) (hn : t.length = n) (W : World) (hc : ∀ j (h : j < t.length), W.cell? ⟨g, j, none⟩ = some (.int .u8 (t[j].toNat : Int))) :
    (convert 39 9 (.slice (some ⟨g, 0, none⟩) n cap)).run Tryd.prog W = .ok (.string ⟨t.toArray⟩) W := by
  subst hn
  refine Go.run_convert_bytes_back W 39 9 5 ⟨g, 0, none⟩ cap t Tryd.underlying39 Tryd.underlying5 Tryd.underlying9 (fun j hj => ?_)
  have e : (⟨g, 0, none⟩ : Addr).add j = ⟨g, j, none⟩ := by unfold Addr.add; split <;> simp_all
  rw [e]
  exact hc j hj
theorem set_cells (g : Nat) (wb : World) (s : Bs) (hc : ∀ j (h : j < s.length), wb.cell? ⟨g, j, none⟩ = some (.int .u8 (s[j].toNat : Int))) (k : Nat) (c : UInt8) :
    ∀ j (h : j < (s.set k c).length), (wb.setCell ⟨g, k, none⟩ (.int .u8 (c.toNat : Int))).cell? ⟨g, j, none⟩ = some (.int .u8 ((s.set k c)[j].toNat : Int)) := by
  intro j h
  have hj : j < s.length := by rw [List.length_set] at h; exact h
  by_cases e : k = j
  · subst e
    rw [World.cell?_setCell_same _ _ _ (hc k hj)]
    simp
  · rw [World.cell?_setCell_other _ _ _ _ (fun h => e (congrArg Addr.off h)), hc j hj]
    simp [List.getElem_set_ne e]
/-- '[]byte(s)' -/
theorem bytes_conv (w : World) (s : Bs) : ∃ (wb : World) (cap : Nat), (convert 9 39 (.string ⟨s.toArray⟩)).run Tryd.prog w = .ok (.slice (some ⟨w.heap.size, 0, none⟩) s.length cap) wb ∧ Up w wb ∧
    (∀ j (h : j < s.length), wb.cell? ⟨w.heap.size, j, none⟩ = some (.int .u8 (s[j].toNat : Int))) ∧ (∀ j, j < s.length → wb.frozen? ⟨w.heap.size, j, none⟩ = false) := by
  have h := Lib.run_convert_string_bytes (P := Tryd.prog) w 9 39 5 ⟨s.toArray⟩ Tryd.underlying9 Tryd.underlying39 Tryd.underlying5
  rw [size_mk] at h
  refine ⟨_, _, h, ?_, ?_, ?_⟩
  · exact Up.of ⟨rfl, rfl, rfl, by rw [Lib.bytesWorld_size]; omega, fun k hk => Lib.bytesWorld_at_old _ _ _ _ hk⟩
  · intro j hj
    rw [Lib.bytesWorld_cell _ _ _ _ (by rw [size_mk]; exact hj)]
    simp [List.getD, hj]
  · intro j hj
    unfold World.frozen?
    rw [Lib.bytesWorld_at_new]
    have : s.length ≤ (Lib.bytesCells w 5 ⟨s.toArray⟩).size := by
      unfold Lib.bytesCells
      simp only [Array.size_append, Array.size_map, List.size_toArray]
      omega
    simp only [Bool.and_eq_false_iff, decide_eq_false_iff_not]
    left; omega
set_option maxRecDepth 100000 in
set_option maxHeartbeats 16000000 in
theorem byte34_turn (z x y a b : Int) (w : World) (hg : Gl w) (hp : placeE z x y = 0) (ha : 0 ≤ a ∧ a < 256) (hb0 : 0 < b ∧ b < 256) :
    Calls Tryd.prog 5 #[.agg #[.int .i64 z, .int .i64 x, .int .i64 y], .int .u8 a, .int .u8 b] w fun e w' => e = .returned (.bool true) ∧ Up w w' := by
  have AW := fun w hg => Lib.hid (awake34 w hg)
  have A4 := fun w hg => Lib.hid (print_any z x y [112, 110, 103] (by decide) w hg)
  rw [print_of hp (.inr (by decide))] at A4
  have hl := path_len hp (e := [112, 110, 103]) (.inr (by decide))
  have hn := path_ne z x y [112, 110, 103]
  generalize hs : pathB z x y [112, 110, 103] = s at *
  have HS := Lib.hid hs
  clear hs
  have hb : (b == 0) = false := by rw [beq_eq_false_iff_ne]; omega
  have hs1 : (s == []) = false := by simp [hn]
  have hs2 : 0 < s.length := List.length_pos_iff.2 hn
  have hs3 : s.isEmpty = false := by cases s with
    | nil => exact absurd rfl hn
    | cons => rfl
  go_enter Tryd.func5, Tryd.ntmps5
  have n0 := new3 w 23 z x y
  go_wp2_with fail
  refine (A4 _ (hg.up n0.1)).out.mono ?_
  rintro e w1 ⟨rfl, hu⟩
  have HU := Lib.hid (n0.1.trans hu)
  have c0 := hu.cell n0.2.1
  have c1 := hu.cell n0.2.2.1
  have c2 := hu.cell n0.2.2.2
  clear hu n0
  obtain ⟨wb, cap, hcv, hub, hcl, hfz⟩ := bytes_conv w1 s
  obtain ⟨k, hk, hkl⟩ : ∃ k : Nat, Int.tmod a (s.length : Int) = (k : Int) ∧ k < s.length :=
    ⟨a.toNat % s.length, by rw [Int.tmod_eq_emod_of_nonneg ha.1, Int.natCast_emod, Int.toNat_of_nonneg ha.1], Nat.mod_lt _ hs2⟩
  have hck := hcl k hkl
  have hfk := hfz k hkl
  have hlt : ((k : Int) < (s.length : Int)) := by omega
  obtain ⟨c, hx, hcne⟩ := xor_byte s[k] b hb0
  have hset : s.set k c ≠ s := by
    intro e
    have := congrArg (fun l => l[k]?) e
    simp only [List.getElem?_set, hkl, if_true, List.getElem?_eq_getElem] at this
    injection this with this
    exact hcne this
  have hct := set_cells w1.heap.size wb s hcl k c
  have hub' : Up w1 (wb.setCell ⟨w1.heap.size, k, none⟩ (.int .u8 (c.toNat : Int))) := hub.set (Nat.le_refl _) _
  replace c0 := hub'.cell c0
  replace c1 := hub'.cell c1
  replace c2 := hub'.cell c2
  have HU2 := Lib.hid (HU.out.trans hub')
  have hll : (s.set k c).length = s.length := List.length_set
  have HNE := Lib.hid hset
  clear hcl hfz hub hub' hset HU
  generalize s.set k c = t at *
  have hcb := bytes_back w1.heap.size s.length cap t hll _ hct
  have A1 := fun w hg => Lib.hid (Parse_any t (by omega) w hg)
  have A3 := fun w hg => Lib.hid (Ext_any t (by omega) w hg)
  have HCT := Lib.hid hct
  clear hct hn
  obtain ⟨hq, hr⟩ | ⟨tz, tx, ty, te, hr, _, _, ht⟩ := rt_cases t
  · rw [hr] at A1 A3
    simp only at A1 A3
    clear hr
    generalize (rt t).2.2 = er at *
    have hb1 : (er != 0) = true := by rw [bne_iff_ne]; exact hq
    have hb2 : (er == 0) = false := by rw [beq_eq_false_iff_ne]; exact hq
    clear hq
    go_wp2_with fail
    refine (A1 _ (hg.up HU2.out)).out.mono ?_
    rintro e w3 ⟨rfl, hu⟩
    have n1 := new3 w3 25 0 0 0
    have hct2 := fun j h => n1.1.cell (hu.cell (HCT.out j h))
    have hcb2 := bytes_back w1.heap.size s.length cap t hll _ hct2
    have HU3 := Lib.hid (HU2.out.trans (hu.trans n1.1))
    replace c0 := n1.1.cell (hu.cell c0)
    replace c1 := n1.1.cell (hu.cell c1)
    replace c2 := n1.1.cell (hu.cell c2)
    clear hu hct2 hcb HU2 hck hfk
    go_wp2_with fail
    refine (A3 _ (hg.up HU3.out)).out.mono ?_
    rintro e w4 ⟨rfl, hu⟩
    have HU4 := Lib.hid (HU3.out.trans hu)
    replace c0 := hu.cell c0
    replace c1 := hu.cell c1
    replace c2 := hu.cell c2
    have d0 := hu.cell n1.2.1
    have d1 := hu.cell n1.2.2.1
    have d2 := hu.cell n1.2.2.2
    clear hu n1 hcb2 HU3
    go_wp2_with fail
    refine (AW _ (hg.up HU4.out)).out.mono ?_
    rintro e w7 ⟨rfl, hu⟩
    go_wp2_with fail
    go_ret
    exact ⟨rfl, HU4.out.trans hu⟩
  · rw [hr] at A1 A3
    simp only at A1 A3
    clear hr
    by_cases hz : tz = z
    · subst hz
      by_cases hx1 : tx = x
      · subst hx1
        by_cases hy : ty = y
        · subst hy
          have hte : (te == [112, 110, 103]) = false := by
            rw [beq_eq_false_iff_ne]
            intro e
            subst e
            exact HNE.out (ht.trans HS.out)
          have hte2 : (te != [112, 110, 103]) = true := by unfold bne; rw [hte]; rfl
          clear ht
          go_wp2_with fail
          refine (A1 _ (hg.up HU2.out)).out.mono ?_
          rintro e w3 ⟨rfl, hu⟩
          have n1 := new3 w3 25 tz tx ty
          have hct2 := fun j h => n1.1.cell (hu.cell (HCT.out j h))
          have hcb2 := bytes_back w1.heap.size s.length cap t hll _ hct2
          have HU3 := Lib.hid (HU2.out.trans (hu.trans n1.1))
          replace c0 := n1.1.cell (hu.cell c0)
          replace c1 := n1.1.cell (hu.cell c1)
          replace c2 := n1.1.cell (hu.cell c2)
          clear hu hct2 hcb HU2 hck hfk
          go_wp2_with fail
          refine (A3 _ (hg.up HU3.out)).out.mono ?_
          rintro e w4 ⟨rfl, hu⟩
          have HU4 := Lib.hid (HU3.out.trans hu)
          replace c0 := hu.cell c0
          replace c1 := hu.cell c1
          replace c2 := hu.cell c2
          have d0 := hu.cell n1.2.1
          have d1 := hu.cell n1.2.2.1
          have d2 := hu.cell n1.2.2.2
          clear hu n1 hcb2 HU3
          go_wp2_with fail
          refine (AW _ (hg.up HU4.out)).out.mono ?_
          rintro e w7 ⟨rfl, hu⟩
          go_wp2_with fail
          go_ret
          exact ⟨rfl, HU4.out.trans hu⟩
        · have hbz : (ty == y) = false := by rw [beq_eq_false_iff_ne]; exact hy
          clear ht
          go_wp2_with fail
          refine (A1 _ (hg.up HU2.out)).out.mono ?_
          rintro e w3 ⟨rfl, hu⟩
          have n1 := new3 w3 25 tz tx ty
          have hct2 := fun j h => n1.1.cell (hu.cell (HCT.out j h))
          have hcb2 := bytes_back w1.heap.size s.length cap t hll _ hct2
          have HU3 := Lib.hid (HU2.out.trans (hu.trans n1.1))
          replace c0 := n1.1.cell (hu.cell c0)
          replace c1 := n1.1.cell (hu.cell c1)
          replace c2 := n1.1.cell (hu.cell c2)
          clear hu hct2 hcb HU2 hck hfk
          go_wp2_with fail
          refine (A3 _ (hg.up HU3.out)).out.mono ?_
          rintro e w4 ⟨rfl, hu⟩
          have HU4 := Lib.hid (HU3.out.trans hu)
          replace c0 := hu.cell c0
          replace c1 := hu.cell c1
          replace c2 := hu.cell c2
          have d0 := hu.cell n1.2.1
          have d1 := hu.cell n1.2.2.1
          have d2 := hu.cell n1.2.2.2
          clear hu n1 hcb2 HU3
          go_wp2_with fail
          refine (AW _ (hg.up HU4.out)).out.mono ?_
          rintro e w7 ⟨rfl, hu⟩
          go_wp2_with fail
          go_ret
          exact ⟨rfl, HU4.out.trans hu⟩
      · have hbz : (tx == x) = false := by rw [beq_eq_false_iff_ne]; exact hx1
        clear ht
        go_wp2_with fail
        refine (A1 _ (hg.up HU2.out)).out.mono ?_
        rintro e w3 ⟨rfl, hu⟩
        have n1 := new3 w3 25 tz tx ty
        have hct2 := fun j h => n1.1.cell (hu.cell (HCT.out j h))
        have hcb2 := bytes_back w1.heap.size s.length cap t hll _ hct2
        have HU3 := Lib.hid (HU2.out.trans (hu.trans n1.1))
        replace c0 := n1.1.cell (hu.cell c0)
        replace c1 := n1.1.cell (hu.cell c1)
        replace c2 := n1.1.cell (hu.cell c2)
        clear hu hct2 hcb HU2 hck hfk
        go_wp2_with fail
        refine (A3 _ (hg.up HU3.out)).out.mono ?_
        rintro e w4 ⟨rfl, hu⟩
        have HU4 := Lib.hid (HU3.out.trans hu)
        replace c0 := hu.cell c0
        replace c1 := hu.cell c1
        replace c2 := hu.cell c2
        have d0 := hu.cell n1.2.1
        have d1 := hu.cell n1.2.2.1
        have d2 := hu.cell n1.2.2.2
        clear hu n1 hcb2 HU3
        go_wp2_with fail
        refine (AW _ (hg.up HU4.out)).out.mono ?_
        rintro e w7 ⟨rfl, hu⟩
        go_wp2_with fail
        go_ret
        exact ⟨rfl, HU4.out.trans hu⟩
    · have hbz : (tz == z) = false := by rw [beq_eq_false_iff_ne]; exact hz
      clear ht
      go_wp2_with fail
      refine (A1 _ (hg.up HU2.out)).out.mono ?_
      rintro e w3 ⟨rfl, hu⟩
      have n1 := new3 w3 25 tz tx ty
      have hct2 := fun j h => n1.1.cell (hu.cell (HCT.out j h))
      have hcb2 := bytes_back w1.heap.size s.length cap t hll _ hct2
      have HU3 := Lib.hid (HU2.out.trans (hu.trans n1.1))
      replace c0 := n1.1.cell (hu.cell c0)
      replace c1 := n1.1.cell (hu.cell c1)
      replace c2 := n1.1.cell (hu.cell c2)
      clear hu hct2 hcb HU2 hck hfk
      go_wp2_with fail
      refine (A3 _ (hg.up HU3.out)).out.mono ?_
      rintro e w4 ⟨rfl, hu⟩
      have HU4 := Lib.hid (HU3.out.trans hu)
      replace c0 := hu.cell c0
      replace c1 := hu.cell c1
      replace c2 := hu.cell c2
      have d0 := hu.cell n1.2.1
      have d1 := hu.cell n1.2.2.1
      have d2 := hu.cell n1.2.2.2
      clear hu n1 hcb2 HU3
      go_wp2_with fail
      refine (AW _ (hg.up HU4.out)).out.mono ?_
      rintro e w7 ⟨rfl, hu⟩
      go_wp2_with fail
      go_ret
      exact ⟨rfl, HU4.out.trans hu⟩
theorem byte34 (z x y a b : Int) (w : World) (hg : Gl w) (ha : 0 ≤ a ∧ a < 256) (hb0 : 0 ≤ b ∧ b < 256) :
    Calls Tryd.prog 5 #[.agg #[.int .i64 z, .int .i64 x, .int .i64 y], .int .u8 a, .int .u8 b] w fun e w' => e = .returned (.bool true) ∧ Up w w' := by
  by_cases hp : placeE z x y = 0
  · by_cases hb : b = 0
    · subst hb
      exact byte34_zero z x y a w hg hp
    · exact byte34_turn z x y a b w hg hp ha (by omega)
  · refine byte34_bad z x y a b w hg ?_
    unfold prT
    rw [if_pos hp]
    exact hp
end Go.Proofs.YteeenbhmdacdiaaDoor
