/- Walks: the reference's numerals. -/
import Derived.Test.YteeenbhmdacdiaaDoorWnum
namespace Go.Proofs.YteeenbhmdacdiaaDoor
open Go.RowKit Go.Gz

theorem byte_mk (l : Bs) (k : Nat) (h : k < l.length) : (⟨l.toArray⟩ : ByteArray)[k]'(by rw [size_mk]; exact h) = l[k] := rfl
/-- what the reference's loop holds at place k -/
def NRel (l : Bs) (n o i : Value) : Prop := ∃ k : Nat, k ≤ l.length ∧ i = .int .i64 k ∧ (l.take k).all dig = true ∧ ∃ nn : Nat, n = .int .i64 nn ∧ nn ≤ BIG ∧
  ((o = .bool false ∧ nn = numv (l.take k)) ∨ (o = .bool true ∧ BIG < numv (l.take k)))
set_option maxHeartbeats 1000000 in
theorem rnum_loop (l : Bs) (hl : l.length ≤ 1000000) (hn : l ≠ []) (hh : ¬ (1 < l.length ∧ l.headD 0 = 48)) (w : World) :
    Calls Tryd.prog 61 #[.string ⟨l.toArray⟩] w fun e w' => e = .returned (.tuple #[.int .i64 (numV l), .int .i64 (numE l)]) ∧ w = w' := by
  have hlen : 0 < l.length := List.length_pos_iff.2 hn
  have HH := Lib.hid hh
  have HN := Lib.hid hn
  clear hh hn
  obtain ⟨c0, hc0⟩ : ∃ c, (⟨l.toArray⟩ : ByteArray)[0]'(by rw [size_mk]; exact hlen) = c := ⟨_, rfl⟩
  have h0 : l.headD 0 = c0 := by
    cases l with
    | nil => simp at hlen
    | cons a r => exact hc0
  have H0 := Lib.hid h0
  clear h0
  have hl0 : ((l.length : Int) == 0) = false := by rw [beq_eq_false_iff_ne]; omega
  by_cases hg : 1 < l.length
  case' pos =>
    have h48 : ((c0.toNat : Int) == 48) = false := by
      rw [beq_eq_false_iff_ne]; intro e
      exact HH.out ⟨hg, by rw [H0.out]; exact UInt8.toNat.inj (by show c0.toNat = 48; omega)⟩
  all_goals
    go_enter Tryd.func61, Tryd.ntmps61
    go_wp2
    go_loop [4, 5, 6] (fun n o i => NRel l n o i) (fun _ _ i => l.length - (intOf i).toNat)
    case atStart => exact ⟨0, by omega, rfl, rfl, 0, rfl, by unfold BIG; omega, .inl ⟨rfl, rfl⟩⟩
    case round =>
      obtain ⟨k, hk, rfl, hall, nn, rfl, hnn, hor⟩ := hrel
      have ALL := Lib.hid hall
      have OR := Lib.hid hor
      have hnn' : (nn : Int) ≤ 9007199254740991 := by unfold BIG at hnn; omega
      clear hall hor hnn
      by_cases hlt : k < l.length
      · obtain ⟨c, hc⟩ : ∃ c, (⟨l.toArray⟩ : ByteArray)[k]'(by rw [size_mk]; exact hlt) = c := ⟨_, rfl⟩
        have hck : Hid (l[k] = c) := hc
        by_cases hd : dig c = true
        · obtain ⟨h1, h2⟩ := (dig_iff c).1 hd
          have HD := Lib.hid hd
          clear hd
          go_wp2
          all_goals
            go_round
            case rel =>
              refine ⟨k + 1, by omega, by go_num, by rw [all_take_succ l k hlt, ALL.out, hck.out, HD.out]; rfl, ?_⟩
              first
                | (refine ⟨0, rfl, by unfold BIG; omega, .inr ⟨rfl, ?_⟩⟩
                   rw [numv_take_succ l k hlt, hck.out]
                   rcases OR.out with ⟨_, e⟩ | ⟨_, e⟩ <;> (unfold BIG at *; omega))
                | (refine ⟨10 * nn + (c.toNat - 48), int_eq (by omega), by unfold BIG; omega, ?_⟩
                   rcases OR.out with ⟨e1, e⟩ | ⟨e1, e⟩
                   · exact .inl ⟨e1, by rw [numv_take_succ l k hlt, hck.out, e]⟩
                   · exact .inr ⟨e1, by rw [numv_take_succ l k hlt, hck.out]; omega⟩)
            case measure => simp [intOf]; omega
        · have hd' : dig c = false := by simpa using hd
          obtain ⟨hE, hV⟩ := num_bad (numOk_nodig (all_not hlt (by rw [hck.out]; exact hd')))
          have HE := Lib.hid hE
          have HV := Lib.hid hV
          have hcc : c.toNat < 48 ∨ 57 < c.toNat := by
            rcases Nat.lt_or_ge c.toNat 48 with g | g
            · exact .inl g
            · rcases Nat.lt_or_ge 57 c.toNat with g2 | g2
              · exact .inr g2
              · exact absurd ((dig_iff c).2 ⟨g, g2⟩) hd
          clear hE hV hd hd'
          rcases hcc with g | g
          · go_wp2
            go_ret2
            exact ⟨ret_two (int_eq HV.out.symm) (int_eq HE.out.symm), rfl⟩
          · go_wp2
            go_ret2
            exact ⟨ret_two (int_eq HV.out.symm) (int_eq HE.out.symm), rfl⟩
      · have hkl : k = l.length := by omega
        have hkt : l.take k = l := by rw [hkl]; exact List.take_length
        rw [hkt] at ALL OR
        have hok := Lib.hid (numOk_mk HN.out ALL.out HH.out)
        clear hkt
        rcases OR.out with ⟨rfl, e⟩ | ⟨rfl, e⟩
        · subst e
          obtain ⟨hE, hV⟩ := num_ok hok.out (by unfold BIG; omega)
          have HE := Lib.hid hE
          have HV := Lib.hid hV
          clear hE hV
          go_wp2
          go_ret2
          exact ⟨ret_two (int_eq HV.out.symm) (int_eq HE.out.symm), rfl⟩
        · obtain ⟨hE, hV⟩ := num_over hok.out e
          have HE := Lib.hid hE
          have HV := Lib.hid hV
          clear hE hV
          have EE := Lib.hid e
          clear e
          go_wp2
          go_ret2
          exact ⟨ret_two (int_eq HV.out.symm) (int_eq HE.out.symm), rfl⟩
set_option maxHeartbeats 400000 in
theorem rnum_any (l : Bs) (hl : l.length ≤ 1000000) (w : World) :
    Calls Tryd.prog 61 #[.string ⟨l.toArray⟩] w fun e w' => e = .returned (.tuple #[.int .i64 (numV l), .int .i64 (numE l)]) ∧ w = w' := by
  by_cases h0 : l = []
  · subst h0
    go_enter Tryd.func61, Tryd.ntmps61
    go_wp2
    go_ret2
    exact ⟨rfl, rfl⟩
  by_cases h2 : 1 < l.length ∧ l.headD 0 = 48
  · obtain ⟨hE, hV⟩ := num_bad (numOk_lead h2.1 h2.2)
    rw [hE, hV]
    clear hE hV
    obtain ⟨c, r, rfl⟩ : ∃ c r, l = c :: r := by cases l with
      | nil => exact absurd rfl h0
      | cons c r => exact ⟨c, r, rfl⟩
    obtain ⟨hr, hc⟩ := h2
    simp only [List.headD_cons] at hc
    subst hc
    have hr' : 0 < r.length := by simpa using hr
    have hz0 : (⟨(48 :: r).toArray⟩ : ByteArray)[0]'(by rw [size_mk]; simp) = 48 := rfl
    have hl0 : ((r.length : Int) + 1 == 0) = false := by rw [beq_eq_false_iff_ne]; omega
    clear h0 hr
    go_enter Tryd.func61, Tryd.ntmps61
    go_wp2
    go_ret2
    exact ⟨rfl, rfl⟩
  · exact rnum_loop l hl h0 h2 w
end Go.Proofs.YteeenbhmdacdiaaDoor
