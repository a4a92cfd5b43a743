/- Walks: numerals and extensions (fields.Number, fields.Digits, route.Known, and the references'). -/
import Derived.Test.YteeenbhmdacdiaaDoorBase
import Derived.Test.YteeenbhmdacdiaaDoorShelf
import Derived.Test.YteeenbhmdacdiaaDoorProute2
namespace Go.Proofs.YteeenbhmdacdiaaDoor
open Go.RowKit Go.Gz

set_option maxHeartbeats 400000 in
theorem known_any (l : Bs) (w : World) :
    Calls Tryd.prog 19 #[.string ⟨l.toArray⟩] w fun e w' => e = .returned (.bool (knownB l)) ∧ w = w' := by
  go_enter Tryd.func19, Tryd.ntmps19
  go_wp2
  all_goals go_ret
  all_goals first | (exfalso; simp_all; done) | exact ⟨by simp [knownB, *], rfl⟩

set_option maxHeartbeats 400000 in
theorem digit_any (r : Nat) (w : World) :
    Calls Tryd.prog 90 #[.int .i32 r] w fun e w' => e = .returned (.bool (digR r)) ∧ w = w' := by
  by_cases h : 48 ≤ r
  · by_cases h2 : r ≤ 57
    · go_enter Tryd.func90, Tryd.ntmps90
      go_wp2
      go_ret
      exact ⟨ret_bool (by simp [digR, h, h2]; omega), rfl⟩
    · go_enter Tryd.func90, Tryd.ntmps90
      go_wp2
      go_ret
      exact ⟨ret_bool (by simp [digR, h, h2]; omega), rfl⟩
  · go_enter Tryd.func90, Tryd.ntmps90
    go_wp2
    go_ret
    exact ⟨ret_bool (by simp [digR, h]), rfl⟩

set_option maxHeartbeats 400000 in
theorem all1_any (r : Nat) (w : World) (b : Nat) (hc : w.cell? ⟨b, 0, none⟩ = some (.func (.func 90) #[] #[])) :
    Calls Tryd.prog 103 #[.int .i32 r, .pointer (some ⟨b, 0, none⟩)] w fun e w' => e = .returned (.bool (!digR r)) ∧ w = w' := by
  go_enter Tryd.func103, Tryd.ntmps103
  go_wp2_with (go_at_call 90; refine (digit_any _ _).mono ?_; rintro e w' ⟨rfl, rfl⟩)
  go_ret
  exact ⟨rfl, rfl⟩

theorem all_enters : ∀ args w, (callFunc 103 args).run Tryd.prog w = .ok (.enter 103 args) w := enters_of Tryd.func103 (by kernel_rfl) rfl
set_option maxHeartbeats 400000 in
theorem all_any (l : Bs) (w : World) :
    Calls Tryd.prog 89 #[.string ⟨l.toArray⟩, .func (.func 90) #[] #[]] w fun e w' => e = .returned (.bool (l.all dig)) ∧ Up w w' := by
  have hmf : ∀ (fn : Fn) (first cap : Array Value) (w : World), (Instr.makeFunc fn first cap).run Tryd.prog w = .ok (.func fn first cap) w := fun _ _ _ _ => rfl
  go_enter Tryd.func89, Tryd.ntmps89
  go_wp2_with fail
  refine (Tryd.strings_IndexFunc 103 #[.pointer (some ⟨w.heap.size, 0, none⟩)] all_enters (fun r => !digR r) ⟨l.toArray⟩ _ ?_).mono ?_
  · intro W x hb
    unfold FnGives
    refine (all1_any x W w.heap.size ?_).mono ?_
    · rw [hb.cell (p := ⟨w.heap.size, 0, none⟩) (by simp)]; simp
    · rintro e w' ⟨rfl, rfl⟩; exact ⟨rfl, 0, rfl⟩
  · rintro e w1 ⟨rfl, hb⟩
    go_wp2_with fail
    go_ret
    refine ⟨ret_bool ?_, (Up.refl w).alloc _ |>.trans hb⟩
    have := idx_all l
    rw [Bool.eq_iff_iff, decide_eq_true_iff, this]

theorem all_dig_any (l : Bs) (b : Bool) (hb : l.all dig = b) (w : World) :
    Calls Tryd.prog 89 #[.string ⟨l.toArray⟩, .func (.func 90) #[] #[]] w fun e w' => e = .returned (.bool b) ∧ Up w w' :=
  (all_any l w).mono fun e w' ⟨he, hu⟩ => ⟨by rw [he, hb], hu⟩

/-- strconv.Atoi at digits that an int holds -/
theorem atoi_ok (l : Bs) (hn : l ≠ []) (hd : l.all dig = true) (hv : numv l < 9223372036854775808) (hl : l.length ≤ 1000000) (w : World) :
    Calls Tryd.prog 91 #[.string ⟨l.toArray⟩] w fun e w' => e = .returned (.tuple #[.int .i64 (numv l), .nilIface]) ∧ Up w w' := by
  refine (Tryd.strconv_Atoi_ok ⟨l.toArray⟩ (by rw [size_mk]; omega) (numv l) (by show Lib.atoiAll l = _; rw [atoi_dig hn hd, if_pos hv]) w).mono ?_
  rintro e w' ⟨rfl, h⟩
  refine ⟨rfl, ?_⟩
  rcases h with rfl | ⟨t, rfl⟩
  · exact Up.refl _
  · exact Lib.bytesWorld_below _ _ _
theorem atoi_over (l : Bs) (hn : l ≠ []) (hd : l.all dig = true) (hv : ¬ numv l < 9223372036854775808) (hl : l.length ≤ 1000000) (w : World) (hg : Gl w) :
    Calls Tryd.prog 91 #[.string ⟨l.toArray⟩] w fun e w' => (∃ n t a, e = .returned (.tuple #[.int .i64 n, .iface t (.pointer (some a))])) ∧ Up w w' := by
  obtain ⟨tp, p, hr⟩ := hg.errRange
  refine (Tryd.strconv_Atoi_range_var ⟨l.toArray⟩ (by rw [size_mk]; omega) (by show Lib.atoiAll l = _; rw [atoi_dig hn hd, if_neg hv]) tp p w hr).mono ?_
  rintro e w' ⟨N, rfl, _, _, hb⟩
  exact ⟨⟨_, _, _, rfl⟩, hb⟩


theorem lead_no (c : UInt8) (r : Bs) (h5 : 1 < (c :: r).length → (c :: r).headD 0 ≠ 48) (hl : (1 : Int) < (r.length : Int) + 1) (h : ((c.toNat : Int) == 48) = true) : False := by
  refine h5 (by simp only [List.length_cons]; omega) ?_
  simp only [List.headD_cons]
  have : (c.toNat : Int) = 48 := by simpa using h
  exact UInt8.toNat.inj (by show c.toNat = 48; omega)
theorem byte_at0 (c : UInt8) (r : Bs) (h : 0 < (⟨(c :: r).toArray⟩ : ByteArray).size) : (⟨(c :: r).toArray⟩ : ByteArray)[0]'h = c := rfl
set_option maxHeartbeats 400000 in
theorem num_good (l : Bs) (hl : l.length ≤ 1000000) (hk : numOk l = true) (w : World) (hg : Gl w) :
    Calls Tryd.prog 70 #[.string ⟨l.toArray⟩] w fun e w' => e = .returned (.tuple #[.int .i64 (numV l), .int .i64 (numE l)]) ∧ Up w w' := by
  obtain ⟨hn, hd, hh⟩ := numOk_parts hk
  have G1 := Lib.hid hd
  have G2 := Lib.hid hk
  have G3 := Lib.hid hn
  have G4 := Lib.hid hl
  have G5 := Lib.hid hh
  obtain ⟨c, r, rfl⟩ : ∃ c r, l = c :: r := by cases l with
    | nil => exact absurd rfl hn
    | cons c r => exact ⟨c, r, rfl⟩
  clear hd hk hn hl hh
  by_cases h2 : numv (c :: r) < 9223372036854775808
  · have A := fun w => Lib.hid (atoi_ok (c :: r) G3.out G1.out h2 G4.out w)
    by_cases h3 : BIG < numv (c :: r)
    · obtain ⟨hE, hV⟩ := num_over G2.out h3
      rw [hE, hV]
      have h4 : (9007199254740991 : Int) < (numv (c :: r) : Int) := by unfold BIG at h3; omega
      clear h3 hE hV h2
      go_enter Tryd.func70, Tryd.ntmps70
      go_wp2_with (first | (go_at_call 89; refine (all_dig_any _ true G1.out _).mono ?_; rintro e w1 ⟨rfl, hu⟩) | (go_at_call 91; refine (A _).out.mono ?_; rintro e w2 ⟨rfl, hu2⟩))
      all_goals first
        | (go_ret2; exact ⟨rfl, hu.trans hu2⟩)
        | (go_ret2; exact ⟨rfl, hu⟩)
        | exact (lead_no c r G5.out (by assumption) (by assumption)).elim
    · obtain ⟨hE, hV⟩ := num_ok G2.out h3
      rw [hE, hV]
      have h4 : ¬ (9007199254740991 : Int) < (numv (c :: r) : Int) := by unfold BIG at h3; omega
      clear h3 hE hV h2
      go_enter Tryd.func70, Tryd.ntmps70
      go_wp2_with (first | (go_at_call 89; refine (all_dig_any _ true G1.out _).mono ?_; rintro e w1 ⟨rfl, hu⟩) | (go_at_call 91; refine (A _).out.mono ?_; rintro e w2 ⟨rfl, hu2⟩))
      all_goals first
        | (go_ret2; exact ⟨rfl, hu.trans hu2⟩)
        | (go_ret2; exact ⟨rfl, hu⟩)
        | exact (lead_no c r G5.out (by assumption) (by assumption)).elim
  · obtain ⟨hE, hV⟩ := num_over G2.out (by unfold BIG; omega)
    have A := fun w hg => Lib.hid (atoi_over (c :: r) G3.out G1.out h2 G4.out w hg)
    rw [hE, hV]
    clear hE hV h2
    go_enter Tryd.func70, Tryd.ntmps70
    go_wp2_with (first | (go_at_call 89; refine (all_dig_any _ true G1.out _).mono ?_; rintro e w1 ⟨rfl, hu⟩) | (go_at_call 91; refine (A _ (hg.up hu)).out.mono ?_; rintro e w2 ⟨⟨n, t, a, rfl⟩, hu2⟩))
    all_goals first
      | (go_ret2; exact ⟨rfl, hu.trans hu2⟩)
      | (go_ret2; exact ⟨rfl, hu⟩)
      | exact (lead_no c r G5.out (by assumption) (by assumption)).elim

set_option maxHeartbeats 400000 in
theorem num_any (l : Bs) (hl : l.length ≤ 1000000) (w : World) (hg : Gl w) :
    Calls Tryd.prog 70 #[.string ⟨l.toArray⟩] w fun e w' => e = .returned (.tuple #[.int .i64 (numV l), .int .i64 (numE l)]) ∧ Up w w' := by
  by_cases h0 : l = []
  · subst h0
    go_enter Tryd.func70, Tryd.ntmps70
    go_wp2_with fail
    go_ret2
    exact ⟨rfl, Up.refl _⟩
  have g0 : (l == []) = false := by simp [h0]
  by_cases h1 : l.all dig = true
  · by_cases h2 : 1 < l.length ∧ l.headD 0 = 48
    · obtain ⟨hE, hV⟩ := num_bad (numOk_lead h2.1 h2.2)
      rw [hE, hV]
      clear hE hV
      obtain ⟨c, r, rfl⟩ : ∃ c r, l = c :: r := by cases l with
        | nil => exact absurd rfl h0
        | cons c r => exact ⟨c, r, rfl⟩
      obtain ⟨hr, hc⟩ := h2
      simp only [List.headD_cons] at hc
      subst hc
      have hr' : 0 < r.length := by simpa using hr
      have G1 := Lib.hid h1
      clear h1 g0 h0 hr
      go_enter Tryd.func70, Tryd.ntmps70
      go_wp2_with (go_at_call 89; refine (all_dig_any _ true G1.out _).mono ?_; rintro e w1 ⟨rfl, hu⟩)
      go_ret2
      exact ⟨rfl, hu⟩
    · exact num_good l hl (numOk_mk h0 h1 h2) w hg
  · have g1 : l.all dig = false := by simpa using h1
    obtain ⟨hE, hV⟩ := num_bad (numOk_nodig g1)
    rw [hE, hV]
    clear hE hV h1
    have G1 := Lib.hid g1
    clear g1
    go_enter Tryd.func70, Tryd.ntmps70
    go_wp2_with (go_at_call 89; refine (all_dig_any l false G1.out _).mono ?_; rintro e w1 ⟨rfl, hu⟩)
    go_ret2
    exact ⟨rfl, hu⟩

end Go.Proofs.YteeenbhmdacdiaaDoor
