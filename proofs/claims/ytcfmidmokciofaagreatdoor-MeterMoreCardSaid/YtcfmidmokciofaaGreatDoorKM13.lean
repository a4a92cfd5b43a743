/- Walks: numerals and extensions (fields.Number, fields.Digits, route.Known, and the references'). -/
import Derived.Test.YtcfmidmokciofaaGreatDoorKM02
import Derived.Test.YtcfmidmokciofaaGreatDoorShelf
import Derived.Test.YtcfmidmokciofaaGreatDoorKM01
namespace Go.Proofs.YtcfmidmokciofaaGreatDoor
open Go.RowKit Go.Gz

set_option maxHeartbeats 400000 in
theorem known_any (l : Bs) (w : World) :
    Calls Tryz.prog 171 #[.string ⟨l.toArray⟩] w fun e w' => e = .returned (.bool (knownB l)) ∧ w = w' := by
  go_enter Tryz.func171, Tryz.ntmps171
  go_wp2
  all_goals go_ret
  all_goals first | (exfalso; simp_all; done) | exact ⟨by simp [knownB, *], rfl⟩

set_option maxHeartbeats 400000 in
theorem ndigit_any (r : Nat) (w : World) :
    Calls Tryz.prog 220 #[.int .i32 r] w fun e w' => e = .returned (.bool (digR r)) ∧ w = w' := by
  by_cases h : 48 ≤ r
  · by_cases h2 : r ≤ 57
    · go_enter Tryz.func220, Tryz.ntmps220
      go_wp2
      go_ret
      exact ⟨ret_bool (by simp [digR, h, h2]; omega), rfl⟩
    · go_enter Tryz.func220, Tryz.ntmps220
      go_wp2
      go_ret
      exact ⟨ret_bool (by simp [digR, h, h2]; omega), rfl⟩
  · go_enter Tryz.func220, Tryz.ntmps220
    go_wp2
    go_ret
    exact ⟨ret_bool (by simp [digR, h]), rfl⟩

set_option maxHeartbeats 400000 in
theorem all1_any (r : Nat) (w : World) (b : Nat) (hc : w.cell? ⟨b, 0, none⟩ = some (.func (.func 220) #[] #[])) :
    Calls Tryz.prog 258 #[.int .i32 r, .pointer (some ⟨b, 0, none⟩)] w fun e w' => e = .returned (.bool (!digR r)) ∧ w = w' := by
  go_enter Tryz.func258, Tryz.ntmps258
  go_wp2_with (go_at_call 220; refine (ndigit_any _ _).mono ?_; rintro e w' ⟨rfl, rfl⟩)
  go_ret
  exact ⟨rfl, rfl⟩

theorem all_enters : ∀ args w, (callFunc 258 args).run Tryz.prog w = .ok (.enter 258 args) w := enters_of Tryz.func258 (by kernel_rfl) rfl
set_option maxHeartbeats 400000 in
theorem nall_any (l : Bs) (w : World) :
    Calls Tryz.prog 219 #[.string ⟨l.toArray⟩, .func (.func 220) #[] #[]] w fun e w' => e = .returned (.bool (l.all dig)) ∧ Up w w' := by
  have hmf : ∀ (fn : Fn) (first cap : Array Value) (w : World), (Instr.makeFunc fn first cap).run Tryz.prog w = .ok (.func fn first cap) w := fun _ _ _ _ => rfl
  go_enter Tryz.func219, Tryz.ntmps219
  go_wp2_with fail
  refine (Tryz.strings_IndexFunc 258 #[.pointer (some ⟨w.heap.size, 0, none⟩)] all_enters (fun r => !digR r) ⟨l.toArray⟩ _ ?_).mono ?_
  · intro W x hb
    unfold FnGives
    refine (all1_any x W w.heap.size ?_).mono ?_
    · rw [hb.cell (p := ⟨w.heap.size, 0, none⟩) (by simp)]; simp
    · rintro e w' ⟨rfl, rfl⟩; exact ⟨rfl, 0, rfl⟩
  · rintro e w1 ⟨rfl, hb⟩
    go_wp2_with fail
    go_ret
    refine ⟨ret_bool ?_, (Up.refl w).alloc _ |>.trans hb⟩
    have := idx_all l
    rw [Bool.eq_iff_iff, decide_eq_true_iff, this]

theorem all_dig_any (l : Bs) (b : Bool) (hb : l.all dig = b) (w : World) :
    Calls Tryz.prog 219 #[.string ⟨l.toArray⟩, .func (.func 220) #[] #[]] w fun e w' => e = .returned (.bool b) ∧ Up w w' :=
  (nall_any l w).mono fun e w' ⟨he, hu⟩ => ⟨by rw [he, hb], hu⟩

/-- strconv.Atoi at digits that an int holds -/
theorem atoi_ok (l : Bs) (hn : l ≠ []) (hd : l.all dig = true) (hv : numv l < 9223372036854775808) (hl : l.length ≤ 1000000) (w : World) :
    Calls Tryz.prog 215 #[.string ⟨l.toArray⟩] w fun e w' => e = .returned (.tuple #[.int .i64 (numv l), .nilIface]) ∧ Up w w' := by
  refine (Tryz.strconv_Atoi_ok ⟨l.toArray⟩ (by rw [size_mk]; omega) (numv l) (by show Lib.atoiAll l = _; rw [atoi_dig hn hd, if_pos hv]) w).mono ?_
  rintro e w' ⟨rfl, h⟩
  refine ⟨rfl, ?_⟩
  rcases h with rfl | ⟨t, rfl⟩
  · exact Up.refl _
  · exact Lib.bytesWorld_below _ _ _
theorem atoi_over (l : Bs) (hn : l ≠ []) (hd : l.all dig = true) (hv : ¬ numv l < 9223372036854775808) (hl : l.length ≤ 1000000) (w : World) (hg : Gl w) :
    Calls Tryz.prog 215 #[.string ⟨l.toArray⟩] w fun e w' => (∃ n t a, e = .returned (.tuple #[.int .i64 n, .iface t (.pointer (some a))])) ∧ Up w w' := by
  obtain ⟨tp, p, hr⟩ := hg.errRange
  refine (Tryz.strconv_Atoi_range_var ⟨l.toArray⟩ (by rw [size_mk]; omega) (by show Lib.atoiAll l = _; rw [atoi_dig hn hd, if_neg hv]) tp p w hr).mono ?_
  rintro e w' ⟨N, rfl, _, _, hb⟩
  exact ⟨⟨_, _, _, rfl⟩, hb⟩

theorem lead_no (c : UInt8) (r : Bs) (h5 : 1 < (c :: r).length → (c :: r).headD 0 ≠ 48) (hl : (1 : Int) < (r.length : Int) + 1) (h : ((c.toNat : Int) == 48) = true) : False := by
  refine h5 (by simp only [List.length_cons]; omega) ?_
  simp only [List.headD_cons]
  have : (c.toNat : Int) = 48 := by simpa using h
  exact UInt8.toNat.inj (by show c.toNat = 48; omega)
theorem byte_at0 (c : UInt8) (r : Bs) (h : 0 < (⟨(c :: r).toArray⟩ : ByteArray).size) : (⟨(c :: r).toArray⟩ : ByteArray)[0]'h = c := rfl
set_option maxHeartbeats 400000 in
theorem num_good (l : Bs) (hl : l.length ≤ 1000000) (hk : numOk l = true) (w : World) (hg : Gl w) :
    Calls Tryz.prog 170 #[.string ⟨l.toArray⟩] w fun e w' => e = .returned (.tuple #[.int .i64 (numV l), .int .i64 (numE l)]) ∧ Up w w' := by
  obtain ⟨hn, hd, hh⟩ := numOk_parts hk
  have G1 := Lib.hid hd
  have G2 := Lib.hid hk
  have G3 := Lib.hid hn
  have G4 := Lib.hid hl
  have G5 := Lib.hid hh
  obtain ⟨c, r, rfl⟩ : ∃ c r, l = c :: r := by cases l with
    | nil => exact absurd rfl hn
    | cons c r => exact ⟨c, r, rfl⟩
  clear hd hk hn hl hh
  by_cases h2 : numv (c :: r) < 9223372036854775808
  · have A := fun w => Lib.hid (atoi_ok (c :: r) G3.out G1.out h2 G4.out w)
    by_cases h3 : BIG < numv (c :: r)
    · obtain ⟨hE, hV⟩ := num_over G2.out h3
      rw [hE, hV]
      have h4 : (9007199254740991 : Int) < (numv (c :: r) : Int) := by unfold BIG at h3; omega
      clear h3 hE hV h2
      go_enter Tryz.func170, Tryz.ntmps170
      go_wp2_with (first | (go_at_call 219; refine (all_dig_any _ true G1.out _).mono ?_; rintro e w1 ⟨rfl, hu⟩) | (go_at_call 215; refine (A _).out.mono ?_; rintro e w2 ⟨rfl, hu2⟩))
      all_goals first
        | (go_ret2; exact ⟨rfl, hu.trans hu2⟩)
        | (go_ret2; exact ⟨rfl, hu⟩)
        | exact (lead_no c r G5.out (by assumption) (by assumption)).elim
    · obtain ⟨hE, hV⟩ := num_ok G2.out h3
      rw [hE, hV]
      have h4 : ¬ (9007199254740991 : Int) < (numv (c :: r) : Int) := by unfold BIG at h3; omega
      clear h3 hE hV h2
      go_enter Tryz.func170, Tryz.ntmps170
      go_wp2_with (first | (go_at_call 219; refine (all_dig_any _ true G1.out _).mono ?_; rintro e w1 ⟨rfl, hu⟩) | (go_at_call 215; refine (A _).out.mono ?_; rintro e w2 ⟨rfl, hu2⟩))
      all_goals first
        | (go_ret2; exact ⟨rfl, hu.trans hu2⟩)
        | (go_ret2; exact ⟨rfl, hu⟩)
        | exact (lead_no c r G5.out (by assumption) (by assumption)).elim
  · obtain ⟨hE, hV⟩ := num_over G2.out (by unfold BIG; omega)
    have A := fun w hg => Lib.hid (atoi_over (c :: r) G3.out G1.out h2 G4.out w hg)
    rw [hE, hV]
    clear hE hV h2
    go_enter Tryz.func170, Tryz.ntmps170
    go_wp2_with (first | (go_at_call 219; refine (all_dig_any _ true G1.out _).mono ?_; rintro e w1 ⟨rfl, hu⟩) | (go_at_call 215; refine (A _ (hg.up hu)).out.mono ?_; rintro e w2 ⟨⟨n, t, a, rfl⟩, hu2⟩))
    all_goals first
      | (go_ret2; exact ⟨rfl, hu.trans hu2⟩)
      | (go_ret2; exact ⟨rfl, hu⟩)
      | exact (lead_no c r G5.out (by assumption) (by assumption)).elim

set_option maxHeartbeats 400000 in
theorem num_any (l : Bs) (hl : l.length ≤ 1000000) (w : World) (hg : Gl w) :
    Calls Tryz.prog 170 #[.string ⟨l.toArray⟩] w fun e w' => e = .returned (.tuple #[.int .i64 (numV l), .int .i64 (numE l)]) ∧ Up w w' := by
  by_cases h0 : l = []
  · subst h0
    go_enter Tryz.func170, Tryz.ntmps170
    go_wp2_with fail
    go_ret2
    exact ⟨rfl, Up.refl _⟩
  have g0 : (l == []) = false := by simp [h0]
  by_cases h1 : l.all dig = true
  · by_cases h2 : 1 < l.length ∧ l.headD 0 = 48
    · obtain ⟨hE, hV⟩ := num_bad (numOk_lead h2.1 h2.2)
      rw [hE, hV]
      clear hE hV
      obtain ⟨c, r, rfl⟩ : ∃ c r, l = c :: r := by cases l with
        | nil => exact absurd rfl h0
        | cons c r => exact ⟨c, r, rfl⟩
      obtain ⟨hr, hc⟩ := h2
      simp only [List.headD_cons] at hc
      subst hc
      have hr' : 0 < r.length := by simpa using hr
      have G1 := Lib.hid h1
      clear h1 g0 h0 hr
      go_enter Tryz.func170, Tryz.ntmps170
      go_wp2_with (go_at_call 219; refine (all_dig_any _ true G1.out _).mono ?_; rintro e w1 ⟨rfl, hu⟩)
      go_ret2
      exact ⟨rfl, hu⟩
    · exact num_good l hl (numOk_mk h0 h1 h2) w hg
  · have g1 : l.all dig = false := by simpa using h1
    obtain ⟨hE, hV⟩ := num_bad (numOk_nodig g1)
    rw [hE, hV]
    clear hE hV h1
    have G1 := Lib.hid g1
    clear g1
    go_enter Tryz.func170, Tryz.ntmps170
    go_wp2_with (go_at_call 219; refine (all_dig_any l false G1.out _).mono ?_; rintro e w1 ⟨rfl, hu⟩)
    go_ret2
    exact ⟨rfl, hu⟩

end Go.Proofs.YtcfmidmokciofaaGreatDoor
/- Walk: route.parse. -/
namespace Go.Proofs.YtcfmidmokciofaaGreatDoor
open Go.RowKit Go.Gz

theorem blk_cell {w : World} {g : Nat} {cs : Array Value} {t : TypeId} (h : w.heap[g]? = some (.cells cs t (0, 0))) (j : Nat) (v : Value) (hv : cs[j]? = some v) : w.cell? ⟨g, j, none⟩ = some v := (cell_of_row w g j cs t _ h).trans hv
theorem blk_free {w : World} {g : Nat} {cs : Array Value} {t : TypeId} (h : w.heap[g]? = some (.cells cs t (0, 0))) (j : Nat) : w.frozen? ⟨g, j, none⟩ = false := frozen_of_row w g j cs t h
def ParEnd (w : World) (r : (Int × Int × Int) × Bs × Int) (e : Ending) (w' : World) : Prop :=
  e = .returned (.tuple #[.agg #[.int .i64 r.1.1, .int .i64 r.1.2.1, .int .i64 r.1.2.2], .string ⟨r.2.1.toArray⟩, .int .i64 r.2.2]) ∧ Up w w'
set_option maxRecDepth 100000 in
set_option maxHeartbeats 2000000 in
theorem parse_early (l : Bs) (h : 64 < l.length) (h2 : l.length ≤ 1000000) (w : World) :
    Calls Tryz.prog 113 #[.string ⟨l.toArray⟩] w (ParEnd w (rt l)) := by
  have hr : rt l = ((0, 0, 0), [], 5) := by unfold rt; rw [if_pos h]
  rw [hr]
  clear hr
  go_enter Tryz.func113, Tryz.ntmps113
  go_wp2_with fail
  refine bodyPost_ret (v := .tuple #[.agg #[.int .i64 0, .int .i64 0, .int .i64 0], .string ⟨#[]⟩, .int .i64 5]) (by simp [results, Tryz.results113, go_sem]) rfl ⟨rfl, ?_⟩
  exact (Up.refl w).alloc _

theorem up_set3 {w W : World} (h : Up w W) (a b c : Value) : Up w (((W.setCell ⟨w.heap.size, 0, none⟩ a).setCell ⟨w.heap.size, 1, none⟩ b).setCell ⟨w.heap.size, 2, none⟩ c) :=
  ((h.set (Nat.le_refl _) _).set (Nat.le_refl _) _).set (Nat.le_refl _) _
theorem blk_set3 {w1 : World} {b : Nat} {t : TypeId} {a0 a1 a2 : Value} (hb : w1.heap[b]? = some (.cells #[a0, a1, a2] t (0, 0))) (x y z : Value) :
    (((w1.setCell ⟨b, 0, none⟩ x).setCell ⟨b, 1, none⟩ y).setCell ⟨b, 2, none⟩ z).heap[b]? = some (.cells #[x, y, z] t (0, 0)) := by
  have h1 := heap_setCell_same w1 b 0 _ t x hb
  have h2 := heap_setCell_same _ b 1 _ t y h1
  exact heap_setCell_same _ b 2 _ t z h2
theorem blk_alloc {w1 : World} {b : Nat} {ob : Obj} (hb : w1.heap[b]? = some ob) (o : Obj) : (w1.alloc o).heap[b]? = some ob :=
  (Below.heap_alloc w1 o b (Array.getElem?_eq_some_iff.1 hb).1).trans hb
theorem pie_none {w w' : World} {l : Bs} {e : Ending} (h : PieEnd w l e w') (hp : pieces l [] = none) : Up w w' ∧ ∃ v x d, e = .returned (.tuple #[v, x, d, .bool false]) := by
  unfold PieEnd at h; rw [hp] at h; exact h
theorem pie_some {w w' : World} {l : Bs} {e : Ending} {ls : List Bs} {x : Bs} {d : Bool} (h : PieEnd w l e w') (hp : pieces l [] = some (ls, x, d)) :
    Up w w' ∧ ∃ v, e = .returned (.tuple #[v, .string ⟨x.toArray⟩, .bool d, .bool true]) ∧ OwnS w' w.heap.size v ls := by
  unfold PieEnd at h; rw [hp] at h; exact h
set_option maxRecDepth 100000 in
set_option maxHeartbeats 2000000 in
theorem parse_none (l : Bs) (h : ¬ 64 < l.length) (hs : spl l = none) (w : World) :
    Calls Tryz.prog 113 #[.string ⟨l.toArray⟩] w (ParEnd w (rt l)) := by
  have hr : rt l = ((0, 0, 0), [], 4) := by unfold rt; rw [if_neg h, hs]
  have hp : pieces l [] = none := by rw [pieces_eq, hs]; rfl
  have HP := Lib.hid hp
  have P := fun w => Lib.hid (pieces_any l (by omega) w)
  rw [hr]
  have hl : (l.length : Int) ≤ 64 := by omega
  clear hr hs hp h
  go_enter Tryz.func113, Tryz.ntmps113
  go_wp2_with fail
  refine (P _).out.mono ?_
  intro e w1 he
  obtain ⟨hu, v, x, d, rfl⟩ := pie_none he HP.out
  have c0 := hu.cell (p := ⟨w.heap.size, 0, none⟩) (v := .int .i64 0) (by simp)
  have c1 := hu.cell (p := ⟨w.heap.size, 1, none⟩) (v := .int .i64 0) (by simp)
  have c2 := hu.cell (p := ⟨w.heap.size, 2, none⟩) (v := .int .i64 0) (by simp)
  have f0 : w1.frozen? ⟨w.heap.size, 0, none⟩ = false := by rw [hu.frozen (by simp)]; simp
  have f1 : w1.frozen? ⟨w.heap.size, 1, none⟩ = false := by rw [hu.frozen (by simp)]; simp
  have f2 : w1.frozen? ⟨w.heap.size, 2, none⟩ = false := by rw [hu.frozen (by simp)]; simp
  have HU := Lib.hid hu
  clear hu he
  go_wp2_with fail
  refine bodyPost_ret (v := .tuple #[.agg #[.int .i64 0, .int .i64 0, .int .i64 0], .string ⟨#[]⟩, .int .i64 4]) (by simp [results, Tryz.results113, go_sem, c0, c1, c2]) rfl ⟨rfl, ?_⟩
  exact up_set3 (((Up.refl w).alloc _).trans HU.out) _ _ _

/-- what the loop over the three texts holds when gk are to come -/
def ParRel (wp : World) (x : Int × Int × Int) (es : List Int) (gk : Nat) (i : Value) (wr : World) : Prop := ∃ k : Nat, k + gk = 3 ∧ i = .int .i64 k ∧ (∀ j < k, es.getD j 0 ≠ 4) ∧ Up wp wr ∧
  wr.heap[wp.heap.size]? = some (.cells #[.int .i64 (if 0 < k then x.1 else 0), .int .i64 (if 1 < k then x.2.1 else 0), .int .i64 (if 2 < k then x.2.2 else 0)] 274 (0, 0))
set_option maxRecDepth 100000 in
set_option maxHeartbeats 8000000 in
theorem parse_some (l a b c ext : Bs) (dot : Bool) (h : ¬ 64 < l.length) (hs : spl l = some (a, b, c, ext, dot)) (w : World) (hg : Gl w) :
    Calls Tryz.prog 113 #[.string ⟨l.toArray⟩] w (ParEnd w (rt l)) := by
  have hr : rt l = rtAt a b c ext dot := by unfold rt; rw [if_neg h, hs]
  have hp : pieces l [] = some ([a, b, c], ext, dot) := by rw [pieces_eq, hs]; rfl
  obtain ⟨la, lb, lc, le⟩ := spl_len hs
  have HP := Lib.hid hp
  have P := fun w => Lib.hid (pieces_any l (by omega) w)
  have N0 := fun w hg => Lib.hid (num_any a (by omega) w hg)
  have N1 := fun w hg => Lib.hid (num_any b (by omega) w hg)
  have N2 := fun w hg => Lib.hid (num_any c (by omega) w hg)
  rw [hr]
  have hl : (l.length : Int) ≤ 64 := by omega
  have hle : (ext.length : Int) ≤ 64 := by omega
  have E0 := Lib.hid (numE_cases a)
  have E1 := Lib.hid (numE_cases b)
  have E2 := Lib.hid (numE_cases c)
  clear hr hs hp h la lb lc le
  go_enter Tryz.func113, Tryz.ntmps113
  go_wp2_with fail
  refine (P _).out.mono ?_
  intro e w1 he
  obtain ⟨hu, v, rfl, hown⟩ := pie_some he HP.out
  rcases hown.form with ⟨rfl, hls⟩ | ⟨g, cap, rfl, hg1, hg2, hcap⟩
  · cases hls
  have s0 := hown.at 0 (by simp)
  have s1 := hown.at 1 (by simp)
  have s2 := hown.at 2 (by simp)
  simp only [List.getD_cons_zero, List.getD_cons_succ] at s0 s1 s2
  have hlt : w.heap.size < w1.heap.size := by have := hu.le; simp at this; omega
  have hb2 : w1.heap[w.heap.size]? = some (.cells #[.int .i64 0, .int .i64 0, .int .i64 0] 138 (0, 0)) := hu.obj (heap_alloc_new w _)
  have HB2 := Lib.hid hb2
  have HU := Lib.hid (((Up.refl w).alloc _).trans hu)
  have S0 := Lib.hid s0
  have S1 := Lib.hid s1
  have S2 := Lib.hid s2
  have HG1 := Lib.hid ((hg.up ((Up.refl w).alloc (.cells #[.int .i64 0, .int .i64 0, .int .i64 0] 138))).up hu)
  clear hu he hown hb2 s0 s1 s2 hg1 hcap
  go_wp2_with fail
  go_loopg [33] 3 (fun gk i wr => ParRel w1 (ovr a, ovr b, ovr c) [numE a, numE b, numE c] gk i wr)
  case atStart => exact ⟨0, by omega, rfl, fun j hj => absurd hj (by omega), (Up.refl w1).alloc _, heap_alloc_new w1 _⟩
  case round =>
    obtain ⟨k, hk, rfl, hne, hu, hb9⟩ := hrel
    have HU1 := Lib.hid hu
    have HNE := Lib.hid hne
    have HB9 := Lib.hid hb9
    have HGr := Lib.hid (HG1.out.up hu)
    clear hne hb9 hu
    by_cases k0 : k = 0
    · subst k0
      have hs := HU1.out.cell S0.out
      rcases E0.out with e | e | e
      · have N := fun w hg => N0 w hg
        rw [e] at N
        have HR := Lib.hid (show rtAt a b c ext dot = ((0, 0, 0), [], 4) from by unfold rtAt; rw [if_pos (by simp [e])])
        clear e
        go_wp2_with fail
        refine (N _ HGr.out).out.mono ?_
        rintro e w4 ⟨rfl, hu4⟩
        have c0 := blk_cell (w := w4) ((HU1.out.trans hu4).obj HB2.out) 0 _ rfl
        have c1 := blk_cell (w := w4) ((HU1.out.trans hu4).obj HB2.out) 1 _ rfl
        have c2 := blk_cell (w := w4) ((HU1.out.trans hu4).obj HB2.out) 2 _ rfl
        have f0 := blk_free (w := w4) ((HU1.out.trans hu4).obj HB2.out) 0
        have f1 := blk_free (w := w4) ((HU1.out.trans hu4).obj HB2.out) 1
        have f2 := blk_free (w := w4) ((HU1.out.trans hu4).obj HB2.out) 2
        have HU4 := Lib.hid hu4
        clear hu4
        go_wp2_with fail
        refine bodyPost_ret (v := .tuple #[.agg #[.int .i64 0, .int .i64 0, .int .i64 0], .string ⟨#[]⟩, .int .i64 4]) (by simp [results, Tryz.results113, go_sem, c0, c1, c2]) rfl ?_
        rw [HR.out]
        exact ⟨rfl, up_set3 ((HU.out.trans HU1.out).trans HU4.out) _ _ _⟩
      · have N := fun w hg => N0 w hg
        rw [e] at N
        have HV := Lib.hid (show ovr a = 1099511627776 from by unfold ovr; rw [e]; rfl)
        have HE := Lib.hid e
        clear e
        go_wp2_with fail
        refine (N _ HGr.out).out.mono ?_
        rintro e w4 ⟨rfl, hu4⟩
        have hb4 := hu4.obj HB9.out
        have n0 := blk_cell hb4 0 _ rfl
        have m0 := blk_free hb4 0
        have HU4 := Lib.hid hu4
        have HB4 := Lib.hid hb4
        clear hu4 hb4
        go_wp2_with fail
        go_roundg (gk - 1)
        case measure => omega
        case rel =>
          refine ⟨1, by omega, rfl, ?_, (HU1.out.trans HU4.out).set (Nat.le_refl _) _, ?_⟩
          · intro j hj
            by_cases hj2 : j < 0
            · exact HNE.out j hj2
            · obtain rfl : j = 0 := by omega
              simp only [List.getD_cons_zero]
              rw [HE.out]; decide
          · rw [heap_setCell_same _ _ _ _ _ _ HB4.out]
            simp [HV.out]
      · have N := fun w hg => N0 w hg
        rw [e] at N
        have HV := Lib.hid (show ovr a = numV a from by unfold ovr; rw [e]; rfl)
        have HE := Lib.hid e
        clear e
        go_wp2_with fail
        refine (N _ HGr.out).out.mono ?_
        rintro e w4 ⟨rfl, hu4⟩
        have hb4 := hu4.obj HB9.out
        have n0 := blk_cell hb4 0 _ rfl
        have m0 := blk_free hb4 0
        have HU4 := Lib.hid hu4
        have HB4 := Lib.hid hb4
        clear hu4 hb4
        go_wp2_with fail
        go_roundg (gk - 1)
        case measure => omega
        case rel =>
          refine ⟨1, by omega, rfl, ?_, (HU1.out.trans HU4.out).set (Nat.le_refl _) _, ?_⟩
          · intro j hj
            by_cases hj2 : j < 0
            · exact HNE.out j hj2
            · obtain rfl : j = 0 := by omega
              simp only [List.getD_cons_zero]
              rw [HE.out]; decide
          · rw [heap_setCell_same _ _ _ _ _ _ HB4.out]
            simp [HV.out]
    by_cases k1 : k = 1
    · subst k1
      have hs := HU1.out.cell S1.out
      rcases E1.out with e | e | e
      · have N := fun w hg => N1 w hg
        rw [e] at N
        have HR := Lib.hid (show rtAt a b c ext dot = ((0, 0, 0), [], 4) from by unfold rtAt; rw [if_pos (by simp [e])])
        clear e
        go_wp2_with fail
        refine (N _ HGr.out).out.mono ?_
        rintro e w4 ⟨rfl, hu4⟩
        have c0 := blk_cell (w := w4) ((HU1.out.trans hu4).obj HB2.out) 0 _ rfl
        have c1 := blk_cell (w := w4) ((HU1.out.trans hu4).obj HB2.out) 1 _ rfl
        have c2 := blk_cell (w := w4) ((HU1.out.trans hu4).obj HB2.out) 2 _ rfl
        have f0 := blk_free (w := w4) ((HU1.out.trans hu4).obj HB2.out) 0
        have f1 := blk_free (w := w4) ((HU1.out.trans hu4).obj HB2.out) 1
        have f2 := blk_free (w := w4) ((HU1.out.trans hu4).obj HB2.out) 2
        have HU4 := Lib.hid hu4
        clear hu4
        go_wp2_with fail
        refine bodyPost_ret (v := .tuple #[.agg #[.int .i64 0, .int .i64 0, .int .i64 0], .string ⟨#[]⟩, .int .i64 4]) (by simp [results, Tryz.results113, go_sem, c0, c1, c2]) rfl ?_
        rw [HR.out]
        exact ⟨rfl, up_set3 ((HU.out.trans HU1.out).trans HU4.out) _ _ _⟩
      · have N := fun w hg => N1 w hg
        rw [e] at N
        have HV := Lib.hid (show ovr b = 1099511627776 from by unfold ovr; rw [e]; rfl)
        have HE := Lib.hid e
        clear e
        go_wp2_with fail
        refine (N _ HGr.out).out.mono ?_
        rintro e w4 ⟨rfl, hu4⟩
        have hb4 := hu4.obj HB9.out
        have n1 := blk_cell hb4 1 _ rfl
        have m1 := blk_free hb4 1
        have HU4 := Lib.hid hu4
        have HB4 := Lib.hid hb4
        clear hu4 hb4
        go_wp2_with fail
        go_roundg (gk - 1)
        case measure => omega
        case rel =>
          refine ⟨2, by omega, rfl, ?_, (HU1.out.trans HU4.out).set (Nat.le_refl _) _, ?_⟩
          · intro j hj
            by_cases hj2 : j < 1
            · exact HNE.out j hj2
            · obtain rfl : j = 1 := by omega
              simp only [List.getD_cons_zero, List.getD_cons_succ]
              rw [HE.out]; decide
          · rw [heap_setCell_same _ _ _ _ _ _ HB4.out]
            simp [HV.out]
      · have N := fun w hg => N1 w hg
        rw [e] at N
        have HV := Lib.hid (show ovr b = numV b from by unfold ovr; rw [e]; rfl)
        have HE := Lib.hid e
        clear e
        go_wp2_with fail
        refine (N _ HGr.out).out.mono ?_
        rintro e w4 ⟨rfl, hu4⟩
        have hb4 := hu4.obj HB9.out
        have n1 := blk_cell hb4 1 _ rfl
        have m1 := blk_free hb4 1
        have HU4 := Lib.hid hu4
        have HB4 := Lib.hid hb4
        clear hu4 hb4
        go_wp2_with fail
        go_roundg (gk - 1)
        case measure => omega
        case rel =>
          refine ⟨2, by omega, rfl, ?_, (HU1.out.trans HU4.out).set (Nat.le_refl _) _, ?_⟩
          · intro j hj
            by_cases hj2 : j < 1
            · exact HNE.out j hj2
            · obtain rfl : j = 1 := by omega
              simp only [List.getD_cons_zero, List.getD_cons_succ]
              rw [HE.out]; decide
          · rw [heap_setCell_same _ _ _ _ _ _ HB4.out]
            simp [HV.out]
    by_cases k2 : k = 2
    · subst k2
      have hs := HU1.out.cell S2.out
      rcases E2.out with e | e | e
      · have N := fun w hg => N2 w hg
        rw [e] at N
        have HR := Lib.hid (show rtAt a b c ext dot = ((0, 0, 0), [], 4) from by unfold rtAt; rw [if_pos (by simp [e])])
        clear e
        go_wp2_with fail
        refine (N _ HGr.out).out.mono ?_
        rintro e w4 ⟨rfl, hu4⟩
        have c0 := blk_cell (w := w4) ((HU1.out.trans hu4).obj HB2.out) 0 _ rfl
        have c1 := blk_cell (w := w4) ((HU1.out.trans hu4).obj HB2.out) 1 _ rfl
        have c2 := blk_cell (w := w4) ((HU1.out.trans hu4).obj HB2.out) 2 _ rfl
        have f0 := blk_free (w := w4) ((HU1.out.trans hu4).obj HB2.out) 0
        have f1 := blk_free (w := w4) ((HU1.out.trans hu4).obj HB2.out) 1
        have f2 := blk_free (w := w4) ((HU1.out.trans hu4).obj HB2.out) 2
        have HU4 := Lib.hid hu4
        clear hu4
        go_wp2_with fail
        refine bodyPost_ret (v := .tuple #[.agg #[.int .i64 0, .int .i64 0, .int .i64 0], .string ⟨#[]⟩, .int .i64 4]) (by simp [results, Tryz.results113, go_sem, c0, c1, c2]) rfl ?_
        rw [HR.out]
        exact ⟨rfl, up_set3 ((HU.out.trans HU1.out).trans HU4.out) _ _ _⟩
      · have N := fun w hg => N2 w hg
        rw [e] at N
        have HV := Lib.hid (show ovr c = 1099511627776 from by unfold ovr; rw [e]; rfl)
        have HE := Lib.hid e
        clear e
        go_wp2_with fail
        refine (N _ HGr.out).out.mono ?_
        rintro e w4 ⟨rfl, hu4⟩
        have hb4 := hu4.obj HB9.out
        have n2 := blk_cell hb4 2 _ rfl
        have m2 := blk_free hb4 2
        have HU4 := Lib.hid hu4
        have HB4 := Lib.hid hb4
        clear hu4 hb4
        go_wp2_with fail
        go_roundg (gk - 1)
        case measure => omega
        case rel =>
          refine ⟨3, by omega, rfl, ?_, (HU1.out.trans HU4.out).set (Nat.le_refl _) _, ?_⟩
          · intro j hj
            by_cases hj2 : j < 2
            · exact HNE.out j hj2
            · obtain rfl : j = 2 := by omega
              simp only [List.getD_cons_zero, List.getD_cons_succ]
              rw [HE.out]; decide
          · rw [heap_setCell_same _ _ _ _ _ _ HB4.out]
            simp [HV.out]
      · have N := fun w hg => N2 w hg
        rw [e] at N
        have HV := Lib.hid (show ovr c = numV c from by unfold ovr; rw [e]; rfl)
        have HE := Lib.hid e
        clear e
        go_wp2_with fail
        refine (N _ HGr.out).out.mono ?_
        rintro e w4 ⟨rfl, hu4⟩
        have hb4 := hu4.obj HB9.out
        have n2 := blk_cell hb4 2 _ rfl
        have m2 := blk_free hb4 2
        have HU4 := Lib.hid hu4
        have HB4 := Lib.hid hb4
        clear hu4 hb4
        go_wp2_with fail
        go_roundg (gk - 1)
        case measure => omega
        case rel =>
          refine ⟨3, by omega, rfl, ?_, (HU1.out.trans HU4.out).set (Nat.le_refl _) _, ?_⟩
          · intro j hj
            by_cases hj2 : j < 2
            · exact HNE.out j hj2
            · obtain rfl : j = 2 := by omega
              simp only [List.getD_cons_zero, List.getD_cons_succ]
              rw [HE.out]; decide
          · rw [heap_setCell_same _ _ _ _ _ _ HB4.out]
            simp [HV.out]
    obtain rfl : k = 3 := by omega
    have NE0 := Lib.hid (HNE.out 0 (by omega))
    have NE1 := Lib.hid (HNE.out 1 (by omega))
    have NE2 := Lib.hid (HNE.out 2 (by omega))
    simp only [List.getD_cons_zero, List.getD_cons_succ] at NE0 NE1 NE2
    have hb9 := HB9.out
    simp only [show (0 : Nat) < 3 from by omega, show (1 : Nat) < 3 from by omega, show (2 : Nat) < 3 from by omega, if_true] at hb9
    have n0 := blk_cell hb9 0 _ rfl
    have n1 := blk_cell hb9 1 _ rfl
    have n2 := blk_cell hb9 2 _ rfl
    have HBB := Lib.hid (HU1.out.obj HB2.out)
    clear hb9
    cases dot
    · have KN := Lib.hid (show ¬ (false = true ∧ knownB ext = false) from by simp)
      have KC := fun w => Lib.hid (known_any ext w)
      by_cases hpe : placeE (ovr a) (ovr b) (ovr c) = 0
      · have HR := Lib.hid (show rtAt a b c ext false = ((ovr a, ovr b, ovr c), ext, 0) from by unfold rtAt; rw [if_neg (by simp [NE0.out, NE1.out, NE2.out]), if_neg KN.out, if_neg (by simp [hpe])])
        have A := fun w => Lib.hid (id_any (ovr a) (ovr b) (ovr c) w)
        rw [hpe] at A
        clear hpe
        generalize idV (ovr a) (ovr b) (ovr c) = iv at A
        generalize ovr a = za at *
        generalize ovr b = zb at *
        generalize ovr c = zc at *
        go_wp2_with (first | (go_at_call 171; refine (KC _).out.mono ?_; rintro e w5 ⟨rfl, rfl⟩))
        refine (A _).out.mono ?_
        rintro e w6 ⟨rfl, hu6⟩
        have hb6 := hu6.obj ((Below.heap_alloc wr (.cells #[.int .i64 za, .int .i64 zb, .int .i64 zc] 138) _ (Array.getElem?_eq_some_iff.1 HBB.out).1).trans HBB.out)
        have ht6 := hu6.obj (heap_alloc_new wr (.cells #[.int .i64 za, .int .i64 zb, .int .i64 zc] 138))
        have c0 := blk_cell (w := w6) (hb6) 0 _ rfl
        have c1 := blk_cell (w := w6) (hb6) 1 _ rfl
        have c2 := blk_cell (w := w6) (hb6) 2 _ rfl
        have f0 := blk_free (w := w6) (hb6) 0
        have f1 := blk_free (w := w6) (hb6) 1
        have f2 := blk_free (w := w6) (hb6) 2
        have d0 := blk_cell ht6 0 _ rfl
        have d1 := blk_cell ht6 1 _ rfl
        have d2 := blk_cell ht6 2 _ rfl
        have HU6 := Lib.hid hu6
        have HSZ : w.heap.size < wr.heap.size := (Array.getElem?_eq_some_iff.1 HBB.out).1
        clear hu6 hb6 ht6
        go_wp2_with fail
        refine bodyPost_ret (v := .tuple #[.agg #[.int .i64 za, .int .i64 zb, .int .i64 zc], .string ⟨ext.toArray⟩, .int .i64 0]) (by simp [results, Tryz.results113, go_sem, c0, c1, c2]) rfl ?_
        rw [HR.out]
        exact ⟨rfl, up_set3 (((HU.out.trans HU1.out).alloc _).trans HU6.out) _ _ _⟩
      · have HR := Lib.hid (show rtAt a b c ext false = ((0, 0, 0), [], 8) from by unfold rtAt; rw [if_neg (by simp [NE0.out, NE1.out, NE2.out]), if_neg KN.out, if_pos (by simp [hpe])])
        have A := fun w => Lib.hid (id_any (ovr a) (ovr b) (ovr c) w)
        have hpe' : (placeE (ovr a) (ovr b) (ovr c) != 0) = true := by rw [bne_iff_ne]; exact hpe
        clear hpe
        generalize placeE (ovr a) (ovr b) (ovr c) = pe at A hpe'
        generalize idV (ovr a) (ovr b) (ovr c) = iv at A
        generalize ovr a = za at *
        generalize ovr b = zb at *
        generalize ovr c = zc at *
        go_wp2_with (first | (go_at_call 171; refine (KC _).out.mono ?_; rintro e w5 ⟨rfl, rfl⟩))
        refine (A _).out.mono ?_
        rintro e w6 ⟨rfl, hu6⟩
        have hb6 := hu6.obj ((Below.heap_alloc wr (.cells #[.int .i64 za, .int .i64 zb, .int .i64 zc] 138) _ (Array.getElem?_eq_some_iff.1 HBB.out).1).trans HBB.out)
        have c0 := blk_cell (w := w6) (hb6) 0 _ rfl
        have c1 := blk_cell (w := w6) (hb6) 1 _ rfl
        have c2 := blk_cell (w := w6) (hb6) 2 _ rfl
        have f0 := blk_free (w := w6) (hb6) 0
        have f1 := blk_free (w := w6) (hb6) 1
        have f2 := blk_free (w := w6) (hb6) 2
        have HU6 := Lib.hid hu6
        clear hu6 hb6
        go_wp2_with fail
        refine bodyPost_ret (v := .tuple #[.agg #[.int .i64 0, .int .i64 0, .int .i64 0], .string ⟨#[]⟩, .int .i64 8]) (by simp [results, Tryz.results113, go_sem, c0, c1, c2]) rfl ?_
        rw [HR.out]
        exact ⟨rfl, up_set3 (((HU.out.trans HU1.out).alloc _).trans HU6.out) _ _ _⟩
    · by_cases hkn : knownB ext = false
      · have HR := Lib.hid (show rtAt a b c ext true = ((0, 0, 0), [], 14) from by unfold rtAt; rw [if_neg (by simp [NE0.out, NE1.out, NE2.out]), if_pos (by simp [hkn])])
        have KC := fun w => Lib.hid (known_any ext w)
        rw [hkn] at KC
        have c0 := blk_cell (w := wr) (HBB.out) 0 _ rfl
        have c1 := blk_cell (w := wr) (HBB.out) 1 _ rfl
        have c2 := blk_cell (w := wr) (HBB.out) 2 _ rfl
        have f0 := blk_free (w := wr) (HBB.out) 0
        have f1 := blk_free (w := wr) (HBB.out) 1
        have f2 := blk_free (w := wr) (HBB.out) 2
        clear hkn
        go_wp2_with (first | (go_at_call 171; refine (KC _).out.mono ?_; rintro e w5 ⟨rfl, rfl⟩))
        refine bodyPost_ret (v := .tuple #[.agg #[.int .i64 0, .int .i64 0, .int .i64 0], .string ⟨#[]⟩, .int .i64 14]) (by simp [results, Tryz.results113, go_sem, c0, c1, c2]) rfl ?_
        rw [HR.out]
        exact ⟨rfl, up_set3 (HU.out.trans HU1.out) _ _ _⟩
      · have hkt : knownB ext = true := by simpa using hkn
        have KN := Lib.hid (show ¬ (true = true ∧ knownB ext = false) from by simp [hkt])
        have KC := fun w => Lib.hid (known_any ext w)
        rw [hkt] at KC
        clear hkn hkt
        by_cases hpe : placeE (ovr a) (ovr b) (ovr c) = 0
        · have HR := Lib.hid (show rtAt a b c ext true = ((ovr a, ovr b, ovr c), ext, 0) from by unfold rtAt; rw [if_neg (by simp [NE0.out, NE1.out, NE2.out]), if_neg KN.out, if_neg (by simp [hpe])])
          have A := fun w => Lib.hid (id_any (ovr a) (ovr b) (ovr c) w)
          rw [hpe] at A
          clear hpe
          generalize idV (ovr a) (ovr b) (ovr c) = iv at A
          generalize ovr a = za at *
          generalize ovr b = zb at *
          generalize ovr c = zc at *
          go_wp2_with (first | (go_at_call 171; refine (KC _).out.mono ?_; rintro e w5 ⟨rfl, rfl⟩))
          refine (A _).out.mono ?_
          rintro e w6 ⟨rfl, hu6⟩
          have hb6 := hu6.obj ((Below.heap_alloc wr (.cells #[.int .i64 za, .int .i64 zb, .int .i64 zc] 138) _ (Array.getElem?_eq_some_iff.1 HBB.out).1).trans HBB.out)
          have ht6 := hu6.obj (heap_alloc_new wr (.cells #[.int .i64 za, .int .i64 zb, .int .i64 zc] 138))
          have c0 := blk_cell (w := w6) (hb6) 0 _ rfl
          have c1 := blk_cell (w := w6) (hb6) 1 _ rfl
          have c2 := blk_cell (w := w6) (hb6) 2 _ rfl
          have f0 := blk_free (w := w6) (hb6) 0
          have f1 := blk_free (w := w6) (hb6) 1
          have f2 := blk_free (w := w6) (hb6) 2
          have d0 := blk_cell ht6 0 _ rfl
          have d1 := blk_cell ht6 1 _ rfl
          have d2 := blk_cell ht6 2 _ rfl
          have HU6 := Lib.hid hu6
          have HSZ : w.heap.size < wr.heap.size := (Array.getElem?_eq_some_iff.1 HBB.out).1
          clear hu6 hb6 ht6
          go_wp2_with fail
          refine bodyPost_ret (v := .tuple #[.agg #[.int .i64 za, .int .i64 zb, .int .i64 zc], .string ⟨ext.toArray⟩, .int .i64 0]) (by simp [results, Tryz.results113, go_sem, c0, c1, c2]) rfl ?_
          rw [HR.out]
          exact ⟨rfl, up_set3 (((HU.out.trans HU1.out).alloc _).trans HU6.out) _ _ _⟩
        · have HR := Lib.hid (show rtAt a b c ext true = ((0, 0, 0), [], 8) from by unfold rtAt; rw [if_neg (by simp [NE0.out, NE1.out, NE2.out]), if_neg KN.out, if_pos (by simp [hpe])])
          have A := fun w => Lib.hid (id_any (ovr a) (ovr b) (ovr c) w)
          have hpe' : (placeE (ovr a) (ovr b) (ovr c) != 0) = true := by rw [bne_iff_ne]; exact hpe
          clear hpe
          generalize placeE (ovr a) (ovr b) (ovr c) = pe at A hpe'
          generalize idV (ovr a) (ovr b) (ovr c) = iv at A
          generalize ovr a = za at *
          generalize ovr b = zb at *
          generalize ovr c = zc at *
          go_wp2_with (first | (go_at_call 171; refine (KC _).out.mono ?_; rintro e w5 ⟨rfl, rfl⟩))
          refine (A _).out.mono ?_
          rintro e w6 ⟨rfl, hu6⟩
          have hb6 := hu6.obj ((Below.heap_alloc wr (.cells #[.int .i64 za, .int .i64 zb, .int .i64 zc] 138) _ (Array.getElem?_eq_some_iff.1 HBB.out).1).trans HBB.out)
          have c0 := blk_cell (w := w6) (hb6) 0 _ rfl
          have c1 := blk_cell (w := w6) (hb6) 1 _ rfl
          have c2 := blk_cell (w := w6) (hb6) 2 _ rfl
          have f0 := blk_free (w := w6) (hb6) 0
          have f1 := blk_free (w := w6) (hb6) 1
          have f2 := blk_free (w := w6) (hb6) 2
          have HU6 := Lib.hid hu6
          clear hu6 hb6
          go_wp2_with fail
          refine bodyPost_ret (v := .tuple #[.agg #[.int .i64 0, .int .i64 0, .int .i64 0], .string ⟨#[]⟩, .int .i64 8]) (by simp [results, Tryz.results113, go_sem, c0, c1, c2]) rfl ?_
          rw [HR.out]
          exact ⟨rfl, up_set3 (((HU.out.trans HU1.out).alloc _).trans HU6.out) _ _ _⟩

theorem parse_any (l : Bs) (h2 : l.length ≤ 1000000) (w : World) (hg : Gl w) :
    Calls Tryz.prog 113 #[.string ⟨l.toArray⟩] w (ParEnd w (rt l)) := by
  by_cases h : 64 < l.length
  · exact parse_early l h h2 w
  · cases hs : spl l with
    | none => exact parse_none l h hs w
    | some x => obtain ⟨a, b, c, ext, dot⟩ := x; exact parse_some l a b c ext dot h hs w hg
set_option maxHeartbeats 1000000 in
theorem Parse_any (l : Bs) (h2 : l.length ≤ 1000000) (w : World) (hg : Gl w) :
    Calls Tryz.prog 60 #[.string ⟨l.toArray⟩] w fun e w' => e = .returned (.tuple #[.agg #[.int .i64 (rt l).1.1, .int .i64 (rt l).1.2.1, .int .i64 (rt l).1.2.2], .int .i64 (rt l).2.2]) ∧ Up w w' := by
  have A := fun w hg => Lib.hid (parse_any l h2 w hg)
  generalize rt l = r at A ⊢
  obtain ⟨⟨z, x, y⟩, ext, er⟩ := r
  go_enter Tryz.func60, Tryz.ntmps60
  go_wp2_with fail
  refine (A _ (hg.up ((Up.refl w).alloc _))).out.mono ?_
  rintro e w1 ⟨rfl, hu⟩
  have hb := hu.obj (heap_alloc_new w _)
  have hlt : w.heap.size < w1.heap.size := (Array.getElem?_eq_some_iff.1 hb).1
  have c0 := blk_cell hb 0 _ rfl
  have c1 := blk_cell hb 1 _ rfl
  have c2 := blk_cell hb 2 _ rfl
  have f0 := blk_free hb 0
  have f1 := blk_free hb 1
  have f2 := blk_free hb 2
  have HU := Lib.hid hu
  have HB := Lib.hid hb
  clear hb hu
  go_wp2_with fail
  have hb3 := blk_alloc (blk_set3 HB.out (.int .i64 z) (.int .i64 x) (.int .i64 y)) (.cells #[.int .i64 z, .int .i64 x, .int .i64 y] 138)
  have d0 := blk_cell hb3 0 _ rfl
  have d1 := blk_cell hb3 1 _ rfl
  have d2 := blk_cell hb3 2 _ rfl
  refine bodyPost_ret (v := .tuple #[.agg #[.int .i64 z, .int .i64 x, .int .i64 y], .int .i64 er]) (by simp [results, Tryz.results60, go_sem, d0, d1, d2]) rfl ⟨rfl, ?_⟩
  exact (up_set3 (((Up.refl w).alloc _).trans HU.out) _ _ _).alloc _
end Go.Proofs.YtcfmidmokciofaaGreatDoor
