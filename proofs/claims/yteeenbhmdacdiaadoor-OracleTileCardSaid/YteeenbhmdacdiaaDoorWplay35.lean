/- Walks: oracle.Play, oracle.Tally, the reference's Count. -/
import Derived.Test.YteeenbhmdacdiaaDoorWans35
import Derived.Maps.OwnOps
import Derived.Maps.OwnSet
import Derived.Maps.Views
namespace Go.Gz
abbrev Tolds := List (Int × Bs)
def tdV (T : Tolds) : List Value := T.flatMap fun x => [.int .i64 x.1, .string ⟨x.2.toArray⟩]
theorem tdV_cons (x : Int × Bs) (T : Tolds) : tdV (x :: T) = .int .i64 x.1 :: .string ⟨x.2.toArray⟩ :: tdV T := rfl
theorem tdV_app (L M : Tolds) : tdV (L ++ M) = tdV L ++ tdV M := by simp [tdV]
theorem tdV_len (L : Tolds) : (tdV L).length = L.length * 2 := by
  induction L with
  | nil => rfl
  | cons x r ih => rw [tdV_cons]; simp [ih]; omega
theorem tdV_get (L : Tolds) : ∀ k (h : k < L.length), (tdV L)[k * 2]? = some (.int .i64 L[k].1) ∧ (tdV L)[k * 2 + 1]? = some (.string ⟨L[k].2.toArray⟩) := by
  induction L with
  | nil => intro k h; simp at h
  | cons x r ih =>
    intro k h
    rw [tdV_cons]
    cases k with
    | zero => exact ⟨rfl, rfl⟩
    | succ k =>
      have := ih k (by simp at h; omega)
      rw [show (k + 1) * 2 = k * 2 + 1 + 1 by omega]
      simpa using this
/-- how many have a code -/
def cntT (T : Tolds) (c : Int) : Nat := T.countP fun x => x.1 == c
theorem cnt_succ {T : Tolds} {k : Nat} (hk : k < T.length) (c : Int) : cntT (T.take (k + 1)) c = cntT (T.take k) c + if T[k].1 = c then 1 else 0 := by
  unfold cntT
  rw [List.take_succ_eq_append_getElem hk, List.countP_append]
  simp [List.countP_cons]
theorem cnt_snoc (T : Tolds) (x : Int × Bs) (c : Int) : cntT (T ++ [x]) c = cntT T c + if x.1 = c then 1 else 0 := by
  unfold cntT
  rw [List.countP_append]
  simp [List.countP_cons]
/-- the codes, each once -/
def seenT (T : Tolds) : List Int := T.foldl (fun acc x => if acc.contains x.1 then acc else acc ++ [x.1]) []
theorem seen_snoc (T : Tolds) (x : Int × Bs) : seenT (T ++ [x]) = if (seenT T).contains x.1 then seenT T else seenT T ++ [x.1] := by unfold seenT; rw [List.foldl_append]; rfl
theorem seen_iff (T : Tolds) (c : Int) : (seenT T).contains c = decide (0 < cntT T c) := by
  induction T using snoc_ind with
  | h0 => rfl
  | h1 T a ih =>
    rw [seen_snoc, cnt_snoc]
    by_cases e : a.1 = c
    · subst e
      rw [if_pos rfl]
      cases h : (seenT T).contains a.1
      · simp
      · simp at ih ⊢
        simpa using h
    · rw [if_neg e, Nat.add_zero, ← ih]
      cases h : (seenT T).contains a.1
      · rw [if_neg (by simp)]
        simp
        intro h2; exact absurd h2.symm e
      · rw [if_pos rfl]
theorem seen_succ {T : Tolds} {k : Nat} (hk : k < T.length) : (seenT (T.take (k + 1))).length = (seenT (T.take k)).length + if 0 < cntT (T.take k) T[k].1 then 0 else 1 := by
  rw [List.take_succ_eq_append_getElem hk, seen_snoc, seen_iff]
  by_cases h : 0 < cntT (T.take k) T[k].1
  · rw [if_pos (by simpa using h), if_pos h]; rfl
  · rw [if_neg (by simpa using h), if_neg h]; simp
theorem cnt_le (T : Tolds) (c : Int) : cntT T c ≤ T.length := List.countP_le_length
end Go.Gz
namespace Go.Proofs.YteeenbhmdacdiaaDoor
open Go.RowKit Go.Gz Go.Maps

set_option maxRecDepth 100000
theorem Rd.told {w : World} {T : Tolds} {A : Option Addr} {c : Nat} (h : Rd w 2 A T.length c (tdV T)) {k : Nat} (hk : k < T.length) : ∃ b o, A = some ⟨b, o, none⟩ ∧ w.cell? ⟨b, o + k * 2, none⟩ = some (.int .i64 T[k].1) ∧ w.cell? ⟨b, o + k * 2 + 1, none⟩ = some (.string ⟨T[k].2.toArray⟩) := by
  obtain ⟨b, o, u, v, e, h1, h2, h3, h4⟩ := h.two hk
  obtain ⟨g1, g2⟩ := tdV_get T k hk
  rw [g1] at h1; rw [g2] at h2
  cases h1; cases h2
  exact ⟨b, o, e, h3, h4⟩
theorem Rd.text {w : World} {L : List Bs} {A : Option Addr} {c : Nat} (h : Rd w 1 A L.length c (L.map strV)) {k : Nat} (hk : k < L.length) : ∃ b o, A = some ⟨b, o, none⟩ ∧ w.cell? ⟨b, o + k, none⟩ = some (.string ⟨L[k].toArray⟩) := by
  obtain ⟨b, o, u, e, h1, h2⟩ := h.one hk
  rw [List.getElem?_map, List.getElem?_eq_getElem hk] at h1
  simp only [Option.map_some, strV, Option.some.injEq] at h1
  exact ⟨b, o, e, by rw [h2, h1]⟩
theorem infoTd : (Tryd.prog.info? 78).map (fun i => (i.zero, i.size, i.bytes)) = some (some (.agg #[.int .i64 0, .string ⟨#[]⟩]), 2, 24) := by kernel_rfl
def PlayEnd (w : World) (T : Tolds) (e : Ending) (w' : World) : Prop := ∃ A c, e = .returned (.slice A T.length c) ∧ Rd w' 2 A T.length c (tdV T) ∧ Up w w'
set_option maxHeartbeats 2000000 in
theorem play_any (L : Items) (hl : L.length ≤ 100000) (hs : Srt L) (A : Option Addr) (c : Nat) (ps : List Bs) (hps : ps.length ≤ 1000) (hpl : ∀ k (h : k < ps.length), ps[k].length ≤ 300) (B : Option Addr) (d : Nat) (w : World) (hg : Gl w) (hr : Rd w 2 A L.length c (itV L)) (hp : Rd w 1 B ps.length d (ps.map strV)) :
    Calls Tryd.prog 40 #[.agg #[.slice A L.length c], .slice B ps.length d] w (PlayEnd w (ps.map (ansV L))) := by
  obtain ⟨i0, hi, hz0, hz1, hz2⟩ := info_parts infoTd
  have HR := Lib.hid hr
  have HP := Lib.hid hp
  have HPL := Lib.hid hpl
  have n0 := new1 w 69 (.slice A L.length c)
  have HU0 := Lib.hid n0.1
  have HC0 := Lib.hid n0.2.1
  have AN := fun p hp w hg hr => Lib.hid (ans_any L hl hs p hp A c w hg hr)
  clear hr hp hpl n0 hs
  go_enter Tryd.func40, Tryd.ntmps40
  go_wp2_with fail
  go_loopg [5, 10] ps.length (fun gk v i wr => ∃ k : Nat, k + gk = ps.length ∧ i = .int .i64 k ∧ wr.ownsRow (w.heap.size + 1) 78 2 v k (tdV ((ps.take k).map (ansV L))) ∧ wr.cell? ⟨w.heap.size, 0, none⟩ = some (.slice A L.length c) ∧ Up w wr)
  case atStart => exact ⟨0, by omega, rfl, World.ownsRow_nil _ _ _ _, HC0.out, HU0.out⟩
  case round =>
    obtain ⟨k, hk, rfl, ho, hc, hu⟩ := hrel
    have HO := Lib.hid ho
    have HU := Lib.hid hu
    by_cases hlt : k < ps.length
    · obtain ⟨g, rfl⟩ : ∃ g, gk = g + 1 := ⟨gk - 1, by omega⟩
      have hpx := HPL.out k hlt
      obtain ⟨b, o, rfl, hw1⟩ := HP.out.text hlt
      obtain ⟨p, hx⟩ : ∃ p, ps[k]'hlt = p := ⟨_, rfl⟩
      rw [hx] at hw1 hpx
      have hc1 := hu.cell hw1
      have HX := Lib.hid hx
      have hltI : (k : Int) < (ps.length : Int) := by omega
      have AN1 := fun w hg hr => Lib.hid ((AN p (by omega) w hg hr).out)
      clear hx ho hw1 hu
      obtain ⟨⟨ac, ab⟩, hav⟩ : ∃ a, ansV L p = a := ⟨_, rfl⟩
      rw [hav] at AN1
      simp only at AN1
      have HAV := Lib.hid hav
      have HC := Lib.hid hc
      clear hav
      go_wp2_with fail
      refine (AN1 _ (hg.up HU.out) (HR.out.up HU.out)).out.mono ?_
      rintro e w1 ⟨rfl, hu1⟩
      have HU1 := Lib.hid (HU.out.trans hu1)
      have HO1 := Lib.hid (own_up HO.out hu1)
      have HC1 := Lib.hid (hu1.cell HC.out)
      have hlw : w.heap.size + 1 ≤ w1.heap.size := World.block_lt_of_cell? _ _ HC1.out
      clear hu1 hc hc1
      go_wp2_with (at_builtin; refine app_one w1 rfl _ _ 72 rfl (w.heap.size + 1) 78 i0 _ 2 24 Tryd.underlying72 hi hz0 hz1 hz2 rfl (by decide) _ _ _ HO1.out rfl #[.int .i64 ac, .string ⟨ab.toArray⟩] rfl rfl (by simp [Value.oneCell']) (by omega) (by omega) hlw ?_; intro v3 w3 ho3 hg3 hb3)
      go_roundg g
      case measure => omega
      case rel =>
        refine ⟨k + 1, by omega, by go_num, ?_, (hb3.cell (by simp)).trans HC1.out, Up.of (Below.trans HU1.out.below (Below.mono hb3 (by omega)))⟩
        have e : (ps.take (k + 1)).map (ansV L) = (ps.take k).map (ansV L) ++ [(ac, ab)] := by
          rw [List.take_succ_eq_append_getElem hlt, List.map_append, HX.out]
          simp only [List.map_cons, List.map_nil, HAV.out]
        rw [e, tdV_app]
        exact ho3
    · obtain rfl : k = ps.length := by omega
      rw [List.take_length] at HO ho
      clear hlt hu ho
      obtain ⟨A2, c2, rfl, r2⟩ := Rd.of_own HO.out
      have R2 := Lib.hid r2
      clear r2 HO
      go_wp2_with fail
      go_ret
      refine ⟨A2, c2, ?_, ?_, HU.out⟩
      · rw [List.length_map]; rfl
      · rw [List.length_map]; exact R2.out
def TalOK (D : DataW Unit) (T : Tolds) : Prop := Tidy D ∧ (∀ c : Int, (Lit.int .i64 c).wf = true → D.atKey (.int .i64 c) (.lit (.int .i64 0)) = .lit (.int .i64 (cntT T c))) ∧ (∀ c : Int, has D (.int .i64 c) = decide (0 < cntT T c)) ∧ size D = (seenT T).length
def TalEnd (w : World) (T : Tolds) (e : Ending) (w' : World) : Prop := ∃ B D, e = .returned (.map (some B)) ∧ w'.ownsMap Tryd.prog 3 (plainElem Tryd.prog 3) B T.length D ∧ TalOK D T ∧ Up w w'
theorem lawI : Keyed Tryd.prog 3 := int_keyed Tryd.underlying3
theorem zeroI (w : World) : (zeroValue 3).run Tryd.prog w = .ok (.int .i64 0) w := by kernel_rfl
theorem tal_nil : TalOK (.map []) [] := ⟨tidy_empty, fun _ _ => rfl, fun _ => rfl, rfl⟩
theorem tal_succ {D : DataW Unit} {T : Tolds} {k : Nat} (hk : k < T.length) (h : TalOK D (T.take k)) {v : Int} (hv : v = (cntT (T.take k) T[k].1 : Int) + 1) :
    TalOK (D.put (.int .i64 T[k].1) (.lit (.int .i64 v))) (T.take (k + 1)) := by
  have hkl : WideAt.IsKeyLit (.int .i64 T[k].1) := by first | exact trivial | simp [WideAt.IsKeyLit]
  refine ⟨h.1.put hkl _, fun c hc => ?_, fun c => ?_, ?_⟩
  · rw [cnt_succ hk]
    by_cases e : T[k].1 = c
    · subst e
      rw [atKey_put_same h.1.isMap hkl, if_pos rfl, hv]; rfl
    · rw [atKey_put_other (by simp; exact fun h => e h.symm), h.2.1 c hc, if_neg e]; rfl
  · rw [cnt_succ hk]
    by_cases e : T[k].1 = c
    · subst e
      rw [has_put_same h.1.isMap hkl, if_pos rfl]; simp
    · rw [has_put_other (by simp; exact fun h => e h.symm), h.2.2.1 c, if_neg e]; rfl
  · rw [size_put h.1, h.2.2.1, h.2.2.2, seen_succ hk]
    by_cases g : 0 < cntT (T.take k) T[k].1
    · rw [if_pos (by simpa using g), if_pos g]; rfl
    · rw [if_neg (by simpa using g), if_neg g]
theorem tal_at {D : DataW Unit} {T : Tolds} {c v : Int} (h : TalOK D T) (hc : (Lit.int .i64 c).wf = true) (hat : D.atKey (.int .i64 c) (.lit (.int .i64 0)) = .lit (.int .i64 v)) : v = (cntT T c : Int) := by
  rw [h.2.1 c hc] at hat
  injection hat with hat
  injection hat with _ hat
  exact hat.symm
theorem wf_small {n : Int} (h : 0 ≤ n ∧ n ≤ 2000000) : (Lit.int .i64 n).wf = true := by
  simp [Lit.wf, IntKind.min, IntKind.max, IntKind.bits, IntKind.signed]; omega
set_option maxHeartbeats 2000000 in
theorem tally_any (T : Tolds) (hl : T.length ≤ 1000000) (hwf : ∀ k (h : k < T.length), (Lit.int .i64 T[k].1).wf = true) (A : Option Addr) (c : Nat) (w : World) (hr : Rd w 2 A T.length c (tdV T)) :
    Calls Tryd.prog 43 #[.slice A T.length c] w (TalEnd w T) := by
  have hmm := @run_makeMap Tryd.prog
  have HR := Lib.hid hr
  have HWF := Lib.hid hwf
  clear hr hwf
  go_enter Tryd.func43, Tryd.ntmps43
  go_wp2_with fail
  go_loopg [9] T.length (fun gk i wr => ∃ (k : Nat) (D : DataW Unit), k + gk = T.length ∧ i = .int .i64 k ∧ wr.ownsMap Tryd.prog 3 (plainElem Tryd.prog 3) w.heap.size k D ∧ TalOK D (T.take k) ∧ Up w wr)
  case atStart => exact ⟨0, .map [], by omega, rfl, World.ownsMap_made _ _ _ _, tal_nil, (Up.refl w).alloc _⟩
  case round =>
    obtain ⟨k, D, hk, rfl, ho, ht, hu⟩ := hrel
    have HO := Lib.hid ho
    have HT := Lib.hid ht
    have HU := Lib.hid hu
    clear ho ht
    by_cases hlt : k < T.length
    · obtain ⟨g, rfl⟩ : ∃ g, gk = g + 1 := ⟨gk - 1, by omega⟩
      have hwk := HWF.out k hlt
      obtain ⟨b, o, rfl, hc1, hc2⟩ := (HR.out.up hu).told hlt
      obtain ⟨⟨ac, ab⟩, hx⟩ : ∃ p, T[k]'hlt = p := ⟨_, rfl⟩
      rw [hx] at hc1 hc2 hwk
      simp only at hc1 hc2 hwk
      have HX := Lib.hid hx
      have HWK := Lib.hid hwk
      have HKEY := Lib.hid (keyOf_int_mk Tryd.underlying3 hwk)
      have hltI : (k : Int) < (T.length : Int) := by omega
      clear hx hwk hu
      go_wp2_with (first
        | (at_lookup; refine wpList_lookup_own_int _ rfl _ _ 80 rfl 3 3 .i64 lawI Tryd.underlying80 Tryd.underlying3 (zeroI _) w.heap.size k _ rfl (HO.out.alloc _) _ _ rfl HKEY.out ?_; intro cc hat hwc; have hcc := tal_at HT.out HWK.out hat; clear hat hwc; subst hcc; have HLE := Lib.hid (cnt_le (T.take k) ac); have hle : cntT (T.take k) ac ≤ 1000000 := by have := HLE.out; rw [List.length_take] at this; omega)
        | (at_mapUpdate; refine wpList_mapUpdate_own _ rfl _ _ _ 80 rfl 3 3 lawI Tryd.underlying80 _ w.heap.size k _ rfl (HO.out.alloc _) (by unfold maxLen; omega) _ _ _ rfl rfl HKEY.out _ [] (plainElem_int Tryd.underlying3 (wf_small (by omega))) ?_; intro w1 hown1 hgrow1))
      go_roundg g
      case measure => omega
      case rel =>
        refine ⟨k + 1, _, by omega, by go_num, hown1, ?_, Up.of (Below.grown ((HU.out.alloc _).below) hgrow1 (HU.out.alloc _).le (fun j hj => by cases hj; exact Nat.le_refl _))⟩
        have := tal_succ hlt HT.out (v := (cntT (T.take k) ac : Int) + 1) (by rw [HX.out])
        rw [HX.out] at this
        exact this
    · obtain rfl : k = T.length := by omega
      rw [List.take_length] at HT
      clear hlt hu
      go_wp2_with fail
      go_ret
      exact ⟨_, D, rfl, HO.out, HT.out, HU.out⟩
set_option maxHeartbeats 2000000 in
theorem count_any (T : Tolds) (hl : T.length ≤ 1000000) (code : Int) (A : Option Addr) (c : Nat) (w : World) (hr : Rd w 2 A T.length c (tdV T)) :
    Calls Tryd.prog 44 #[.slice A T.length c, .int .i64 code] w fun e w' => e = .returned (.int .i64 (cntT T code)) ∧ w = w' := by
  have HR := Lib.hid hr
  clear hr
  go_enter Tryd.func44, Tryd.ntmps44
  go_wp2_with fail
  go_loopg [5, 6] T.length (fun gk v i wr => ∃ k : Nat, k + gk = T.length ∧ i = .int .i64 k ∧ v = .int .i64 (cntT (T.take k) code) ∧ w = wr)
  case atStart => exact ⟨0, by omega, rfl, rfl, rfl⟩
  case round =>
    obtain ⟨k, hk, rfl, rfl, rfl⟩ := hrel
    by_cases hlt : k < T.length
    · obtain ⟨g, rfl⟩ : ∃ g, gk = g + 1 := ⟨gk - 1, by omega⟩
      have hs := cnt_succ hlt code
      have hle := cnt_le (T.take k) code
      rw [List.length_take] at hle
      obtain ⟨b, o, rfl, hc1, hc2⟩ := HR.out.told hlt
      obtain ⟨⟨ac, ab⟩, hx⟩ : ∃ p, T[k]'hlt = p := ⟨_, rfl⟩
      rw [hx] at hc1 hc2 hs
      simp only at hc1 hc2 hs
      generalize cntT (T.take k) code = m at *
      have hltI : (k : Int) < (T.length : Int) := by omega
      clear hx
      by_cases he : ac = code
      · rw [if_pos he] at hs
        have HS := Lib.hid hs
        have hb : (ac == code) = true := by rw [beq_iff_eq]; exact he
        clear hs he
        go_wp2_with fail
        go_roundg g
        case measure => omega
        case rel => exact ⟨k + 1, by omega, by go_num, by rw [HS.out]; go_num, rfl⟩
      · rw [if_neg he] at hs
        have HS := Lib.hid hs
        have hb : (ac == code) = false := by rw [beq_eq_false_iff_ne]; exact he
        clear hs he
        go_wp2_with fail
        go_roundg g
        case measure => omega
        case rel => exact ⟨k + 1, by omega, by go_num, by rw [HS.out]; rfl, rfl⟩
    · obtain rfl : k = T.length := by omega
      clear hlt
      go_wp2_with fail
      go_ret
      exact ⟨ret_int (by rw [List.take_length]), rfl⟩
end Go.Proofs.YteeenbhmdacdiaaDoor
