/- Walk: the reference's Parse. -/
import Derived.Test.YteeenbhmdacdiaaDoorWrnumber
import Derived.Test.YteeenbhmdacdiaaDoorWrid
import Derived.Test.YteeenbhmdacdiaaDoorWdig
import Derived.Test.YteeenbhmdacdiaaDoorWparse
namespace Go.Proofs.YteeenbhmdacdiaaDoor
open Go.RowKit Go.Gz

theorem infoI : (Tryd.prog.info? 3).map (fun i => (i.zero, i.size, i.bytes)) = some (some (.int .i64 0), 1, 8) := by kernel_rfl
/-- a slice of ints of the call's own, from block B on -/
def OwnI (w : World) (B : Nat) (v : Value) (ls : List Int) : Prop := w.ownsRow B 3 1 v ls.length (ls.map (Value.int .i64))
theorem OwnI.up {w w' : World} {B : Nat} {v : Value} {ls : List Int} (h : OwnI w B v ls) (hu : Up w w') : OwnI w' B v ls := by
  refine World.ownsRow.kept (row := none) h ⟨hu.os, hu.tape, hu.output, hu.size, fun k hk _ => hu.block hk⟩ ?_
  cases v.ownBlock <;> simp
theorem OwnI.form {w : World} {B : Nat} {v : Value} {ls : List Int} (h : OwnI w B v ls) : (v = .slice none 0 0 ∧ ls = []) ∨ ∃ g cap, v = .slice (some ⟨g, 0, none⟩) ls.length cap ∧ B ≤ g ∧ g < w.heap.size ∧ ls.length ≤ cap := by
  rcases h.2 with ⟨h1, h2⟩ | ⟨g, cap, cur, h1, h2, h3, h4, _⟩
  · exact .inl ⟨h1, List.length_eq_zero_iff.1 h2⟩
  · exact .inr ⟨g, cap, h1, h2, (Array.getElem?_eq_some_iff.1 h3).1, h4⟩
theorem OwnI.at {w : World} {B g n cap : Nat} {ls : List Int} (h : OwnI w B (.slice (some ⟨g, 0, none⟩) n cap) ls) (j : Nat) (hj : j < ls.length) : w.cell? ⟨g, j, none⟩ = some (.int .i64 (ls.getD j 0)) := by
  have hn : n = ls.length := by
    rcases h.form with ⟨h1, _⟩ | ⟨g', cap', h1, _⟩
    · cases h1
    · injection h1
  subst hn
  rw [World.ownsRow.cellAt h j (by omega)]
  simp [hj, List.getD]
theorem keepR {w2 w w' : World} {g : Nat} {x y z : Value} (h : Up w2 w ∧ w.cell? ⟨g, 0, none⟩ = some x ∧ w.cell? ⟨g, 1, none⟩ = some y ∧ w.cell? ⟨g, 2, none⟩ = some z) (hu : Up w w') :
    Up w2 w' ∧ w'.cell? ⟨g, 0, none⟩ = some x ∧ w'.cell? ⟨g, 1, none⟩ = some y ∧ w'.cell? ⟨g, 2, none⟩ = some z :=
  ⟨h.1.trans hu, hu.cell h.2.1, hu.cell h.2.2.1, hu.cell h.2.2.2⟩
def zz : Array Value := #[.int .i64 0, .int .i64 0, .int .i64 0]
def RpRel (w : World) (l : Bs) (gk : Nat) (v r i : Value) (wr : World) : Prop := ∃ (k : Nat) (vs : List Int) (rest : Bs), k + gk = 3 ∧ i = .int .i64 k ∧ vs.length = k ∧ r = .string ⟨rest.toArray⟩ ∧ rest.length ≤ 64 ∧
  rgo gk vs rest = rt l ∧ OwnI wr (w.heap.size + 2) v vs ∧ Up w wr ∧ wr.heap[w.heap.size]? = some (.cells zz 23 (0, 0)) ∧ wr.heap[w.heap.size + 1]? = some (.cells zz 23 (0, 0))
set_option maxRecDepth 100000 in
set_option maxHeartbeats 2000000 in
theorem rparse_early (l : Bs) (h : 64 < l.length) (h2 : l.length ≤ 1000000) (w : World) :
    Calls Tryd.prog 15 #[.string ⟨l.toArray⟩] w (ParEnd w (rt l)) := by
  have hr : rt l = ((0, 0, 0), [], 5) := by unfold rt; rw [if_pos h]
  rw [hr]
  clear hr
  go_enter Tryd.func15, Tryd.ntmps15
  go_wp2_with fail
  refine bodyPost_ret (v := .tuple #[.agg #[.int .i64 0, .int .i64 0, .int .i64 0], .string ⟨#[]⟩, .int .i64 5]) (by simp [results, Tryd.results15, go_sem]) rfl ⟨rfl, ?_⟩
  exact ((Up.refl w).alloc _).alloc _
set_option maxRecDepth 100000 in
set_option maxHeartbeats 8000000 in
theorem rparse_late (l : Bs) (h : ¬ 64 < l.length) (w : World) :
    Calls Tryd.prog 15 #[.string ⟨l.toArray⟩] w (ParEnd w (rt l)) := by
  obtain ⟨i0, hi, hz0, hz1, hz2⟩ := info_parts infoI
  have RG := Lib.hid (rt_rgo l h).symm
  obtain ⟨R, hR⟩ : ∃ R, R = rt l := ⟨_, rfl⟩
  rw [← hR]
  have HR := Lib.hid hR
  clear hR
  have hl : (l.length : Int) ≤ 64 := by omega
  clear h
  go_enter Tryd.func15, Tryd.ntmps15
  go_wp2_with fail
  go_loopg [6, 7, 8] 3 (fun gk v r i wr => RpRel w l gk v r i wr)
  case atStart => exact ⟨0, [], l, by omega, rfl, rfl, rfl, by omega, RG.out, World.ownsRow_nil _ _ _ _, ((Up.refl w).alloc _).alloc _, blk_alloc (heap_alloc_new w _) _, by have := heap_alloc_new (w.alloc (.cells zz 23)) (.cells zz 23); simpa [zz] using this⟩
  case round =>
    obtain ⟨k, vs, rest, hk, rfl, hvs, rfl, hrl, hgo, hown, hu, hb2, hb5⟩ := hrel
    have c0 := blk_cell hb2 0 (.int .i64 0) rfl
    have c1 := blk_cell hb2 1 (.int .i64 0) rfl
    have c2 := blk_cell hb2 2 (.int .i64 0) rfl
    have f0 := blk_free hb2 0
    have f1 := blk_free hb2 1
    have f2 := blk_free hb2 2
    have n0 := blk_cell hb5 0 (.int .i64 0) rfl
    have n1 := blk_cell hb5 1 (.int .i64 0) rfl
    have n2 := blk_cell hb5 2 (.int .i64 0) rfl
    have HU := Lib.hid hu
    have HB2 := Lib.hid hb2
    have HB5 := Lib.hid hb5
    have HO := Lib.hid hown
    have HVS := Lib.hid hvs
    have HGO := Lib.hid hgo
    have HL0 : w.heap.size + 1 < wr.heap.size := (Array.getElem?_eq_some_iff.1 hb5).1
    by_cases hg : gk = 0
    · subst hg
      obtain rfl : k = 3 := by omega
      have hfin : R = rfin vs rest := by rw [HR.out, ← hgo]; rfl
      obtain ⟨p, q, r, rfl⟩ : ∃ p q r, vs = [p, q, r] := by
        match vs, hvs with
        | [p, q, r], _ => exact ⟨p, q, r, rfl⟩
      rcases hown.form with ⟨rfl, hls⟩ | ⟨g, cap, rfl, hg1, hg2, hcap⟩
      · cases hls
      have S0 := Lib.hid (hown.at 0 (by simp))
      have S1 := Lib.hid (hown.at 1 (by simp))
      have S2 := Lib.hid (hown.at 2 (by simp))
      simp only [List.getD_cons_zero, List.getD_cons_succ] at S0 S1 S2
      have HFIN := Lib.hid hfin
      clear hb2 hb5 hu hown hvs hgo hfin hcap hg1
      by_cases hr0 : rest = []
      · subst hr0
        have KN : R = if placeE p q r ≠ 0 then bad 8 else ((p, q, r), [], 0) := by rw [HFIN.out]; rfl
        have HK := Lib.hid KN
        clear KN
        clear c0 c1 c2 f0 f1 f2 n0 n1 n2
        have HU1 := Lib.hid HU.out
        have HB2' := HB2
        have HB5' := HB5
        have s0 := S0.out
        have s1 := S1.out
        have s2 := S2.out
        go_wp2_with fail
        go_region_held3 (fun w' => Up w w' ∧ w'.cell? ⟨g, 0, none⟩ = some (.int .i64 p) ∧ w'.cell? ⟨g, 1, none⟩ = some (.int .i64 q) ∧ w'.cell? ⟨g, 2, none⟩ = some (.int .i64 r)) (first | assumption | exact ⟨HU1.out.drew, s0, s1, s2⟩ | exact keepR ⟨HU1.out, s0, s1, s2⟩ (((Up.refl _).alloc _).drew) | exact keepR (by assumption) ((Up.refl _).alloc _)) (fail)
        clear s0 s1 s2
        have A := fun w => Lib.hid (rid_any p q r w)
        by_cases hpe : placeE p q r = 0
        · rw [hpe] at A
          have HR2 := Lib.hid (show R = ((p, q, r), ([] : Bs), 0) from by rw [HK.out, if_neg (by simp [hpe])])
          clear hpe
          generalize idV p q r = iv at A
          go_wp2_with fail
          refine (A _).out.mono ?_
          rintro e w6 ⟨rfl, hu6⟩
          have hb2 := hu6.obj (blk_alloc HB2'.out (.cells #[.int .i64 p, .int .i64 q, .int .i64 r] 23))
          have hb5 := hu6.obj (blk_alloc HB5'.out (.cells #[.int .i64 p, .int .i64 q, .int .i64 r] 23))
          have ht6 := hu6.obj (heap_alloc_new wr (.cells #[.int .i64 p, .int .i64 q, .int .i64 r] 23))
          have c0 := blk_cell hb2 0 (.int .i64 0) rfl
          have f0 := blk_free hb2 0
          have n0 := blk_cell hb5 0 (.int .i64 0) rfl
          have c1 := blk_cell hb2 1 (.int .i64 0) rfl
          have f1 := blk_free hb2 1
          have n1 := blk_cell hb5 1 (.int .i64 0) rfl
          have c2 := blk_cell hb2 2 (.int .i64 0) rfl
          have f2 := blk_free hb2 2
          have n2 := blk_cell hb5 2 (.int .i64 0) rfl
          have d0 := blk_cell ht6 0 (.int .i64 p) rfl
          have d1 := blk_cell ht6 1 (.int .i64 q) rfl
          have d2 := blk_cell ht6 2 (.int .i64 r) rfl
          have HU6 := Lib.hid (((HU1.out.alloc (.cells #[.int .i64 p, .int .i64 q, .int .i64 r] 23)).drew).trans hu6)
          clear hb2 hb5 ht6 hu6
          go_wp2_with fail
          refine bodyPost_ret (v := .tuple #[.agg #[.int .i64 p, .int .i64 q, .int .i64 r], .string ⟨List.toArray ([] : Bs)⟩, .int .i64 0]) (by simp [results, Tryd.results15, go_sem, c0, c1, c2]) rfl ?_
          rw [HR2.out]
          exact ⟨rfl, up_set3 HU6.out _ _ _⟩
        · have HR2 := Lib.hid (show R = bad 8 from by rw [HK.out, if_pos (by simp [hpe])])
          have hpe' : (placeE p q r != 0) = true := by rw [bne_iff_ne]; exact hpe
          clear hpe
          generalize placeE p q r = pe at A hpe' HK
          generalize idV p q r = iv at A
          go_wp2_with fail
          refine (A _).out.mono ?_
          rintro e w6 ⟨rfl, hu6⟩
          have hb2 := hu6.obj (blk_alloc HB2'.out (.cells #[.int .i64 p, .int .i64 q, .int .i64 r] 23))
          have hb5 := hu6.obj (blk_alloc HB5'.out (.cells #[.int .i64 p, .int .i64 q, .int .i64 r] 23))
          have ht6 := hu6.obj (heap_alloc_new wr (.cells #[.int .i64 p, .int .i64 q, .int .i64 r] 23))
          have c0 := blk_cell hb2 0 (.int .i64 0) rfl
          have f0 := blk_free hb2 0
          have n0 := blk_cell hb5 0 (.int .i64 0) rfl
          have c1 := blk_cell hb2 1 (.int .i64 0) rfl
          have f1 := blk_free hb2 1
          have n1 := blk_cell hb5 1 (.int .i64 0) rfl
          have c2 := blk_cell hb2 2 (.int .i64 0) rfl
          have f2 := blk_free hb2 2
          have n2 := blk_cell hb5 2 (.int .i64 0) rfl
          have d0 := blk_cell ht6 0 (.int .i64 p) rfl
          have d1 := blk_cell ht6 1 (.int .i64 q) rfl
          have d2 := blk_cell ht6 2 (.int .i64 r) rfl
          have HU6 := Lib.hid (((HU1.out.alloc (.cells #[.int .i64 p, .int .i64 q, .int .i64 r] 23)).drew).trans hu6)
          clear hb2 hb5 ht6 hu6
          go_wp2_with fail
          refine bodyPost_ret (v := .tuple #[.agg #[.int .i64 0, .int .i64 0, .int .i64 0], .string ⟨#[]⟩, .int .i64 8]) (by simp [results, Tryd.results15, go_sem, c0, c1, c2]) rfl ?_
          rw [HR2.out]
          exact ⟨rfl, up_set3 HU6.out _ _ _⟩
      obtain ⟨c, t, rfl⟩ : ∃ c t, rest = c :: t := by cases rest with
        | nil => exact absurd rfl hr0
        | cons c t => exact ⟨c, t, rfl⟩
      have hl0 : (0 : Int) < (t.length : Int) + 1 := by omega
      have hb0 : (⟨(c :: t).toArray⟩ : ByteArray)[0]'(by rw [size_mk]; simp) = c := rfl
      have htl : (t.length : Int) ≤ 63 := by simp at hrl; omega
      by_cases h46 : c = 46
      · subst h46
        have hx := extract_cons 46 t
        have KC := fun w => Lib.hid (rknown_any t w)
        clear hr0
        by_cases hk : knownB t = false
        · have KN : R = bad 14 := by rw [HFIN.out]; show (if true = true ∧ knownB t = false then _ else _) = _; rw [if_pos ⟨rfl, hk⟩]
          have HK := Lib.hid KN
          rw [hk] at KC
          clear KN hk
          go_wp2_with (go_at_call 20; refine (KC _).out.mono ?_; rintro e w5 ⟨rfl, hu5⟩; have HU1 := Lib.hid (HU.out.trans hu5); have HX5 := Lib.hid hu5; have hb2 := hu5.obj HB2.out; have hb5 := hu5.obj HB5.out; clear c0 c1 c2 f0 f1 f2 n0 n1 n2 hu5; have c0 := blk_cell hb2 0 (.int .i64 0) rfl; have c1 := blk_cell hb2 1 (.int .i64 0) rfl; have c2 := blk_cell hb2 2 (.int .i64 0) rfl; have f0 := blk_free hb2 0; have f1 := blk_free hb2 1; have f2 := blk_free hb2 2; have n0 := blk_cell hb5 0 (.int .i64 0) rfl; have n1 := blk_cell hb5 1 (.int .i64 0) rfl; have n2 := blk_cell hb5 2 (.int .i64 0) rfl; clear hb2 hb5)
          refine bodyPost_ret (v := .tuple #[.agg #[.int .i64 0, .int .i64 0, .int .i64 0], .string ⟨#[]⟩, .int .i64 14]) (by simp [results, Tryd.results15, go_sem, c0, c1, c2]) rfl ?_
          rw [HK.out]
          exact ⟨rfl, up_set3 HU1.out _ _ _⟩
        · have hkt : knownB t = true := by simpa using hk
          have KN : R = if placeE p q r ≠ 0 then bad 8 else ((p, q, r), t, 0) := by rw [HFIN.out]; show (if true = true ∧ knownB t = false then _ else _) = _; rw [if_neg (by simp [hkt])]; rfl
          have HK := Lib.hid KN
          rw [hkt] at KC
          clear KN hk hkt
          go_wp2_with (go_at_call 20; refine (KC _).out.mono ?_; rintro e w5 ⟨rfl, hu5⟩)
          clear c0 c1 c2 f0 f1 f2 n0 n1 n2
          have s0 := hu5.cell S0.out
          have s1 := hu5.cell S1.out
          have s2 := hu5.cell S2.out
          have HU1 := Lib.hid (HU.out.trans hu5)
          have HB2' := Lib.hid (hu5.obj HB2.out)
          have HB5' := Lib.hid (hu5.obj HB5.out)
          clear hu5
          go_region_held3 (fun w' => Up w w' ∧ w'.cell? ⟨g, 0, none⟩ = some (.int .i64 p) ∧ w'.cell? ⟨g, 1, none⟩ = some (.int .i64 q) ∧ w'.cell? ⟨g, 2, none⟩ = some (.int .i64 r)) (first | assumption | exact ⟨HU1.out.drew, s0, s1, s2⟩ | exact keepR ⟨HU1.out, s0, s1, s2⟩ (((Up.refl _).alloc _).drew) | exact keepR (by assumption) ((Up.refl _).alloc _)) (fail)
          clear s0 s1 s2
          have A := fun w => Lib.hid (rid_any p q r w)
          by_cases hpe : placeE p q r = 0
          · rw [hpe] at A
            have HR2 := Lib.hid (show R = ((p, q, r), t, 0) from by rw [HK.out, if_neg (by simp [hpe])])
            clear hpe
            generalize idV p q r = iv at A
            go_wp2_with fail
            refine (A _).out.mono ?_
            rintro e w6 ⟨rfl, hu6⟩
            have hb2 := hu6.obj (blk_alloc HB2'.out (.cells #[.int .i64 p, .int .i64 q, .int .i64 r] 23))
            have hb5 := hu6.obj (blk_alloc HB5'.out (.cells #[.int .i64 p, .int .i64 q, .int .i64 r] 23))
            have ht6 := hu6.obj (heap_alloc_new w5 (.cells #[.int .i64 p, .int .i64 q, .int .i64 r] 23))
            have c0 := blk_cell hb2 0 (.int .i64 0) rfl
            have f0 := blk_free hb2 0
            have n0 := blk_cell hb5 0 (.int .i64 0) rfl
            have c1 := blk_cell hb2 1 (.int .i64 0) rfl
            have f1 := blk_free hb2 1
            have n1 := blk_cell hb5 1 (.int .i64 0) rfl
            have c2 := blk_cell hb2 2 (.int .i64 0) rfl
            have f2 := blk_free hb2 2
            have n2 := blk_cell hb5 2 (.int .i64 0) rfl
            have d0 := blk_cell ht6 0 (.int .i64 p) rfl
            have d1 := blk_cell ht6 1 (.int .i64 q) rfl
            have d2 := blk_cell ht6 2 (.int .i64 r) rfl
            have HU6 := Lib.hid (((HU1.out.alloc (.cells #[.int .i64 p, .int .i64 q, .int .i64 r] 23)).drew).trans hu6)
            clear hb2 hb5 ht6 hu6
            go_wp2_with fail
            refine bodyPost_ret (v := .tuple #[.agg #[.int .i64 p, .int .i64 q, .int .i64 r], .string ⟨List.toArray t⟩, .int .i64 0]) (by simp [results, Tryd.results15, go_sem, c0, c1, c2]) rfl ?_
            rw [HR2.out]
            exact ⟨rfl, up_set3 HU6.out _ _ _⟩
          · have HR2 := Lib.hid (show R = bad 8 from by rw [HK.out, if_pos (by simp [hpe])])
            have hpe' : (placeE p q r != 0) = true := by rw [bne_iff_ne]; exact hpe
            clear hpe
            generalize placeE p q r = pe at A hpe' HK
            generalize idV p q r = iv at A
            go_wp2_with fail
            refine (A _).out.mono ?_
            rintro e w6 ⟨rfl, hu6⟩
            have hb2 := hu6.obj (blk_alloc HB2'.out (.cells #[.int .i64 p, .int .i64 q, .int .i64 r] 23))
            have hb5 := hu6.obj (blk_alloc HB5'.out (.cells #[.int .i64 p, .int .i64 q, .int .i64 r] 23))
            have ht6 := hu6.obj (heap_alloc_new w5 (.cells #[.int .i64 p, .int .i64 q, .int .i64 r] 23))
            have c0 := blk_cell hb2 0 (.int .i64 0) rfl
            have f0 := blk_free hb2 0
            have n0 := blk_cell hb5 0 (.int .i64 0) rfl
            have c1 := blk_cell hb2 1 (.int .i64 0) rfl
            have f1 := blk_free hb2 1
            have n1 := blk_cell hb5 1 (.int .i64 0) rfl
            have c2 := blk_cell hb2 2 (.int .i64 0) rfl
            have f2 := blk_free hb2 2
            have n2 := blk_cell hb5 2 (.int .i64 0) rfl
            have d0 := blk_cell ht6 0 (.int .i64 p) rfl
            have d1 := blk_cell ht6 1 (.int .i64 q) rfl
            have d2 := blk_cell ht6 2 (.int .i64 r) rfl
            have HU6 := Lib.hid (((HU1.out.alloc (.cells #[.int .i64 p, .int .i64 q, .int .i64 r] 23)).drew).trans hu6)
            clear hb2 hb5 ht6 hu6
            go_wp2_with fail
            refine bodyPost_ret (v := .tuple #[.agg #[.int .i64 0, .int .i64 0, .int .i64 0], .string ⟨#[]⟩, .int .i64 8]) (by simp [results, Tryd.results15, go_sem, c0, c1, c2]) rfl ?_
            rw [HR2.out]
            exact ⟨rfl, up_set3 HU6.out _ _ _⟩
      · have b46' : ((c.toNat : Int) != 46) = true := by rw [bne_iff_ne]; intro e; exact h46 (UInt8.toNat.inj (by show c.toNat = 46; omega))
        have KN : R = bad 4 := by
          rw [HFIN.out]
          have : tail3 (c :: t) = none := by
            unfold tail3
            split
            · rename_i heq; cases heq
            · rename_i heq; injection heq with h1; exact absurd h1 h46
            · rfl
          unfold rfin
          rw [this]
        have HF := Lib.hid KN
        clear KN h46 hr0
        go_wp2_with fail
        refine bodyPost_ret (v := .tuple #[.agg #[.int .i64 0, .int .i64 0, .int .i64 0], .string ⟨#[]⟩, .int .i64 4]) (by simp [results, Tryd.results15, go_sem, c0, c1, c2]) rfl ?_
        rw [HF.out]
        exact ⟨rfl, up_set3 HU.out _ _ _⟩
    obtain ⟨m, rfl⟩ : ∃ m, gk = m + 1 := ⟨gk - 1, by omega⟩
    have hk3 : (k : Int) < 3 := by omega
    have hFail : Gz.part rest = none → R = bad 4 := by
      intro hp
      rw [HR.out, ← hgo]
      unfold rgo
      rw [hp]
    clear hb2 hb5 hu hown hvs hgo
    by_cases hr0 : rest = []
    · subst hr0
      have HF := Lib.hid (hFail rfl)
      clear hFail
      go_wp2_with fail
      refine bodyPost_ret (v := .tuple #[.agg #[.int .i64 0, .int .i64 0, .int .i64 0], .string ⟨#[]⟩, .int .i64 4]) (by simp [results, Tryd.results15, go_sem, c0, c1, c2]) rfl ?_
      rw [HF.out]
      exact ⟨rfl, up_set3 HU.out _ _ _⟩
    obtain ⟨c, t, rfl⟩ : ∃ c t, rest = c :: t := by cases rest with
      | nil => exact absurd rfl hr0
      | cons c t => exact ⟨c, t, rfl⟩
    have hl0 : ((t.length : Int) + 1 == 0) = false := by rw [beq_eq_false_iff_ne]; omega
    have hb0 : (⟨(c :: t).toArray⟩ : ByteArray)[0]'(by rw [size_mk]; simp) = c := rfl
    have htl : (t.length : Int) ≤ 63 := by simp at hrl; omega
    by_cases h47 : c = 47
    · subst h47
      have hx := extract_cons 47 t
      have hgo2 : R = if numE (t.takeWhile dig) = 4 then bad 4 else rgo m (vs ++ [ovr (t.takeWhile dig)]) (t.dropWhile dig) := by
        rw [HR.out, ← HGO.out]
        conv => lhs; unfold rgo
        rfl
      have HG2 := Lib.hid hgo2
      have NN := fun w => Lib.hid (rnumber_any t (by omega) w)
      have hout : numOut t = if numE (t.takeWhile dig) = 4 then .tuple #[.int .i64 0, .string ⟨#[]⟩, .int .i64 4] else .tuple #[.int .i64 (ovr (t.takeWhile dig)), .string ⟨(t.dropWhile dig).toArray⟩, .int .i64 0] := rfl
      have hdl : (t.dropWhile dig).length ≤ 63 := by
        have := (List.dropWhile_sublist (p := dig) (l := t)).length_le; omega
      have HDL := Lib.hid hdl
      clear hFail hgo2 hr0 hdl
      by_cases e : numE (t.takeWhile dig) = 4
      · rw [if_pos e] at hout
        have HO1 := Lib.hid hout
        have HE := Lib.hid e
        clear hout e
        go_wp2_with fail
        refine (NN _).out.mono ?_
        rintro e w1 ⟨rfl, nq, rfl⟩
        rw [HO1.out]
        go_wp2_with fail
        refine bodyPost_ret (v := .tuple #[.agg #[.int .i64 0, .int .i64 0, .int .i64 0], .string ⟨#[]⟩, .int .i64 4]) (by simp [results, Tryd.results15, go_sem, c0, c1, c2]) rfl ?_
        rw [HG2.out, if_pos HE.out]
        exact ⟨rfl, up_set3 (HU.out.drewN _) _ _ _⟩
      · rw [if_neg e] at hout
        have HO1 := Lib.hid hout
        have HE := Lib.hid e
        clear hout e
        generalize ovr (t.takeWhile dig) = ov at *
        generalize t.dropWhile dig = rs at *
        go_wp2_with fail
        refine (NN _).out.mono ?_
        rintro e w1 ⟨rfl, nq, rfl⟩
        rw [HO1.out]
        have ho1 : OwnI (wr.drewN nq) (w.heap.size + 2) u6 vs := HO.out
        have HO2 := Lib.hid ho1
        clear ho1
        go_wp2_with (at_builtin; refine app_one (wr.drewN nq) rfl _ _ 97 rfl (w.heap.size + 2) 3 i0 _ 1 8 Tryd.underlying97 hi hz0 hz1 hz2 rfl (by decide) _ _ _ HO2.out rfl #[.int .i64 ov] rfl rfl (by simp [Value.oneCell']) (by have := HVS.out; omega) (by omega) (by simp; omega) ?_; intro v3 w3 ho3 hg3 hb3)
        go_roundg m
        case measure => omega
        case rel =>
          have hbl : ∀ j o, j < w.heap.size + 2 → wr.heap[j]? = some o → w3.heap[j]? = some o := fun j o hj ho => (hb3.block j hj).trans ho
          refine ⟨k + 1, vs ++ [ov], rs, by omega, by go_num, by simp [HVS.out], rfl, by have := HDL.out; omega, ?_, by simpa [OwnI] using ho3, Up.base (HU.out.drewN nq) (by omega) hb3, hbl _ _ (by omega) HB2.out, hbl _ _ (by omega) HB5.out⟩
          rw [← HR.out, HG2.out, if_neg HE.out]
    · have b47 : ((c.toNat : Int) == 47) = false := by
        rw [beq_eq_false_iff_ne]; intro e; exact h47 (UInt8.toNat.inj (by show c.toNat = 47; omega))
      have b47' : ((c.toNat : Int) != 47) = true := by rw [bne_iff_ne]; intro e; exact h47 (UInt8.toNat.inj (by show c.toNat = 47; omega))
      have HF := Lib.hid (hFail (by
        unfold Gz.part
        split
        · rename_i heq; injection heq with h1; exact absurd h1 h47
        · rfl))
      clear hFail h47 hr0
      go_wp2_with fail
      refine bodyPost_ret (v := .tuple #[.agg #[.int .i64 0, .int .i64 0, .int .i64 0], .string ⟨#[]⟩, .int .i64 4]) (by simp [results, Tryd.results15, go_sem, c0, c1, c2]) rfl ?_
      rw [HF.out]
      exact ⟨rfl, up_set3 HU.out _ _ _⟩
theorem rparse_any (l : Bs) (h2 : l.length ≤ 1000000) (w : World) :
    Calls Tryd.prog 15 #[.string ⟨l.toArray⟩] w (ParEnd w (rt l)) := by
  by_cases h : 64 < l.length
  · exact rparse_early l h h2 w
  · exact rparse_late l h w
end Go.Proofs.YteeenbhmdacdiaaDoor
