/- Walks: the law RangesBack. -/
import Derived.Test.YteeenbhmdacdiaaDoorWlaw24
import Derived.Test.YteeenbhmdacdiaaDoorPlaw24
namespace Go.Proofs.YteeenbhmdacdiaaDoor
open Go.RowKit Go.Gz

set_option maxRecDepth 100000
set_option maxHeartbeats 8000000 in
theorem rback24_00 (f t n : Int) (l : Bs) (h1 : ¬ l.length > 300) (w : World) (hg : Gm w) (hp : chk f t = 8) (hq : ¬ (askedV l).2 = 0) (hz : ¬ (tellV l).2.2 = 0) :
    Calls Tryd.prog 8 #[.agg #[.int .i64 f, .int .i64 t], .int .i64 n, .string ⟨l.toArray⟩] w fun e w' => e = .returned (.bool true) ∧ Up w w' := by
  have AW := fun w hg => Lib.hid (awake24 w hg)
  have A1 := fun w hg => Lib.hid (ask_any f t w hg)
  rw [show askR f t = ([], 8) by unfold askR; rw [if_pos (by omega)]] at A1
  have A2 := fun w hg => Lib.hid (told_any f t n w hg)
  rw [show toldR f t n = ([], 8) by unfold toldR wrongV; rw [if_pos (by rw [if_pos (by omega)]; decide)]] at A2
  clear hp
  have C1 := fun w hg => Lib.hid (asked_any l (by omega) w hg)
  have C2 := fun w hg => Lib.hid (tell_w l (by omega) w hg)
  have hq1 := asked_bad hq
  have hqb : ((askedV l).2 == 0) = false := by rw [beq_eq_false_iff_ne]; exact hq
  clear hq
  generalize askedV l = av at *
  obtain ⟨⟨qf, qt⟩, qe⟩ := av
  simp only [Prod.mk.injEq] at hq1
  obtain ⟨rfl, rfl⟩ := hq1
  simp only at hqb C1
  have hzb : ((tellV l).2.2 == 0) = false := by rw [beq_eq_false_iff_ne]; exact hz
  clear hz
  generalize tellV l = tv at *
  obtain ⟨⟨zf, zt⟩, zn, ze⟩ := tv
  simp only at hzb C2
  go_enter Tryd.func8, Tryd.ntmps8
  have HU := Lib.hid (Up.refl w)
  have n0 := new2 w 42 f t
  replace HU := Lib.hid (HU.out.trans n0.1)
  have r0 := n0.2.1
  have r1 := n0.2.2
  clear n0
  have n0 := new2 (w.alloc (.cells #[.int .i64 f, .int .i64 t] 42)) 43 f t
  replace HU := Lib.hid (HU.out.trans n0.1)
  replace r0 := n0.1.cell r0
  replace r1 := n0.1.cell r1
  have x0 := n0.2.1
  have x1 := n0.2.2
  clear n0
  have hsz : (w.alloc (.cells #[.int .i64 f, .int .i64 t] 42)).heap.size = w.heap.size + 1 := by simp
  rw [hsz] at x0 x1
  clear hsz
  go_wp2_with fail
  refine (A1 _ (hg.1.up HU.out)).out.mono ?_
  rintro e w1 ⟨rfl, hu⟩
  replace r0 := hu.cell r0
  replace r1 := hu.cell r1
  replace x0 := hu.cell x0
  replace x1 := hu.cell x1
  replace HU := Lib.hid (HU.out.trans hu)
  clear hu
  go_wp2_with fail
  refine (A2 _ (hg.1.up HU.out)).out.mono ?_
  rintro e w2 ⟨rfl, hu⟩
  replace r0 := hu.cell r0
  replace r1 := hu.cell r1
  replace x0 := hu.cell x0
  replace x1 := hu.cell x1
  replace HU := Lib.hid (HU.out.trans hu)
  clear hu
  go_wp2_with fail
  refine (C1 _ (hg.up HU.out)).out.mono ?_
  rintro e w3 ⟨rfl, hu⟩
  replace r0 := hu.cell r0
  replace r1 := hu.cell r1
  replace x0 := hu.cell x0
  replace x1 := hu.cell x1
  replace HU := Lib.hid (HU.out.trans hu)
  clear hu
  clear r0 r1
  clear x0 x1
  have n0 := new2 w3 43 0 0
  replace HU := Lib.hid (HU.out.trans n0.1)
  have u0 := n0.2.1
  have u1 := n0.2.2
  clear n0
  go_wp2_with fail
  refine (C2 _ (hg.up HU.out)).out.mono ?_
  rintro e w4 ⟨rfl, hu⟩
  replace u0 := hu.cell u0
  replace u1 := hu.cell u1
  replace HU := Lib.hid (HU.out.trans hu)
  clear hu
  clear u0 u1
  have n0 := new2 w4 43 zf zt
  replace HU := Lib.hid (HU.out.trans n0.1)
  have v0 := n0.2.1
  have v1 := n0.2.2
  clear n0
  go_wp2_with fail
  refine (AW _ (hg.up HU.out)).out.mono ?_
  rintro e w5 ⟨rfl, hu⟩
  replace v0 := hu.cell v0
  replace v1 := hu.cell v1
  replace HU := Lib.hid (HU.out.trans hu)
  clear hu
  go_wp2_with fail
  go_ret
  exact ⟨rfl, HU.out⟩
set_option maxHeartbeats 8000000 in
theorem rback24_01 (f t n : Int) (l : Bs) (h1 : ¬ l.length > 300) (w : World) (hg : Gm w) (hp : chk f t = 8) (hq : (askedV l).2 = 0) :
    Calls Tryd.prog 8 #[.agg #[.int .i64 f, .int .i64 t], .int .i64 n, .string ⟨l.toArray⟩] w fun e w' => e = .returned (.bool true) ∧ Up w w' := by
  have AW := fun w hg => Lib.hid (awake24 w hg)
  have A1 := fun w hg => Lib.hid (ask_any f t w hg)
  rw [show askR f t = ([], 8) by unfold askR; rw [if_pos (by omega)]] at A1
  have A2 := fun w hg => Lib.hid (told_any f t n w hg)
  rw [show toldR f t n = ([], 8) by unfold toldR wrongV; rw [if_pos (by rw [if_pos (by omega)]; decide)]] at A2
  clear hp
  have C1 := fun w hg => Lib.hid (asked_any l (by omega) w hg)
  have C2 := fun w hg => Lib.hid (tell_w l (by omega) w hg)
  have hz : ¬ (tellV l).2.2 = 0 := not_both hq
  obtain ⟨qf, qt, e1, e2, e3⟩ := ask_asked hq
  rw [e1] at C1
  have D1 := fun w hg => Lib.hid (ask_any qf qt w hg)
  rw [show askR qf qt = (l, 0) by unfold askR; rw [if_neg (by omega), e3]] at D1
  clear e1 e2 e3 hq
  have hzb : ((tellV l).2.2 == 0) = false := by rw [beq_eq_false_iff_ne]; exact hz
  clear hz
  generalize tellV l = tv at *
  obtain ⟨⟨zf, zt⟩, zn, ze⟩ := tv
  simp only at hzb C2
  go_enter Tryd.func8, Tryd.ntmps8
  have HU := Lib.hid (Up.refl w)
  have n0 := new2 w 42 f t
  replace HU := Lib.hid (HU.out.trans n0.1)
  have r0 := n0.2.1
  have r1 := n0.2.2
  clear n0
  have n0 := new2 (w.alloc (.cells #[.int .i64 f, .int .i64 t] 42)) 43 f t
  replace HU := Lib.hid (HU.out.trans n0.1)
  replace r0 := n0.1.cell r0
  replace r1 := n0.1.cell r1
  have x0 := n0.2.1
  have x1 := n0.2.2
  clear n0
  have hsz : (w.alloc (.cells #[.int .i64 f, .int .i64 t] 42)).heap.size = w.heap.size + 1 := by simp
  rw [hsz] at x0 x1
  clear hsz
  go_wp2_with fail
  refine (A1 _ (hg.1.up HU.out)).out.mono ?_
  rintro e w1 ⟨rfl, hu⟩
  replace r0 := hu.cell r0
  replace r1 := hu.cell r1
  replace x0 := hu.cell x0
  replace x1 := hu.cell x1
  replace HU := Lib.hid (HU.out.trans hu)
  clear hu
  go_wp2_with fail
  refine (A2 _ (hg.1.up HU.out)).out.mono ?_
  rintro e w2 ⟨rfl, hu⟩
  replace r0 := hu.cell r0
  replace r1 := hu.cell r1
  replace x0 := hu.cell x0
  replace x1 := hu.cell x1
  replace HU := Lib.hid (HU.out.trans hu)
  clear hu
  go_wp2_with fail
  refine (C1 _ (hg.up HU.out)).out.mono ?_
  rintro e w3 ⟨rfl, hu⟩
  replace r0 := hu.cell r0
  replace r1 := hu.cell r1
  replace x0 := hu.cell x0
  replace x1 := hu.cell x1
  replace HU := Lib.hid (HU.out.trans hu)
  clear hu
  clear r0 r1
  clear x0 x1
  have n0 := new2 w3 43 qf qt
  replace HU := Lib.hid (HU.out.trans n0.1)
  have u0 := n0.2.1
  have u1 := n0.2.2
  clear n0
  go_wp2_with fail
  refine (D1 _ (hg.1.up HU.out)).out.mono ?_
  rintro e w4 ⟨rfl, hu⟩
  replace u0 := hu.cell u0
  replace u1 := hu.cell u1
  replace HU := Lib.hid (HU.out.trans hu)
  clear hu
  go_wp2_with fail
  refine (C2 _ (hg.up HU.out)).out.mono ?_
  rintro e w5 ⟨rfl, hu⟩
  replace u0 := hu.cell u0
  replace u1 := hu.cell u1
  replace HU := Lib.hid (HU.out.trans hu)
  clear hu
  clear u0 u1
  have n0 := new2 w5 43 zf zt
  replace HU := Lib.hid (HU.out.trans n0.1)
  have v0 := n0.2.1
  have v1 := n0.2.2
  clear n0
  go_wp2_with fail
  refine (AW _ (hg.up HU.out)).out.mono ?_
  rintro e w6 ⟨rfl, hu⟩
  replace v0 := hu.cell v0
  replace v1 := hu.cell v1
  replace HU := Lib.hid (HU.out.trans hu)
  clear hu
  go_wp2_with fail
  go_ret
  exact ⟨rfl, HU.out⟩
set_option maxHeartbeats 8000000 in
theorem rback24_02 (f t n : Int) (l : Bs) (h1 : ¬ l.length > 300) (w : World) (hg : Gm w) (hp : chk f t = 8) (hq : ¬ (askedV l).2 = 0) (hz : (tellV l).2.2 = 0) :
    Calls Tryd.prog 8 #[.agg #[.int .i64 f, .int .i64 t], .int .i64 n, .string ⟨l.toArray⟩] w fun e w' => e = .returned (.bool true) ∧ Up w w' := by
  have AW := fun w hg => Lib.hid (awake24 w hg)
  have A1 := fun w hg => Lib.hid (ask_any f t w hg)
  rw [show askR f t = ([], 8) by unfold askR; rw [if_pos (by omega)]] at A1
  have A2 := fun w hg => Lib.hid (told_any f t n w hg)
  rw [show toldR f t n = ([], 8) by unfold toldR wrongV; rw [if_pos (by rw [if_pos (by omega)]; decide)]] at A2
  clear hp
  have C1 := fun w hg => Lib.hid (asked_any l (by omega) w hg)
  have C2 := fun w hg => Lib.hid (tell_w l (by omega) w hg)
  have hq1 := asked_bad hq
  have hqb : ((askedV l).2 == 0) = false := by rw [beq_eq_false_iff_ne]; exact hq
  clear hq
  generalize askedV l = av at *
  obtain ⟨⟨qf, qt⟩, qe⟩ := av
  simp only [Prod.mk.injEq] at hq1
  obtain ⟨rfl, rfl⟩ := hq1
  simp only at hqb C1
  obtain ⟨zf, zt, zn, e1, e2, e3⟩ := told_tell hz
  rw [e1] at C2
  have D2 := fun w hg => Lib.hid (told_any zf zt zn w hg)
  rw [show toldR zf zt zn = (l, 0) by unfold toldR; rw [if_neg (by omega), ← e3]] at D2
  clear e1 e2 e3 hz
  go_enter Tryd.func8, Tryd.ntmps8
  have HU := Lib.hid (Up.refl w)
  have n0 := new2 w 42 f t
  replace HU := Lib.hid (HU.out.trans n0.1)
  have r0 := n0.2.1
  have r1 := n0.2.2
  clear n0
  have n0 := new2 (w.alloc (.cells #[.int .i64 f, .int .i64 t] 42)) 43 f t
  replace HU := Lib.hid (HU.out.trans n0.1)
  replace r0 := n0.1.cell r0
  replace r1 := n0.1.cell r1
  have x0 := n0.2.1
  have x1 := n0.2.2
  clear n0
  have hsz : (w.alloc (.cells #[.int .i64 f, .int .i64 t] 42)).heap.size = w.heap.size + 1 := by simp
  rw [hsz] at x0 x1
  clear hsz
  go_wp2_with fail
  refine (A1 _ (hg.1.up HU.out)).out.mono ?_
  rintro e w1 ⟨rfl, hu⟩
  replace r0 := hu.cell r0
  replace r1 := hu.cell r1
  replace x0 := hu.cell x0
  replace x1 := hu.cell x1
  replace HU := Lib.hid (HU.out.trans hu)
  clear hu
  go_wp2_with fail
  refine (A2 _ (hg.1.up HU.out)).out.mono ?_
  rintro e w2 ⟨rfl, hu⟩
  replace r0 := hu.cell r0
  replace r1 := hu.cell r1
  replace x0 := hu.cell x0
  replace x1 := hu.cell x1
  replace HU := Lib.hid (HU.out.trans hu)
  clear hu
  go_wp2_with fail
  refine (C1 _ (hg.up HU.out)).out.mono ?_
  rintro e w3 ⟨rfl, hu⟩
  replace r0 := hu.cell r0
  replace r1 := hu.cell r1
  replace x0 := hu.cell x0
  replace x1 := hu.cell x1
  replace HU := Lib.hid (HU.out.trans hu)
  clear hu
  clear r0 r1
  clear x0 x1
  have n0 := new2 w3 43 0 0
  replace HU := Lib.hid (HU.out.trans n0.1)
  have u0 := n0.2.1
  have u1 := n0.2.2
  clear n0
  go_wp2_with fail
  refine (C2 _ (hg.up HU.out)).out.mono ?_
  rintro e w4 ⟨rfl, hu⟩
  replace u0 := hu.cell u0
  replace u1 := hu.cell u1
  replace HU := Lib.hid (HU.out.trans hu)
  clear hu
  clear u0 u1
  have n0 := new2 w4 43 zf zt
  replace HU := Lib.hid (HU.out.trans n0.1)
  have v0 := n0.2.1
  have v1 := n0.2.2
  clear n0
  go_wp2_with fail
  refine (D2 _ (hg.1.up HU.out)).out.mono ?_
  rintro e w5 ⟨rfl, hu⟩
  replace v0 := hu.cell v0
  replace v1 := hu.cell v1
  replace HU := Lib.hid (HU.out.trans hu)
  clear hu
  go_wp2_with fail
  refine (AW _ (hg.up HU.out)).out.mono ?_
  rintro e w6 ⟨rfl, hu⟩
  replace v0 := hu.cell v0
  replace v1 := hu.cell v1
  replace HU := Lib.hid (HU.out.trans hu)
  clear hu
  go_wp2_with fail
  go_ret
  exact ⟨rfl, HU.out⟩
set_option maxHeartbeats 8000000 in
theorem rback24_10 (f t n : Int) (l : Bs) (h1 : ¬ l.length > 300) (w : World) (hg : Gm w) (hp : chk f t = 0) (hw : wrongV f t n = 8) (hq : ¬ (askedV l).2 = 0) (hz : ¬ (tellV l).2.2 = 0) :
    Calls Tryd.prog 8 #[.agg #[.int .i64 f, .int .i64 t], .int .i64 n, .string ⟨l.toArray⟩] w fun e w' => e = .returned (.bool true) ∧ Up w w' := by
  have AW := fun w hg => Lib.hid (awake24 w hg)
  have A1 := fun w hg => Lib.hid (ask_any f t w hg)
  rw [show askR f t = ([98, 121, 116, 101, 115, 61] ++ textR f t, 0) by unfold askR; rw [if_neg (by omega)]] at A1
  have B1 := fun w hg => Lib.hid (asked_any ([98, 121, 116, 101, 115, 61] ++ textR f t) (by have := text_len hp; simp; omega) w hg)
  rw [asked_ask hp] at B1
  have A2 := fun w hg => Lib.hid (told_any f t n w hg)
  rw [show toldR f t n = ([], 8) by unfold toldR; rw [if_pos (by omega)]] at A2
  clear hw
  generalize [98, 121, 116, 101, 115, 61] ++ textR f t = sa at *
  clear hp
  have C1 := fun w hg => Lib.hid (asked_any l (by omega) w hg)
  have C2 := fun w hg => Lib.hid (tell_w l (by omega) w hg)
  have hq1 := asked_bad hq
  have hqb : ((askedV l).2 == 0) = false := by rw [beq_eq_false_iff_ne]; exact hq
  clear hq
  generalize askedV l = av at *
  obtain ⟨⟨qf, qt⟩, qe⟩ := av
  simp only [Prod.mk.injEq] at hq1
  obtain ⟨rfl, rfl⟩ := hq1
  simp only at hqb C1
  have hzb : ((tellV l).2.2 == 0) = false := by rw [beq_eq_false_iff_ne]; exact hz
  clear hz
  generalize tellV l = tv at *
  obtain ⟨⟨zf, zt⟩, zn, ze⟩ := tv
  simp only at hzb C2
  go_enter Tryd.func8, Tryd.ntmps8
  have HU := Lib.hid (Up.refl w)
  have n0 := new2 w 42 f t
  replace HU := Lib.hid (HU.out.trans n0.1)
  have r0 := n0.2.1
  have r1 := n0.2.2
  clear n0
  have n0 := new2 (w.alloc (.cells #[.int .i64 f, .int .i64 t] 42)) 43 f t
  replace HU := Lib.hid (HU.out.trans n0.1)
  replace r0 := n0.1.cell r0
  replace r1 := n0.1.cell r1
  have x0 := n0.2.1
  have x1 := n0.2.2
  clear n0
  have hsz : (w.alloc (.cells #[.int .i64 f, .int .i64 t] 42)).heap.size = w.heap.size + 1 := by simp
  rw [hsz] at x0 x1
  clear hsz
  go_wp2_with fail
  refine (A1 _ (hg.1.up HU.out)).out.mono ?_
  rintro e w1 ⟨rfl, hu⟩
  replace r0 := hu.cell r0
  replace r1 := hu.cell r1
  replace x0 := hu.cell x0
  replace x1 := hu.cell x1
  replace HU := Lib.hid (HU.out.trans hu)
  clear hu
  go_wp2_with fail
  refine (B1 _ (hg.up HU.out)).out.mono ?_
  rintro e w2 ⟨rfl, hu⟩
  replace r0 := hu.cell r0
  replace r1 := hu.cell r1
  replace x0 := hu.cell x0
  replace x1 := hu.cell x1
  replace HU := Lib.hid (HU.out.trans hu)
  clear hu
  have n0 := new2 w2 43 f t
  replace HU := Lib.hid (HU.out.trans n0.1)
  replace r0 := n0.1.cell r0
  replace r1 := n0.1.cell r1
  replace x0 := n0.1.cell x0
  replace x1 := n0.1.cell x1
  have y0 := n0.2.1
  have y1 := n0.2.2
  clear n0
  go_wp2_with fail
  refine (A2 _ (hg.1.up HU.out)).out.mono ?_
  rintro e w3 ⟨rfl, hu⟩
  replace r0 := hu.cell r0
  replace r1 := hu.cell r1
  replace x0 := hu.cell x0
  replace x1 := hu.cell x1
  replace y0 := hu.cell y0
  replace y1 := hu.cell y1
  replace HU := Lib.hid (HU.out.trans hu)
  clear hu
  clear y0 y1
  go_wp2_with fail
  refine (C1 _ (hg.up HU.out)).out.mono ?_
  rintro e w4 ⟨rfl, hu⟩
  replace r0 := hu.cell r0
  replace r1 := hu.cell r1
  replace x0 := hu.cell x0
  replace x1 := hu.cell x1
  replace HU := Lib.hid (HU.out.trans hu)
  clear hu
  clear r0 r1
  clear x0 x1
  have n0 := new2 w4 43 0 0
  replace HU := Lib.hid (HU.out.trans n0.1)
  have u0 := n0.2.1
  have u1 := n0.2.2
  clear n0
  go_wp2_with fail
  refine (C2 _ (hg.up HU.out)).out.mono ?_
  rintro e w5 ⟨rfl, hu⟩
  replace u0 := hu.cell u0
  replace u1 := hu.cell u1
  replace HU := Lib.hid (HU.out.trans hu)
  clear hu
  clear u0 u1
  have n0 := new2 w5 43 zf zt
  replace HU := Lib.hid (HU.out.trans n0.1)
  have v0 := n0.2.1
  have v1 := n0.2.2
  clear n0
  go_wp2_with fail
  refine (AW _ (hg.up HU.out)).out.mono ?_
  rintro e w6 ⟨rfl, hu⟩
  replace v0 := hu.cell v0
  replace v1 := hu.cell v1
  replace HU := Lib.hid (HU.out.trans hu)
  clear hu
  go_wp2_with fail
  go_ret
  exact ⟨rfl, HU.out⟩
set_option maxHeartbeats 8000000 in
theorem rback24_11 (f t n : Int) (l : Bs) (h1 : ¬ l.length > 300) (w : World) (hg : Gm w) (hp : chk f t = 0) (hw : wrongV f t n = 8) (hq : (askedV l).2 = 0) :
    Calls Tryd.prog 8 #[.agg #[.int .i64 f, .int .i64 t], .int .i64 n, .string ⟨l.toArray⟩] w fun e w' => e = .returned (.bool true) ∧ Up w w' := by
  have AW := fun w hg => Lib.hid (awake24 w hg)
  have A1 := fun w hg => Lib.hid (ask_any f t w hg)
  rw [show askR f t = ([98, 121, 116, 101, 115, 61] ++ textR f t, 0) by unfold askR; rw [if_neg (by omega)]] at A1
  have B1 := fun w hg => Lib.hid (asked_any ([98, 121, 116, 101, 115, 61] ++ textR f t) (by have := text_len hp; simp; omega) w hg)
  rw [asked_ask hp] at B1
  have A2 := fun w hg => Lib.hid (told_any f t n w hg)
  rw [show toldR f t n = ([], 8) by unfold toldR; rw [if_pos (by omega)]] at A2
  clear hw
  generalize [98, 121, 116, 101, 115, 61] ++ textR f t = sa at *
  clear hp
  have C1 := fun w hg => Lib.hid (asked_any l (by omega) w hg)
  have C2 := fun w hg => Lib.hid (tell_w l (by omega) w hg)
  have hz : ¬ (tellV l).2.2 = 0 := not_both hq
  obtain ⟨qf, qt, e1, e2, e3⟩ := ask_asked hq
  rw [e1] at C1
  have D1 := fun w hg => Lib.hid (ask_any qf qt w hg)
  rw [show askR qf qt = (l, 0) by unfold askR; rw [if_neg (by omega), e3]] at D1
  clear e1 e2 e3 hq
  have hzb : ((tellV l).2.2 == 0) = false := by rw [beq_eq_false_iff_ne]; exact hz
  clear hz
  generalize tellV l = tv at *
  obtain ⟨⟨zf, zt⟩, zn, ze⟩ := tv
  simp only at hzb C2
  go_enter Tryd.func8, Tryd.ntmps8
  have HU := Lib.hid (Up.refl w)
  have n0 := new2 w 42 f t
  replace HU := Lib.hid (HU.out.trans n0.1)
  have r0 := n0.2.1
  have r1 := n0.2.2
  clear n0
  have n0 := new2 (w.alloc (.cells #[.int .i64 f, .int .i64 t] 42)) 43 f t
  replace HU := Lib.hid (HU.out.trans n0.1)
  replace r0 := n0.1.cell r0
  replace r1 := n0.1.cell r1
  have x0 := n0.2.1
  have x1 := n0.2.2
  clear n0
  have hsz : (w.alloc (.cells #[.int .i64 f, .int .i64 t] 42)).heap.size = w.heap.size + 1 := by simp
  rw [hsz] at x0 x1
  clear hsz
  go_wp2_with fail
  refine (A1 _ (hg.1.up HU.out)).out.mono ?_
  rintro e w1 ⟨rfl, hu⟩
  replace r0 := hu.cell r0
  replace r1 := hu.cell r1
  replace x0 := hu.cell x0
  replace x1 := hu.cell x1
  replace HU := Lib.hid (HU.out.trans hu)
  clear hu
  go_wp2_with fail
  refine (B1 _ (hg.up HU.out)).out.mono ?_
  rintro e w2 ⟨rfl, hu⟩
  replace r0 := hu.cell r0
  replace r1 := hu.cell r1
  replace x0 := hu.cell x0
  replace x1 := hu.cell x1
  replace HU := Lib.hid (HU.out.trans hu)
  clear hu
  have n0 := new2 w2 43 f t
  replace HU := Lib.hid (HU.out.trans n0.1)
  replace r0 := n0.1.cell r0
  replace r1 := n0.1.cell r1
  replace x0 := n0.1.cell x0
  replace x1 := n0.1.cell x1
  have y0 := n0.2.1
  have y1 := n0.2.2
  clear n0
  go_wp2_with fail
  refine (A2 _ (hg.1.up HU.out)).out.mono ?_
  rintro e w3 ⟨rfl, hu⟩
  replace r0 := hu.cell r0
  replace r1 := hu.cell r1
  replace x0 := hu.cell x0
  replace x1 := hu.cell x1
  replace y0 := hu.cell y0
  replace y1 := hu.cell y1
  replace HU := Lib.hid (HU.out.trans hu)
  clear hu
  clear y0 y1
  go_wp2_with fail
  refine (C1 _ (hg.up HU.out)).out.mono ?_
  rintro e w4 ⟨rfl, hu⟩
  replace r0 := hu.cell r0
  replace r1 := hu.cell r1
  replace x0 := hu.cell x0
  replace x1 := hu.cell x1
  replace HU := Lib.hid (HU.out.trans hu)
  clear hu
  clear r0 r1
  clear x0 x1
  have n0 := new2 w4 43 qf qt
  replace HU := Lib.hid (HU.out.trans n0.1)
  have u0 := n0.2.1
  have u1 := n0.2.2
  clear n0
  go_wp2_with fail
  refine (D1 _ (hg.1.up HU.out)).out.mono ?_
  rintro e w5 ⟨rfl, hu⟩
  replace u0 := hu.cell u0
  replace u1 := hu.cell u1
  replace HU := Lib.hid (HU.out.trans hu)
  clear hu
  go_wp2_with fail
  refine (C2 _ (hg.up HU.out)).out.mono ?_
  rintro e w6 ⟨rfl, hu⟩
  replace u0 := hu.cell u0
  replace u1 := hu.cell u1
  replace HU := Lib.hid (HU.out.trans hu)
  clear hu
  clear u0 u1
  have n0 := new2 w6 43 zf zt
  replace HU := Lib.hid (HU.out.trans n0.1)
  have v0 := n0.2.1
  have v1 := n0.2.2
  clear n0
  go_wp2_with fail
  refine (AW _ (hg.up HU.out)).out.mono ?_
  rintro e w7 ⟨rfl, hu⟩
  replace v0 := hu.cell v0
  replace v1 := hu.cell v1
  replace HU := Lib.hid (HU.out.trans hu)
  clear hu
  go_wp2_with fail
  go_ret
  exact ⟨rfl, HU.out⟩
set_option maxHeartbeats 8000000 in
theorem rback24_12 (f t n : Int) (l : Bs) (h1 : ¬ l.length > 300) (w : World) (hg : Gm w) (hp : chk f t = 0) (hw : wrongV f t n = 8) (hq : ¬ (askedV l).2 = 0) (hz : (tellV l).2.2 = 0) :
    Calls Tryd.prog 8 #[.agg #[.int .i64 f, .int .i64 t], .int .i64 n, .string ⟨l.toArray⟩] w fun e w' => e = .returned (.bool true) ∧ Up w w' := by
  have AW := fun w hg => Lib.hid (awake24 w hg)
  have A1 := fun w hg => Lib.hid (ask_any f t w hg)
  rw [show askR f t = ([98, 121, 116, 101, 115, 61] ++ textR f t, 0) by unfold askR; rw [if_neg (by omega)]] at A1
  have B1 := fun w hg => Lib.hid (asked_any ([98, 121, 116, 101, 115, 61] ++ textR f t) (by have := text_len hp; simp; omega) w hg)
  rw [asked_ask hp] at B1
  have A2 := fun w hg => Lib.hid (told_any f t n w hg)
  rw [show toldR f t n = ([], 8) by unfold toldR; rw [if_pos (by omega)]] at A2
  clear hw
  generalize [98, 121, 116, 101, 115, 61] ++ textR f t = sa at *
  clear hp
  have C1 := fun w hg => Lib.hid (asked_any l (by omega) w hg)
  have C2 := fun w hg => Lib.hid (tell_w l (by omega) w hg)
  have hq1 := asked_bad hq
  have hqb : ((askedV l).2 == 0) = false := by rw [beq_eq_false_iff_ne]; exact hq
  clear hq
  generalize askedV l = av at *
  obtain ⟨⟨qf, qt⟩, qe⟩ := av
  simp only [Prod.mk.injEq] at hq1
  obtain ⟨rfl, rfl⟩ := hq1
  simp only at hqb C1
  obtain ⟨zf, zt, zn, e1, e2, e3⟩ := told_tell hz
  rw [e1] at C2
  have D2 := fun w hg => Lib.hid (told_any zf zt zn w hg)
  rw [show toldR zf zt zn = (l, 0) by unfold toldR; rw [if_neg (by omega), ← e3]] at D2
  clear e1 e2 e3 hz
  go_enter Tryd.func8, Tryd.ntmps8
  have HU := Lib.hid (Up.refl w)
  have n0 := new2 w 42 f t
  replace HU := Lib.hid (HU.out.trans n0.1)
  have r0 := n0.2.1
  have r1 := n0.2.2
  clear n0
  have n0 := new2 (w.alloc (.cells #[.int .i64 f, .int .i64 t] 42)) 43 f t
  replace HU := Lib.hid (HU.out.trans n0.1)
  replace r0 := n0.1.cell r0
  replace r1 := n0.1.cell r1
  have x0 := n0.2.1
  have x1 := n0.2.2
  clear n0
  have hsz : (w.alloc (.cells #[.int .i64 f, .int .i64 t] 42)).heap.size = w.heap.size + 1 := by simp
  rw [hsz] at x0 x1
  clear hsz
  go_wp2_with fail
  refine (A1 _ (hg.1.up HU.out)).out.mono ?_
  rintro e w1 ⟨rfl, hu⟩
  replace r0 := hu.cell r0
  replace r1 := hu.cell r1
  replace x0 := hu.cell x0
  replace x1 := hu.cell x1
  replace HU := Lib.hid (HU.out.trans hu)
  clear hu
  go_wp2_with fail
  refine (B1 _ (hg.up HU.out)).out.mono ?_
  rintro e w2 ⟨rfl, hu⟩
  replace r0 := hu.cell r0
  replace r1 := hu.cell r1
  replace x0 := hu.cell x0
  replace x1 := hu.cell x1
  replace HU := Lib.hid (HU.out.trans hu)
  clear hu
  have n0 := new2 w2 43 f t
  replace HU := Lib.hid (HU.out.trans n0.1)
  replace r0 := n0.1.cell r0
  replace r1 := n0.1.cell r1
  replace x0 := n0.1.cell x0
  replace x1 := n0.1.cell x1
  have y0 := n0.2.1
  have y1 := n0.2.2
  clear n0
  go_wp2_with fail
  refine (A2 _ (hg.1.up HU.out)).out.mono ?_
  rintro e w3 ⟨rfl, hu⟩
  replace r0 := hu.cell r0
  replace r1 := hu.cell r1
  replace x0 := hu.cell x0
  replace x1 := hu.cell x1
  replace y0 := hu.cell y0
  replace y1 := hu.cell y1
  replace HU := Lib.hid (HU.out.trans hu)
  clear hu
  clear y0 y1
  go_wp2_with fail
  refine (C1 _ (hg.up HU.out)).out.mono ?_
  rintro e w4 ⟨rfl, hu⟩
  replace r0 := hu.cell r0
  replace r1 := hu.cell r1
  replace x0 := hu.cell x0
  replace x1 := hu.cell x1
  replace HU := Lib.hid (HU.out.trans hu)
  clear hu
  clear r0 r1
  clear x0 x1
  have n0 := new2 w4 43 0 0
  replace HU := Lib.hid (HU.out.trans n0.1)
  have u0 := n0.2.1
  have u1 := n0.2.2
  clear n0
  go_wp2_with fail
  refine (C2 _ (hg.up HU.out)).out.mono ?_
  rintro e w5 ⟨rfl, hu⟩
  replace u0 := hu.cell u0
  replace u1 := hu.cell u1
  replace HU := Lib.hid (HU.out.trans hu)
  clear hu
  clear u0 u1
  have n0 := new2 w5 43 zf zt
  replace HU := Lib.hid (HU.out.trans n0.1)
  have v0 := n0.2.1
  have v1 := n0.2.2
  clear n0
  go_wp2_with fail
  refine (D2 _ (hg.1.up HU.out)).out.mono ?_
  rintro e w6 ⟨rfl, hu⟩
  replace v0 := hu.cell v0
  replace v1 := hu.cell v1
  replace HU := Lib.hid (HU.out.trans hu)
  clear hu
  go_wp2_with fail
  refine (AW _ (hg.up HU.out)).out.mono ?_
  rintro e w7 ⟨rfl, hu⟩
  replace v0 := hu.cell v0
  replace v1 := hu.cell v1
  replace HU := Lib.hid (HU.out.trans hu)
  clear hu
  go_wp2_with fail
  go_ret
  exact ⟨rfl, HU.out⟩
set_option maxHeartbeats 8000000 in
theorem rback24_20 (f t n : Int) (l : Bs) (h1 : ¬ l.length > 300) (w : World) (hg : Gm w) (hp : chk f t = 0) (hw : wrongV f t n = 0) (hq : ¬ (askedV l).2 = 0) (hz : ¬ (tellV l).2.2 = 0) :
    Calls Tryd.prog 8 #[.agg #[.int .i64 f, .int .i64 t], .int .i64 n, .string ⟨l.toArray⟩] w fun e w' => e = .returned (.bool true) ∧ Up w w' := by
  have AW := fun w hg => Lib.hid (awake24 w hg)
  have A1 := fun w hg => Lib.hid (ask_any f t w hg)
  rw [show askR f t = ([98, 121, 116, 101, 115, 61] ++ textR f t, 0) by unfold askR; rw [if_neg (by omega)]] at A1
  have B1 := fun w hg => Lib.hid (asked_any ([98, 121, 116, 101, 115, 61] ++ textR f t) (by have := text_len hp; simp; omega) w hg)
  rw [asked_ask hp] at B1
  have A2 := fun w hg => Lib.hid (told_any f t n w hg)
  rw [show toldR f t n = ([98, 121, 116, 101, 115, 32] ++ textR f t ++ 47 :: digs n, 0) by unfold toldR; rw [if_neg (by omega)]] at A2
  have B2 := fun w hg => Lib.hid (tell_w ([98, 121, 116, 101, 115, 32] ++ textR f t ++ 47 :: digs n) (by have := text_len hp; have := digs_len (n := n) (by have := wrong_fits hw; omega); simp; omega) w hg)
  rw [tell_told hw] at B2
  clear hw
  generalize [98, 121, 116, 101, 115, 32] ++ textR f t ++ 47 :: digs n = sb at *
  generalize [98, 121, 116, 101, 115, 61] ++ textR f t = sa at *
  clear hp
  have C1 := fun w hg => Lib.hid (asked_any l (by omega) w hg)
  have C2 := fun w hg => Lib.hid (tell_w l (by omega) w hg)
  have hq1 := asked_bad hq
  have hqb : ((askedV l).2 == 0) = false := by rw [beq_eq_false_iff_ne]; exact hq
  clear hq
  generalize askedV l = av at *
  obtain ⟨⟨qf, qt⟩, qe⟩ := av
  simp only [Prod.mk.injEq] at hq1
  obtain ⟨rfl, rfl⟩ := hq1
  simp only at hqb C1
  have hzb : ((tellV l).2.2 == 0) = false := by rw [beq_eq_false_iff_ne]; exact hz
  clear hz
  generalize tellV l = tv at *
  obtain ⟨⟨zf, zt⟩, zn, ze⟩ := tv
  simp only at hzb C2
  go_enter Tryd.func8, Tryd.ntmps8
  have HU := Lib.hid (Up.refl w)
  have n0 := new2 w 42 f t
  replace HU := Lib.hid (HU.out.trans n0.1)
  have r0 := n0.2.1
  have r1 := n0.2.2
  clear n0
  have n0 := new2 (w.alloc (.cells #[.int .i64 f, .int .i64 t] 42)) 43 f t
  replace HU := Lib.hid (HU.out.trans n0.1)
  replace r0 := n0.1.cell r0
  replace r1 := n0.1.cell r1
  have x0 := n0.2.1
  have x1 := n0.2.2
  clear n0
  have hsz : (w.alloc (.cells #[.int .i64 f, .int .i64 t] 42)).heap.size = w.heap.size + 1 := by simp
  rw [hsz] at x0 x1
  clear hsz
  go_wp2_with fail
  refine (A1 _ (hg.1.up HU.out)).out.mono ?_
  rintro e w1 ⟨rfl, hu⟩
  replace r0 := hu.cell r0
  replace r1 := hu.cell r1
  replace x0 := hu.cell x0
  replace x1 := hu.cell x1
  replace HU := Lib.hid (HU.out.trans hu)
  clear hu
  go_wp2_with fail
  refine (B1 _ (hg.up HU.out)).out.mono ?_
  rintro e w2 ⟨rfl, hu⟩
  replace r0 := hu.cell r0
  replace r1 := hu.cell r1
  replace x0 := hu.cell x0
  replace x1 := hu.cell x1
  replace HU := Lib.hid (HU.out.trans hu)
  clear hu
  have n0 := new2 w2 43 f t
  replace HU := Lib.hid (HU.out.trans n0.1)
  replace r0 := n0.1.cell r0
  replace r1 := n0.1.cell r1
  replace x0 := n0.1.cell x0
  replace x1 := n0.1.cell x1
  have y0 := n0.2.1
  have y1 := n0.2.2
  clear n0
  go_wp2_with fail
  refine (A2 _ (hg.1.up HU.out)).out.mono ?_
  rintro e w3 ⟨rfl, hu⟩
  replace r0 := hu.cell r0
  replace r1 := hu.cell r1
  replace x0 := hu.cell x0
  replace x1 := hu.cell x1
  replace y0 := hu.cell y0
  replace y1 := hu.cell y1
  replace HU := Lib.hid (HU.out.trans hu)
  clear hu
  clear y0 y1
  go_wp2_with fail
  refine (B2 _ (hg.up HU.out)).out.mono ?_
  rintro e w4 ⟨rfl, hu⟩
  replace r0 := hu.cell r0
  replace r1 := hu.cell r1
  replace x0 := hu.cell x0
  replace x1 := hu.cell x1
  replace HU := Lib.hid (HU.out.trans hu)
  clear hu
  have n0 := new2 w4 43 f t
  replace HU := Lib.hid (HU.out.trans n0.1)
  replace r0 := n0.1.cell r0
  replace r1 := n0.1.cell r1
  replace x0 := n0.1.cell x0
  replace x1 := n0.1.cell x1
  have z0 := n0.2.1
  have z1 := n0.2.2
  clear n0
  go_wp2_with fail
  refine (C1 _ (hg.up HU.out)).out.mono ?_
  rintro e w5 ⟨rfl, hu⟩
  replace r0 := hu.cell r0
  replace r1 := hu.cell r1
  replace x0 := hu.cell x0
  replace x1 := hu.cell x1
  replace z0 := hu.cell z0
  replace z1 := hu.cell z1
  replace HU := Lib.hid (HU.out.trans hu)
  clear hu
  clear r0 r1
  clear x0 x1
  clear z0 z1
  have n0 := new2 w5 43 0 0
  replace HU := Lib.hid (HU.out.trans n0.1)
  have u0 := n0.2.1
  have u1 := n0.2.2
  clear n0
  go_wp2_with fail
  refine (C2 _ (hg.up HU.out)).out.mono ?_
  rintro e w6 ⟨rfl, hu⟩
  replace u0 := hu.cell u0
  replace u1 := hu.cell u1
  replace HU := Lib.hid (HU.out.trans hu)
  clear hu
  clear u0 u1
  have n0 := new2 w6 43 zf zt
  replace HU := Lib.hid (HU.out.trans n0.1)
  have v0 := n0.2.1
  have v1 := n0.2.2
  clear n0
  go_wp2_with fail
  refine (AW _ (hg.up HU.out)).out.mono ?_
  rintro e w7 ⟨rfl, hu⟩
  replace v0 := hu.cell v0
  replace v1 := hu.cell v1
  replace HU := Lib.hid (HU.out.trans hu)
  clear hu
  go_wp2_with fail
  go_ret
  exact ⟨rfl, HU.out⟩
set_option maxHeartbeats 8000000 in
theorem rback24_21 (f t n : Int) (l : Bs) (h1 : ¬ l.length > 300) (w : World) (hg : Gm w) (hp : chk f t = 0) (hw : wrongV f t n = 0) (hq : (askedV l).2 = 0) :
    Calls Tryd.prog 8 #[.agg #[.int .i64 f, .int .i64 t], .int .i64 n, .string ⟨l.toArray⟩] w fun e w' => e = .returned (.bool true) ∧ Up w w' := by
  have AW := fun w hg => Lib.hid (awake24 w hg)
  have A1 := fun w hg => Lib.hid (ask_any f t w hg)
  rw [show askR f t = ([98, 121, 116, 101, 115, 61] ++ textR f t, 0) by unfold askR; rw [if_neg (by omega)]] at A1
  have B1 := fun w hg => Lib.hid (asked_any ([98, 121, 116, 101, 115, 61] ++ textR f t) (by have := text_len hp; simp; omega) w hg)
  rw [asked_ask hp] at B1
  have A2 := fun w hg => Lib.hid (told_any f t n w hg)
  rw [show toldR f t n = ([98, 121, 116, 101, 115, 32] ++ textR f t ++ 47 :: digs n, 0) by unfold toldR; rw [if_neg (by omega)]] at A2
  have B2 := fun w hg => Lib.hid (tell_w ([98, 121, 116, 101, 115, 32] ++ textR f t ++ 47 :: digs n) (by have := text_len hp; have := digs_len (n := n) (by have := wrong_fits hw; omega); simp; omega) w hg)
  rw [tell_told hw] at B2
  clear hw
  generalize [98, 121, 116, 101, 115, 32] ++ textR f t ++ 47 :: digs n = sb at *
  generalize [98, 121, 116, 101, 115, 61] ++ textR f t = sa at *
  clear hp
  have C1 := fun w hg => Lib.hid (asked_any l (by omega) w hg)
  have C2 := fun w hg => Lib.hid (tell_w l (by omega) w hg)
  have hz : ¬ (tellV l).2.2 = 0 := not_both hq
  obtain ⟨qf, qt, e1, e2, e3⟩ := ask_asked hq
  rw [e1] at C1
  have D1 := fun w hg => Lib.hid (ask_any qf qt w hg)
  rw [show askR qf qt = (l, 0) by unfold askR; rw [if_neg (by omega), e3]] at D1
  clear e1 e2 e3 hq
  have hzb : ((tellV l).2.2 == 0) = false := by rw [beq_eq_false_iff_ne]; exact hz
  clear hz
  generalize tellV l = tv at *
  obtain ⟨⟨zf, zt⟩, zn, ze⟩ := tv
  simp only at hzb C2
  go_enter Tryd.func8, Tryd.ntmps8
  have HU := Lib.hid (Up.refl w)
  have n0 := new2 w 42 f t
  replace HU := Lib.hid (HU.out.trans n0.1)
  have r0 := n0.2.1
  have r1 := n0.2.2
  clear n0
  have n0 := new2 (w.alloc (.cells #[.int .i64 f, .int .i64 t] 42)) 43 f t
  replace HU := Lib.hid (HU.out.trans n0.1)
  replace r0 := n0.1.cell r0
  replace r1 := n0.1.cell r1
  have x0 := n0.2.1
  have x1 := n0.2.2
  clear n0
  have hsz : (w.alloc (.cells #[.int .i64 f, .int .i64 t] 42)).heap.size = w.heap.size + 1 := by simp
  rw [hsz] at x0 x1
  clear hsz
  go_wp2_with fail
  refine (A1 _ (hg.1.up HU.out)).out.mono ?_
  rintro e w1 ⟨rfl, hu⟩
  replace r0 := hu.cell r0
  replace r1 := hu.cell r1
  replace x0 := hu.cell x0
  replace x1 := hu.cell x1
  replace HU := Lib.hid (HU.out.trans hu)
  clear hu
  go_wp2_with fail
  refine (B1 _ (hg.up HU.out)).out.mono ?_
  rintro e w2 ⟨rfl, hu⟩
  replace r0 := hu.cell r0
  replace r1 := hu.cell r1
  replace x0 := hu.cell x0
  replace x1 := hu.cell x1
  replace HU := Lib.hid (HU.out.trans hu)
  clear hu
  have n0 := new2 w2 43 f t
  replace HU := Lib.hid (HU.out.trans n0.1)
  replace r0 := n0.1.cell r0
  replace r1 := n0.1.cell r1
  replace x0 := n0.1.cell x0
  replace x1 := n0.1.cell x1
  have y0 := n0.2.1
  have y1 := n0.2.2
  clear n0
  go_wp2_with fail
  refine (A2 _ (hg.1.up HU.out)).out.mono ?_
  rintro e w3 ⟨rfl, hu⟩
  replace r0 := hu.cell r0
  replace r1 := hu.cell r1
  replace x0 := hu.cell x0
  replace x1 := hu.cell x1
  replace y0 := hu.cell y0
  replace y1 := hu.cell y1
  replace HU := Lib.hid (HU.out.trans hu)
  clear hu
  clear y0 y1
  go_wp2_with fail
  refine (B2 _ (hg.up HU.out)).out.mono ?_
  rintro e w4 ⟨rfl, hu⟩
  replace r0 := hu.cell r0
  replace r1 := hu.cell r1
  replace x0 := hu.cell x0
  replace x1 := hu.cell x1
  replace HU := Lib.hid (HU.out.trans hu)
  clear hu
  have n0 := new2 w4 43 f t
  replace HU := Lib.hid (HU.out.trans n0.1)
  replace r0 := n0.1.cell r0
  replace r1 := n0.1.cell r1
  replace x0 := n0.1.cell x0
  replace x1 := n0.1.cell x1
  have z0 := n0.2.1
  have z1 := n0.2.2
  clear n0
  go_wp2_with fail
  refine (C1 _ (hg.up HU.out)).out.mono ?_
  rintro e w5 ⟨rfl, hu⟩
  replace r0 := hu.cell r0
  replace r1 := hu.cell r1
  replace x0 := hu.cell x0
  replace x1 := hu.cell x1
  replace z0 := hu.cell z0
  replace z1 := hu.cell z1
  replace HU := Lib.hid (HU.out.trans hu)
  clear hu
  clear r0 r1
  clear x0 x1
  clear z0 z1
  have n0 := new2 w5 43 qf qt
  replace HU := Lib.hid (HU.out.trans n0.1)
  have u0 := n0.2.1
  have u1 := n0.2.2
  clear n0
  go_wp2_with fail
  refine (D1 _ (hg.1.up HU.out)).out.mono ?_
  rintro e w6 ⟨rfl, hu⟩
  replace u0 := hu.cell u0
  replace u1 := hu.cell u1
  replace HU := Lib.hid (HU.out.trans hu)
  clear hu
  go_wp2_with fail
  refine (C2 _ (hg.up HU.out)).out.mono ?_
  rintro e w7 ⟨rfl, hu⟩
  replace u0 := hu.cell u0
  replace u1 := hu.cell u1
  replace HU := Lib.hid (HU.out.trans hu)
  clear hu
  clear u0 u1
  have n0 := new2 w7 43 zf zt
  replace HU := Lib.hid (HU.out.trans n0.1)
  have v0 := n0.2.1
  have v1 := n0.2.2
  clear n0
  go_wp2_with fail
  refine (AW _ (hg.up HU.out)).out.mono ?_
  rintro e w8 ⟨rfl, hu⟩
  replace v0 := hu.cell v0
  replace v1 := hu.cell v1
  replace HU := Lib.hid (HU.out.trans hu)
  clear hu
  go_wp2_with fail
  go_ret
  exact ⟨rfl, HU.out⟩
set_option maxHeartbeats 8000000 in
theorem rback24_22 (f t n : Int) (l : Bs) (h1 : ¬ l.length > 300) (w : World) (hg : Gm w) (hp : chk f t = 0) (hw : wrongV f t n = 0) (hq : ¬ (askedV l).2 = 0) (hz : (tellV l).2.2 = 0) :
    Calls Tryd.prog 8 #[.agg #[.int .i64 f, .int .i64 t], .int .i64 n, .string ⟨l.toArray⟩] w fun e w' => e = .returned (.bool true) ∧ Up w w' := by
  have AW := fun w hg => Lib.hid (awake24 w hg)
  have A1 := fun w hg => Lib.hid (ask_any f t w hg)
  rw [show askR f t = ([98, 121, 116, 101, 115, 61] ++ textR f t, 0) by unfold askR; rw [if_neg (by omega)]] at A1
  have B1 := fun w hg => Lib.hid (asked_any ([98, 121, 116, 101, 115, 61] ++ textR f t) (by have := text_len hp; simp; omega) w hg)
  rw [asked_ask hp] at B1
  have A2 := fun w hg => Lib.hid (told_any f t n w hg)
  rw [show toldR f t n = ([98, 121, 116, 101, 115, 32] ++ textR f t ++ 47 :: digs n, 0) by unfold toldR; rw [if_neg (by omega)]] at A2
  have B2 := fun w hg => Lib.hid (tell_w ([98, 121, 116, 101, 115, 32] ++ textR f t ++ 47 :: digs n) (by have := text_len hp; have := digs_len (n := n) (by have := wrong_fits hw; omega); simp; omega) w hg)
  rw [tell_told hw] at B2
  clear hw
  generalize [98, 121, 116, 101, 115, 32] ++ textR f t ++ 47 :: digs n = sb at *
  generalize [98, 121, 116, 101, 115, 61] ++ textR f t = sa at *
  clear hp
  have C1 := fun w hg => Lib.hid (asked_any l (by omega) w hg)
  have C2 := fun w hg => Lib.hid (tell_w l (by omega) w hg)
  have hq1 := asked_bad hq
  have hqb : ((askedV l).2 == 0) = false := by rw [beq_eq_false_iff_ne]; exact hq
  clear hq
  generalize askedV l = av at *
  obtain ⟨⟨qf, qt⟩, qe⟩ := av
  simp only [Prod.mk.injEq] at hq1
  obtain ⟨rfl, rfl⟩ := hq1
  simp only at hqb C1
  obtain ⟨zf, zt, zn, e1, e2, e3⟩ := told_tell hz
  rw [e1] at C2
  have D2 := fun w hg => Lib.hid (told_any zf zt zn w hg)
  rw [show toldR zf zt zn = (l, 0) by unfold toldR; rw [if_neg (by omega), ← e3]] at D2
  clear e1 e2 e3 hz
  go_enter Tryd.func8, Tryd.ntmps8
  have HU := Lib.hid (Up.refl w)
  have n0 := new2 w 42 f t
  replace HU := Lib.hid (HU.out.trans n0.1)
  have r0 := n0.2.1
  have r1 := n0.2.2
  clear n0
  have n0 := new2 (w.alloc (.cells #[.int .i64 f, .int .i64 t] 42)) 43 f t
  replace HU := Lib.hid (HU.out.trans n0.1)
  replace r0 := n0.1.cell r0
  replace r1 := n0.1.cell r1
  have x0 := n0.2.1
  have x1 := n0.2.2
  clear n0
  have hsz : (w.alloc (.cells #[.int .i64 f, .int .i64 t] 42)).heap.size = w.heap.size + 1 := by simp
  rw [hsz] at x0 x1
  clear hsz
  go_wp2_with fail
  refine (A1 _ (hg.1.up HU.out)).out.mono ?_
  rintro e w1 ⟨rfl, hu⟩
  replace r0 := hu.cell r0
  replace r1 := hu.cell r1
  replace x0 := hu.cell x0
  replace x1 := hu.cell x1
  replace HU := Lib.hid (HU.out.trans hu)
  clear hu
  go_wp2_with fail
  refine (B1 _ (hg.up HU.out)).out.mono ?_
  rintro e w2 ⟨rfl, hu⟩
  replace r0 := hu.cell r0
  replace r1 := hu.cell r1
  replace x0 := hu.cell x0
  replace x1 := hu.cell x1
  replace HU := Lib.hid (HU.out.trans hu)
  clear hu
  have n0 := new2 w2 43 f t
  replace HU := Lib.hid (HU.out.trans n0.1)
  replace r0 := n0.1.cell r0
  replace r1 := n0.1.cell r1
  replace x0 := n0.1.cell x0
  replace x1 := n0.1.cell x1
  have y0 := n0.2.1
  have y1 := n0.2.2
  clear n0
  go_wp2_with fail
  refine (A2 _ (hg.1.up HU.out)).out.mono ?_
  rintro e w3 ⟨rfl, hu⟩
  replace r0 := hu.cell r0
  replace r1 := hu.cell r1
  replace x0 := hu.cell x0
  replace x1 := hu.cell x1
  replace y0 := hu.cell y0
  replace y1 := hu.cell y1
  replace HU := Lib.hid (HU.out.trans hu)
  clear hu
  clear y0 y1
  go_wp2_with fail
  refine (B2 _ (hg.up HU.out)).out.mono ?_
  rintro e w4 ⟨rfl, hu⟩
  replace r0 := hu.cell r0
  replace r1 := hu.cell r1
  replace x0 := hu.cell x0
  replace x1 := hu.cell x1
  replace HU := Lib.hid (HU.out.trans hu)
  clear hu
  have n0 := new2 w4 43 f t
  replace HU := Lib.hid (HU.out.trans n0.1)
  replace r0 := n0.1.cell r0
  replace r1 := n0.1.cell r1
  replace x0 := n0.1.cell x0
  replace x1 := n0.1.cell x1
  have z0 := n0.2.1
  have z1 := n0.2.2
  clear n0
  go_wp2_with fail
  refine (C1 _ (hg.up HU.out)).out.mono ?_
  rintro e w5 ⟨rfl, hu⟩
  replace r0 := hu.cell r0
  replace r1 := hu.cell r1
  replace x0 := hu.cell x0
  replace x1 := hu.cell x1
  replace z0 := hu.cell z0
  replace z1 := hu.cell z1
  replace HU := Lib.hid (HU.out.trans hu)
  clear hu
  clear r0 r1
  clear x0 x1
  clear z0 z1
  have n0 := new2 w5 43 0 0
  replace HU := Lib.hid (HU.out.trans n0.1)
  have u0 := n0.2.1
  have u1 := n0.2.2
  clear n0
  go_wp2_with fail
  refine (C2 _ (hg.up HU.out)).out.mono ?_
  rintro e w6 ⟨rfl, hu⟩
  replace u0 := hu.cell u0
  replace u1 := hu.cell u1
  replace HU := Lib.hid (HU.out.trans hu)
  clear hu
  clear u0 u1
  have n0 := new2 w6 43 zf zt
  replace HU := Lib.hid (HU.out.trans n0.1)
  have v0 := n0.2.1
  have v1 := n0.2.2
  clear n0
  go_wp2_with fail
  refine (D2 _ (hg.1.up HU.out)).out.mono ?_
  rintro e w7 ⟨rfl, hu⟩
  replace v0 := hu.cell v0
  replace v1 := hu.cell v1
  replace HU := Lib.hid (HU.out.trans hu)
  clear hu
  go_wp2_with fail
  refine (AW _ (hg.up HU.out)).out.mono ?_
  rintro e w8 ⟨rfl, hu⟩
  replace v0 := hu.cell v0
  replace v1 := hu.cell v1
  replace HU := Lib.hid (HU.out.trans hu)
  clear hu
  go_wp2_with fail
  go_ret
  exact ⟨rfl, HU.out⟩
set_option maxHeartbeats 8000000 in
theorem rback24 (f t n : Int) (l : Bs) (w : World) (hg : Gm w) :
    Calls Tryd.prog 8 #[.agg #[.int .i64 f, .int .i64 t], .int .i64 n, .string ⟨l.toArray⟩] w fun e w' => e = .returned (.bool true) ∧ Up w w' := by
  by_cases h1 : l.length > 300
  · have AW := fun w hg => Lib.hid (awake24 w hg)
    go_enter Tryd.func8, Tryd.ntmps8
    go_wp2_with fail
    refine (AW _ (hg.up ((Up.refl w).alloc _))).out.mono ?_
    rintro e w1 ⟨rfl, hu⟩
    go_wp2_with fail
    go_ret
    exact ⟨rfl, ((Up.refl w).alloc _).trans hu⟩
  rcases chk_cases f t with hp | hp
  · rcases wrong_cases f t n with hw | hw
    · by_cases hq : (askedV l).2 = 0
      · exact rback24_21 f t n l h1 w hg hp hw hq
      · by_cases hz : (tellV l).2.2 = 0
        · exact rback24_22 f t n l h1 w hg hp hw hq hz
        · exact rback24_20 f t n l h1 w hg hp hw hq hz
    · by_cases hq : (askedV l).2 = 0
      · exact rback24_11 f t n l h1 w hg hp hw hq
      · by_cases hz : (tellV l).2.2 = 0
        · exact rback24_12 f t n l h1 w hg hp hw hq hz
        · exact rback24_10 f t n l h1 w hg hp hw hq hz
  · by_cases hq : (askedV l).2 = 0
    · exact rback24_01 f t n l h1 w hg hp hq
    · by_cases hz : (tellV l).2.2 = 0
      · exact rback24_02 f t n l h1 w hg hp hq hz
      · exact rback24_00 f t n l h1 w hg hp hq hz
end Go.Proofs.YteeenbhmdacdiaaDoor
