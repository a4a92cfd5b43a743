/- Walk: gazetteerlaw18.PressOne. -/
import Derived.Test.YtgoelpjkfofbbaaGreatDoorG41
import Derived.Test.YtgoelpjkfofbbaaGreatDoorG42
namespace Go.Proofs.YtgoelpjkfofbbaaGreatDoor
open Go.RowKit Go.Gz Go.Maps Go.Shelf

set_option maxRecDepth 100000
abbrev N1 : Bs := [123, 34, 97, 34, 58, 49, 125]
theorem plan_a1 (w : World) (hg : Gl w) : Calls Tryz.prog 18 #[.agg #[.int .i64 ((600 : Nat) : Int), .int .u8 ((1 : Nat) : Int), .string ⟨N1.toArray⟩]] w fun e w' => e = .returned (.int .i64 0) ∧ Up w w' :=
  check_no ((600 : Nat) : Int) 1 (by decide) (by decide) (by decide) (by decide) (by decide) 0 (by decide +kernel) w hg
theorem press_a1 (M : Items) (hg : Gz.Good M) (hl : M.length ≤ 1000) (ht : total M ≤ 400000) (A : Option Addr) (c : Nat) (w : World) (hgl : Gl w) (hr : Rd w 2 A M.length c (itV M)) :
    Calls Tryz.prog 16 #[.agg #[.slice A M.length c], .agg #[.int .i64 600, .int .u8 1, .string ⟨N1.toArray⟩]] w (PressE w (pressV M 600 1 N1).2 0) :=
  press_good M hg hl ht A c 600 (by decide) (by decide) 1 (by decide) N1 (by decide) (fun w hg => Lib.hid (plan_a1 w hg)) w hgl hr
/-- taken out again, what was put is as it was -/
theorem del_put {M : Items} {id : Nat} {s : Bs} (hm : memL M id = false) (hE : putE M id s = 0) : delL (putL M id s) id = M := by
  unfold putL
  rw [if_pos hE]
  exact del_ins hm
theorem plan_of {w X : World} (_ : Up w X) : (X.alloc (.cells #[.int .i64 600, .int .u8 1, .string ⟨#[123, 34, 97, 34, 58, 49, 125]⟩] 42)).heap[X.heap.size]? = some (.cells #[.int .i64 600, .int .u8 1, .string ⟨#[123, 34, 97, 34, 58, 49, 125]⟩] 42 (0, 0)) ∧ Up X (X.alloc (.cells #[.int .i64 600, .int .u8 1, .string ⟨#[123, 34, 97, 34, 58, 49, 125]⟩] 42)) :=
  ⟨heap_alloc_new X _, (Up.refl X).alloc _⟩
theorem set_pack {w X : World} {bb n' c' b7 : Nat} {A' : Option Addr} {T : TypeId} {A1 A2 : Option Addr} {c1 c2 : Nat} {L M : Items} {v7 : Value} (hcb : X.heap[bb]? = some (.cells #[.slice A' n' c'] T (0, 0))) (hu : Up w X) (hbw : w.heap.size ≤ bb) (hr : Rd X 2 A1 L.length c1 (itV L)) (hr2 : Rd X 2 A2 M.length c2 (itV M)) (k7 : X.cell? ⟨b7, 0, none⟩ = some v7) (hne : b7 ≠ bb) (v : Value) :
    (X.setCell ⟨bb, 0, none⟩ v).heap[bb]? = some (.cells #[v] T (0, 0)) ∧ Up w (X.setCell ⟨bb, 0, none⟩ v) ∧ Rd (X.setCell ⟨bb, 0, none⟩ v) 2 A1 L.length c1 (itV L) ∧ Rd (X.setCell ⟨bb, 0, none⟩ v) 2 A2 M.length c2 (itV M) ∧ (X.setCell ⟨bb, 0, none⟩ v).cell? ⟨b7, 0, none⟩ = some v7 :=
  ⟨heap_setCell_same X bb 0 _ _ v hcb, hu.set (p := ⟨bb, 0, none⟩) hbw v, Rd.far hr hcb v, Rd.far hr2 hcb v, by
    rw [← k7]
    exact World.cell?_of_block (Below.heap_setCell X ⟨bb, 0, none⟩ v b7 hne)⟩
theorem step_append_at {P : Program} {w w0 w' : World} {ops : Array Oper} {o : Oper} {a : Act} {K : Act → World → Prop} {Q : Exit → Act → World → Prop} {E : Prop} (hw : w = w0) (hgd : o.guard = none) (s x : Operand) (t : TypeId)
    (ho : o.op = .call { callee := .builtin .append, args := #[s, x], argTypes := #[t, t] }) {vs vx v' : Value}
    (hr : (Builtin.append_ #[t, t] o.type #[vs, vx]).run P w0 = .ok v' w') (hs : a.eval s = vs) (hx : a.eval x = vx) (h : K (a.put o.dst v') w') :
    if Region.wanted o (yielded ops a.tmps) = true then Oper.wp P o a w K Q else E := by
  subst hw
  exact step_append_run hgd s x t ho hs hx hr h
theorem Rd.up' {w w' : World} {A : Option Addr} {n c : Nat} {X : Items} (h : Rd w 2 A n c (itV X)) (hu : Up w w') (hn : X.length = n) : Rd w' 2 A X.length c (itV X) := by
  rw [hn]; exact h.up hu
def TailOK (w : World) (e : Ending) (w' : World) : Prop := e = .returned (.bool true) ∧ Up w w'
set_option maxHeartbeats 32000000 in
theorem one18 (l : Items) (hx : ∀ x ∈ l, x.2.length ≤ 9223372036854775807) (turn : Nat) (htu : turn < 256) (n2 : Nat) (s2 : Bs) (A : Option Addr) (c : Nat) (w : World) (hg : Gl w) (hr : Rd w 2 A l.length c (itV l)) :
    Calls Tryz.prog 3 #[.slice A l.length c, .int .u8 (turn : Int), .agg #[.int .u64 (n2 : Int), .string ⟨s2.toArray⟩]] w (TailOK w) := by
  have OV : ∀ w, Rd w 2 A l.length c (itV l) → Hid (Calls Tryz.prog 8 #[.slice A l.length c, .int .i64 60, .int .i64 3000] w (OverEnd (l.length ≤ 60 ∧ sumL l ≤ 3000) w)) := fun w hr => Lib.hid (over12_any l 60 3000 (by decide) hx A c w hr)
  obtain ⟨i0, hi, hz0, hz1, hz2⟩ := info_parts infoCI
  have AW := fun w hg => Lib.hid (awake18 w hg)
  have q := heap_alloc_new w (.cells #[.int .u64 (n2 : Int), .string ⟨s2.toArray⟩] 25)
  have HU0 := Lib.hid ((Up.refl w).alloc (.cells #[.int .u64 (n2 : Int), .string ⟨s2.toArray⟩] 25))
  have m0 := blkc q 0 _ rfl
  have m1 := blkc q 1 _ rfl
  have HG := Lib.hid hg
  have HR := Lib.hid hr
  clear q hg hr hx
  go_enter Tryz.func3, Tryz.ntmps3
  go_wp2_with fail
  with_reducible refine (OV _ (HR.out.up HU0.out)).out.mono ?_
  rintro e w1 ⟨b, rfl, hb, rfl⟩
  cases b with
  | true =>
    go_wp2_with fail
    with_reducible refine (AW _ (HG.out.up HU0.out)).out.mono ?_
    rintro e w2 ⟨rfl, hu2⟩
    go_wp2_with fail
    go_ret
    exact ⟨rfl, HU0.out.trans hu2⟩
  | false =>
    obtain ⟨hl60, hsum⟩ := hb rfl
    clear hb OV
    by_cases hs2 : 300 < s2.length
    · have hsI : (300 : Int) < (s2.length : Int) := by omega
      go_wp2_with fail
      with_reducible refine (AW _ (HG.out.up HU0.out)).out.mono ?_
      rintro e w2 ⟨rfl, hu2⟩
      go_wp2_with fail
      go_ret
      exact ⟨rfl, HU0.out.trans hu2⟩
    have hsI : ¬ (300 : Int) < (s2.length : Int) := by omega
    have OW := fun w hr => Lib.hid (own12_any l (by omega) A c w hr)
    unfold OwnEnd at OW
    have hgood := good_own l (by omega)
    have htot := total_own l
    have hlen := own_len l
    generalize ownL l = M at *
    obtain ⟨bm, hbm⟩ : ∃ b, w.heap.size = b := ⟨_, rfl⟩
    rw [hbm] at m0 m1 ⊢
    go_wp2_with fail
    with_reducible refine (OW _ (HR.out.up HU0.out)).out.mono ?_
    rintro e w2 ⟨A1, c1, A1', c1', rfl, hr1, hr1', hu2⟩
    have n1 := new1 w2 30 (.slice A1 M.length c1)
    have k0 := (hu2.trans n1.1).cell m0
    have k1 := (hu2.trans n1.1).cell m1
    have HU2 := Lib.hid (HU0.out.trans (hu2.trans n1.1))
    have HR2 := Lib.hid (hr1.up n1.1)
    have k7 := n1.2.1
    clear hr1' hr1 hu2 n1 m0 m1 OW
    obtain ⟨b7, hb7⟩ : ∃ b, w2.heap.size = b := ⟨_, rfl⟩
    have IT := fun w hr => Lib.hid (items_any M (by omega) A1 c1 w hr)
    unfold OwnE at IT
    go_wp2_with fail
    with_reducible refine (IT _ HR2.out).out.mono ?_
    rintro e W ⟨va, rfl, hoa, huW⟩
    obtain ⟨Aa, ca, rfl, hra⟩ := Rd.of_own hoa
    have HUW := Lib.hid (HU2.out.trans huW)
    have HRM := Lib.hid (HR2.out.up huW)
    have HRA := Lib.hid hra
    replace k0 := huW.cell k0
    replace k1 := huW.cell k1
    replace k7 := huW.cell k7
    rw [hb7] at k7
    clear hoa huW hra IT hb7 hbm HU0 HU2 HR2
    obtain ⟨k, hkd⟩ : ∃ k, (if M.length = 0 then 0 else turn % M.length) = k := ⟨_, rfl⟩
    have hkl : k ≤ M.length := by
      rw [← hkd]; split
      · omega
      · exact Nat.le_of_lt (Nat.mod_lt _ (by omega))
    obtain ⟨A2, c2, e2, r2⟩ := HRA.out.cut_l (t := 28) (k := k) Tryz.underlying28 hi hz1 hkl
    obtain ⟨A3, c3, e3, r3⟩ := HRA.out.cut_h (t := 28) (k := k) Tryz.underlying28 hi hz1 hkl
    rw [← itV_drop] at r2
    rw [← itV_take] at r3
    have R2 := Lib.hid r2
    have R3 := Lib.hid r3
    have hperm := rot_perm M k
    have hfit := fit_perm (good_fit hgood) hperm
    have hlr : (M.drop k ++ M.take k).length = M.length := hperm.length_eq
    have hl2 : (M.drop k).length = M.length - k := List.length_drop
    have hl3 : (M.take k).length = k := by rw [List.length_take]; omega
    have OF : ∀ A c w, Rd w 2 A M.length c (itV (M.drop k ++ M.take k)) → Hid (Calls Tryz.prog 12 #[.slice A M.length c] w (OfEnd w M)) := by
      intro A c w hr
      have h := of_any (M.drop k ++ M.take k) hfit (by omega) A c w (by rw [hlr]; exact hr)
      rw [hlr] at h
      refine Lib.hid (h.mono ?_)
      rintro e w' ⟨M', hp, hs, he⟩
      obtain rfl := srt_perm hgood.srt hs (hp.trans hperm)
      exact he
    unfold OfEnd at OF
    have SZ : ∀ {X v w'}, RowS W ([] ++ X) v w' → RowS W X v w' := fun h => h
    -- the appends, in each order
    have z1 : RowS W [] (.slice (some ⟨W.heap.size, 0, none⟩) 0 0) (W.alloc (.cells #[] 47)).drew := rowS_zero ((Up.refl W).alloc _).drew (Nat.le_refl _) (heap_alloc_new W _)
    have z2 : RowS W [] (.slice (some ⟨W.heap.size, 0, none⟩) 0 0) ((W.alloc (.cells #[] 47)).alloc (.cells #[.slice none 0 0] 30)).drew := rowS_zero (((Up.refl W).alloc _).alloc _).drew (Nat.le_refl _) (((Up.refl _).alloc (.cells #[.slice none 0 0] 30)).obj (heap_alloc_new W _))
    have z3 : RowS W [] (.slice (some ⟨W.heap.size + 1, 0, none⟩) 0 0) ((W.alloc (.cells #[.slice none 0 0] 30)).alloc (.cells #[] 47)).drew := rowS_zero (((Up.refl W).alloc _).alloc _).drew (by omega) (by
      have := heap_alloc_new (W.alloc (.cells #[.slice none 0 0] 30)) (.cells #[] 47)
      rw [World.size_alloc] at this; exact this)
    have q2 : ((W.alloc (.cells #[] 47)).alloc (.cells #[.slice none 0 0] 30)).drew.heap[W.heap.size + 1]? = some (.cells #[.slice none 0 0] 30) := by
      have := heap_alloc_new (W.alloc (.cells #[] 47)) (.cells #[.slice none 0 0] 30)
      rw [World.size_alloc] at this; exact this
    have q3 : ((W.alloc (.cells #[.slice none 0 0] 30)).alloc (.cells #[] 47)).drew.heap[W.heap.size]? = some (.cells #[.slice none 0 0] 30) := ((Up.refl _).alloc (.cells #[] 47)).obj (heap_alloc_new W (.cells #[.slice none 0 0] 30))
    have nc : ∀ cs fz, ((.cells #[.slice none 0 0] 30) : Obj) ≠ .cells cs 47 fz := by intro cs fz e; injection e with _ e; exact absurd e (by decide)
    obtain ⟨v1, w3, f1, s1, _⟩ := z1.app (R2.out.up' z1.up hl2) (by simp; omega)
    obtain ⟨v2, w4, f2, s2', p2⟩ := z2.app (R2.out.up' z2.up hl2) (by simp; omega)
    obtain ⟨v3, w5, f3, s3, p3⟩ := z3.app (R2.out.up' z3.up hl2) (by simp; omega)
    replace s1 := SZ s1
    replace s2' := SZ s2'
    replace s3 := SZ s3
    have s4 := s1.alloc (.cells #[.slice none 0 0] 30)
    have q4 := heap_alloc_new w3 (.cells #[.slice none 0 0] 30)
    obtain ⟨u1, x1, g1, t1, _⟩ := s1.app (R3.out.up' s1.up hl3) (by omega)
    obtain ⟨u2, x2, g2, t2, o2⟩ := s2'.app (R3.out.up' s2'.up hl3) (by omega)
    obtain ⟨u3, x3, g3, t3, o3⟩ := s3.app (R3.out.up' s3.up hl3) (by omega)
    obtain ⟨u4, x4, g4, t4, o4⟩ := s4.app (R3.out.up' s4.up hl3) (by omega)
    rw [hl2] at f1 f2 f3
    rw [hl3] at g1 g2 g3 g4
    have B2 := Lib.hid (o2 _ _ (p2 _ _ q2 nc) nc)
    have B3 := Lib.hid (o3 _ _ (p3 _ _ q3 nc) nc)
    have B4 := Lib.hid (o4 _ _ q4 nc)
    have B5 := Lib.hid (heap_alloc_new x1 (.cells #[.slice none 0 0] 30))
    obtain ⟨E1, d1, rfl, y1⟩ := Rd.of_own t1.own
    obtain ⟨E2, d2, rfl, y2⟩ := Rd.of_own t2.own
    obtain ⟨E3, d3, rfl, y3⟩ := Rd.of_own t3.own
    obtain ⟨E4, d4, rfl, y4⟩ := Rd.of_own t4.own
    have U1 := Lib.hid t1.up
    have U2 := Lib.hid t2.up
    have U3 := Lib.hid t3.up
    have U4 := Lib.hid t4.up
    have U5 := Lib.hid (t1.up.alloc (.cells #[.slice none 0 0] 30))
    rw [hlr] at y1 y2 y3 y4 g1 g2 g3 g4
    have Y1 := Lib.hid y1
    have Y2 := Lib.hid y2
    have Y3 := Lib.hid y3
    have Y4 := Lib.hid y4
    have Y5 := Lib.hid (y1.up ((Up.refl x1).alloc (.cells #[.slice none 0 0] 30)))
    have F1 := Lib.hid f1
    have F2 := Lib.hid f2
    have F3 := Lib.hid f3
    have G1 := Lib.hid g1
    have G2 := Lib.hid g2
    have G3 := Lib.hid g3
    have G4 := Lib.hid g4
    have z32 : W.heap.size ≤ w3.heap.size := s1.up.le
    have z33 : W.heap.size ≤ x1.heap.size := t1.up.le
    clear hl2 hl3 hlr r2 r3 hperm hfit SZ z1 z2 z3 q2 q3 q4 nc f1 f2 f3 g1 g2 g3 g4 s1 s2' s3 s4 t1 t2 t3 t4 p2 p3 o2 o3 o4 y1 y2 y3 y4
    have b7l : b7 < W.heap.size := World.block_lt_of_cell? W _ k7
    have bml : bm < W.heap.size := World.block_lt_of_cell? W _ k0
    have GT := fun w hr => Lib.hid (cget12_any M (by omega) n2 A1 c1 hgood.srt w hr)
    rw [← mem_get] at GT
    have hps := press_some (b := 600) (kind := 1) (note := N1) hgood (by omega) (by omega) (by decide) (by decide) (by decide) (by decide)
    have PR := fun A c w hg hr => Lib.hid (press_a1 M hgood (by omega) (by omega) A c w hg hr)
    unfold PressE at PR
    generalize (pressV M 600 1 N1).2 = T at *
    have hTn : ¬ T = [] := hps.2
    have hTb : (T != []) = true := by rw [bne_iff_ne]; exact hps.2
    clear hps
    by_cases h0 : M.length = 0
    · have e0 : (k : Int) = 0 := by omega
      rw [e0] at e2 e3
      have hlI : ¬ (0 : Int) < (M.length : Int) := by omega
      clear hkd e0 h0
      go_wp2_with fail
      go_region_law (first
        | (refine step_append_at ?_ rfl _ _ 28 (by rfl) (F1.out _) (by rfl) (by rfl) ?_; with_reducible rfl)
        | (refine step_append_at ?_ rfl _ _ 28 (by rfl) (F2.out _) (by rfl) (by rfl) ?_; with_reducible rfl)
        | (refine step_append_at ?_ rfl _ _ 28 (by rfl) (F3.out _) (by rfl) (by rfl) ?_; with_reducible rfl)
        | (refine step_append_at ?_ rfl _ _ 28 (by rfl) (G1.out _) (by rfl) (by rfl) ?_; with_reducible rfl)
        | (refine step_append_at ?_ rfl _ _ 28 (by rfl) (G2.out _) (by rfl) (by rfl) ?_; with_reducible rfl)
        | (refine step_append_at ?_ rfl _ _ 28 (by rfl) (G3.out _) (by rfl) (by rfl) ?_; with_reducible rfl)
        | (refine step_append_at ?_ rfl _ _ 28 (by rfl) (G4.out _) (by rfl) (by rfl) ?_; with_reducible rfl)
        | (go_simp
           go_at_call 12
           first
           | (with_reducible refine (OF _ _ _ Y1.out).out.mono ?_
              rintro e w9 ⟨Ad, cd, rfl, hrd, hud⟩
              dsimp only
              have hbX := heap_alloc_new w9 (.cells #[.slice Ad M.length cd] 30)
              have huX := (U1.out.trans hud).alloc (.cells #[.slice Ad M.length cd] 30)
              have hrX := hrd.up ((Up.refl w9).alloc (.cells #[.slice Ad M.length cd] 30))
              have k0X := huX.cell k0
              have k1X := huX.cell k1
              have k7X := huX.cell k7
              have HBX := Lib.hid hbX
              have HUX := Lib.hid huX
              have HRX := Lib.hid hrX
              have hlw := (U1.out.trans hud).le
              have HBW := Lib.hid (Nat.le_trans HUW.out.le (by omega : W.heap.size ≤ w9.heap.size))
              have HN7 := Lib.hid (by omega : b7 ≠ w9.heap.size)
              clear hlw hbX huX hrX hrd hud)
           | (with_reducible refine (OF _ _ _ Y5.out).out.mono ?_
              rintro e w9 ⟨Ad, cd, rfl, hrd, hud⟩
              dsimp only
              have hcb := hud.obj B5.out
              have c9 := (blk_one hcb).1
              have z9 := (blk_one hcb).2
              have hbX := heap_setCell_same w9 (x1.heap.size) 0 #[.slice none 0 0] 30 (.slice Ad M.length cd) hcb
              have huX := (U5.out.trans hud).set (p := ⟨x1.heap.size, 0, none⟩) (by simp; try omega) (.slice Ad M.length cd)
              have hrX := Rd.far (L := M) hrd hcb (.slice Ad M.length cd)
              have k0X := huX.cell k0
              have k1X := huX.cell k1
              have k7X := huX.cell k7
              have HBX := Lib.hid hbX
              have HUX := Lib.hid huX
              have HRX := Lib.hid hrX
              have HBW := Lib.hid (Nat.le_trans HUW.out.le (by omega : W.heap.size ≤ x1.heap.size))
              have HN7 := Lib.hid (by omega : b7 ≠ x1.heap.size)
              clear hcb hbX huX hrX hrd hud)
           | (with_reducible refine (OF _ _ _ Y2.out).out.mono ?_
              rintro e w9 ⟨Ad, cd, rfl, hrd, hud⟩
              dsimp only
              have hcb := hud.obj B2.out
              have c9 := (blk_one hcb).1
              have z9 := (blk_one hcb).2
              have hbX := heap_setCell_same w9 (W.heap.size + 1) 0 #[.slice none 0 0] 30 (.slice Ad M.length cd) hcb
              have huX := (U2.out.trans hud).set (p := ⟨W.heap.size + 1, 0, none⟩) (by simp; try omega) (.slice Ad M.length cd)
              have hrX := Rd.far (L := M) hrd hcb (.slice Ad M.length cd)
              have k0X := huX.cell k0
              have k1X := huX.cell k1
              have k7X := huX.cell k7
              have HBX := Lib.hid hbX
              have HUX := Lib.hid huX
              have HRX := Lib.hid hrX
              have HBW := Lib.hid (Nat.le_trans HUW.out.le (by omega : W.heap.size ≤ W.heap.size + 1))
              have HN7 := Lib.hid (by omega : b7 ≠ W.heap.size + 1)
              clear hcb hbX huX hrX hrd hud)
           | (with_reducible refine (OF _ _ _ Y3.out).out.mono ?_
              rintro e w9 ⟨Ad, cd, rfl, hrd, hud⟩
              dsimp only
              have hcb := hud.obj B3.out
              have c9 := (blk_one hcb).1
              have z9 := (blk_one hcb).2
              have hbX := heap_setCell_same w9 (W.heap.size) 0 #[.slice none 0 0] 30 (.slice Ad M.length cd) hcb
              have huX := (U3.out.trans hud).set (p := ⟨W.heap.size, 0, none⟩) (by simp; try omega) (.slice Ad M.length cd)
              have hrX := Rd.far (L := M) hrd hcb (.slice Ad M.length cd)
              have k0X := huX.cell k0
              have k1X := huX.cell k1
              have k7X := huX.cell k7
              have HBX := Lib.hid hbX
              have HUX := Lib.hid huX
              have HRX := Lib.hid hrX
              have HBW := Lib.hid (Nat.le_trans HUW.out.le (by omega : W.heap.size ≤ W.heap.size))
              have HN7 := Lib.hid (by omega : b7 ≠ W.heap.size)
              clear hcb hbX huX hrX hrd hud)
           | (with_reducible refine (OF _ _ _ Y4.out).out.mono ?_
              rintro e w9 ⟨Ad, cd, rfl, hrd, hud⟩
              dsimp only
              have hcb := hud.obj B4.out
              have c9 := (blk_one hcb).1
              have z9 := (blk_one hcb).2
              have hbX := heap_setCell_same w9 (w3.heap.size) 0 #[.slice none 0 0] 30 (.slice Ad M.length cd) hcb
              have huX := (U4.out.trans hud).set (p := ⟨w3.heap.size, 0, none⟩) (by simp; try omega) (.slice Ad M.length cd)
              have hrX := Rd.far (L := M) hrd hcb (.slice Ad M.length cd)
              have k0X := huX.cell k0
              have k1X := huX.cell k1
              have k7X := huX.cell k7
              have HBX := Lib.hid hbX
              have HUX := Lib.hid huX
              have HRX := Lib.hid hrX
              have HBW := Lib.hid (Nat.le_trans HUW.out.le (by omega : W.heap.size ≤ w3.heap.size))
              have HN7 := Lib.hid (by omega : b7 ≠ w3.heap.size)
              clear hcb hbX huX hrX hrd hud)))
      all_goals
        cases hm : memL M n2 with
        | true =>
          rw [hm] at GT
          go_wp2_with fail
          with_reducible refine (GT _ (HRM.out.up HUX.out)).out.mono ?_
          rintro e w10 ⟨rfl, hu10⟩
          have HUE := Lib.hid (HUW.out.trans (HUX.out.trans hu10))
          have HRc := Lib.hid (HRM.out.up (HUX.out.trans hu10))
          have HRd := Lib.hid (HRX.out.up hu10)
          have HDE := Lib.hid (hu10.obj HBX.out)
          have k0E := hu10.cell k0X
          have k1E := hu10.cell k1X
          have k7E := hu10.cell k7X
          have dE := (blk_one HDE.out).1
          have zE := (blk_one HDE.out).2
          clear hu10 k0X k1X k7X
          obtain ⟨q0, hpu⟩ := plan_of HUE.out
          try simp only [World.size_alloc] at q0
          try simp only [World.size_setCell] at q0
          have p0 := blkc q0 0 _ rfl
          have p1 := blkc q0 1 _ rfl
          have p2 := blkc q0 2 _ rfl
          have k7p := hpu.cell k7E
          have HUP := Lib.hid (HUE.out.trans hpu)
          have HRcP := Lib.hid (HRc.out.up hpu)
          have HRdP := Lib.hid (HRd.out.up hpu)
          have HDP := Lib.hid (hpu.obj HDE.out)
          clear q0 hpu
          go_wp2_with fail
          with_reducible refine (PR _ _ _ (HG.out.up HUP.out) HRcP.out).out.mono ?_
          rintro e w13 ⟨rfl, hu13⟩
          replace p0 := hu13.cell p0
          replace p1 := hu13.cell p1
          replace p2 := hu13.cell p2
          have dd := (blk_one (hu13.obj HDP.out)).1
          have HU13 := Lib.hid (HUP.out.trans hu13)
          have HRd13 := Lib.hid (HRdP.out.up hu13)
          clear hu13 k7p
          go_wp2_with fail
          with_reducible refine (PR _ _ _ (HG.out.up HU13.out) HRd13.out).out.mono ?_
          rintro e w14 ⟨rfl, hu14⟩
          have HU14 := Lib.hid (HU13.out.trans hu14)
          clear hu14 p0 p1 p2 dd
          go_wp2_with fail
          with_reducible refine (AW _ (HG.out.up HU14.out)).out.mono ?_
          rintro e w15 ⟨rfl, hu15⟩
          have HU15 := Lib.hid (HU14.out.trans hu15)
          clear hu15
          go_wp2_with fail
          go_ret
          first
            | exact ⟨rfl, HU15.out⟩
            | (refine ⟨ret_bool ?_, HU15.out⟩; simpa using hTn)
        | false =>
          have PC := fun Ad cd w hr => Lib.hid (cput12_any M (by omega) n2 s2 Ad cd hgood.srt w hr)
          unfold CPutEnd at PC
          have HDEL := Lib.hid (fun h => del_put hm (s := s2) h)
          have hsp : Srt (putL M n2 s2) := srt_put hgood.srt
          have hlp := put_len M n2 s2
          generalize putL M n2 s2 = N at *
          generalize putE M n2 s2 = E at *
          rw [hm] at GT
          go_wp2_with fail
          with_reducible refine (GT _ (HRM.out.up HUX.out)).out.mono ?_
          rintro e w10 ⟨rfl, hu10⟩
          have HUE := Lib.hid (HUW.out.trans (HUX.out.trans hu10))
          have HRc := Lib.hid (HRM.out.up (HUX.out.trans hu10))
          have HRd := Lib.hid (HRX.out.up hu10)
          have HDE := Lib.hid (hu10.obj HBX.out)
          have k0E := hu10.cell k0X
          have k1E := hu10.cell k1X
          have k7E := hu10.cell k7X
          have dE := (blk_one HDE.out).1
          have zE := (blk_one HDE.out).2
          clear hu10 k0X k1X k7X
          go_wp2_with fail
          with_reducible refine (PC _ _ _ HRd.out).out.mono ?_
          rintro e w11 ⟨Ap, cp, rfl, hrp, hu11⟩
          by_cases hE : E = 0
          · subst hE
            have DL := fun w hr => Lib.hid (cdel_any N (by omega) n2 Ap cp hsp w hr)
            rw [HDEL.out rfl] at DL
            unfold DelE at DL
            have n15 := new1 w11 30 (.slice Ap N.length cp)
            have hu12 := hu11.trans n15.1
            have k0F := hu12.cell k0E
            have k1F := hu12.cell k1E
            have HRp := Lib.hid (hrp.up n15.1)
            have k15 := n15.2.1
            have HU12 := Lib.hid hu12
            clear n15 hrp hu11 hu12 HDEL
            go_wp2_with fail
            with_reducible refine (DL _ HRp.out).out.mono ?_
            rintro e w12 ⟨Ae, ce, rfl, hre, hu16⟩
            have hud2 := HU12.out.trans hu16
            have hcb := hud2.obj HDE.out
            have c9 := (blk_one hcb).1
            have z9 := (blk_one hcb).2
            have k7d := hud2.cell k7E
            obtain ⟨hbE, huE, hrcE, hrdE, k7e⟩ := set_pack hcb (HUE.out.trans hud2) HBW.out (HRc.out.up hud2) hre k7d HN7.out (.slice Ae M.length ce)
            have HUD := Lib.hid huE
            have HRcD := Lib.hid hrcE
            have HRdD := Lib.hid hrdE
            have HDD := Lib.hid hbE
            replace k7E := k7e
            clear hud2 hcb hre hu16 hbE huE hrcE hrdE k7d k7e k15 k0F k1F dE zE
            obtain ⟨q0, hpu⟩ := plan_of HUD.out
            try simp only [World.size_alloc] at q0
            try simp only [World.size_setCell] at q0
            have p0 := blkc q0 0 _ rfl
            have p1 := blkc q0 1 _ rfl
            have p2 := blkc q0 2 _ rfl
            have k7p := hpu.cell k7E
            have HUP := Lib.hid (HUD.out.trans hpu)
            have HRcP := Lib.hid (HRcD.out.up hpu)
            have HRdP := Lib.hid (HRdD.out.up hpu)
            have HDP := Lib.hid (hpu.obj HDD.out)
            clear q0 hpu
            go_wp2_with fail
            with_reducible refine (PR _ _ _ (HG.out.up HUP.out) HRcP.out).out.mono ?_
            rintro e w13 ⟨rfl, hu13⟩
            replace p0 := hu13.cell p0
            replace p1 := hu13.cell p1
            replace p2 := hu13.cell p2
            have dd := (blk_one (hu13.obj HDP.out)).1
            have HU13 := Lib.hid (HUP.out.trans hu13)
            have HRd13 := Lib.hid (HRdP.out.up hu13)
            clear hu13 k7p
            go_wp2_with fail
            with_reducible refine (PR _ _ _ (HG.out.up HU13.out) HRd13.out).out.mono ?_
            rintro e w14 ⟨rfl, hu14⟩
            have HU14 := Lib.hid (HU13.out.trans hu14)
            clear hu14 p0 p1 p2 dd
            go_wp2_with fail
            with_reducible refine (AW _ (HG.out.up HU14.out)).out.mono ?_
            rintro e w15 ⟨rfl, hu15⟩
            have HU15 := Lib.hid (HU14.out.trans hu15)
            clear hu15
            go_wp2_with fail
            go_ret
            first
              | exact ⟨rfl, HU15.out⟩
              | (refine ⟨ret_bool ?_, HU15.out⟩; simpa using hTn)
          · have hEb : (E == 0) = false := by rw [beq_eq_false_iff_ne]; exact hE
            have n15 := new1 w11 30 (.slice Ap N.length cp)
            have hu12 := hu11.trans n15.1
            have HUE2 := Lib.hid (HUE.out.trans hu12)
            have HRc2 := Lib.hid (HRc.out.up hu12)
            have HRd2 := Lib.hid (HRd.out.up hu12)
            have HDE2 := Lib.hid (hu12.obj HDE.out)
            replace k7E := hu12.cell k7E
            clear n15 hrp hu11 hu12 HDEL hE dE zE
            obtain ⟨q0, hpu⟩ := plan_of HUE2.out
            try simp only [World.size_alloc] at q0
            try simp only [World.size_setCell] at q0
            have p0 := blkc q0 0 _ rfl
            have p1 := blkc q0 1 _ rfl
            have p2 := blkc q0 2 _ rfl
            have k7p := hpu.cell k7E
            have HUP := Lib.hid (HUE2.out.trans hpu)
            have HRcP := Lib.hid (HRc2.out.up hpu)
            have HRdP := Lib.hid (HRd2.out.up hpu)
            have HDP := Lib.hid (hpu.obj HDE2.out)
            clear q0 hpu
            go_wp2_with fail
            with_reducible refine (PR _ _ _ (HG.out.up HUP.out) HRcP.out).out.mono ?_
            rintro e w13 ⟨rfl, hu13⟩
            replace p0 := hu13.cell p0
            replace p1 := hu13.cell p1
            replace p2 := hu13.cell p2
            have dd := (blk_one (hu13.obj HDP.out)).1
            have HU13 := Lib.hid (HUP.out.trans hu13)
            have HRd13 := Lib.hid (HRdP.out.up hu13)
            clear hu13 k7p
            go_wp2_with fail
            with_reducible refine (PR _ _ _ (HG.out.up HU13.out) HRd13.out).out.mono ?_
            rintro e w14 ⟨rfl, hu14⟩
            have HU14 := Lib.hid (HU13.out.trans hu14)
            clear hu14 p0 p1 p2 dd
            go_wp2_with fail
            with_reducible refine (AW _ (HG.out.up HU14.out)).out.mono ?_
            rintro e w15 ⟨rfl, hu15⟩
            have HU15 := Lib.hid (HU14.out.trans hu15)
            clear hu15
            go_wp2_with fail
            go_ret
            first
              | exact ⟨rfl, HU15.out⟩
              | (refine ⟨ret_bool ?_, HU15.out⟩; simpa using hTn)
    · have hlI : (0 : Int) < (M.length : Int) := by omega
      have e0 : ((M.length : Int) == 0) = false := by rw [beq_eq_false_iff_ne]; omega
      rw [if_neg h0] at hkd
      have e1 : (turn : Int).tmod (M.length : Int) = (k : Int) := by rw [IntWalk.rem_in _ _ (by omega), ← hkd]; omega
      have e4 : IntKind.i64.wrap (turn : Int) = (turn : Int) := IntWalk.i64_in _ (by omega)
      have e5 : IntKind.i64.wrap (k : Int) = (k : Int) := IntWalk.i64_in _ (by omega)
      clear hkd
      go_wp2_with fail
      go_region_law (first
        | (refine step_append_at ?_ rfl _ _ 28 (by rfl) (F1.out _) (by rfl) (by rfl) ?_; with_reducible rfl)
        | (refine step_append_at ?_ rfl _ _ 28 (by rfl) (F2.out _) (by rfl) (by rfl) ?_; with_reducible rfl)
        | (refine step_append_at ?_ rfl _ _ 28 (by rfl) (F3.out _) (by rfl) (by rfl) ?_; with_reducible rfl)
        | (refine step_append_at ?_ rfl _ _ 28 (by rfl) (G1.out _) (by rfl) (by rfl) ?_; with_reducible rfl)
        | (refine step_append_at ?_ rfl _ _ 28 (by rfl) (G2.out _) (by rfl) (by rfl) ?_; with_reducible rfl)
        | (refine step_append_at ?_ rfl _ _ 28 (by rfl) (G3.out _) (by rfl) (by rfl) ?_; with_reducible rfl)
        | (refine step_append_at ?_ rfl _ _ 28 (by rfl) (G4.out _) (by rfl) (by rfl) ?_; with_reducible rfl)
        | (go_simp
           go_at_call 12
           first
           | (with_reducible refine (OF _ _ _ Y1.out).out.mono ?_
              rintro e w9 ⟨Ad, cd, rfl, hrd, hud⟩
              dsimp only
              have hbX := heap_alloc_new w9 (.cells #[.slice Ad M.length cd] 30)
              have huX := (U1.out.trans hud).alloc (.cells #[.slice Ad M.length cd] 30)
              have hrX := hrd.up ((Up.refl w9).alloc (.cells #[.slice Ad M.length cd] 30))
              have k0X := huX.cell k0
              have k1X := huX.cell k1
              have k7X := huX.cell k7
              have HBX := Lib.hid hbX
              have HUX := Lib.hid huX
              have HRX := Lib.hid hrX
              have hlw := (U1.out.trans hud).le
              have HBW := Lib.hid (Nat.le_trans HUW.out.le (by omega : W.heap.size ≤ w9.heap.size))
              have HN7 := Lib.hid (by omega : b7 ≠ w9.heap.size)
              clear hlw hbX huX hrX hrd hud)
           | (with_reducible refine (OF _ _ _ Y5.out).out.mono ?_
              rintro e w9 ⟨Ad, cd, rfl, hrd, hud⟩
              dsimp only
              have hcb := hud.obj B5.out
              have c9 := (blk_one hcb).1
              have z9 := (blk_one hcb).2
              have hbX := heap_setCell_same w9 (x1.heap.size) 0 #[.slice none 0 0] 30 (.slice Ad M.length cd) hcb
              have huX := (U5.out.trans hud).set (p := ⟨x1.heap.size, 0, none⟩) (by simp; try omega) (.slice Ad M.length cd)
              have hrX := Rd.far (L := M) hrd hcb (.slice Ad M.length cd)
              have k0X := huX.cell k0
              have k1X := huX.cell k1
              have k7X := huX.cell k7
              have HBX := Lib.hid hbX
              have HUX := Lib.hid huX
              have HRX := Lib.hid hrX
              have HBW := Lib.hid (Nat.le_trans HUW.out.le (by omega : W.heap.size ≤ x1.heap.size))
              have HN7 := Lib.hid (by omega : b7 ≠ x1.heap.size)
              clear hcb hbX huX hrX hrd hud)
           | (with_reducible refine (OF _ _ _ Y2.out).out.mono ?_
              rintro e w9 ⟨Ad, cd, rfl, hrd, hud⟩
              dsimp only
              have hcb := hud.obj B2.out
              have c9 := (blk_one hcb).1
              have z9 := (blk_one hcb).2
              have hbX := heap_setCell_same w9 (W.heap.size + 1) 0 #[.slice none 0 0] 30 (.slice Ad M.length cd) hcb
              have huX := (U2.out.trans hud).set (p := ⟨W.heap.size + 1, 0, none⟩) (by simp; try omega) (.slice Ad M.length cd)
              have hrX := Rd.far (L := M) hrd hcb (.slice Ad M.length cd)
              have k0X := huX.cell k0
              have k1X := huX.cell k1
              have k7X := huX.cell k7
              have HBX := Lib.hid hbX
              have HUX := Lib.hid huX
              have HRX := Lib.hid hrX
              have HBW := Lib.hid (Nat.le_trans HUW.out.le (by omega : W.heap.size ≤ W.heap.size + 1))
              have HN7 := Lib.hid (by omega : b7 ≠ W.heap.size + 1)
              clear hcb hbX huX hrX hrd hud)
           | (with_reducible refine (OF _ _ _ Y3.out).out.mono ?_
              rintro e w9 ⟨Ad, cd, rfl, hrd, hud⟩
              dsimp only
              have hcb := hud.obj B3.out
              have c9 := (blk_one hcb).1
              have z9 := (blk_one hcb).2
              have hbX := heap_setCell_same w9 (W.heap.size) 0 #[.slice none 0 0] 30 (.slice Ad M.length cd) hcb
              have huX := (U3.out.trans hud).set (p := ⟨W.heap.size, 0, none⟩) (by simp; try omega) (.slice Ad M.length cd)
              have hrX := Rd.far (L := M) hrd hcb (.slice Ad M.length cd)
              have k0X := huX.cell k0
              have k1X := huX.cell k1
              have k7X := huX.cell k7
              have HBX := Lib.hid hbX
              have HUX := Lib.hid huX
              have HRX := Lib.hid hrX
              have HBW := Lib.hid (Nat.le_trans HUW.out.le (by omega : W.heap.size ≤ W.heap.size))
              have HN7 := Lib.hid (by omega : b7 ≠ W.heap.size)
              clear hcb hbX huX hrX hrd hud)
           | (with_reducible refine (OF _ _ _ Y4.out).out.mono ?_
              rintro e w9 ⟨Ad, cd, rfl, hrd, hud⟩
              dsimp only
              have hcb := hud.obj B4.out
              have c9 := (blk_one hcb).1
              have z9 := (blk_one hcb).2
              have hbX := heap_setCell_same w9 (w3.heap.size) 0 #[.slice none 0 0] 30 (.slice Ad M.length cd) hcb
              have huX := (U4.out.trans hud).set (p := ⟨w3.heap.size, 0, none⟩) (by simp; try omega) (.slice Ad M.length cd)
              have hrX := Rd.far (L := M) hrd hcb (.slice Ad M.length cd)
              have k0X := huX.cell k0
              have k1X := huX.cell k1
              have k7X := huX.cell k7
              have HBX := Lib.hid hbX
              have HUX := Lib.hid huX
              have HRX := Lib.hid hrX
              have HBW := Lib.hid (Nat.le_trans HUW.out.le (by omega : W.heap.size ≤ w3.heap.size))
              have HN7 := Lib.hid (by omega : b7 ≠ w3.heap.size)
              clear hcb hbX huX hrX hrd hud)))
      all_goals
        cases hm : memL M n2 with
        | true =>
          rw [hm] at GT
          go_wp2_with fail
          with_reducible refine (GT _ (HRM.out.up HUX.out)).out.mono ?_
          rintro e w10 ⟨rfl, hu10⟩
          have HUE := Lib.hid (HUW.out.trans (HUX.out.trans hu10))
          have HRc := Lib.hid (HRM.out.up (HUX.out.trans hu10))
          have HRd := Lib.hid (HRX.out.up hu10)
          have HDE := Lib.hid (hu10.obj HBX.out)
          have k0E := hu10.cell k0X
          have k1E := hu10.cell k1X
          have k7E := hu10.cell k7X
          have dE := (blk_one HDE.out).1
          have zE := (blk_one HDE.out).2
          clear hu10 k0X k1X k7X
          obtain ⟨q0, hpu⟩ := plan_of HUE.out
          try simp only [World.size_alloc] at q0
          try simp only [World.size_setCell] at q0
          have p0 := blkc q0 0 _ rfl
          have p1 := blkc q0 1 _ rfl
          have p2 := blkc q0 2 _ rfl
          have k7p := hpu.cell k7E
          have HUP := Lib.hid (HUE.out.trans hpu)
          have HRcP := Lib.hid (HRc.out.up hpu)
          have HRdP := Lib.hid (HRd.out.up hpu)
          have HDP := Lib.hid (hpu.obj HDE.out)
          clear q0 hpu
          go_wp2_with fail
          with_reducible refine (PR _ _ _ (HG.out.up HUP.out) HRcP.out).out.mono ?_
          rintro e w13 ⟨rfl, hu13⟩
          replace p0 := hu13.cell p0
          replace p1 := hu13.cell p1
          replace p2 := hu13.cell p2
          have dd := (blk_one (hu13.obj HDP.out)).1
          have HU13 := Lib.hid (HUP.out.trans hu13)
          have HRd13 := Lib.hid (HRdP.out.up hu13)
          clear hu13 k7p
          go_wp2_with fail
          with_reducible refine (PR _ _ _ (HG.out.up HU13.out) HRd13.out).out.mono ?_
          rintro e w14 ⟨rfl, hu14⟩
          have HU14 := Lib.hid (HU13.out.trans hu14)
          clear hu14 p0 p1 p2 dd
          go_wp2_with fail
          with_reducible refine (AW _ (HG.out.up HU14.out)).out.mono ?_
          rintro e w15 ⟨rfl, hu15⟩
          have HU15 := Lib.hid (HU14.out.trans hu15)
          clear hu15
          go_wp2_with fail
          go_ret
          first
            | exact ⟨rfl, HU15.out⟩
            | (refine ⟨ret_bool ?_, HU15.out⟩; simpa using hTn)
        | false =>
          have PC := fun Ad cd w hr => Lib.hid (cput12_any M (by omega) n2 s2 Ad cd hgood.srt w hr)
          unfold CPutEnd at PC
          have HDEL := Lib.hid (fun h => del_put hm (s := s2) h)
          have hsp : Srt (putL M n2 s2) := srt_put hgood.srt
          have hlp := put_len M n2 s2
          generalize putL M n2 s2 = N at *
          generalize putE M n2 s2 = E at *
          rw [hm] at GT
          go_wp2_with fail
          with_reducible refine (GT _ (HRM.out.up HUX.out)).out.mono ?_
          rintro e w10 ⟨rfl, hu10⟩
          have HUE := Lib.hid (HUW.out.trans (HUX.out.trans hu10))
          have HRc := Lib.hid (HRM.out.up (HUX.out.trans hu10))
          have HRd := Lib.hid (HRX.out.up hu10)
          have HDE := Lib.hid (hu10.obj HBX.out)
          have k0E := hu10.cell k0X
          have k1E := hu10.cell k1X
          have k7E := hu10.cell k7X
          have dE := (blk_one HDE.out).1
          have zE := (blk_one HDE.out).2
          clear hu10 k0X k1X k7X
          go_wp2_with fail
          with_reducible refine (PC _ _ _ HRd.out).out.mono ?_
          rintro e w11 ⟨Ap, cp, rfl, hrp, hu11⟩
          by_cases hE : E = 0
          · subst hE
            have DL := fun w hr => Lib.hid (cdel_any N (by omega) n2 Ap cp hsp w hr)
            rw [HDEL.out rfl] at DL
            unfold DelE at DL
            have n15 := new1 w11 30 (.slice Ap N.length cp)
            have hu12 := hu11.trans n15.1
            have k0F := hu12.cell k0E
            have k1F := hu12.cell k1E
            have HRp := Lib.hid (hrp.up n15.1)
            have k15 := n15.2.1
            have HU12 := Lib.hid hu12
            clear n15 hrp hu11 hu12 HDEL
            go_wp2_with fail
            with_reducible refine (DL _ HRp.out).out.mono ?_
            rintro e w12 ⟨Ae, ce, rfl, hre, hu16⟩
            have hud2 := HU12.out.trans hu16
            have hcb := hud2.obj HDE.out
            have c9 := (blk_one hcb).1
            have z9 := (blk_one hcb).2
            have k7d := hud2.cell k7E
            obtain ⟨hbE, huE, hrcE, hrdE, k7e⟩ := set_pack hcb (HUE.out.trans hud2) HBW.out (HRc.out.up hud2) hre k7d HN7.out (.slice Ae M.length ce)
            have HUD := Lib.hid huE
            have HRcD := Lib.hid hrcE
            have HRdD := Lib.hid hrdE
            have HDD := Lib.hid hbE
            replace k7E := k7e
            clear hud2 hcb hre hu16 hbE huE hrcE hrdE k7d k7e k15 k0F k1F dE zE
            obtain ⟨q0, hpu⟩ := plan_of HUD.out
            try simp only [World.size_alloc] at q0
            try simp only [World.size_setCell] at q0
            have p0 := blkc q0 0 _ rfl
            have p1 := blkc q0 1 _ rfl
            have p2 := blkc q0 2 _ rfl
            have k7p := hpu.cell k7E
            have HUP := Lib.hid (HUD.out.trans hpu)
            have HRcP := Lib.hid (HRcD.out.up hpu)
            have HRdP := Lib.hid (HRdD.out.up hpu)
            have HDP := Lib.hid (hpu.obj HDD.out)
            clear q0 hpu
            go_wp2_with fail
            with_reducible refine (PR _ _ _ (HG.out.up HUP.out) HRcP.out).out.mono ?_
            rintro e w13 ⟨rfl, hu13⟩
            replace p0 := hu13.cell p0
            replace p1 := hu13.cell p1
            replace p2 := hu13.cell p2
            have dd := (blk_one (hu13.obj HDP.out)).1
            have HU13 := Lib.hid (HUP.out.trans hu13)
            have HRd13 := Lib.hid (HRdP.out.up hu13)
            clear hu13 k7p
            go_wp2_with fail
            with_reducible refine (PR _ _ _ (HG.out.up HU13.out) HRd13.out).out.mono ?_
            rintro e w14 ⟨rfl, hu14⟩
            have HU14 := Lib.hid (HU13.out.trans hu14)
            clear hu14 p0 p1 p2 dd
            go_wp2_with fail
            with_reducible refine (AW _ (HG.out.up HU14.out)).out.mono ?_
            rintro e w15 ⟨rfl, hu15⟩
            have HU15 := Lib.hid (HU14.out.trans hu15)
            clear hu15
            go_wp2_with fail
            go_ret
            first
              | exact ⟨rfl, HU15.out⟩
              | (refine ⟨ret_bool ?_, HU15.out⟩; simpa using hTn)
          · have hEb : (E == 0) = false := by rw [beq_eq_false_iff_ne]; exact hE
            have n15 := new1 w11 30 (.slice Ap N.length cp)
            have hu12 := hu11.trans n15.1
            have HUE2 := Lib.hid (HUE.out.trans hu12)
            have HRc2 := Lib.hid (HRc.out.up hu12)
            have HRd2 := Lib.hid (HRd.out.up hu12)
            have HDE2 := Lib.hid (hu12.obj HDE.out)
            replace k7E := hu12.cell k7E
            clear n15 hrp hu11 hu12 HDEL hE dE zE
            obtain ⟨q0, hpu⟩ := plan_of HUE2.out
            try simp only [World.size_alloc] at q0
            try simp only [World.size_setCell] at q0
            have p0 := blkc q0 0 _ rfl
            have p1 := blkc q0 1 _ rfl
            have p2 := blkc q0 2 _ rfl
            have k7p := hpu.cell k7E
            have HUP := Lib.hid (HUE2.out.trans hpu)
            have HRcP := Lib.hid (HRc2.out.up hpu)
            have HRdP := Lib.hid (HRd2.out.up hpu)
            have HDP := Lib.hid (hpu.obj HDE2.out)
            clear q0 hpu
            go_wp2_with fail
            with_reducible refine (PR _ _ _ (HG.out.up HUP.out) HRcP.out).out.mono ?_
            rintro e w13 ⟨rfl, hu13⟩
            replace p0 := hu13.cell p0
            replace p1 := hu13.cell p1
            replace p2 := hu13.cell p2
            have dd := (blk_one (hu13.obj HDP.out)).1
            have HU13 := Lib.hid (HUP.out.trans hu13)
            have HRd13 := Lib.hid (HRdP.out.up hu13)
            clear hu13 k7p
            go_wp2_with fail
            with_reducible refine (PR _ _ _ (HG.out.up HU13.out) HRd13.out).out.mono ?_
            rintro e w14 ⟨rfl, hu14⟩
            have HU14 := Lib.hid (HU13.out.trans hu14)
            clear hu14 p0 p1 p2 dd
            go_wp2_with fail
            with_reducible refine (AW _ (HG.out.up HU14.out)).out.mono ?_
            rintro e w15 ⟨rfl, hu15⟩
            have HU15 := Lib.hid (HU14.out.trans hu15)
            clear hu15
            go_wp2_with fail
            go_ret
            first
              | exact ⟨rfl, HU15.out⟩
              | (refine ⟨ret_bool ?_, HU15.out⟩; simpa using hTn)
end Go.Proofs.YtgoelpjkfofbbaaGreatDoor
