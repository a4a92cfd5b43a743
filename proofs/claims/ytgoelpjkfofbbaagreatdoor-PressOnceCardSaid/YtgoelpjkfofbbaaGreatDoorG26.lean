/- Walk: merge.Rows. -/
import Derived.Test.YtgoelpjkfofbbaaGreatDoorG25
namespace Go.Proofs.YtgoelpjkfofbbaaGreatDoor
open Go.RowKit Go.Gz Go.Shelf

set_option maxRecDepth 100000
attribute [local go_sem] Oper.semAt_some
/-- entries and contents -/
def RowsE (w : World) (L : Items) (en : Ending) (w' : World) : Prop := ∃ A c, en = .returned (.tuple #[.slice A (rowsL L).1.length c, .string ⟨(rowsL L).2.flatten.toArray⟩]) ∧ Rd w' 4 A (rowsL L).1.length c (entV (rowsL L).1) ∧ Up w w'
theorem Rd.low2 {w : World} {L : Items} {A : Option Addr} {c : Nat} (hr : Rd w 2 A L.length c (itV L)) : ∀ a, A = some a → 0 < L.length → a.block < w.heap.size := fun a ha hn => by
  obtain ⟨b, o, e, hc⟩ := hr.2.2.2.2 hn
  rw [ha] at e; injection e with e; subst e
  obtain ⟨u, hu⟩ : ∃ u, (itV L)[0]? = some u := ⟨_, List.getElem?_eq_getElem (by rw [itV_len]; omega)⟩
  exact World.block_lt_of_cell? _ _ (hc 0 u hu)
theorem push_last {pre : Ents} {b e : Ent} : pushE (pre ++ [b]) e = if goesE b e then pre ++ [{ b with run := b.run + 1 }] else pre ++ [b] ++ [e] := by
  unfold pushE
  rw [List.getLast?_append]
  simp
set_option maxHeartbeats 16000000 in
theorem rows_any (L : Items) (hg : Gz.Good L) (hl : L.length ≤ 1000) (ht : total L ≤ 400000) (A : Option Addr) (c : Nat) (w : World) (hr : Rd w 2 A L.length c (itV L)) :
    Calls Tryz.prog 39 #[.agg #[.slice A L.length c]] w (RowsE w L) := by
  have hA := hr.low2
  obtain ⟨i0, hi, hz0, hz1, hz2⟩ := info_parts infoEn
  refine (callsIn_wide (n := 3)).1 ?_
  refine callsIn_of_wp_marks Tryz.func39 rfl trivial ?_ rfl
  simp only [Tryz.ntmps39, List.size_toArray, List.length_cons, List.length_nil, Nat.reduceAdd, Nat.reduceSub, Array.replicate_succ, Array.replicate_zero, List.push_toArray, List.append_toArray, List.nil_append, List.cons_append]
  gi_wp2
  refine ⟨trivial, (callsIn_wide.2 (new_any _)).mono ?_⟩
  rintro e w1 ⟨rfl, rfl⟩
  gi_wp2
  refine ⟨trivial, (callsIn_wide.2 (each_any _ _ _ _)).mono ?_⟩
  rintro e w2 ⟨rfl, rfl⟩
  gi_wp2
  have hq1 := heap_alloc_new (w.alloc (.cells #[.slice A L.length c] 30)) (.cells #[goesF] 130)
  have hq2 := heap_alloc_new ((w.alloc (.cells #[.slice A L.length c] 30)).alloc (.cells #[goesF] 130)) (.cells #[.slice none 0 0, .slice none 0 0, .map none] 190)
  have hq3 := heap_alloc_new (((w.alloc (.cells #[.slice A L.length c] 30)).alloc (.cells #[goesF] 130)).alloc (.cells #[.slice none 0 0, .slice none 0 0, .map none] 190)) (.cells #[.pointer (some ⟨w.heap.size + 1 + 1, 0, none⟩)] 134)
  have hq4 := heap_alloc_new ((((w.alloc (.cells #[.slice A L.length c] 30)).alloc (.cells #[goesF] 130)).alloc (.cells #[.slice none 0 0, .slice none 0 0, .map none] 190)).alloc (.cells #[.pointer (some ⟨w.heap.size + 1 + 1, 0, none⟩)] 134)) (.cells #[.slice none 0 0] 58)
  have hq5 := heap_alloc_new (((((w.alloc (.cells #[.slice A L.length c] 30)).alloc (.cells #[goesF] 130)).alloc (.cells #[.slice none 0 0, .slice none 0 0, .map none] 190)).alloc (.cells #[.pointer (some ⟨w.heap.size + 1 + 1, 0, none⟩)] 134)).alloc (.cells #[.slice none 0 0] 58)) (.cells #[.slice A L.length c] 30)
  simp only [World.size_alloc] at hq1 hq2 hq3 hq4 hq5
  replace hq1 := (((((Up.refl _).alloc (.cells #[.slice none 0 0, .slice none 0 0, .map none] 190)).alloc (.cells #[.pointer (some ⟨w.heap.size + 1 + 1, 0, none⟩)] 134)).alloc (.cells #[.slice none 0 0] 58)).alloc (.cells #[.slice A L.length c] 30)).obj hq1
  replace hq2 := ((((Up.refl _).alloc (.cells #[.pointer (some ⟨w.heap.size + 1 + 1, 0, none⟩)] 134)).alloc (.cells #[.slice none 0 0] 58)).alloc (.cells #[.slice A L.length c] 30)).obj hq2
  replace hq3 := (((Up.refl _).alloc (.cells #[.slice none 0 0] 58)).alloc (.cells #[.slice A L.length c] 30)).obj hq3
  replace hq4 := ((Up.refl _).alloc (.cells #[.slice A L.length c] 30)).obj hq4
  have hu2 : Up w ((((((w.alloc (.cells #[.slice A L.length c] 30)).alloc (.cells #[goesF] 130)).alloc (.cells #[.slice none 0 0, .slice none 0 0, .map none] 190)).alloc (.cells #[.pointer (some ⟨w.heap.size + 1 + 1, 0, none⟩)] 134)).alloc (.cells #[.slice none 0 0] 58)).alloc (.cells #[.slice A L.length c] 30)) := ((((((Up.refl w).alloc _).alloc _).alloc _).alloc _).alloc _).alloc _
  have hI0 : RowI w.heap.size (rowsL (L.take 0)) ((((((w.alloc (.cells #[.slice A L.length c] 30)).alloc (.cells #[goesF] 130)).alloc (.cells #[.slice none 0 0, .slice none 0 0, .map none] 190)).alloc (.cells #[.pointer (some ⟨w.heap.size + 1 + 1, 0, none⟩)] 134)).alloc (.cells #[.slice none 0 0] 58)).alloc (.cells #[.slice A L.length c] 30)) := ⟨_, _, _, _, hq4, World.ownsRow_nil _ _ _ _, hq2, World.ownsRow_nil _ _ _ _, World.ownsRow_nil _ _ _ _, .inl ⟨rfl, rfl⟩, hq1, hq3⟩
  have HW0 := Lib.hid (show ((((((w.alloc (.cells #[.slice A L.length c] 30)).alloc (.cells #[goesF] 130)).alloc (.cells #[.slice none 0 0, .slice none 0 0, .map none] 190)).alloc (.cells #[.pointer (some ⟨w.heap.size + 1 + 1, 0, none⟩)] 134)).alloc (.cells #[.slice none 0 0] 58)).alloc (.cells #[.slice A L.length c] 30)).heap.size = w.heap.size + 6 by simp)
  refine wpIn_rangeFunc_all rfl (by omega) (gf := 106) (lb := #[.pointer (some ⟨w.heap.size + 1 + 1 + 1 + 1 + 1, 0, none⟩)]) rfl trivial (enters_of Tryz.func106 (by kernel_rfl) rfl)
    (each_all 30 2 (by omega) L (by omega) (w.heap.size + 1 + 1 + 1 + 1 + 1) w.heap.size A c _ (blk_one hq5).1 (hr.up hu2) hA) keepB_t
    (fun W k o o' h1 _ ho hc => keepB_b W k o o' (by simp at h1; omega) (by simp at h1 ⊢; omega) ho hc) (fun _ => rfl)
    (fun k W => RowI w.heap.size (rowsL (L.take k)) W ∧ Up w W)
    (fun s W k o' h1 h2 hc hI => ?i1) (fun s W W' hI hu => ⟨rowI_up hI.1 hu, hI.2.trans hu⟩) (fun s W W' r cs fz hI h1 hr hg => ?i3)
    ⟨hI0, hu2⟩
    (fun x => { tmps := (.agg #[.slice A L.length c] :: .pointer (some ⟨w.heap.size, 0, none⟩) :: .slice none 0 0 :: .string ⟨#[]⟩ :: .pointer (some ⟨w.heap.size + 1, 0, none⟩) :: .pointer (some ⟨w.heap.size + 1 + 1 + 1, 0, none⟩) :: .pointer (some ⟨w.heap.size + 1 + 1 + 1 + 1, 0, none⟩) :: .int .u64 (x.1 : Int) :: .string ⟨x.2.toArray⟩ :: undef :: undef :: undef :: undef :: undef :: .pointer (some ⟨w.heap.size + 1 + 1, 0, none⟩) :: .agg #[.slice A L.length c] :: .func (.func 106) #[] #[.pointer (some ⟨w.heap.size + 1 + 1 + 1 + 1 + 1, 0, none⟩)] :: .int .u64 (x.1 : Int) :: .string ⟨x.2.toArray⟩ :: undef :: undef :: undef :: undef :: undef :: undef :: undef :: undef :: undef :: undef :: undef :: undef :: undef :: undef :: undef :: undef :: undef :: undef :: undef :: undef :: undef :: undef :: undef :: undef :: undef :: undef :: undef :: undef :: undef :: undef :: undef :: undef :: undef :: undef :: undef :: undef :: undef :: undef :: undef :: undef :: undef :: undef :: undef :: undef :: []).toArray, defers := [] }) ?assign ?body ?done
  case i1 =>
    rw [HW0.out] at h1 h2
    exact ⟨rowI_put hI.1 h1 (by omega) hc, Up.of (hI.2.below.grown (grownBy_putObj' W k o') hI.2.le (fun j e => by cases e; omega))⟩
  case i3 =>
    rw [HW0.out] at h1
    exact ⟨rowI_T hI.1 (by omega) hr hg, Up.of (hI.2.below.grown hg hI.2.le (fun j e => by cases e; omega))⟩
  case assign =>
    intro lp x W K hK
    gi_wp2
    exact hK
  case body =>
    rintro lp k x W hx ⟨hI, hU⟩ hsz
    rw [HW0.out] at hsz ⊢
    clear hq1 hq2 hq3 hq4 hq5 hu2 hI0 HW0
    have hmx : Tryz.prog.follows .mixedOrders = true := mixed
    obtain ⟨hkl, hkx⟩ := List.getElem?_eq_some_iff.1 hx
    have hst : rowsL (L.take (k + 1)) = (pushE (rowsL (L.take k)).1 (itemE (rowsL (L.take k)).2 x), addC (rowsL (L.take k)).2 x.2) := by
      rw [List.take_succ_eq_append_getElem hkl, hkx, rows_snoc]
      rfl
    have hmem : x ∈ L := by rw [← hkx]; exact List.getElem_mem _
    have hgk := good_take hg k
    have htk := total_take L k
    obtain ⟨r1, r2, r3, r4, r5, r6, r7, r8⟩ := rows_inv _ hgk (by omega)
    have hok := rows_ok hgk (by omega)
    have hcl := rows_cs_len (L.take k)
    have hlk : (L.take k).length ≤ 1000 := by rw [List.length_take]; omega
    have hne : ∀ s ∈ (rowsL (L.take k)).2, s ≠ [] := fun s hs => by
      obtain ⟨y, hy, e⟩ := r3 s hs
      rw [← e]; exact hgk.ne y hy
    have hit : (itemE (rowsL (L.take k)).2 x) = ⟨x.1, offC (addC (rowsL (L.take k)).2 x.2) x.2, x.2.length, 1⟩ := rfl
    have hxi := hg.id x hmem
    have hxs := hg.sz x hmem
    have hof : offC (addC (rowsL (L.take k)).2 x.2) x.2 ≤ 2000000 := by
      have h1 := off_end (add_mem (rowsL (L.take k)).2 x.2)
      have h2 : (addC (rowsL (L.take k)).2 x.2).flatten.length ≤ (rowsL (L.take k)).2.flatten.length + x.2.length := by
        unfold addC; split
        · omega
        · rw [Gz.flat_snoc, List.length_append]; omega
      omega
    have AD := fun wq hp => Lib.hid (add18_any (rowsL (L.take k)).2 r4 hne (by omega) (by omega) x.2 (hg.ne x hmem) hxs (w.heap.size + 1 + 1) (w.heap.size + 8) wq hp)
    rw [hst, hit]
    have HR6 := Lib.hid (fun e (he : e ∈ (rowsL (L.take k)).1) => And.intro (hok e he) (And.intro (r6 e he).1 (show e.run ≤ 1000 by
      have h1 := le_sum (List.mem_map_of_mem (f := fun e : Ent => e.run) he)
      rw [rows_sum] at h1
      omega)))
    have HSL : (rowsL (L.take k)).1.length ≤ 1000 := by omega
    clear hst hit r1 r2 r3 r4 r5 r6 r7 r8 hok hcl hne hgk htk hmem hx hkx hlk
    unfold AddE at AD
    generalize hof' : offC (addC (rowsL (L.take k)).2 x.2) x.2 = of at *
    clear hof'
    generalize hcs' : addC (rowsL (L.take k)).2 x.2 = cs' at *
    clear hcs'
    generalize hdec : decide (x.2 ∉ (rowsL (L.take k)).2) = db at *
    clear hdec
    obtain ⟨v, tv, pv, mv, g1, g2, g3, g4, g5, g6, g7, g8⟩ := hI
    have hP : PoolW W (w.heap.size + 8) (w.heap.size + 1 + 1) (rowsL (L.take k)).2 := ⟨tv, pv, mv, g3, g4, g5, g6, by omega, by omega⟩
    obtain ⟨c4, f4⟩ := blk_one g1
    obtain ⟨c3, _⟩ := blk_one g8
    obtain ⟨x1, xt⟩ := x
    simp only at AD hxi hxs ⊢
    generalize xt.length = ln at *
    generalize (rowsL (L.take k)).1 = es at *
    generalize hPE : pushE es ⟨x1, of, ln, 1⟩ = T at *
    have HPE := Lib.hid hPE
    clear hPE
    have HP := Lib.hid hP
    have HG := Lib.hid (And.intro g1 (And.intro g2 (And.intro g7 g8)))
    clear g1 g2 g3 g4 g5 g6 g7 g8 hP c4 f4
    gi_wp2
    refine ⟨trivial, (CallsIn.inRound lp (callsIn_wide.2 (AD _ HP.out).out)).mono ?_⟩
    rintro e W1 ⟨rfl, hp1, hk1⟩
    obtain ⟨g1, g2, g7, g8⟩ := HG.out
    have e4 := (hk1.below _ (by omega) (by omega)).trans g1
    have o4 := own_keep g2 hk1 (by decide) (by decide) (by decide) (by decide)
    have hR1 : RowI w.heap.size (es, cs') W1 := by
      obtain ⟨tv', pv', mv', p1, p2, p3, p4, p5, p6⟩ := hp1
      exact ⟨v, tv', pv', mv', e4, o4, p1, p2, p3, p4, (hk1.below _ (by omega) (by omega)).trans g7, (hk1.below _ (by omega) (by omega)).trans g8⟩
    have e1 := (hk1.below _ (by omega) (by omega)).trans g7
    have hsz1 : w.heap.size + 8 ≤ W1.heap.size := Nat.le_trans hsz hk1.size
    have HK1 := Lib.hid hk1
    have HD1 := Lib.hid (fun j (h : j < w.heap.size + 8) (h2 : j ≠ w.heap.size + 1 + 1) => hk1.below j h h2)
    have HUW := Lib.hid (hk1.toUp hU (by omega) (by omega))
    have HKB := Lib.hid (hk1.keepB (T := 30) (n₀ := w.heap.size) (Bs := [w.heap.size + 1 + 1 + 1 + 1 + 1]) (by omega) (by omega) (by intro q hq; simp at hq; omega) (by decide) (by decide) (by decide) (by decide))
    clear hp1 hk1 HP HG g1 g2 g7 g8 c3 AD
    obtain ⟨A', c', rfl, r4⟩ := Rd.of_own o4
    have n2 := heap_alloc_new W1 (.cells #[.int .u64 (of : Int), .int .u32 (ln : Int)] 140)
    have n3 := heap_alloc_new (W1.alloc (.cells #[.int .u64 (of : Int), .int .u32 (ln : Int)] 140)) (.cells #[.int .u64 (x1 : Int), .int .u64 (of : Int), .int .u32 (ln : Int), .int .u32 1] 106)
    rw [World.size_alloc] at n3
    have u3 : Up W1 ((W1.alloc (.cells #[.int .u64 (of : Int), .int .u32 (ln : Int)] 140)).alloc (.cells #[.int .u64 (x1 : Int), .int .u64 (of : Int), .int .u32 (ln : Int), .int .u32 1] 106)) := ((Up.refl W1).alloc _).alloc _
    have k0 := blkc n2 0 _ rfl
    have k1 := blkc n2 1 _ rfl
    simp only [List.getElem_toArray, List.getElem_cons_succ, List.getElem_cons_zero] at k0 k1
    have m4 := (blk_one (u3.obj e4)).1
    obtain ⟨X, hX⟩ : ∃ X, (W1.alloc (.cells #[.int .u64 (of : Int), .int .u32 (ln : Int)] 140)).alloc (.cells #[.int .u64 (x1 : Int), .int .u64 (of : Int), .int .u32 (ln : Int), .int .u32 1] 106) = X := ⟨_, rfl⟩
    have hXs : X.heap.size = W1.heap.size + 1 + 1 := by rw [← hX]; simp
    rw [hX] at n3 u3 m4
    have HRX := Lib.hid (rowI_up hR1 u3)
    have HN3 := Lib.hid n3
    have HU3 := Lib.hid u3
    have HE4 := Lib.hid (u3.obj e4)
    have HE1 := Lib.hid (u3.obj e1)
    have HR4 := Lib.hid (r4.up u3)
    have HO4 := Lib.hid (own_up o4 u3)
    clear hR1 e4 e1 o4 r4 n2 n3 u3
    obtain ⟨tl, htl⟩ : ∃ tl, es.length = tl := ⟨_, rfl⟩
    obtain ⟨q, hq⟩ : ∃ q : Int, (tl : Int) - 1 = q := ⟨_, rfl⟩
    have e0 : IntKind.i64.wrap ((tl : Int) - 1) = q := by rw [IntWalk.i64_in _ (by omega)]; exact hq
    have FIN := Lib.hid (fun (R' : Ents × List Bs) (a' : Act) (Y wE : World) (row : Option Nat) (hXY : Up X Y) (hR : RowI w.heap.size R' wE) (hb : ∀ j, j < w.heap.size + 8 → j ≠ w.heap.size + 1 + 1 + 1 + 1 → wE.heap[j]? = Y.heap[j]?) (hkb : KeepB 30 w.heap.size [w.heap.size + 1 + 1 + 1 + 1 + 1] Y wE) (huE : Up w Y → Up w wE) => (by
      have hsY : W1.heap.size ≤ Y.heap.size := by have := hXY.le; omega
      have hu1 := HU3.out.trans hXY
      refine ⟨fun j h1 h2 => ?_, keepB_t HKB.out (keepB_t (keepB_up hu1 (by omega) (by simp; omega)) hkb), hR, huE (HUW.out.trans hu1)⟩
      rw [hb j (by omega) (by omega), hu1.block (by omega)]
      exact HD1.out j (by omega) (by omega) :
      twoPost (w.heap.size + 6) (KeepB 30 w.heap.size [w.heap.size + 1 + 1 + 1 + 1 + 1]) (fun W => RowI w.heap.size R' W ∧ Up w W) W .normal a' wE))
    have APP := Lib.hid (fun (Y : World) (hXY : Up X Y) (g' cap' : Nat) (w6 : World) (row : Option Nat) (ho6 : w6.ownsRow (w.heap.size + 8) 106 4 (.slice (some ⟨g', 0, none⟩) (tl + 1) cap') (tl + 1) (entV es ++ [.int .u64 (x1 : Int), .int .u64 (of : Int), .int .u32 (ln : Int), .int .u32 1])) (hb6 : Below (w.heap.size + 8) Y w6)
        (hk6 : ∀ T n₀ Bs, T ≠ 106 → n₀ ≤ w.heap.size + 8 → (∀ x ∈ Bs, x < w.heap.size + 8) → KeepB T n₀ Bs Y w6) (hg6 : Y.grownBy w6 row) (hr6 : ∀ r, row = some r → w.heap.size + 8 ≤ r ∧ ∃ cur fz, Y.heap[r]? = some (.cells cur 106 fz)) (a' : Act) => (by
      have hsY : W1.heap.size ≤ Y.heap.size := by have := hXY.le; omega
      have hs6 := hg6.size
      have hRE := rowI_app (e := ⟨x1, of, ln, 1⟩) (rowI_up HRX.out hXY) (by rw [htl]; exact ho6) hg6 hr6 rfl
      rw [htl] at hRE
      have h4 := (hb6.block (w.heap.size + 1 + 1 + 1 + 1) (by omega)).trans (hXY.obj HE4.out)
      refine FIN.out (es ++ [⟨x1, of, ln, 1⟩], cs') a' Y _ row hXY hRE (fun j h1 h2 => ?_) (keepB_t (hk6 _ _ _ (by decide) (by omega) (by simp)) (keepB_grown (grown_set w6 (w.heap.size + 1 + 1 + 1 + 1) _) h4 (by decide) (by omega) (by omega) (by simp; omega))) (fun hu => Up.of ((Below.trans hu.below (Below.mono hb6 (by omega))).setCell (p := ⟨w.heap.size + 1 + 1 + 1 + 1, 0, none⟩) (by simp; omega) _))
      exact (Below.heap_setCell w6 ⟨w.heap.size + 1 + 1 + 1 + 1, 0, none⟩ _ j (by simp; omega)).trans (hb6.block j h1) :
      twoPost (w.heap.size + 6) (KeepB 30 w.heap.size [w.heap.size + 1 + 1 + 1 + 1 + 1]) (fun W => RowI w.heap.size (es ++ [⟨x1, of, ln, 1⟩], cs') W ∧ Up w W) W .normal a' (w6.setCell ⟨w.heap.size + 1 + 1 + 1 + 1, 0, none⟩ (.slice (some ⟨g', 0, none⟩) (tl + 1) cap'))))
    rw [htl] at HR4 HO4 HE4 m4
    have HTL := Lib.hid htl
    have htl2 : tl ≤ 1000 := by omega
    clear htl
    have hXle : w.heap.size + 8 ≤ X.heap.size := by omega
    clear hXs
    rcases List.eq_nil_or_concat es with hes | ⟨pre, b, hes⟩
    · have hneg : decide ((0 : Int) ≤ q) = false := decide_eq_false (by
        have := HTL.out; rw [hes] at this; simp at this; omega)
      clear hq
      have hT : es ++ [⟨x1, of, ln, 1⟩] = T := by rw [← HPE.out, hes]; rfl
      rw [hT] at APP
      have HES := Lib.hid hes
      clear hes hT HPE HE1 HR4 HR6
      gi_wp2
      (try rw [hX])
      refine wpIn_region_held (S := fun w' => True) hmx (by kernel_rfl) (by rintro ⟨a, w, h⟩; exact h) ?_ (fun hHeld => ?_)
      · exact trivial
      first
       | refine tk 0 undef rfl (Or.inr ⟨by rfl, rfl⟩) ?_
       | (refine tk 0 ?_ rfl (Or.inl ⟨by rfl, ?_⟩) ?_; rotate_left; focus (intro w hSw; (try dsimp only at hSw); go_simp; first | done | with_reducible rfl))
      (try simp only [Act.put, List.setIfInBounds_toArray, List.set_cons_zero, List.set_cons_succ])
      first
       | refine tk 1 undef rfl (Or.inr ⟨by rfl, rfl⟩) ?_
       | (refine tk 1 ?_ rfl (Or.inl ⟨by rfl, ?_⟩) ?_; rotate_left; focus (intro w hSw; (try dsimp only at hSw); go_simp; first | done | with_reducible rfl))
      (try simp only [Act.put, List.setIfInBounds_toArray, List.set_cons_zero, List.set_cons_succ])
      first
       | refine tk 2 undef rfl (Or.inr ⟨by rfl, rfl⟩) ?_
       | (refine tk 2 ?_ rfl (Or.inl ⟨by rfl, ?_⟩) ?_; rotate_left; focus (intro w hSw; (try dsimp only at hSw); go_simp; first | done | with_reducible rfl))
      (try simp only [Act.put, List.setIfInBounds_toArray, List.set_cons_zero, List.set_cons_succ])
      first
       | refine tk 3 undef rfl (Or.inr ⟨by rfl, rfl⟩) ?_
       | (refine tk 3 ?_ rfl (Or.inl ⟨by rfl, ?_⟩) ?_; rotate_left; focus (intro w hSw; (try dsimp only at hSw); go_simp; first | done | with_reducible rfl))
      (try simp only [Act.put, List.setIfInBounds_toArray, List.set_cons_zero, List.set_cons_succ])
      first
       | refine tk 4 undef rfl (Or.inr ⟨by rfl, rfl⟩) ?_
       | (refine tk 4 ?_ rfl (Or.inl ⟨by rfl, ?_⟩) ?_; rotate_left; focus (intro w hSw; (try dsimp only at hSw); go_simp; first | done | with_reducible rfl))
      (try simp only [Act.put, List.setIfInBounds_toArray, List.set_cons_zero, List.set_cons_succ])
      first
       | refine tk 5 undef rfl (Or.inr ⟨by rfl, rfl⟩) ?_
       | (refine tk 5 ?_ rfl (Or.inl ⟨by rfl, ?_⟩) ?_; rotate_left; focus (intro w hSw; (try dsimp only at hSw); go_simp; first | done | with_reducible rfl))
      (try simp only [Act.put, List.setIfInBounds_toArray, List.set_cons_zero, List.set_cons_succ])
      first
       | refine tk 6 undef rfl (Or.inr ⟨by rfl, rfl⟩) ?_
       | (refine tk 6 ?_ rfl (Or.inl ⟨by rfl, ?_⟩) ?_; rotate_left; focus (intro w hSw; (try dsimp only at hSw); go_simp; first | done | with_reducible rfl))
      (try simp only [Act.put, List.setIfInBounds_toArray, List.set_cons_zero, List.set_cons_succ])
      first
       | refine tk 7 undef rfl (Or.inr ⟨by rfl, rfl⟩) ?_
       | (refine tk 7 ?_ rfl (Or.inl ⟨by rfl, ?_⟩) ?_; rotate_left; focus (intro w hSw; (try dsimp only at hSw); go_simp; first | done | with_reducible rfl))
      (try simp only [Act.put, List.setIfInBounds_toArray, List.set_cons_zero, List.set_cons_succ])
      first
       | refine tk 8 undef rfl (Or.inr ⟨by rfl, rfl⟩) ?_
       | (refine tk 8 ?_ rfl (Or.inl ⟨by rfl, ?_⟩) ?_; rotate_left; focus (intro w hSw; (try dsimp only at hSw); go_simp; first | done | with_reducible rfl))
      (try simp only [Act.put, List.setIfInBounds_toArray, List.set_cons_zero, List.set_cons_succ])
      first
       | refine tk 9 undef rfl (Or.inr ⟨by rfl, rfl⟩) ?_
       | (refine tk 9 ?_ rfl (Or.inl ⟨by rfl, ?_⟩) ?_; rotate_left; focus (intro w hSw; (try dsimp only at hSw); go_simp; first | done | with_reducible rfl))
      (try simp only [Act.put, List.setIfInBounds_toArray, List.set_cons_zero, List.set_cons_succ])
      first
       | refine tk 10 undef rfl (Or.inr ⟨by rfl, rfl⟩) ?_
       | (refine tk 10 ?_ rfl (Or.inl ⟨by rfl, ?_⟩) ?_; rotate_left; focus (intro w hSw; (try dsimp only at hSw); go_simp; first | done | with_reducible rfl))
      (try simp only [Act.put, List.setIfInBounds_toArray, List.set_cons_zero, List.set_cons_succ])
      first
       | refine tk 11 undef rfl (Or.inr ⟨by rfl, rfl⟩) ?_
       | (refine tk 11 ?_ rfl (Or.inl ⟨by rfl, ?_⟩) ?_; rotate_left; focus (intro w hSw; (try dsimp only at hSw); go_simp; first | done | with_reducible rfl))
      (try simp only [Act.put, List.setIfInBounds_toArray, List.set_cons_zero, List.set_cons_succ])
      first
       | refine tk 12 undef rfl (Or.inr ⟨by rfl, rfl⟩) ?_
       | (refine tk 12 ?_ rfl (Or.inl ⟨by rfl, ?_⟩) ?_; rotate_left; focus (intro w hSw; (try dsimp only at hSw); go_simp; first | done | with_reducible rfl))
      (try simp only [Act.put, List.setIfInBounds_toArray, List.set_cons_zero, List.set_cons_succ])
      refine wpAnyH_done (by kernel_rfl) ?_ _
      have hXd := (Up.refl X).drew
      have m4d := hXd.cell m4
      obtain ⟨y0, y1, y2, y3⟩ := blk_four (hXd.obj HN3.out)
      have y0 := y0.1
      have y1 := y1.1
      have y2 := y2.1
      have y3 := y3.1
      have hYle : w.heap.size + 8 ≤ X.drew.heap.size := hXle
      have HOX := Lib.hid (own_up HO4.out hXd)
      clear m4 k0 k1 hX
      generalize X.drew = Y at *
      gi_wp2_with (gi_at_builtin; refine app_oneInG Y rfl _ _ 58 rfl (w.heap.size + 8) 106 i0 _ 4 24 Tryz.underlying58 hi hz0 hz1 hz2 rfl (by decide) _ _ _ HOX.out rfl #[.int .u64 (x1 : Int), .int .u64 (of : Int), .int .u32 (ln : Int), .int .u32 1] rfl rfl (by simp [Value.oneCell']) (by omega) (by omega) (by omega) ?_; intro g' cap' w6 row ho6 hg0 hb6 hk6 hg6 hr6; have g4 := (hb6.block (w.heap.size + 1 + 1 + 1 + 1) (by omega)).trans (hXd.obj HE4.out); obtain ⟨c46, f46⟩ := blk_one g4)
      exact APP.out Y hXd g' cap' w6 row ho6 hb6 hk6 hg6 hr6 _
    · rw [List.concat_eq_append] at hes
      subst hes
      have hml0 : tl = pre.length + 1 := by have := HTL.out; simp at this; omega
      have r4 := HR4.out
      rw [← HTL.out] at r4
      obtain ⟨b', o', eb, d0, d1, d2, d3⟩ := r4.ent (k := pre.length) (by simp)
      rw [List.getElem_concat_length rfl] at d0 d1 d2 d3
      obtain ⟨g, hgA⟩ : ∃ g, A' = some ⟨g, 0, none⟩ := by
        rcases HO4.out.2 with ⟨h, _⟩ | ⟨g, cap, cur, h, _⟩
        · simp at h; omega
        · simp only [Value.slice.injEq] at h; exact ⟨g, h.1⟩
      rw [hgA] at eb
      injection eb with eb
      injection eb with eb1 eb2 _
      subst eb1 eb2
      subst hgA
      simp only [Nat.zero_add] at d0 d1 d2 d3
      obtain ⟨k1', k2', k3'⟩ := HR6.out b (by simp)
      have hlast : lastE b + 1 < 18446744073709551616 := by
        rw [last_ok k2']
        have := chk_ok k2'
        omega
      have GO := fun w => Lib.hid (goes_any b ⟨x1, of, ln, 1⟩ k1' hlast w)
      have HPT := HPE.out
      rw [push_last] at HPT
      have HRUN := Lib.hid (fun r' Y (hXY : Up X Y) => rowI_run (r' := r') (rowI_up HRX.out hXY) (hXY.obj HE4.out))
      obtain ⟨r', hr'⟩ : ∃ r', b.run + 1 = r' := ⟨_, rfl⟩
      rw [hr'] at HPT
      have e2 : IntKind.u32.wrap ((b.run : Int) + 1) = (r' : Int) := by rw [IntWalk.u32_in _ (by omega)]; omega
      generalize hml : pre.length = m at *
      obtain rfl : q = (m : Int) := by omega
      have hneg : decide ((0 : Int) ≤ (m : Int)) = true := decide_eq_true (by omega)
      have hltI : (m : Int) < (tl : Int) := by omega
      obtain ⟨⟨z0, _⟩, ⟨z1, _⟩, ⟨z2, _⟩, ⟨z3, _⟩⟩ := blk_four HN3.out
      have h1 := (blk_one HE1.out).1
      have HPT := Lib.hid HPT
      have MK := Lib.hid (fun w' (h : Up X w') => (⟨h, h.cell h1, h.cell m4, h.cell d0, h.cell d1, h.cell d2, h.cell d3, h.cell z0, h.cell z1, h.cell z2, h.cell z3⟩ : Up X w' ∧ w'.cell? ⟨w.heap.size + 1, 0, none⟩ = some goesF ∧ w'.cell? ⟨w.heap.size + 1 + 1 + 1 + 1, 0, none⟩ = some (.slice (some ⟨g, 0, none⟩) tl c') ∧ w'.cell? ⟨g, m * 4, none⟩ = some (.int .u64 (b.id : Int)) ∧ w'.cell? ⟨g, m * 4 + 1, none⟩ = some (.int .u64 (b.off : Int)) ∧ w'.cell? ⟨g, m * 4 + 2, none⟩ = some (.int .u32 (b.len : Int)) ∧ w'.cell? ⟨g, m * 4 + 3, none⟩ = some (.int .u32 (b.run : Int)) ∧ w'.cell? ⟨W1.heap.size + 1, 0, none⟩ = some (.int .u64 (x1 : Int)) ∧ w'.cell? ⟨W1.heap.size + 1, 1, none⟩ = some (.int .u64 (of : Int)) ∧ w'.cell? ⟨W1.heap.size + 1, 2, none⟩ = some (.int .u32 (ln : Int)) ∧ w'.cell? ⟨W1.heap.size + 1, 3, none⟩ = some (.int .u32 1)))
      simp only [entA] at GO
      clear HPE HR4 HR6 HE1 r4 hr' hml hml0 hq h1 d0 d1 d2 d3 z0 z1 z2 z3 k1' k2' k3' hlast
      generalize b.id = bid at *
      generalize b.off = boff at *
      generalize b.len = blen at *
      generalize b.run = brun at *
      rcases hgo : goesE b ⟨x1, of, ln, 1⟩ with _ | _
      · have hT := HPT.out
        rw [hgo, if_neg (by simp)] at hT
        rw [hT] at APP
        rw [hgo] at GO
        clear hgo hT HPT HRUN e2
        gi_wp2
        (try rw [hX])
        refine wpIn_region_held (S := fun w' => Up X w' ∧ w'.cell? ⟨w.heap.size + 1, 0, none⟩ = some goesF ∧ w'.cell? ⟨w.heap.size + 1 + 1 + 1 + 1, 0, none⟩ = some (.slice (some ⟨g, 0, none⟩) tl c') ∧ w'.cell? ⟨g, m * 4, none⟩ = some (.int .u64 (bid : Int)) ∧ w'.cell? ⟨g, m * 4 + 1, none⟩ = some (.int .u64 (boff : Int)) ∧ w'.cell? ⟨g, m * 4 + 2, none⟩ = some (.int .u32 (blen : Int)) ∧ w'.cell? ⟨g, m * 4 + 3, none⟩ = some (.int .u32 (brun : Int)) ∧ w'.cell? ⟨W1.heap.size + 1, 0, none⟩ = some (.int .u64 (x1 : Int)) ∧ w'.cell? ⟨W1.heap.size + 1, 1, none⟩ = some (.int .u64 (of : Int)) ∧ w'.cell? ⟨W1.heap.size + 1, 2, none⟩ = some (.int .u32 (ln : Int)) ∧ w'.cell? ⟨W1.heap.size + 1, 3, none⟩ = some (.int .u32 1)) hmx (by kernel_rfl) (by rintro ⟨a, w, h⟩; exact h) ?_ (fun hHeld => ?_)
        · exact MK.out _ (Up.refl X).drew
        first
         | refine tk 0 undef rfl (Or.inr ⟨by rfl, rfl⟩) ?_
         | (refine tk 0 ?_ rfl (Or.inl ⟨by rfl, ?_⟩) ?_; rotate_left; focus (intro w hSw; (try dsimp only at hSw); go_simp; first | done | with_reducible rfl))
        (try simp only [Act.put, List.setIfInBounds_toArray, List.set_cons_zero, List.set_cons_succ])
        first
         | refine tk 1 undef rfl (Or.inr ⟨by rfl, rfl⟩) ?_
         | (refine tk 1 ?_ rfl (Or.inl ⟨by rfl, ?_⟩) ?_; rotate_left; focus (intro w hSw; (try dsimp only at hSw); go_simp; first | done | with_reducible rfl))
        (try simp only [Act.put, List.setIfInBounds_toArray, List.set_cons_zero, List.set_cons_succ])
        first
         | refine tk 2 undef rfl (Or.inr ⟨by rfl, rfl⟩) ?_
         | (refine tk 2 ?_ rfl (Or.inl ⟨by rfl, ?_⟩) ?_; rotate_left; focus (intro w hSw; (try dsimp only at hSw); go_simp; first | done | with_reducible rfl))
        (try simp only [Act.put, List.setIfInBounds_toArray, List.set_cons_zero, List.set_cons_succ])
        first
         | refine tk 3 undef rfl (Or.inr ⟨by rfl, rfl⟩) ?_
         | (refine tk 3 ?_ rfl (Or.inl ⟨by rfl, ?_⟩) ?_; rotate_left; focus (intro w hSw; (try dsimp only at hSw); go_simp; first | done | with_reducible rfl))
        (try simp only [Act.put, List.setIfInBounds_toArray, List.set_cons_zero, List.set_cons_succ])
        first
         | refine tk 4 undef rfl (Or.inr ⟨by rfl, rfl⟩) ?_
         | (refine tk 4 ?_ rfl (Or.inl ⟨by rfl, ?_⟩) ?_; rotate_left; focus (intro w hSw; (try dsimp only at hSw); go_simp; first | done | with_reducible rfl))
        (try simp only [Act.put, List.setIfInBounds_toArray, List.set_cons_zero, List.set_cons_succ])
        first
         | refine tk 5 undef rfl (Or.inr ⟨by rfl, rfl⟩) ?_
         | (refine tk 5 ?_ rfl (Or.inl ⟨by rfl, ?_⟩) ?_; rotate_left; focus (intro w hSw; (try dsimp only at hSw); go_simp; first | done | with_reducible rfl))
        (try simp only [Act.put, List.setIfInBounds_toArray, List.set_cons_zero, List.set_cons_succ])
        first
         | refine tk 6 undef rfl (Or.inr ⟨by rfl, rfl⟩) ?_
         | (refine tk 6 ?_ rfl (Or.inl ⟨by rfl, ?_⟩) ?_; rotate_left; focus (intro w hSw; (try dsimp only at hSw); go_simp; first | done | with_reducible rfl))
        (try simp only [Act.put, List.setIfInBounds_toArray, List.set_cons_zero, List.set_cons_succ])
        first
         | refine tk 7 undef rfl (Or.inr ⟨by rfl, rfl⟩) ?_
         | (refine tk 7 ?_ rfl (Or.inl ⟨by rfl, ?_⟩) ?_; rotate_left; focus (intro w hSw; (try dsimp only at hSw); go_simp; first | done | with_reducible rfl))
        (try simp only [Act.put, List.setIfInBounds_toArray, List.set_cons_zero, List.set_cons_succ])
        first
         | refine tk 8 undef rfl (Or.inr ⟨by rfl, rfl⟩) ?_
         | (refine tk 8 ?_ rfl (Or.inl ⟨by rfl, ?_⟩) ?_; rotate_left; focus (intro w hSw; (try dsimp only at hSw); go_simp; first | done | with_reducible rfl))
        (try simp only [Act.put, List.setIfInBounds_toArray, List.set_cons_zero, List.set_cons_succ])
        first
         | refine tk 9 undef rfl (Or.inr ⟨by rfl, rfl⟩) ?_
         | (refine tk 9 ?_ rfl (Or.inl ⟨by rfl, ?_⟩) ?_; rotate_left; focus (intro w hSw; (try dsimp only at hSw); go_simp; first | done | with_reducible rfl))
        (try simp only [Act.put, List.setIfInBounds_toArray, List.set_cons_zero, List.set_cons_succ])
        first
         | refine tk 10 undef rfl (Or.inr ⟨by rfl, rfl⟩) ?_
         | (refine tk 10 ?_ rfl (Or.inl ⟨by rfl, ?_⟩) ?_; rotate_left; focus (intro w hSw; (try dsimp only at hSw); go_simp; first | done | with_reducible rfl))
        (try simp only [Act.put, List.setIfInBounds_toArray, List.set_cons_zero, List.set_cons_succ])
        refine wpAnyH_ready (rs := [11]) (by kernel_rfl) (by simp) ?_
        refine AllReadyH.cons (o := ⟨_, _, _, _, _, _⟩) rfl (fun K hK => ?_) AllReadyH.nil
        go_simp
        go_at_call 65
        refine (GO _).out.mono ?_
        rintro e w4 ⟨rfl, hu4⟩
        refine hK.out _ _ ?_ (fun hHeld2 => ?_)
        · exact MK.out _ (((Up.refl X).drew).trans hu4)
        clear hK K
        (try simp only [Act.put, List.setIfInBounds_toArray, List.set_cons_zero, List.set_cons_succ])
        first
         | refine tk 12 undef rfl (Or.inr ⟨by rfl, rfl⟩) ?_
         | (refine tk 12 ?_ rfl (Or.inl ⟨by rfl, ?_⟩) ?_; rotate_left; focus (intro w hSw; (try dsimp only at hSw); go_simp; first | done | with_reducible rfl))
        (try simp only [Act.put, List.setIfInBounds_toArray, List.set_cons_zero, List.set_cons_succ])
        refine wpAnyH_done (by kernel_rfl) ?_ _
        obtain ⟨hX4, s0, m4d, s1, s2, s3, s4, y0, y1, y2, y3⟩ := hHeld2
        have HOX := Lib.hid (own_up HO4.out hX4)
        have hYle : w.heap.size + 8 ≤ w4.heap.size := by have := hX4.le; omega
        clear m4 k0 k1 hX s0 s1 s2 s3 s4 hHeld MK GO
        gi_wp2_with (gi_at_builtin; refine app_oneInG w4 rfl _ _ 58 rfl (w.heap.size + 8) 106 i0 _ 4 24 Tryz.underlying58 hi hz0 hz1 hz2 rfl (by decide) _ _ _ HOX.out rfl #[.int .u64 (x1 : Int), .int .u64 (of : Int), .int .u32 (ln : Int), .int .u32 1] rfl rfl (by simp [Value.oneCell']) (by omega) (by omega) (by omega) ?_; intro g' cap' w6 row ho6 hg0 hb6 hk6 hg6 hr6; have g4 := (hb6.block (w.heap.size + 1 + 1 + 1 + 1) (by omega)).trans (hX4.obj HE4.out); obtain ⟨c46, f46⟩ := blk_one g4)
        exact APP.out w4 hX4 g' cap' w6 row ho6 hb6 hk6 hg6 hr6 _
      · have hT := HPT.out
        rw [hgo, if_pos rfl] at hT
        rw [hgo] at GO
        have HT := Lib.hid hT
        clear hgo hT HPT APP
        gi_wp2
        (try rw [hX])
        refine wpIn_region_held (S := fun w' => Up X w' ∧ w'.cell? ⟨w.heap.size + 1, 0, none⟩ = some goesF ∧ w'.cell? ⟨w.heap.size + 1 + 1 + 1 + 1, 0, none⟩ = some (.slice (some ⟨g, 0, none⟩) tl c') ∧ w'.cell? ⟨g, m * 4, none⟩ = some (.int .u64 (bid : Int)) ∧ w'.cell? ⟨g, m * 4 + 1, none⟩ = some (.int .u64 (boff : Int)) ∧ w'.cell? ⟨g, m * 4 + 2, none⟩ = some (.int .u32 (blen : Int)) ∧ w'.cell? ⟨g, m * 4 + 3, none⟩ = some (.int .u32 (brun : Int)) ∧ w'.cell? ⟨W1.heap.size + 1, 0, none⟩ = some (.int .u64 (x1 : Int)) ∧ w'.cell? ⟨W1.heap.size + 1, 1, none⟩ = some (.int .u64 (of : Int)) ∧ w'.cell? ⟨W1.heap.size + 1, 2, none⟩ = some (.int .u32 (ln : Int)) ∧ w'.cell? ⟨W1.heap.size + 1, 3, none⟩ = some (.int .u32 1)) hmx (by kernel_rfl) (by rintro ⟨a, w, h⟩; exact h) ?_ (fun hHeld => ?_)
        · exact MK.out _ (Up.refl X).drew
        first
         | refine tk 0 undef rfl (Or.inr ⟨by rfl, rfl⟩) ?_
         | (refine tk 0 ?_ rfl (Or.inl ⟨by rfl, ?_⟩) ?_; rotate_left; focus (intro w hSw; (try dsimp only at hSw); go_simp; first | done | with_reducible rfl))
        (try simp only [Act.put, List.setIfInBounds_toArray, List.set_cons_zero, List.set_cons_succ])
        first
         | refine tk 1 undef rfl (Or.inr ⟨by rfl, rfl⟩) ?_
         | (refine tk 1 ?_ rfl (Or.inl ⟨by rfl, ?_⟩) ?_; rotate_left; focus (intro w hSw; (try dsimp only at hSw); go_simp; first | done | with_reducible rfl))
        (try simp only [Act.put, List.setIfInBounds_toArray, List.set_cons_zero, List.set_cons_succ])
        first
         | refine tk 2 undef rfl (Or.inr ⟨by rfl, rfl⟩) ?_
         | (refine tk 2 ?_ rfl (Or.inl ⟨by rfl, ?_⟩) ?_; rotate_left; focus (intro w hSw; (try dsimp only at hSw); go_simp; first | done | with_reducible rfl))
        (try simp only [Act.put, List.setIfInBounds_toArray, List.set_cons_zero, List.set_cons_succ])
        first
         | refine tk 3 undef rfl (Or.inr ⟨by rfl, rfl⟩) ?_
         | (refine tk 3 ?_ rfl (Or.inl ⟨by rfl, ?_⟩) ?_; rotate_left; focus (intro w hSw; (try dsimp only at hSw); go_simp; first | done | with_reducible rfl))
        (try simp only [Act.put, List.setIfInBounds_toArray, List.set_cons_zero, List.set_cons_succ])
        first
         | refine tk 4 undef rfl (Or.inr ⟨by rfl, rfl⟩) ?_
         | (refine tk 4 ?_ rfl (Or.inl ⟨by rfl, ?_⟩) ?_; rotate_left; focus (intro w hSw; (try dsimp only at hSw); go_simp; first | done | with_reducible rfl))
        (try simp only [Act.put, List.setIfInBounds_toArray, List.set_cons_zero, List.set_cons_succ])
        first
         | refine tk 5 undef rfl (Or.inr ⟨by rfl, rfl⟩) ?_
         | (refine tk 5 ?_ rfl (Or.inl ⟨by rfl, ?_⟩) ?_; rotate_left; focus (intro w hSw; (try dsimp only at hSw); go_simp; first | done | with_reducible rfl))
        (try simp only [Act.put, List.setIfInBounds_toArray, List.set_cons_zero, List.set_cons_succ])
        first
         | refine tk 6 undef rfl (Or.inr ⟨by rfl, rfl⟩) ?_
         | (refine tk 6 ?_ rfl (Or.inl ⟨by rfl, ?_⟩) ?_; rotate_left; focus (intro w hSw; (try dsimp only at hSw); go_simp; first | done | with_reducible rfl))
        (try simp only [Act.put, List.setIfInBounds_toArray, List.set_cons_zero, List.set_cons_succ])
        first
         | refine tk 7 undef rfl (Or.inr ⟨by rfl, rfl⟩) ?_
         | (refine tk 7 ?_ rfl (Or.inl ⟨by rfl, ?_⟩) ?_; rotate_left; focus (intro w hSw; (try dsimp only at hSw); go_simp; first | done | with_reducible rfl))
        (try simp only [Act.put, List.setIfInBounds_toArray, List.set_cons_zero, List.set_cons_succ])
        first
         | refine tk 8 undef rfl (Or.inr ⟨by rfl, rfl⟩) ?_
         | (refine tk 8 ?_ rfl (Or.inl ⟨by rfl, ?_⟩) ?_; rotate_left; focus (intro w hSw; (try dsimp only at hSw); go_simp; first | done | with_reducible rfl))
        (try simp only [Act.put, List.setIfInBounds_toArray, List.set_cons_zero, List.set_cons_succ])
        first
         | refine tk 9 undef rfl (Or.inr ⟨by rfl, rfl⟩) ?_
         | (refine tk 9 ?_ rfl (Or.inl ⟨by rfl, ?_⟩) ?_; rotate_left; focus (intro w hSw; (try dsimp only at hSw); go_simp; first | done | with_reducible rfl))
        (try simp only [Act.put, List.setIfInBounds_toArray, List.set_cons_zero, List.set_cons_succ])
        first
         | refine tk 10 undef rfl (Or.inr ⟨by rfl, rfl⟩) ?_
         | (refine tk 10 ?_ rfl (Or.inl ⟨by rfl, ?_⟩) ?_; rotate_left; focus (intro w hSw; (try dsimp only at hSw); go_simp; first | done | with_reducible rfl))
        (try simp only [Act.put, List.setIfInBounds_toArray, List.set_cons_zero, List.set_cons_succ])
        refine wpAnyH_ready (rs := [11]) (by kernel_rfl) (by simp) ?_
        refine AllReadyH.cons (o := ⟨_, _, _, _, _, _⟩) rfl (fun K hK => ?_) AllReadyH.nil
        go_simp
        go_at_call 65
        refine (GO _).out.mono ?_
        rintro e w4 ⟨rfl, hu4⟩
        refine hK.out _ _ ?_ (fun hHeld2 => ?_)
        · exact MK.out _ (((Up.refl X).drew).trans hu4)
        clear hK K
        (try simp only [Act.put, List.setIfInBounds_toArray, List.set_cons_zero, List.set_cons_succ])
        first
         | refine tk 12 undef rfl (Or.inr ⟨by rfl, rfl⟩) ?_
         | (refine tk 12 ?_ rfl (Or.inl ⟨by rfl, ?_⟩) ?_; rotate_left; focus (intro w hSw; (try dsimp only at hSw); go_simp; first | done | with_reducible rfl))
        (try simp only [Act.put, List.setIfInBounds_toArray, List.set_cons_zero, List.set_cons_succ])
        refine wpAnyH_done (by kernel_rfl) ?_ _
        obtain ⟨hX4, s0, m4d, s1, s2, s3, s4, y0, y1, y2, y3⟩ := hHeld2
        have hfz := (own_up HO4.out hX4).frozenAt (m * 4 + 3)
        clear m4 k0 k1 hX s0 s1 s2 s3 hHeld MK GO
        gi_wp2
        obtain ⟨q1, q2, q3, cur, fz, q4⟩ := HRUN.out r' w4 hX4
        rw [HT.out] at q1
        refine FIN.out (T, cs') _ w4 _ (some g) hX4 q1 (fun j h1 h2 => ?_) (keepB_grown q2 q4 (by decide) (by have := hX4.le; omega) (by omega) (by intro q hq; simp at hq; have := hX4.le; omega)) (fun hu => Up.of (hu.below.grown q2 hu.le (fun j e => by cases e; omega)))
        exact q2.block j (by have := hX4.le; omega) (by intro e; injection e with e; omega)
  case done =>
    rintro W ⟨hI, hU⟩ hD
    rw [List.take_length] at hI
    rw [HW0.out] at hD ⊢
    clear hq1 hq2 hq3 hq4 hq5 hu2 hI0 HW0
    have hmx : Tryz.prog.follows .mixedOrders = true := mixed
    obtain ⟨r1, r2, r3, r4, r5, r6, r7, r8⟩ := rows_inv _ hg (by omega)
    have TX := fun wq mv hp => Lib.hid (text_any (rowsL L).2 (by omega) (w.heap.size + 1 + 1) mv wq hp)
    unfold RowsE
    clear r1 r2 r3 r4 r5 r6 r7 r8
    obtain ⟨v, tv, pv, mv, g1, g2, g3, g4, g5, g6, g7, g8⟩ := hI
    obtain ⟨At, ct, rfl, rt⟩ := Rd.of_own g4
    obtain ⟨Ap, cp, rfl, rp⟩ := Rd.of_own g5
    have hPR : PoolR W (w.heap.size + 1 + 1) (rowsL L).2 mv := ⟨_, _, _, _, g3, rt, rp⟩
    have c4 := (blk_one g1).1
    have c3 := (blk_one g8).1
    have G2 := Lib.hid g2
    obtain ⟨A2, c2, rfl, r2⟩ := Rd.of_own g2
    have hd := (Up.refl W).drew
    have hPD := hPR.up hd
    have c4d := hd.cell c4
    have c3d := hd.cell c3
    have HDD := Lib.hid (hd.obj hD)
    have GD := Lib.hid (own_up G2.out hd)
    have HUD := Lib.hid (hU.trans hd)
    clear g1 g2 g3 g4 g5 g6 g7 g8 rt rp r2 hPR c4 c3 hD
    generalize htx : (rowsL L).2.flatten = tx at *
    generalize hes : (rowsL L).1 = es at *
    generalize htl : es.length = tl at *
    have HTT := Lib.hid (And.intro htx (And.intro hes htl))
    clear htx hes htl
    gi_wp2
    refine wpIn_region_any hmx ?_
    (try change wpAnyIn _ _ _ _ _ _ _ _ _ (World.drew _))
    refine wpAnyIn_ready (rs := [0, 1]) (by kernel_rfl) (by simp) ?_
    refine AllReadyIn.cons (o := ⟨_, _, _, _, _, _⟩) rfl (fun K hK => ?_) ?_
    · go_simp
      refine hK _ _ ?_
      clear hK K
      (try simp only [Act.put, List.setIfInBounds_toArray, List.set_cons_zero, List.set_cons_succ])
      refine wpAnyIn_ready (rs := [1]) (by kernel_rfl) (by simp) ?_
      refine AllReadyIn.cons (o := ⟨_, _, _, _, _, _⟩) rfl (fun K hK => ?_) ?_
      · go_simp
        refine hK _ _ ?_
        clear hK K
        (try simp only [Act.put, List.setIfInBounds_toArray, List.set_cons_zero, List.set_cons_succ])
        refine wpAnyIn_ready (rs := [2]) (by kernel_rfl) (by simp) ?_
        refine AllReadyIn.cons (o := ⟨_, _, _, _, _, _⟩) rfl (fun K hK => ?_) ?_
        · go_simp
          refine ⟨trivial, (callsIn_wide.2 (TX _ _ hPD).out).mono ?_⟩
          rintro e w5 ⟨rfl, hu5⟩
          have c45 := hu5.cell c4d
          refine hK _ _ ?_
          clear hK K
          (try simp only [Act.put, List.setIfInBounds_toArray, List.set_cons_zero, List.set_cons_succ])
          refine wpAnyIn_ready (rs := [3]) (by kernel_rfl) (by simp) ?_
          refine AllReadyIn.cons (o := ⟨_, _, _, _, _, _⟩) rfl (fun K hK => ?_) ?_
          · go_simp
            refine hK _ _ ?_
            clear hK K
            (try simp only [Act.put, List.setIfInBounds_toArray, List.set_cons_zero, List.set_cons_succ])
            refine wpAnyIn_ready (rs := [4]) (by kernel_rfl) (by simp) ?_
            refine AllReadyIn.cons (o := ⟨_, _, _, _, _, _⟩) rfl (fun K hK => ?_) ?_
            · go_simp
              refine hK _ _ ?_
              clear hK K
              (try simp only [Act.put, List.setIfInBounds_toArray, List.set_cons_zero, List.set_cons_succ])
              refine wpAnyIn_done (by kernel_rfl) ?_ _
              have hD5 := hu5.obj HDD.out
              gi_wp2
              refine ⟨by simp, .inl ⟨_, _, rfl, run_takeDeferred hD5, ?_⟩⟩
              obtain ⟨A6, c6, e6, r6⟩ := Rd.of_own (own_put (o' := .deferred none) (k := w.heap.size + 6) (own_up GD.out hu5) (by omega))
              have hUU := HUD.out.trans hu5
              injection e6 with i1 _ i3
              obtain ⟨htx, hes, htl⟩ := HTT.out
              clear HTT TX
              subst i1 i3 htx htl hes
              exact ⟨_, results_tmp2 rfl _ _ _, A2, c2, rfl, r6, Up.of (hUU.below.grown (grownBy_putObj' w5 _ _) hUU.le (fun j e => by cases e; omega))⟩
            exact AllReadyIn.nil
          exact AllReadyIn.nil
        exact AllReadyIn.nil
      exact AllReadyIn.nil
    refine AllReadyIn.cons (o := ⟨_, _, _, _, _, _⟩) rfl (fun K hK => ?_) ?_
    · go_simp
      refine hK _ _ ?_
      clear hK K
      (try simp only [Act.put, List.setIfInBounds_toArray, List.set_cons_zero, List.set_cons_succ])
      refine wpAnyIn_ready (rs := [0, 2]) (by kernel_rfl) (by simp) ?_
      refine AllReadyIn.cons (o := ⟨_, _, _, _, _, _⟩) rfl (fun K hK => ?_) ?_
      · go_simp
        refine hK _ _ ?_
        clear hK K
        (try simp only [Act.put, List.setIfInBounds_toArray, List.set_cons_zero, List.set_cons_succ])
        refine wpAnyIn_ready (rs := [2]) (by kernel_rfl) (by simp) ?_
        refine AllReadyIn.cons (o := ⟨_, _, _, _, _, _⟩) rfl (fun K hK => ?_) ?_
        · go_simp
          refine ⟨trivial, (callsIn_wide.2 (TX _ _ hPD).out).mono ?_⟩
          rintro e w5 ⟨rfl, hu5⟩
          have c45 := hu5.cell c4d
          refine hK _ _ ?_
          clear hK K
          (try simp only [Act.put, List.setIfInBounds_toArray, List.set_cons_zero, List.set_cons_succ])
          refine wpAnyIn_ready (rs := [3]) (by kernel_rfl) (by simp) ?_
          refine AllReadyIn.cons (o := ⟨_, _, _, _, _, _⟩) rfl (fun K hK => ?_) ?_
          · go_simp
            refine hK _ _ ?_
            clear hK K
            (try simp only [Act.put, List.setIfInBounds_toArray, List.set_cons_zero, List.set_cons_succ])
            refine wpAnyIn_ready (rs := [4]) (by kernel_rfl) (by simp) ?_
            refine AllReadyIn.cons (o := ⟨_, _, _, _, _, _⟩) rfl (fun K hK => ?_) ?_
            · go_simp
              refine hK _ _ ?_
              clear hK K
              (try simp only [Act.put, List.setIfInBounds_toArray, List.set_cons_zero, List.set_cons_succ])
              refine wpAnyIn_done (by kernel_rfl) ?_ _
              have hD5 := hu5.obj HDD.out
              gi_wp2
              refine ⟨by simp, .inl ⟨_, _, rfl, run_takeDeferred hD5, ?_⟩⟩
              obtain ⟨A6, c6, e6, r6⟩ := Rd.of_own (own_put (o' := .deferred none) (k := w.heap.size + 6) (own_up GD.out hu5) (by omega))
              have hUU := HUD.out.trans hu5
              injection e6 with i1 _ i3
              obtain ⟨htx, hes, htl⟩ := HTT.out
              clear HTT TX
              subst i1 i3 htx htl hes
              exact ⟨_, results_tmp2 rfl _ _ _, A2, c2, rfl, r6, Up.of (hUU.below.grown (grownBy_putObj' w5 _ _) hUU.le (fun j e => by cases e; omega))⟩
            exact AllReadyIn.nil
          exact AllReadyIn.nil
        exact AllReadyIn.nil
      refine AllReadyIn.cons (o := ⟨_, _, _, _, _, _⟩) rfl (fun K hK => ?_) ?_
      · go_simp
        refine ⟨trivial, (callsIn_wide.2 (TX _ _ hPD).out).mono ?_⟩
        rintro e w5 ⟨rfl, hu5⟩
        have c45 := hu5.cell c4d
        refine hK _ _ ?_
        clear hK K
        (try simp only [Act.put, List.setIfInBounds_toArray, List.set_cons_zero, List.set_cons_succ])
        refine wpAnyIn_ready (rs := [0]) (by kernel_rfl) (by simp) ?_
        refine AllReadyIn.cons (o := ⟨_, _, _, _, _, _⟩) rfl (fun K hK => ?_) ?_
        · go_simp
          refine hK _ _ ?_
          clear hK K
          (try simp only [Act.put, List.setIfInBounds_toArray, List.set_cons_zero, List.set_cons_succ])
          refine wpAnyIn_ready (rs := [3]) (by kernel_rfl) (by simp) ?_
          refine AllReadyIn.cons (o := ⟨_, _, _, _, _, _⟩) rfl (fun K hK => ?_) ?_
          · go_simp
            refine hK _ _ ?_
            clear hK K
            (try simp only [Act.put, List.setIfInBounds_toArray, List.set_cons_zero, List.set_cons_succ])
            refine wpAnyIn_ready (rs := [4]) (by kernel_rfl) (by simp) ?_
            refine AllReadyIn.cons (o := ⟨_, _, _, _, _, _⟩) rfl (fun K hK => ?_) ?_
            · go_simp
              refine hK _ _ ?_
              clear hK K
              (try simp only [Act.put, List.setIfInBounds_toArray, List.set_cons_zero, List.set_cons_succ])
              refine wpAnyIn_done (by kernel_rfl) ?_ _
              have hD5 := hu5.obj HDD.out
              gi_wp2
              refine ⟨by simp, .inl ⟨_, _, rfl, run_takeDeferred hD5, ?_⟩⟩
              obtain ⟨A6, c6, e6, r6⟩ := Rd.of_own (own_put (o' := .deferred none) (k := w.heap.size + 6) (own_up GD.out hu5) (by omega))
              have hUU := HUD.out.trans hu5
              injection e6 with i1 _ i3
              obtain ⟨htx, hes, htl⟩ := HTT.out
              clear HTT TX
              subst i1 i3 htx htl hes
              exact ⟨_, results_tmp2 rfl _ _ _, A2, c2, rfl, r6, Up.of (hUU.below.grown (grownBy_putObj' w5 _ _) hUU.le (fun j e => by cases e; omega))⟩
            exact AllReadyIn.nil
          exact AllReadyIn.nil
        exact AllReadyIn.nil
      exact AllReadyIn.nil
    exact AllReadyIn.nil
end Go.Proofs.YtgoelpjkfofbbaaGreatDoor
