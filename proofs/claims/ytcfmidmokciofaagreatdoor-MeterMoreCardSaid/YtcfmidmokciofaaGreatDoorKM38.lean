/- Walk: meter.New of a chart that is in order. -/
import Derived.Test.YtcfmidmokciofaaGreatDoorKM37
import Derived.Test.YtcfmidmokciofaaGreatDoorKM28
import Derived.Test.YtcfmidmokciofaaGreatDoorKM27
import Derived.Test.YtcfmidmokciofaaGreatDoorKM36
namespace Go.Gz
/-- the root of a chart's archive -/
def rootV (L : Items) (b : Nat) : Ents := (splitV (rowsL L).1 b).2.1
theorem root_facts {L : Items} (hg : Good L) (hl : L.length ≤ 1000) (ht : total L ≤ 400000) {b : Nat} (hb : 512 ≤ b) (hb2 : b ≤ 16257) :
    rowE (rootV L b) = 0 ∧ (∀ e ∈ rootV L b, okE e) ∧ (rootV L b).length ≤ 4096 := by
  obtain ⟨i1, i2, i3, i4, i5, i6, i7, i8⟩ := rows_inv L hg (by omega)
  have hrow1 := rows_row hg (by omega)
  have hok1 := rows_ok hg (by omega)
  have hrun : ∀ e ∈ (rowsL L).1, 1 ≤ e.run := fun e he => (i6 e he).2.1
  obtain ⟨s1, s2, s3, s4⟩ := split_ok hb hb2 hrow1 hok1 (by omega) hrun
  refine ⟨s2, ?_, row_len s2⟩
  unfold rootV
  rcases s4 with ⟨_, e⟩ | ⟨n, hn, e, _⟩
  · rw [e]; exact hok1
  · rw [e]; exact root_okE hn hrow1 hok1 (by omega)
end Go.Gz
namespace Go.Proofs.YtcfmidmokciofaaGreatDoor
open Go.RowKit Go.Gz
set_option maxRecDepth 100000
theorem blk_onec {w : World} {b : Nat} {v : Value} {t : TypeId} (h : w.heap[b]? = some (.cells #[v] t (0, 0))) : w.cell? ⟨b, 0, none⟩ = some v ∧ w.frozen? ⟨b, 0, none⟩ = false := ⟨by simp [World.cell?, h], by simp [World.frozen?, h]⟩
theorem plan_braces (b : Nat) (hb : 512 ≤ b) (hb2 : b ≤ 16257) : planN (b : Int) 0 [123, 125] = 0 := by
  unfold planN
  rw [if_neg (by omega), if_neg (by omega), if_neg (by rw [show noteN [123, 125] = 0 by kernel_rfl]; simp), if_pos (by kernel_rfl)]
/-- a meter that is new -/
def NewE (w : World) (A : Option Addr) (L : Items) (c b n : Nat) (e : Ending) (w' : World) : Prop :=
  ∃ BM RA rc B m, e = .returned (.tuple #[.pointer (some ⟨BM, 0, none⟩), .int .i64 0]) ∧ w'.heap[BM]? = some (.cells (mtC A L.length c RA (rootV L b).length rc false B 0) 41 (0, 0)) ∧
    Rd w' 4 RA (rootV L b).length rc (entV (rootV L b)) ∧ LruR w' B m n [] ∧ Up w w' ∧ BM ≠ B ∧ BM ≠ m ∧ w.heap.size ≤ BM ∧ w.heap.size ≤ B ∧ w.heap.size ≤ m ∧ BM < w'.heap.size ∧ B < w'.heap.size ∧ m < w'.heap.size
set_option maxHeartbeats 4000000 in
theorem mnew_any (L : Items) (hg : Gz.Good L) (hl : L.length ≤ 1000) (ht : total L ≤ 400000) (A : Option Addr) (c : Nat) (b : Nat) (hb : 512 ≤ b) (hb2 : b ≤ 16257) (n : Nat) (hn : n ≤ 64) (w : World) (hgl : Gl w) (hr : Rd w 2 A L.length c (itV L)) :
    Calls Tryz.prog 10 #[.agg #[.slice A L.length c], .int .i64 (b : Int), .int .i64 (n : Int)] w (NewE w A L c b n) := by
  obtain ⟨i1, i2, i3, i4, i5, i6, i7, i8⟩ := rows_inv L hg (by omega)
  have hrow1 := rows_row hg (by omega)
  have hok1 := rows_ok hg (by omega)
  have hrun : ∀ e ∈ (rowsL L).1, 1 ≤ e.run := fun e he => (i6 e he).2.1
  have CK := fun w hg => Lib.hid (pcheck_all (b : Int) 0 [123, 125] (by simp) w hg)
  rw [plan_braces b hb hb2] at CK
  replace CK : ∀ w, Gl w → RowKit.Hid (Calls Tryz.prog 22 #[.agg #[.int .i64 (b : Int), .int .u8 0, .string ⟨#[123, 125]⟩]] w fun e w' => e = .returned (.int .i64 0) ∧ Up w w') := CK
  have RW := fun w hr => Lib.hid (rows_any L hg hl ht A c w hr)
  have SP := fun A c w hr => Lib.hid (split_any (rowsL L).1 hok1 (by omega) hrow1 hrun b hb hb2 A c w hr)
  have NL := fun w => Lib.hid (lrunew_any n hn w)
  unfold RowsE at RW
  unfold SplitE at SP
  have hrt : (splitV (rowsL L).1 b).2.1 = rootV L b := rfl
  rw [hrt] at SP
  have HG := Lib.hid hgl
  have HR := Lib.hid hr
  have HRT := Lib.hid hrt
  clear i1 i2 i3 i4 i5 i6 i7 i8 hrow1 hok1 hrun hg ht hgl hr hrt
  obtain ⟨R, hR⟩ : ∃ R, rootV L b = R := ⟨_, rfl⟩
  rw [hR] at SP
  have HRE := Lib.hid hR
  clear hR HRT
  generalize (splitV (rowsL L).1 b).2.2.2 = sn at *
  generalize (splitV (rowsL L).1 b).2.2.1 = st at *
  generalize (rowsL L).2.flatten = rt at *
  generalize (rowsL L).1 = l at *
  go_enter Tryz.func10, Tryz.ntmps10
  go_wp2_with fail
  have HU0 := Lib.hid ((Up.refl w).alloc (.cells #[.slice A L.length c] 29))
  with_reducible refine (CK _ ?_).out.mono ?_
  · exact HG.out.up HU0.out
  rintro e w1 ⟨rfl, hu1⟩
  have HU1 := Lib.hid (HU0.out.trans hu1)
  have q1 := hu1.obj (heap_alloc_new w (.cells #[.slice A L.length c] 29))
  have c1 := (blk_onec q1).1
  have Q1 := Lib.hid q1
  clear hu1 q1
  go_wp2_with fail
  with_reducible refine (RW _ ?_).out.mono ?_
  · exact HR.out.up HU1.out
  rintro e w2 ⟨A2, d2, rfl, hr2, hu2⟩
  have HU2 := Lib.hid (HU1.out.trans hu2)
  have HR2 := Lib.hid hr2
  have Q2 := Lib.hid (hu2.obj Q1.out)
  clear hr2 hu2 c1
  go_wp2_with fail
  with_reducible refine (SP _ _ _ ?_).out.mono ?_
  · exact HR2.out
  rintro e w3 ⟨A3, d3, rfl, hr3, hu3⟩
  have HU3 := Lib.hid (HU2.out.trans hu3)
  have HR3 := Lib.hid hr3
  have Q3 := Lib.hid (hu3.obj Q2.out)
  clear hr3 hu3
  go_wp2_with fail
  with_reducible refine (NL _).out.mono ?_
  rintro e w4 ⟨B, m, rfl, hl4, hu4, hB, hm⟩
  have c4 := (blk_onec (hu4.obj Q3.out)).1
  go_wp2_with fail
  go_ret2
  have hBl : B < w4.heap.size := by obtain ⟨c, hc, _⟩ := hl4; exact (Array.getElem?_eq_some_iff.1 hc.blk).1
  have hml : m < w4.heap.size := by obtain ⟨c, hc, _⟩ := hl4; exact mapN_lt hc.map
  have hs3 := HU3.out.size
  have hs4 := hu4.size
  unfold NewE
  rw [HRE.out]
  refine ⟨w4.heap.size, A3, d3, B, m, rfl, heap_alloc_new _ _, (HR3.out.up hu4).up ((Up.refl _).alloc _), hl4.up ((Up.refl _).alloc _), (HU3.out.trans hu4).alloc _, by omega, by omega, by omega, by omega, by omega, by simp, by simp; omega, by simp; omega⟩
end Go.Proofs.YtcfmidmokciofaaGreatDoor
