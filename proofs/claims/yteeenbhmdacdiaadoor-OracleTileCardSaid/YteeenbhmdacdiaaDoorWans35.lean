/- Walks: oracle.Answer, the reference's Answer. -/
import Derived.Test.YteeenbhmdacdiaaDoorWown12
import Derived.Test.YteeenbhmdacdiaaDoorPlaw34
import Derived.Test.YteeenbhmdacdiaaDoorWrange
namespace Go.Gz
def idP (p : Bs) : Nat := idV (rt p).1.1 (rt p).1.2.1 (rt p).1.2.2
def ansV (L : Items) (p : Bs) : Int × Bs := if (rt p).2.2 ≠ 0 then (400, []) else match getL L (idP p) with | none => (404, []) | some t => (200, t)
theorem ans_bad {L : Items} {p : Bs} (h : (rt p).2.2 ≠ 0) : ansV L p = (400, []) := by unfold ansV; rw [if_pos h]
theorem ans_good {L : Items} {p : Bs} {z x y : Int} {e : Bs} (h : rt p = ((z, x, y), e, 0)) : (getL L (idV z x y) = none → ansV L p = (404, [])) ∧ ∀ t, getL L (idV z x y) = some t → ansV L p = (200, t) := by
  have hid : idP p = idV z x y := by unfold idP; rw [h]
  unfold ansV; rw [if_neg (by rw [h]; simp), hid]
  exact ⟨fun h => by rw [h], fun t h => by rw [h]⟩
end Go.Gz
namespace Go.Proofs.YteeenbhmdacdiaaDoor
open Go.RowKit Go.Gz

set_option maxRecDepth 100000
theorem newT (w1 : World) (t : TypeId) (z : Int) (s : Bs) :
    Up w1 (w1.alloc (.cells #[.int .i64 z, .string ⟨s.toArray⟩] t)) ∧
    (w1.alloc (.cells #[.int .i64 z, .string ⟨s.toArray⟩] t)).cell? ⟨w1.heap.size, 0, none⟩ = some (.int .i64 z) ∧
    (w1.alloc (.cells #[.int .i64 z, .string ⟨s.toArray⟩] t)).cell? ⟨w1.heap.size, 1, none⟩ = some (.string ⟨s.toArray⟩) ∧
    (w1.alloc (.cells #[.int .i64 z, .string ⟨s.toArray⟩] t)).heap[w1.heap.size]? = some (.cells #[.int .i64 z, .string ⟨s.toArray⟩] t (0, 0)) := by
  have hb := heap_alloc_new w1 (.cells #[.int .i64 z, .string ⟨s.toArray⟩] t)
  exact ⟨(Up.refl _).alloc _, blk_cell hb 0 _ rfl, blk_cell hb 1 _ rfl, hb⟩
set_option maxHeartbeats 4000000 in
theorem ans_any (L : Items) (hl : L.length ≤ 100000) (hs : Srt L) (p : Bs) (hp : p.length ≤ 1000000) (A : Option Addr) (c : Nat) (w : World) (hg : Gl w) (hr : Rd w 2 A L.length c (itV L)) :
    Calls Tryd.prog 42 #[.agg #[.slice A L.length c], .string ⟨p.toArray⟩] w fun e w' => e = .returned (.agg #[.int .i64 (ansV L p).1, .string ⟨(ansV L p).2.toArray⟩]) ∧ Up w w' := by
  have HR := Lib.hid hr
  have P := fun w hg => Lib.hid (Parse_any p hp w hg)
  have n0 := new1 w 69 (.slice A L.length c)
  have n1 := newT (w.alloc (.cells #[.slice A L.length c] 69)) 78 0 []
  have hsz : (w.alloc (.cells #[.slice A L.length c] 69)).heap.size = w.heap.size + 1 := by simp
  rw [hsz] at n1
  have HU0 := Lib.hid (n0.1.trans n1.1)
  have hc0 := n1.1.cell n0.2.1
  have HB := Lib.hid n1.2.2.2
  clear hr n0 n1 hsz
  obtain ⟨hn, hrt⟩ | ⟨z, x, y, e, hrt, hpl, hxx⟩ := rt_cases p
  · have hbn : ((rt p).2.2 != 0) = true := by rw [bne_iff_ne]; exact hn
    rw [ans_bad hn]
    rw [hrt] at P
    simp only at P
    clear hn hrt
    generalize (rt p).2.2 = er at *
    go_enter Tryd.func42, Tryd.ntmps42
    go_wp2_with fail
    refine (P _ (hg.up HU0.out)).out.mono ?_
    rintro e w1 ⟨rfl, hu1⟩
    have n2 := new3 w1 25 0 0 0
    have HU1 := Lib.hid (HU0.out.trans (hu1.trans n2.1))
    replace hc0 := n2.1.cell (hu1.cell hc0)
    have HB1 := Lib.hid (n2.1.obj (hu1.obj HB.out))
    clear hu1
    clear n2
    have f0 := blk_free HB1.out 0
    have f1 := blk_free HB1.out 1
    have b0 := blk_cell HB1.out 0 _ rfl
    have b1 := blk_cell HB1.out 1 _ rfl
    go_wp2_with fail
    have hb3 := blk_set2 HB1.out (.int .i64 400) (.string ⟨#[]⟩)
    have q0 := blk_cell hb3 0 _ rfl
    have q1 := blk_cell hb3 1 _ rfl
    refine bodyPost_ret (v := .agg #[.int .i64 400, .string ⟨#[]⟩]) (by simp [results, Tryd.results42, go_sem, q0, q1]) rfl ⟨rfl, ?_⟩
    exact up_set2 HU1.out (by omega) _ _
  · have I := fun w => Lib.hid (id_any z x y w)
    have G := fun w hr => Lib.hid (cget12_any L (by omega) (idV z x y) A c hs w hr)
    have ha := ans_good (L := L) hrt
    rw [hrt] at P
    simp only at P
    rw [hpl] at I
    clear hrt hpl hxx
    generalize idV z x y = id at *
    generalize ansV L p = av at *
    rcases hg2 : getL L id with _ | t
    · rw [hg2] at G
      rw [ha.1 hg2]
      clear ha hg2
      go_enter Tryd.func42, Tryd.ntmps42
      go_wp2_with fail
      refine (P _ (hg.up HU0.out)).out.mono ?_
      rintro e w1 ⟨rfl, hu1⟩
      have n2 := new3 w1 25 z x y
      have HU1 := Lib.hid (HU0.out.trans (hu1.trans n2.1))
      replace hc0 := n2.1.cell (hu1.cell hc0)
      have HB1 := Lib.hid (n2.1.obj (hu1.obj HB.out))
      clear hu1
      have d0 := n2.2.1
      have d1 := n2.2.2.1
      have d2 := n2.2.2.2
      clear n2
      go_wp2_with fail
      refine (I _).out.mono ?_
      rintro e w2 ⟨rfl, hu2⟩
      have HU2 := Lib.hid (HU1.out.trans hu2)
      replace hc0 := hu2.cell hc0
      have HB2 := Lib.hid (hu2.obj HB1.out)
      clear hu2 d0 d1 d2
      go_wp2_with fail
      refine (G _ (HR.out.up HU2.out)).out.mono ?_
      rintro e w3 ⟨rfl, hu3⟩
      have HU3 := Lib.hid (HU2.out.trans hu3)
      have HB3 := Lib.hid (hu3.obj HB2.out)
      clear hu3
      have f0 := blk_free HB3.out 0
      have f1 := blk_free HB3.out 1
      have b0 := blk_cell HB3.out 0 _ rfl
      have b1 := blk_cell HB3.out 1 _ rfl
      go_wp2_with fail
      have hb3 := blk_set2 HB3.out (.int .i64 404) (.string ⟨#[]⟩)
      have q0 := blk_cell hb3 0 _ rfl
      have q1 := blk_cell hb3 1 _ rfl
      refine bodyPost_ret (v := .agg #[.int .i64 404, .string ⟨#[]⟩]) (by simp [results, Tryd.results42, go_sem, q0, q1]) rfl ⟨rfl, ?_⟩
      exact up_set2 HU3.out (by omega) _ _
    · rw [hg2] at G
      rw [ha.2 t hg2]
      clear ha hg2
      go_enter Tryd.func42, Tryd.ntmps42
      go_wp2_with fail
      refine (P _ (hg.up HU0.out)).out.mono ?_
      rintro e w1 ⟨rfl, hu1⟩
      have n2 := new3 w1 25 z x y
      have HU1 := Lib.hid (HU0.out.trans (hu1.trans n2.1))
      replace hc0 := n2.1.cell (hu1.cell hc0)
      have HB1 := Lib.hid (n2.1.obj (hu1.obj HB.out))
      clear hu1
      have d0 := n2.2.1
      have d1 := n2.2.2.1
      have d2 := n2.2.2.2
      clear n2
      go_wp2_with fail
      refine (I _).out.mono ?_
      rintro e w2 ⟨rfl, hu2⟩
      have HU2 := Lib.hid (HU1.out.trans hu2)
      replace hc0 := hu2.cell hc0
      have HB2 := Lib.hid (hu2.obj HB1.out)
      clear hu2 d0 d1 d2
      go_wp2_with fail
      refine (G _ (HR.out.up HU2.out)).out.mono ?_
      rintro e w3 ⟨rfl, hu3⟩
      have HU3 := Lib.hid (HU2.out.trans hu3)
      have HB3 := Lib.hid (hu3.obj HB2.out)
      clear hu3
      have f0 := blk_free HB3.out 0
      have f1 := blk_free HB3.out 1
      have b0 := blk_cell HB3.out 0 _ rfl
      have b1 := blk_cell HB3.out 1 _ rfl
      go_wp2_with fail
      have hb3 := blk_set2 HB3.out (.int .i64 200) (.string ⟨t.toArray⟩)
      have q0 := blk_cell hb3 0 _ rfl
      have q1 := blk_cell hb3 1 _ rfl
      refine bodyPost_ret (v := .agg #[.int .i64 200, .string ⟨t.toArray⟩]) (by simp [results, Tryd.results42, go_sem, q0, q1]) rfl ⟨rfl, ?_⟩
      exact up_set2 HU3.out (by omega) _ _
set_option maxHeartbeats 4000000 in
theorem rans_any (L : Items) (hl : L.length ≤ 100000) (p : Bs) (hp : p.length ≤ 1000000) (A : Option Addr) (c : Nat) (w : World) (hr : Rd w 2 A L.length c (itV L)) :
    Calls Tryd.prog 41 #[.slice A L.length c, .string ⟨p.toArray⟩] w fun e w' => e = .returned (.agg #[.int .i64 (ansV L p).1, .string ⟨(ansV L p).2.toArray⟩]) ∧ Up w w' := by
  have HR := Lib.hid hr
  have P := fun w => Lib.hid (rparse_any p hp w)
  unfold ParEnd at P
  have n1 := newT w 76 0 []
  have HU0 := Lib.hid n1.1
  have HB := Lib.hid n1.2.2.2
  clear hr n1
  obtain ⟨hn, hrt⟩ | ⟨z, x, y, e, hrt, hpl, hxx⟩ := rt_cases p
  · have hbn : ((rt p).2.2 != 0) = true := by rw [bne_iff_ne]; exact hn
    rw [ans_bad hn]
    rw [hrt] at P
    simp only at P
    clear hn hrt
    generalize (rt p).2.2 = er at *
    go_enter Tryd.func41, Tryd.ntmps41
    go_wp2_with fail
    refine (P _).out.mono ?_
    rintro e w1 ⟨rfl, hu1⟩
    have n2 := new3 w1 23 0 0 0
    have HU1 := Lib.hid (HU0.out.trans (hu1.trans n2.1))
    have HB1 := Lib.hid (n2.1.obj (hu1.obj HB.out))
    clear hu1
    clear n2
    have f0 := blk_free HB1.out 0
    have f1 := blk_free HB1.out 1
    have b0 := blk_cell HB1.out 0 _ rfl
    have b1 := blk_cell HB1.out 1 _ rfl
    go_wp2_with fail
    have hb3 := blk_set2 HB1.out (.int .i64 400) (.string ⟨#[]⟩)
    have q0 := blk_cell hb3 0 _ rfl
    have q1 := blk_cell hb3 1 _ rfl
    refine bodyPost_ret (v := .agg #[.int .i64 400, .string ⟨#[]⟩]) (by simp [results, Tryd.results41, go_sem, q0, q1]) rfl ⟨rfl, ?_⟩
    exact up_set2 HU1.out (by omega) _ _
  · have I := fun w => Lib.hid (rid_any z x y w)
    have G := fun w hr => Lib.hid (rget12_any L (by omega) (idV z x y) A c w hr)
    have ha := ans_good (L := L) hrt
    rw [hrt] at P
    simp only at P
    rw [hpl] at I
    clear hrt hpl hxx
    generalize idV z x y = id at *
    generalize ansV L p = av at *
    rcases hg2 : getL L id with _ | t
    · rw [hg2] at G
      rw [ha.1 hg2]
      clear ha hg2
      go_enter Tryd.func41, Tryd.ntmps41
      go_wp2_with fail
      refine (P _).out.mono ?_
      rintro e w1 ⟨rfl, hu1⟩
      have n2 := new3 w1 23 z x y
      have HU1 := Lib.hid (HU0.out.trans (hu1.trans n2.1))
      have HB1 := Lib.hid (n2.1.obj (hu1.obj HB.out))
      clear hu1
      have d0 := n2.2.1
      have d1 := n2.2.2.1
      have d2 := n2.2.2.2
      clear n2
      go_wp2_with fail
      refine (I _).out.mono ?_
      rintro e w2 ⟨rfl, hu2⟩
      have HU2 := Lib.hid (HU1.out.trans hu2)
      have HB2 := Lib.hid (hu2.obj HB1.out)
      clear hu2 d0 d1 d2
      go_wp2_with fail
      refine (G _ (HR.out.up HU2.out)).out.mono ?_
      rintro e w3 ⟨rfl, rfl⟩
      have HU3 := HU2
      have HB3 := HB2
      have f0 := blk_free HB3.out 0
      have f1 := blk_free HB3.out 1
      have b0 := blk_cell HB3.out 0 _ rfl
      have b1 := blk_cell HB3.out 1 _ rfl
      go_wp2_with fail
      have hb3 := blk_set2 HB3.out (.int .i64 404) (.string ⟨#[]⟩)
      have q0 := blk_cell hb3 0 _ rfl
      have q1 := blk_cell hb3 1 _ rfl
      refine bodyPost_ret (v := .agg #[.int .i64 404, .string ⟨#[]⟩]) (by simp [results, Tryd.results41, go_sem, q0, q1]) rfl ⟨rfl, ?_⟩
      exact up_set2 HU3.out (by omega) _ _
    · rw [hg2] at G
      rw [ha.2 t hg2]
      clear ha hg2
      go_enter Tryd.func41, Tryd.ntmps41
      go_wp2_with fail
      refine (P _).out.mono ?_
      rintro e w1 ⟨rfl, hu1⟩
      have n2 := new3 w1 23 z x y
      have HU1 := Lib.hid (HU0.out.trans (hu1.trans n2.1))
      have HB1 := Lib.hid (n2.1.obj (hu1.obj HB.out))
      clear hu1
      have d0 := n2.2.1
      have d1 := n2.2.2.1
      have d2 := n2.2.2.2
      clear n2
      go_wp2_with fail
      refine (I _).out.mono ?_
      rintro e w2 ⟨rfl, hu2⟩
      have HU2 := Lib.hid (HU1.out.trans hu2)
      have HB2 := Lib.hid (hu2.obj HB1.out)
      clear hu2 d0 d1 d2
      go_wp2_with fail
      refine (G _ (HR.out.up HU2.out)).out.mono ?_
      rintro e w3 ⟨rfl, rfl⟩
      have HU3 := HU2
      have HB3 := HB2
      have f0 := blk_free HB3.out 0
      have f1 := blk_free HB3.out 1
      have b0 := blk_cell HB3.out 0 _ rfl
      have b1 := blk_cell HB3.out 1 _ rfl
      go_wp2_with fail
      have hb3 := blk_set2 HB3.out (.int .i64 200) (.string ⟨t.toArray⟩)
      have q0 := blk_cell hb3 0 _ rfl
      have q1 := blk_cell hb3 1 _ rfl
      refine bodyPost_ret (v := .agg #[.int .i64 200, .string ⟨t.toArray⟩]) (by simp [results, Tryd.results41, go_sem, q0, q1]) rfl ⟨rfl, ?_⟩
      exact up_set2 HU3.out (by omega) _ _
end Go.Proofs.YteeenbhmdacdiaaDoor
