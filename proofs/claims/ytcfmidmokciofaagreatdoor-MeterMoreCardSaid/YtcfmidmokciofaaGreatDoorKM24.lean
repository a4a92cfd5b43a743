/- Walk: pool.put. -/
import Derived.Test.YtcfmidmokciofaaGreatDoorKM23
namespace Go.Proofs.YtcfmidmokciofaaGreatDoor
open Go.RowKit Go.Gz Go.Shelf Go.Maps

set_option maxRecDepth 100000
set_option maxHeartbeats 4000000 in
theorem put_any (cs : List Bs) (hl : cs.flatten.length ≤ 800000) (hl2 : cs.length ≤ 90000) (s : Bs) (hs : s.length ≤ 65536) (B base : Nat) (w : World) (hp : PoolW w base B cs) :
    Calls Tryz.prog 107 #[.pointer (some ⟨B, 0, none⟩), .string ⟨s.toArray⟩] w (PutE w base B cs s) := by
  have SM := fun w => Lib.hid (sum_any s (by omega) w)
  obtain ⟨tv, pv, mv, g1, g2, g3, g4, g5, g6⟩ := hp
  have G1 := Lib.hid g1
  have G2 := Lib.hid g2
  have G3 := Lib.hid g3
  have G4 := Lib.hid g4
  have HTV := Lib.hid (fun r hr => (g2.lt r hr).2)
  have HPV := Lib.hid (fun r hr => (g3.lt r hr).2)
  obtain ⟨At, ct, rfl, _⟩ := Rd.of_own g2
  obtain ⟨Ap, cp, rfl, _⟩ := Rd.of_own g3
  have hu0 := (Up.refl w).alloc (.cells #[.int .u64 0, .int .u32 0] 124)
  have g1' := hu0.obj g1
  have hr0 := heap_alloc_new w (.cells #[.int .u64 0, .int .u32 0] 124)
  have HU0 := Lib.hid hu0
  have HR0 := Lib.hid hr0
  have c0 := blkc g1' 0 _ rfl
  have c1 := blkc g1' 1 _ rfl
  have c2 := blkc g1' 2 _ rfl
  have hB := (Array.getElem?_eq_some_iff.1 g1).1
  have hnB : w.heap.size ≠ B := by omega
  have hnB' : B ≠ w.heap.size := by omega
  simp only [List.getElem_toArray, List.getElem_cons_succ, List.getElem_cons_zero] at c0 c1 c2
  have hw1 : IntKind.u64.wrap ((cs.flatten.length : Nat) : Int) = ((cs.flatten.length : Nat) : Int) := IntWalk.u64_in _ (by omega)
  have hw2 : IntKind.u32.wrap ((s.length : Nat) : Int) = ((s.length : Nat) : Int) := IntWalk.u32_in _ (by omega)
  generalize hfl : cs.flatten = fl at *
  clear g1 g2 g3 g4 g1' hu0 hr0
  have hnB1 : w.heap.size + 1 ≠ B := by omega
  have hnB2 : B ≠ w.heap.size + 1 := by omega
  rcases G4.out with ⟨rfl, hcs⟩ | ⟨M, gb, D, rfl, ⟨hM, hM2⟩, hgr, hD, hG⟩
  · subst hfl
    have f2 := (show (((w.alloc (.cells #[.int .u64 0, .int .u32 0] 124)).alloc (.cells #[.int .u64 (cs.flatten.length : Int), .int .u32 (s.length : Int)] 124)).alloc (.map #[] 0)).frozen? ⟨B, 2, none⟩ = false from blkf (((HU0.out.alloc _).alloc _).obj G1.out) 2)
    have c2m := blkc (((HU0.out.alloc (.cells #[.int .u64 (cs.flatten.length : Int), .int .u32 (s.length : Int)] 124)).alloc (.map #[] 0)).obj G1.out) 2 _ rfl
    simp only [List.getElem_toArray, List.getElem_cons_succ, List.getElem_cons_zero] at c2m
    have hpn := pn_none (s := s) hcs G1.out G2.out G3.out g6
    have HPN := Lib.hid hpn
    clear hcs
    have q0 := eqlNil
    have hmm := @run_makeMap Tryz.prog
    clear hpn
    generalize hfl : cs.flatten = fl at *
    go_enter Tryz.func107, Tryz.ntmps107
    go_wp2_with fail
    refine (SM _).out.mono ?_
    rintro e w1 ⟨rfl, hu1⟩
    have hp1 := pn_up HPN.out hu1 (by simp; omega)
    clear hu1 c0 c1 c2 c2m f2 q0 hmm HR0
    generalize hM : w.heap.size + 1 + 1 = M at *
    generalize hgb : M + 1 = gb at *
    generalize hDD : (DataW.map [] : DataW Unit) = D at *
    have c0 := blkc hp1.blk 0 _ rfl
    have c1 := blkc hp1.blk 1 _ rfl
    have c2 := blkc hp1.blk 2 _ rfl
    simp only [List.getElem_toArray, List.getElem_cons_succ, List.getElem_cons_zero] at c0 c1 c2
    have hsm := fnvV_lt s
    have hkey : keyOf Tryz.prog 54 (.int .u64 (fnvV s : Int)) = some (.int .u64 (fnvV s : Int)) := keyOf_int_mk Tryz.underlying54 (by simp [Lit.wf, IntKind.min, IntKind.max, IntKind.bits, IntKind.signed]; omega)
    have HKEY := Lib.hid hkey
    have HP1 := Lib.hid hp1
    have HGAT := Lib.hid (hp1.gat (fnvV s) hsm)
    clear hp1 hkey hsm G2 G3 G4 HPN HU0
    obtain ⟨sm, hsm⟩ : ∃ sm, fnvV s = sm := ⟨_, rfl⟩
    have HSM := Lib.hid hsm
    rw [hsm] at HKEY HGAT ⊢
    clear hsm
    obtain ⟨i0, hi0, hz0, hz1, hz2⟩ := info_parts infoI64
    go_wp2_with fail
    refine wp_region_held_drew (S := fun w' => w'.cell? ⟨B, 1, none⟩ = some (.slice Ap cs.length cp) ∧ w'.cell? ⟨B, 2, none⟩ = some (.map (some M))) (by kernel_rfl) ?_ (fun hHeld => ?_)
    · exact ⟨c1, c2⟩
    refine tk 0 rfl ?_
    (try simp only [Act.put, tz1, tz2, tz3])
    refine tk 1 rfl ?_
    (try simp only [Act.put, tz1, tz2, tz3])
    refine tk 2 rfl ?_
    (try simp only [Act.put, tz1, tz2, tz3])
    refine tk 3 rfl ?_
    (try simp only [Act.put, tz1, tz2, tz3])
    refine tk 4 rfl ?_
    (try simp only [Act.put, tz1, tz2, tz3])
    refine tk 5 rfl ?_
    (try simp only [Act.put, tz1, tz2, tz3])
    refine tk 6 rfl ?_
    (try simp only [Act.put, tz1, tz2, tz3])
    refine tk 7 rfl ?_
    (try simp only [Act.put, tz1, tz2, tz3])
    refine tk 8 rfl ?_
    (try simp only [Act.put, tz1, tz2, tz3])
    refine tk 9 rfl ?_
    (try simp only [Act.put, tz1, tz2, tz3])
    refine tk 11 rfl ?_
    (try simp only [Act.put, tz1, tz2, tz3])
    refine tk 12 rfl ?_
    (try simp only [Act.put, tz1, tz2, tz3])
    refine tk 13 rfl ?_
    (try simp only [Act.put, tz1, tz2, tz3])
    refine tk 14 rfl ?_
    (try simp only [Act.put, tz1, tz2, tz3])
    refine tk 15 rfl ?_
    (try simp only [Act.put, tz1, tz2, tz3])
    have hb1 : base ≤ w1.heap.size := Nat.le_trans g6 HP1.out.keep.size
    have hpd := pn_up HP1.out (Up.refl w1).drew hb1
    have hpe := pn_up HP1.out ((Up.refl w1).alloc (.cells #[.int .i64 (cs.length : Int)] 3)).drew hb1
    have HPE := Lib.hid hpe
    have hXe : ((w1.alloc (.cells #[.int .i64 (cs.length : Int)] 3)).drew).heap[w1.heap.size]? = some (.cells #[.int .i64 (cs.length : Int)] 3 (0, 0)) := heap_alloc_new w1 _
    have HXE := Lib.hid hXe
    have hup := ((Up.refl w1).alloc (.cells #[.int .i64 (cs.length : Int)] 3)).drew
    have ce1 := hup.cell c1
    have ce2 := hup.cell c2
    have hn9 : cs.length < maxLen := by unfold maxLen; omega
    refine wpAnyH_ready (rs := [10, 16]) (by kernel_rfl) (by simp) ?_
    refine AllReadyH.cons (o := ⟨_, _, _, _, _, _⟩) rfl (fun K hK => ?_) ?_
    · obtain ⟨v, zs, hlk, hat, hoi, hzl, hback⟩ := hpd.grp.at lawU Tryz.underlying206 (zeroS _) hn9 HKEY.out
      have HZS := Lib.hid (zs_of hat hoi HGAT.out)
      have PG := Lib.hid (push_grp 268 hback hoi hzl hl2 hpd.ghi (show w1.drew.grownBy ((w1.alloc (.cells #[.int .i64 (cs.length : Int)] 3)).drew) none from World.grownBy_alloc w1.drew _ _) HXE.out)
      clear hat hoi hzl hback hpd hpe hXe hup
      go_simp
      refine hK.out _ _ ?_ (fun hHeld2 => ?_)
      · exact hHeld
      clear hK K
      (try simp only [Act.put, tz1, tz2, tz3])
      refine rd1 16 rfl (fun K hK => ?_)
      go_simp
      refine hK.out _ _ ?_ (fun hHeld3 => ?_)
      · exact ⟨ce1, ce2⟩
      clear hK K
      (try simp only [Act.put, tz1, tz2, tz3])
      refine rd1 17 rfl (fun K hK => ?_)
      obtain ⟨v2, w2, w3, r1, r2, hgr, ho', hg1, hg2, hrow⟩ := PG.out
      have hsm2 := HSM.out
      subst hsm2
      have hPM := pn_push HPE.out (by simp; omega) HZS.out hg1 hrow hg2 ho' hgr
      have hB2 := (hg1.block B (Array.getElem?_eq_some_iff.1 HPE.out.blk).1 (fun e => by obtain ⟨_, cur, fz, h2⟩ := hrow B e.symm; rw [HPE.out.blk] at h2; cases h2)).trans HPE.out.blk
      have HPM := Lib.hid hPM
      clear hPM hgr ho' hg1 hg2 hrow
      refine step_append_run rfl _ _ 268 rfl rfl rfl r1 ?_
      refine hK.out _ _ ?_ (fun hHeld4 => ?_)
      · exact ⟨blkc hB2 1 _ rfl, blkc hB2 2 _ rfl⟩
      clear hK K
      (try simp only [Act.put, tz1, tz2, tz3])
      refine rd1 18 rfl (fun K hK => ?_)
      go_simp
      refine hK.out _ _ ?_ (fun hHeld5 => ?_)
      · exact ⟨blkc HPM.out.blk 1 _ rfl, blkc HPM.out.blk 2 _ rfl⟩
      clear hK K
      (try simp only [Act.put, tz1, tz2, tz3])
      refine wpAnyH_done (by kernel_rfl) ?_ _
      have hm := HPM.out
      have d0 := blkc hm.blk 0 _ rfl
      have d1 := blkc hm.blk 1 _ rfl
      have d2 := blkc hm.cc 0 _ rfl
      have d3 := blkc hm.cc 1 _ rfl
      have e0 := blkf hm.blk 0
      have e1 := blkf hm.blk 1
      simp only [List.getElem_toArray, List.getElem_cons_succ, List.getElem_cons_zero] at d0 d1 d2 d3
      rw [hfl] at d2
      clear hm hB2 r1 r2 PG c0 c1 c2 ce1 ce2 hHeld hHeld2 hHeld3 hHeld4 hHeld5 hlk HXE
      go_wp2_with fail
      have hbw : base ≤ w3.heap.size := Nat.le_trans g6 HPM.out.keep.size
      have hwl := HPM.out.cc
      have hwl := (Array.getElem?_eq_some_iff.1 hwl).1
      have hcu := ((Up.refl w3).alloc (.cells #[.int .u64 (fl.length : Int), .int .u32 (s.length : Int)] 124)).drew
      have HMU := Lib.hid (pm_up HPM.out hcu hbw)
      have HXU : ((w3.alloc (.cells #[.int .u64 (fl.length : Int), .int .u32 (s.length : Int)] 124)).drew).heap[w3.heap.size]? = some (.cells #[.int .u64 (fl.length : Int), .int .u32 (s.length : Int)] 124 (0, 0)) := heap_alloc_new w3 _
      have PS := Lib.hid (place_step 205 HMU.out g5 (by simp; omega) hl2 (by rw [hfl]; exact HXU))
      have x1 := hcu.cell d1
      have x2 := hcu.cell d2
      have x3 := hcu.cell d3
      clear HXU
      refine wp_region_held_drew (S := fun w' => w'.cell? ⟨w.heap.size + 1, 0, none⟩ = some (.int .u64 (fl.length : Int)) ∧ w'.cell? ⟨w.heap.size + 1, 1, none⟩ = some (.int .u32 (s.length : Int))) (by kernel_rfl) ?_ (fun hHeld => ?_)
      · exact ⟨d2, d3⟩
      refine tk 0 rfl ?_
      (try simp only [Act.put, tz1, tz2, tz3])
      refine tk 1 rfl ?_
      (try simp only [Act.put, tz1, tz2, tz3])
      refine tk 2 rfl ?_
      (try simp only [Act.put, tz1, tz2, tz3])
      refine tk 3 rfl ?_
      (try simp only [Act.put, tz1, tz2, tz3])
      refine tk 5 rfl ?_
      (try simp only [Act.put, tz1, tz2, tz3])
      refine wpAnyH_ready (rs := [4, 6]) (by kernel_rfl) (by simp) ?_
      refine AllReadyH.cons (o := ⟨_, _, _, _, _, _⟩) rfl (fun K hK => ?_) ?_
      · go_simp
        refine hK.out _ _ ?_ (fun hHeld2 => ?_)
        · exact hHeld
        clear hK K
        (try simp only [Act.put, tz1, tz2, tz3])
        refine rd1 6 rfl (fun K hK => ?_)
        go_simp
        refine hK.out _ _ ?_ (fun hHeld3 => ?_)
        · exact ⟨x2, x3⟩
        clear hK K
        (try simp only [Act.put, tz1, tz2, tz3])
        refine rd1 7 rfl (fun K hK => ?_)
        obtain ⟨pv2, w4, r3, hdis, hg3, hb3, hpq, hex⟩ := PS.out
        obtain ⟨Aq, cq, rfl, hrq⟩ := Rd.of_own hpq.pls
        clear hrq
        have HNR : Hid ((Value.slice Aq (cs.length + 1) cq).ownBlock ≠ some w.heap.size) := Lib.hid (fun e => by
          rcases hdis with hdis | hdis
          · exact absurd (HPV.out _ (hdis ▸ e)) (Nat.lt_irrefl _)
          · rw [hdis] at e; injection e with e; simp at e; omega)
        have HDIS := Lib.hid hdis
        have HEX := Lib.hid hex
        clear hdis hex
        have hcc4 := (hg3.block (w.heap.size + 1) (Array.getElem?_eq_some_iff.1 HMU.out.cc).1 (fun e => by have := HPV.out _ e.symm; omega)).trans HMU.out.cc
        rw [hfl] at hcc4
        have hrr4 := (hg3.block w.heap.size (Array.getElem?_eq_some_iff.1 HMU.out.rr).1 (fun e => by have := HPV.out _ e.symm; omega)).trans HMU.out.rr
        have hcc5 := ((grown_setO w4 B 1 (.slice Aq (cs.length + 1) cq)).block (w.heap.size + 1) (Array.getElem?_eq_some_iff.1 hcc4).1 (by intro e; injection e with e; omega)).trans hcc4
        have hrr5 := ((grown_setO w4 B 1 (.slice Aq (cs.length + 1) cq)).block w.heap.size (Array.getElem?_eq_some_iff.1 hrr4).1 (by intro e; injection e with e; omega)).trans hrr4
        have HPQ := Lib.hid hpq
        have HCC5 := Lib.hid hcc5
        have HRR5 := Lib.hid hrr5
        have y1 := blkc hb3 1 _ rfl
        have y2 := blkf hb3 1
        have z0 := blkc hcc4 0 _ rfl
        have z1 := blkc hcc4 1 _ rfl
        have z2 := blkc hcc5 0 _ rfl
        have z3 := blkc hcc5 1 _ rfl
        simp only [List.getElem_toArray, List.getElem_cons_succ, List.getElem_cons_zero] at y1 z0 z1 z2 z3
        clear hg3 hpq hcc4 hrr4 hcc5 hrr5
        refine step_append_run rfl _ _ 205 rfl rfl rfl r3 ?_
        refine hK.out _ _ ?_ (fun hHeld4 => ?_)
        · exact ⟨z0, z1⟩
        clear hK K
        (try simp only [Act.put, tz1, tz2, tz3])
        refine tk 8 rfl ?_
        (try simp only [Act.put, tz1, tz2, tz3])
        refine tk 9 rfl ?_
        (try simp only [Act.put, tz1, tz2, tz3])
        refine rd1 10 rfl (fun K hK => ?_)
        go_simp
        refine hK.out _ _ ?_ (fun hHeld5 => ?_)
        · exact ⟨z2, z3⟩
        clear hK K
        (try simp only [Act.put, tz1, tz2, tz3])
        refine wpAnyH_done (by kernel_rfl) ?_ _
        clear x1 x2 x3 y1 y2 z0 z1 hHeld hHeld2 hHeld3 hHeld4 hHeld5 d0 d1 d2 d3 e0 e1 PS hcu r3
        have u0 := blkc HPQ.out.blk 0 _ rfl
        have u1 := blkf HPQ.out.blk 0
        simp only [List.getElem_toArray, List.getElem_cons_zero] at u0
        obtain ⟨tv2, w6, r6, hg6, hb6, hpw, hpk, hex6⟩ := text_step 44 HPQ.out g5 (by have := HPQ.out.keep.size; omega) (by rw [hfl]; exact hl) hs
        obtain ⟨At6, ct6, rfl⟩ : ∃ A c, tv2 = .slice A ((cs ++ [s]).flatten.length) c := by
          obtain ⟨tv, pv, mv, h1, h2, _⟩ := hpw
          obtain ⟨A, c, h3, _⟩ := Rd.of_own h2
          have h4 := heap_setCell_same w6 B 0 _ _ tv2 hb6
          rw [h1] at h4
          injection h4 with h4
          injection h4 with h4
          simp at h4
          exact ⟨A, c, by rw [← h4.1]; exact h3⟩
        have hcc6 := (hg6.block (w.heap.size + 1) (Array.getElem?_eq_some_iff.1 HCC5.out).1 (fun e => by have := HTV.out _ e.symm; omega)).trans HCC5.out
        have hrr6 := (hg6.block w.heap.size (Array.getElem?_eq_some_iff.1 HRR5.out).1 (fun e => by have := HTV.out _ e.symm; omega)).trans HRR5.out
        have HPW := Lib.hid hpw
        have HPK := Lib.hid hpk
        have HEX6 := Lib.hid hex6
        clear hex6
        have t0 := blkc hb6 0 _ rfl
        have t1 := blkf hb6 0
        have m0 := blkc hcc6 0 _ rfl
        have m1 := blkc hcc6 1 _ rfl
        simp only [List.getElem_toArray, List.getElem_cons_succ, List.getElem_cons_zero] at t0 m0 m1
        have hcc7 := ((grown_setO w6 B 0 (.slice At6 ((cs ++ [s]).flatten.length) ct6)).block (w.heap.size + 1) (Array.getElem?_eq_some_iff.1 hcc6).1 (by intro e; injection e with e; omega)).trans hcc6
        have hrr7 := ((grown_setO w6 B 0 (.slice At6 ((cs ++ [s]).flatten.length) ct6)).block w.heap.size (Array.getElem?_eq_some_iff.1 hrr6).1 (by intro e; injection e with e; omega)).trans hrr6
        have HRR7 := Lib.hid hrr7
        have n0 := blkc hcc7 0 _ rfl
        have n1 := blkc hcc7 1 _ rfl
        have q1 := blkc hrr7 0 _ rfl
        have q2 := blkc hrr7 1 _ rfl
        have q3 := blkf hrr7 0
        have q4 := blkf hrr7 1
        simp only [List.getElem_toArray, List.getElem_cons_succ, List.getElem_cons_zero] at n0 n1 q1 q2
        have hb7 := heap_setCell_same w6 B 0 _ _ (.slice At6 ((cs ++ [s]).flatten.length) ct6) hb6
        have HB7 := Lib.hid hb7
        clear hg6 hpw hpk hcc6 hrr6 hcc7 hrr7 hb7
        generalize (cs ++ [s]).flatten.length = L6 at *
        go_wp2_with (at_builtin; refine wpList_append_run rfl _ _ 44 9 rfl rfl rfl r6 ?_)
        have hs2 := set2c HRR7.out (.int .u64 (fl.length : Int)) (.int .u32 (s.length : Int))
        have k0 := blkc hs2 0 _ rfl
        have k1 := blkc hs2 1 _ rfl
        simp only [List.getElem_toArray, List.getElem_cons_succ, List.getElem_cons_zero] at k0 k1
        refine bodyPost_ret (v := .agg #[.int .u64 (fl.length : Int), .int .u32 (s.length : Int)]) (by simp [results, Tryz.results107, go_sem, k0, k1]) rfl ?_
        obtain ⟨tv, pv, mv, p1, p2, p3, p4, p5, p6⟩ := HPW.out
        have p0 := HB7.out
        rw [p1] at p0
        injection p0 with p0
        injection p0 with p0
        simp at p0
        have hfin := pool_ret (x := .int .u64 (fl.length : Int)) (y := .int .u32 (s.length : Int)) HRR7.out p1 p2 p3 p4 g5 g6 (by rw [p0.2.1]; exact HNR.out)
        refine ⟨by rw [hfl], hfin.1, HPK.out.trans hfin.2.1, ?_⟩
        rintro R cR fzR ⟨hR1, hR2⟩
        have hRl := (Array.getElem?_eq_some_iff.1 hR1).1
        have hRp := hR2 _ _ _ G1.out
        refine ⟨(hfin.2.2.2 R (by have := HPK.out.size; omega) (by omega)).trans (HEX6.out R cR fzR (HEX.out R cR fzR hR1 hRp)), fun tv3 pv3 mv3 h3 => ?_⟩
        rw [hfin.2.2.1, HB7.out] at h3
        injection h3 with h3
        injection h3 with h3
        simp at h3
        rw [← h3.2.1]
        rcases HDIS.out with hd | hd
        · rw [hd]; exact hRp
        · rw [hd]; intro e; injection e with e; have := HPM.out.keep.size; simp at e; omega
      refine AllReadyH.cons (o := ⟨_, _, _, _, _, _⟩) rfl (fun K hK => ?_) AllReadyH.nil
      · go_simp
        refine hK.out _ _ ?_ (fun hHeld2 => ?_)
        · exact ⟨x2, x3⟩
        clear hK K
        (try simp only [Act.put, tz1, tz2, tz3])
        refine rd1 4 rfl (fun K hK => ?_)
        go_simp
        refine hK.out _ _ ?_ (fun hHeld3 => ?_)
        · exact ⟨x2, x3⟩
        clear hK K
        (try simp only [Act.put, tz1, tz2, tz3])
        refine rd1 7 rfl (fun K hK => ?_)
        obtain ⟨pv2, w4, r3, hdis, hg3, hb3, hpq, hex⟩ := PS.out
        obtain ⟨Aq, cq, rfl, hrq⟩ := Rd.of_own hpq.pls
        clear hrq
        have HNR : Hid ((Value.slice Aq (cs.length + 1) cq).ownBlock ≠ some w.heap.size) := Lib.hid (fun e => by
          rcases hdis with hdis | hdis
          · exact absurd (HPV.out _ (hdis ▸ e)) (Nat.lt_irrefl _)
          · rw [hdis] at e; injection e with e; simp at e; omega)
        have HDIS := Lib.hid hdis
        have HEX := Lib.hid hex
        clear hdis hex
        have hcc4 := (hg3.block (w.heap.size + 1) (Array.getElem?_eq_some_iff.1 HMU.out.cc).1 (fun e => by have := HPV.out _ e.symm; omega)).trans HMU.out.cc
        rw [hfl] at hcc4
        have hrr4 := (hg3.block w.heap.size (Array.getElem?_eq_some_iff.1 HMU.out.rr).1 (fun e => by have := HPV.out _ e.symm; omega)).trans HMU.out.rr
        have hcc5 := ((grown_setO w4 B 1 (.slice Aq (cs.length + 1) cq)).block (w.heap.size + 1) (Array.getElem?_eq_some_iff.1 hcc4).1 (by intro e; injection e with e; omega)).trans hcc4
        have hrr5 := ((grown_setO w4 B 1 (.slice Aq (cs.length + 1) cq)).block w.heap.size (Array.getElem?_eq_some_iff.1 hrr4).1 (by intro e; injection e with e; omega)).trans hrr4
        have HPQ := Lib.hid hpq
        have HCC5 := Lib.hid hcc5
        have HRR5 := Lib.hid hrr5
        have y1 := blkc hb3 1 _ rfl
        have y2 := blkf hb3 1
        have z0 := blkc hcc4 0 _ rfl
        have z1 := blkc hcc4 1 _ rfl
        have z2 := blkc hcc5 0 _ rfl
        have z3 := blkc hcc5 1 _ rfl
        simp only [List.getElem_toArray, List.getElem_cons_succ, List.getElem_cons_zero] at y1 z0 z1 z2 z3
        clear hg3 hpq hcc4 hrr4 hcc5 hrr5
        refine step_append_run rfl _ _ 205 rfl rfl rfl r3 ?_
        refine hK.out _ _ ?_ (fun hHeld4 => ?_)
        · exact ⟨z0, z1⟩
        clear hK K
        (try simp only [Act.put, tz1, tz2, tz3])
        refine tk 8 rfl ?_
        (try simp only [Act.put, tz1, tz2, tz3])
        refine tk 9 rfl ?_
        (try simp only [Act.put, tz1, tz2, tz3])
        refine rd1 10 rfl (fun K hK => ?_)
        go_simp
        refine hK.out _ _ ?_ (fun hHeld5 => ?_)
        · exact ⟨z2, z3⟩
        clear hK K
        (try simp only [Act.put, tz1, tz2, tz3])
        refine wpAnyH_done (by kernel_rfl) ?_ _
        clear x1 x2 x3 y1 y2 z0 z1 hHeld hHeld2 hHeld3 hHeld4 hHeld5 d0 d1 d2 d3 e0 e1 PS hcu r3
        have u0 := blkc HPQ.out.blk 0 _ rfl
        have u1 := blkf HPQ.out.blk 0
        simp only [List.getElem_toArray, List.getElem_cons_zero] at u0
        obtain ⟨tv2, w6, r6, hg6, hb6, hpw, hpk, hex6⟩ := text_step 44 HPQ.out g5 (by have := HPQ.out.keep.size; omega) (by rw [hfl]; exact hl) hs
        obtain ⟨At6, ct6, rfl⟩ : ∃ A c, tv2 = .slice A ((cs ++ [s]).flatten.length) c := by
          obtain ⟨tv, pv, mv, h1, h2, _⟩ := hpw
          obtain ⟨A, c, h3, _⟩ := Rd.of_own h2
          have h4 := heap_setCell_same w6 B 0 _ _ tv2 hb6
          rw [h1] at h4
          injection h4 with h4
          injection h4 with h4
          simp at h4
          exact ⟨A, c, by rw [← h4.1]; exact h3⟩
        have hcc6 := (hg6.block (w.heap.size + 1) (Array.getElem?_eq_some_iff.1 HCC5.out).1 (fun e => by have := HTV.out _ e.symm; omega)).trans HCC5.out
        have hrr6 := (hg6.block w.heap.size (Array.getElem?_eq_some_iff.1 HRR5.out).1 (fun e => by have := HTV.out _ e.symm; omega)).trans HRR5.out
        have HPW := Lib.hid hpw
        have HPK := Lib.hid hpk
        have HEX6 := Lib.hid hex6
        clear hex6
        have t0 := blkc hb6 0 _ rfl
        have t1 := blkf hb6 0
        have m0 := blkc hcc6 0 _ rfl
        have m1 := blkc hcc6 1 _ rfl
        simp only [List.getElem_toArray, List.getElem_cons_succ, List.getElem_cons_zero] at t0 m0 m1
        have hcc7 := ((grown_setO w6 B 0 (.slice At6 ((cs ++ [s]).flatten.length) ct6)).block (w.heap.size + 1) (Array.getElem?_eq_some_iff.1 hcc6).1 (by intro e; injection e with e; omega)).trans hcc6
        have hrr7 := ((grown_setO w6 B 0 (.slice At6 ((cs ++ [s]).flatten.length) ct6)).block w.heap.size (Array.getElem?_eq_some_iff.1 hrr6).1 (by intro e; injection e with e; omega)).trans hrr6
        have HRR7 := Lib.hid hrr7
        have n0 := blkc hcc7 0 _ rfl
        have n1 := blkc hcc7 1 _ rfl
        have q1 := blkc hrr7 0 _ rfl
        have q2 := blkc hrr7 1 _ rfl
        have q3 := blkf hrr7 0
        have q4 := blkf hrr7 1
        simp only [List.getElem_toArray, List.getElem_cons_succ, List.getElem_cons_zero] at n0 n1 q1 q2
        have hb7 := heap_setCell_same w6 B 0 _ _ (.slice At6 ((cs ++ [s]).flatten.length) ct6) hb6
        have HB7 := Lib.hid hb7
        clear hg6 hpw hpk hcc6 hrr6 hcc7 hrr7 hb7
        generalize (cs ++ [s]).flatten.length = L6 at *
        go_wp2_with (at_builtin; refine wpList_append_run rfl _ _ 44 9 rfl rfl rfl r6 ?_)
        have hs2 := set2c HRR7.out (.int .u64 (fl.length : Int)) (.int .u32 (s.length : Int))
        have k0 := blkc hs2 0 _ rfl
        have k1 := blkc hs2 1 _ rfl
        simp only [List.getElem_toArray, List.getElem_cons_succ, List.getElem_cons_zero] at k0 k1
        refine bodyPost_ret (v := .agg #[.int .u64 (fl.length : Int), .int .u32 (s.length : Int)]) (by simp [results, Tryz.results107, go_sem, k0, k1]) rfl ?_
        obtain ⟨tv, pv, mv, p1, p2, p3, p4, p5, p6⟩ := HPW.out
        have p0 := HB7.out
        rw [p1] at p0
        injection p0 with p0
        injection p0 with p0
        simp at p0
        have hfin := pool_ret (x := .int .u64 (fl.length : Int)) (y := .int .u32 (s.length : Int)) HRR7.out p1 p2 p3 p4 g5 g6 (by rw [p0.2.1]; exact HNR.out)
        refine ⟨by rw [hfl], hfin.1, HPK.out.trans hfin.2.1, ?_⟩
        rintro R cR fzR ⟨hR1, hR2⟩
        have hRl := (Array.getElem?_eq_some_iff.1 hR1).1
        have hRp := hR2 _ _ _ G1.out
        refine ⟨(hfin.2.2.2 R (by have := HPK.out.size; omega) (by omega)).trans (HEX6.out R cR fzR (HEX.out R cR fzR hR1 hRp)), fun tv3 pv3 mv3 h3 => ?_⟩
        rw [hfin.2.2.1, HB7.out] at h3
        injection h3 with h3
        injection h3 with h3
        simp at h3
        rw [← h3.2.1]
        rcases HDIS.out with hd | hd
        · rw [hd]; exact hRp
        · rw [hd]; intro e; injection e with e; have := HPM.out.keep.size; simp at e; omega

    refine AllReadyH.cons (o := ⟨_, _, _, _, _, _⟩) rfl (fun K hK => ?_) AllReadyH.nil
    · obtain ⟨v, zs, hlk, hat, hoi, hzl, hback⟩ := hpe.grp.at lawU Tryz.underlying206 (zeroS _) hn9 HKEY.out
      have HZS := Lib.hid (zs_of hat hoi HGAT.out)
      have PG := Lib.hid (push_grp 268 hback hoi hzl hl2 hpe.ghi (World.grownBy.refl _ _) HXE.out)
      clear hat hoi hzl hback hpd hpe hXe hup
      go_simp
      refine hK.out _ _ ?_ (fun hHeld2 => ?_)
      · exact ⟨ce1, ce2⟩
      clear hK K
      (try simp only [Act.put, tz1, tz2, tz3])
      refine rd1 10 rfl (fun K hK => ?_)
      go_simp
      refine hK.out _ _ ?_ (fun hHeld3 => ?_)
      · exact ⟨ce1, ce2⟩
      clear hK K
      (try simp only [Act.put, tz1, tz2, tz3])
      refine rd1 17 rfl (fun K hK => ?_)
      obtain ⟨v2, w2, w3, r1, r2, hgr, ho', hg1, hg2, hrow⟩ := PG.out
      have hsm2 := HSM.out
      subst hsm2
      have hPM := pn_push HPE.out (by simp; omega) HZS.out hg1 hrow hg2 ho' hgr
      have hB2 := (hg1.block B (Array.getElem?_eq_some_iff.1 HPE.out.blk).1 (fun e => by obtain ⟨_, cur, fz, h2⟩ := hrow B e.symm; rw [HPE.out.blk] at h2; cases h2)).trans HPE.out.blk
      have HPM := Lib.hid hPM
      clear hPM hgr ho' hg1 hg2 hrow
      refine step_append_run rfl _ _ 268 rfl rfl rfl r1 ?_
      refine hK.out _ _ ?_ (fun hHeld4 => ?_)
      · exact ⟨blkc hB2 1 _ rfl, blkc hB2 2 _ rfl⟩
      clear hK K
      (try simp only [Act.put, tz1, tz2, tz3])
      refine rd1 18 rfl (fun K hK => ?_)
      go_simp
      refine hK.out _ _ ?_ (fun hHeld5 => ?_)
      · exact ⟨blkc HPM.out.blk 1 _ rfl, blkc HPM.out.blk 2 _ rfl⟩
      clear hK K
      (try simp only [Act.put, tz1, tz2, tz3])
      refine wpAnyH_done (by kernel_rfl) ?_ _
      have hm := HPM.out
      have d0 := blkc hm.blk 0 _ rfl
      have d1 := blkc hm.blk 1 _ rfl
      have d2 := blkc hm.cc 0 _ rfl
      have d3 := blkc hm.cc 1 _ rfl
      have e0 := blkf hm.blk 0
      have e1 := blkf hm.blk 1
      simp only [List.getElem_toArray, List.getElem_cons_succ, List.getElem_cons_zero] at d0 d1 d2 d3
      rw [hfl] at d2
      clear hm hB2 r1 r2 PG c0 c1 c2 ce1 ce2 hHeld hHeld2 hHeld3 hHeld4 hHeld5 hlk HXE
      go_wp2_with fail
      have hbw : base ≤ w3.heap.size := Nat.le_trans g6 HPM.out.keep.size
      have hwl := HPM.out.cc
      have hwl := (Array.getElem?_eq_some_iff.1 hwl).1
      have hcu := ((Up.refl w3).alloc (.cells #[.int .u64 (fl.length : Int), .int .u32 (s.length : Int)] 124)).drew
      have HMU := Lib.hid (pm_up HPM.out hcu hbw)
      have HXU : ((w3.alloc (.cells #[.int .u64 (fl.length : Int), .int .u32 (s.length : Int)] 124)).drew).heap[w3.heap.size]? = some (.cells #[.int .u64 (fl.length : Int), .int .u32 (s.length : Int)] 124 (0, 0)) := heap_alloc_new w3 _
      have PS := Lib.hid (place_step 205 HMU.out g5 (by simp; omega) hl2 (by rw [hfl]; exact HXU))
      have x1 := hcu.cell d1
      have x2 := hcu.cell d2
      have x3 := hcu.cell d3
      clear HXU
      refine wp_region_held_drew (S := fun w' => w'.cell? ⟨w.heap.size + 1, 0, none⟩ = some (.int .u64 (fl.length : Int)) ∧ w'.cell? ⟨w.heap.size + 1, 1, none⟩ = some (.int .u32 (s.length : Int))) (by kernel_rfl) ?_ (fun hHeld => ?_)
      · exact ⟨d2, d3⟩
      refine tk 0 rfl ?_
      (try simp only [Act.put, tz1, tz2, tz3])
      refine tk 1 rfl ?_
      (try simp only [Act.put, tz1, tz2, tz3])
      refine tk 2 rfl ?_
      (try simp only [Act.put, tz1, tz2, tz3])
      refine tk 3 rfl ?_
      (try simp only [Act.put, tz1, tz2, tz3])
      refine tk 5 rfl ?_
      (try simp only [Act.put, tz1, tz2, tz3])
      refine wpAnyH_ready (rs := [4, 6]) (by kernel_rfl) (by simp) ?_
      refine AllReadyH.cons (o := ⟨_, _, _, _, _, _⟩) rfl (fun K hK => ?_) ?_
      · go_simp
        refine hK.out _ _ ?_ (fun hHeld2 => ?_)
        · exact hHeld
        clear hK K
        (try simp only [Act.put, tz1, tz2, tz3])
        refine rd1 6 rfl (fun K hK => ?_)
        go_simp
        refine hK.out _ _ ?_ (fun hHeld3 => ?_)
        · exact ⟨x2, x3⟩
        clear hK K
        (try simp only [Act.put, tz1, tz2, tz3])
        refine rd1 7 rfl (fun K hK => ?_)
        obtain ⟨pv2, w4, r3, hdis, hg3, hb3, hpq, hex⟩ := PS.out
        obtain ⟨Aq, cq, rfl, hrq⟩ := Rd.of_own hpq.pls
        clear hrq
        have HNR : Hid ((Value.slice Aq (cs.length + 1) cq).ownBlock ≠ some w.heap.size) := Lib.hid (fun e => by
          rcases hdis with hdis | hdis
          · exact absurd (HPV.out _ (hdis ▸ e)) (Nat.lt_irrefl _)
          · rw [hdis] at e; injection e with e; simp at e; omega)
        have HDIS := Lib.hid hdis
        have HEX := Lib.hid hex
        clear hdis hex
        have hcc4 := (hg3.block (w.heap.size + 1) (Array.getElem?_eq_some_iff.1 HMU.out.cc).1 (fun e => by have := HPV.out _ e.symm; omega)).trans HMU.out.cc
        rw [hfl] at hcc4
        have hrr4 := (hg3.block w.heap.size (Array.getElem?_eq_some_iff.1 HMU.out.rr).1 (fun e => by have := HPV.out _ e.symm; omega)).trans HMU.out.rr
        have hcc5 := ((grown_setO w4 B 1 (.slice Aq (cs.length + 1) cq)).block (w.heap.size + 1) (Array.getElem?_eq_some_iff.1 hcc4).1 (by intro e; injection e with e; omega)).trans hcc4
        have hrr5 := ((grown_setO w4 B 1 (.slice Aq (cs.length + 1) cq)).block w.heap.size (Array.getElem?_eq_some_iff.1 hrr4).1 (by intro e; injection e with e; omega)).trans hrr4
        have HPQ := Lib.hid hpq
        have HCC5 := Lib.hid hcc5
        have HRR5 := Lib.hid hrr5
        have y1 := blkc hb3 1 _ rfl
        have y2 := blkf hb3 1
        have z0 := blkc hcc4 0 _ rfl
        have z1 := blkc hcc4 1 _ rfl
        have z2 := blkc hcc5 0 _ rfl
        have z3 := blkc hcc5 1 _ rfl
        simp only [List.getElem_toArray, List.getElem_cons_succ, List.getElem_cons_zero] at y1 z0 z1 z2 z3
        clear hg3 hpq hcc4 hrr4 hcc5 hrr5
        refine step_append_run rfl _ _ 205 rfl rfl rfl r3 ?_
        refine hK.out _ _ ?_ (fun hHeld4 => ?_)
        · exact ⟨z0, z1⟩
        clear hK K
        (try simp only [Act.put, tz1, tz2, tz3])
        refine tk 8 rfl ?_
        (try simp only [Act.put, tz1, tz2, tz3])
        refine tk 9 rfl ?_
        (try simp only [Act.put, tz1, tz2, tz3])
        refine rd1 10 rfl (fun K hK => ?_)
        go_simp
        refine hK.out _ _ ?_ (fun hHeld5 => ?_)
        · exact ⟨z2, z3⟩
        clear hK K
        (try simp only [Act.put, tz1, tz2, tz3])
        refine wpAnyH_done (by kernel_rfl) ?_ _
        clear x1 x2 x3 y1 y2 z0 z1 hHeld hHeld2 hHeld3 hHeld4 hHeld5 d0 d1 d2 d3 e0 e1 PS hcu r3
        have u0 := blkc HPQ.out.blk 0 _ rfl
        have u1 := blkf HPQ.out.blk 0
        simp only [List.getElem_toArray, List.getElem_cons_zero] at u0
        obtain ⟨tv2, w6, r6, hg6, hb6, hpw, hpk, hex6⟩ := text_step 44 HPQ.out g5 (by have := HPQ.out.keep.size; omega) (by rw [hfl]; exact hl) hs
        obtain ⟨At6, ct6, rfl⟩ : ∃ A c, tv2 = .slice A ((cs ++ [s]).flatten.length) c := by
          obtain ⟨tv, pv, mv, h1, h2, _⟩ := hpw
          obtain ⟨A, c, h3, _⟩ := Rd.of_own h2
          have h4 := heap_setCell_same w6 B 0 _ _ tv2 hb6
          rw [h1] at h4
          injection h4 with h4
          injection h4 with h4
          simp at h4
          exact ⟨A, c, by rw [← h4.1]; exact h3⟩
        have hcc6 := (hg6.block (w.heap.size + 1) (Array.getElem?_eq_some_iff.1 HCC5.out).1 (fun e => by have := HTV.out _ e.symm; omega)).trans HCC5.out
        have hrr6 := (hg6.block w.heap.size (Array.getElem?_eq_some_iff.1 HRR5.out).1 (fun e => by have := HTV.out _ e.symm; omega)).trans HRR5.out
        have HPW := Lib.hid hpw
        have HPK := Lib.hid hpk
        have HEX6 := Lib.hid hex6
        clear hex6
        have t0 := blkc hb6 0 _ rfl
        have t1 := blkf hb6 0
        have m0 := blkc hcc6 0 _ rfl
        have m1 := blkc hcc6 1 _ rfl
        simp only [List.getElem_toArray, List.getElem_cons_succ, List.getElem_cons_zero] at t0 m0 m1
        have hcc7 := ((grown_setO w6 B 0 (.slice At6 ((cs ++ [s]).flatten.length) ct6)).block (w.heap.size + 1) (Array.getElem?_eq_some_iff.1 hcc6).1 (by intro e; injection e with e; omega)).trans hcc6
        have hrr7 := ((grown_setO w6 B 0 (.slice At6 ((cs ++ [s]).flatten.length) ct6)).block w.heap.size (Array.getElem?_eq_some_iff.1 hrr6).1 (by intro e; injection e with e; omega)).trans hrr6
        have HRR7 := Lib.hid hrr7
        have n0 := blkc hcc7 0 _ rfl
        have n1 := blkc hcc7 1 _ rfl
        have q1 := blkc hrr7 0 _ rfl
        have q2 := blkc hrr7 1 _ rfl
        have q3 := blkf hrr7 0
        have q4 := blkf hrr7 1
        simp only [List.getElem_toArray, List.getElem_cons_succ, List.getElem_cons_zero] at n0 n1 q1 q2
        have hb7 := heap_setCell_same w6 B 0 _ _ (.slice At6 ((cs ++ [s]).flatten.length) ct6) hb6
        have HB7 := Lib.hid hb7
        clear hg6 hpw hpk hcc6 hrr6 hcc7 hrr7 hb7
        generalize (cs ++ [s]).flatten.length = L6 at *
        go_wp2_with (at_builtin; refine wpList_append_run rfl _ _ 44 9 rfl rfl rfl r6 ?_)
        have hs2 := set2c HRR7.out (.int .u64 (fl.length : Int)) (.int .u32 (s.length : Int))
        have k0 := blkc hs2 0 _ rfl
        have k1 := blkc hs2 1 _ rfl
        simp only [List.getElem_toArray, List.getElem_cons_succ, List.getElem_cons_zero] at k0 k1
        refine bodyPost_ret (v := .agg #[.int .u64 (fl.length : Int), .int .u32 (s.length : Int)]) (by simp [results, Tryz.results107, go_sem, k0, k1]) rfl ?_
        obtain ⟨tv, pv, mv, p1, p2, p3, p4, p5, p6⟩ := HPW.out
        have p0 := HB7.out
        rw [p1] at p0
        injection p0 with p0
        injection p0 with p0
        simp at p0
        have hfin := pool_ret (x := .int .u64 (fl.length : Int)) (y := .int .u32 (s.length : Int)) HRR7.out p1 p2 p3 p4 g5 g6 (by rw [p0.2.1]; exact HNR.out)
        refine ⟨by rw [hfl], hfin.1, HPK.out.trans hfin.2.1, ?_⟩
        rintro R cR fzR ⟨hR1, hR2⟩
        have hRl := (Array.getElem?_eq_some_iff.1 hR1).1
        have hRp := hR2 _ _ _ G1.out
        refine ⟨(hfin.2.2.2 R (by have := HPK.out.size; omega) (by omega)).trans (HEX6.out R cR fzR (HEX.out R cR fzR hR1 hRp)), fun tv3 pv3 mv3 h3 => ?_⟩
        rw [hfin.2.2.1, HB7.out] at h3
        injection h3 with h3
        injection h3 with h3
        simp at h3
        rw [← h3.2.1]
        rcases HDIS.out with hd | hd
        · rw [hd]; exact hRp
        · rw [hd]; intro e; injection e with e; have := HPM.out.keep.size; simp at e; omega
      refine AllReadyH.cons (o := ⟨_, _, _, _, _, _⟩) rfl (fun K hK => ?_) AllReadyH.nil
      · go_simp
        refine hK.out _ _ ?_ (fun hHeld2 => ?_)
        · exact ⟨x2, x3⟩
        clear hK K
        (try simp only [Act.put, tz1, tz2, tz3])
        refine rd1 4 rfl (fun K hK => ?_)
        go_simp
        refine hK.out _ _ ?_ (fun hHeld3 => ?_)
        · exact ⟨x2, x3⟩
        clear hK K
        (try simp only [Act.put, tz1, tz2, tz3])
        refine rd1 7 rfl (fun K hK => ?_)
        obtain ⟨pv2, w4, r3, hdis, hg3, hb3, hpq, hex⟩ := PS.out
        obtain ⟨Aq, cq, rfl, hrq⟩ := Rd.of_own hpq.pls
        clear hrq
        have HNR : Hid ((Value.slice Aq (cs.length + 1) cq).ownBlock ≠ some w.heap.size) := Lib.hid (fun e => by
          rcases hdis with hdis | hdis
          · exact absurd (HPV.out _ (hdis ▸ e)) (Nat.lt_irrefl _)
          · rw [hdis] at e; injection e with e; simp at e; omega)
        have HDIS := Lib.hid hdis
        have HEX := Lib.hid hex
        clear hdis hex
        have hcc4 := (hg3.block (w.heap.size + 1) (Array.getElem?_eq_some_iff.1 HMU.out.cc).1 (fun e => by have := HPV.out _ e.symm; omega)).trans HMU.out.cc
        rw [hfl] at hcc4
        have hrr4 := (hg3.block w.heap.size (Array.getElem?_eq_some_iff.1 HMU.out.rr).1 (fun e => by have := HPV.out _ e.symm; omega)).trans HMU.out.rr
        have hcc5 := ((grown_setO w4 B 1 (.slice Aq (cs.length + 1) cq)).block (w.heap.size + 1) (Array.getElem?_eq_some_iff.1 hcc4).1 (by intro e; injection e with e; omega)).trans hcc4
        have hrr5 := ((grown_setO w4 B 1 (.slice Aq (cs.length + 1) cq)).block w.heap.size (Array.getElem?_eq_some_iff.1 hrr4).1 (by intro e; injection e with e; omega)).trans hrr4
        have HPQ := Lib.hid hpq
        have HCC5 := Lib.hid hcc5
        have HRR5 := Lib.hid hrr5
        have y1 := blkc hb3 1 _ rfl
        have y2 := blkf hb3 1
        have z0 := blkc hcc4 0 _ rfl
        have z1 := blkc hcc4 1 _ rfl
        have z2 := blkc hcc5 0 _ rfl
        have z3 := blkc hcc5 1 _ rfl
        simp only [List.getElem_toArray, List.getElem_cons_succ, List.getElem_cons_zero] at y1 z0 z1 z2 z3
        clear hg3 hpq hcc4 hrr4 hcc5 hrr5
        refine step_append_run rfl _ _ 205 rfl rfl rfl r3 ?_
        refine hK.out _ _ ?_ (fun hHeld4 => ?_)
        · exact ⟨z0, z1⟩
        clear hK K
        (try simp only [Act.put, tz1, tz2, tz3])
        refine tk 8 rfl ?_
        (try simp only [Act.put, tz1, tz2, tz3])
        refine tk 9 rfl ?_
        (try simp only [Act.put, tz1, tz2, tz3])
        refine rd1 10 rfl (fun K hK => ?_)
        go_simp
        refine hK.out _ _ ?_ (fun hHeld5 => ?_)
        · exact ⟨z2, z3⟩
        clear hK K
        (try simp only [Act.put, tz1, tz2, tz3])
        refine wpAnyH_done (by kernel_rfl) ?_ _
        clear x1 x2 x3 y1 y2 z0 z1 hHeld hHeld2 hHeld3 hHeld4 hHeld5 d0 d1 d2 d3 e0 e1 PS hcu r3
        have u0 := blkc HPQ.out.blk 0 _ rfl
        have u1 := blkf HPQ.out.blk 0
        simp only [List.getElem_toArray, List.getElem_cons_zero] at u0
        obtain ⟨tv2, w6, r6, hg6, hb6, hpw, hpk, hex6⟩ := text_step 44 HPQ.out g5 (by have := HPQ.out.keep.size; omega) (by rw [hfl]; exact hl) hs
        obtain ⟨At6, ct6, rfl⟩ : ∃ A c, tv2 = .slice A ((cs ++ [s]).flatten.length) c := by
          obtain ⟨tv, pv, mv, h1, h2, _⟩ := hpw
          obtain ⟨A, c, h3, _⟩ := Rd.of_own h2
          have h4 := heap_setCell_same w6 B 0 _ _ tv2 hb6
          rw [h1] at h4
          injection h4 with h4
          injection h4 with h4
          simp at h4
          exact ⟨A, c, by rw [← h4.1]; exact h3⟩
        have hcc6 := (hg6.block (w.heap.size + 1) (Array.getElem?_eq_some_iff.1 HCC5.out).1 (fun e => by have := HTV.out _ e.symm; omega)).trans HCC5.out
        have hrr6 := (hg6.block w.heap.size (Array.getElem?_eq_some_iff.1 HRR5.out).1 (fun e => by have := HTV.out _ e.symm; omega)).trans HRR5.out
        have HPW := Lib.hid hpw
        have HPK := Lib.hid hpk
        have HEX6 := Lib.hid hex6
        clear hex6
        have t0 := blkc hb6 0 _ rfl
        have t1 := blkf hb6 0
        have m0 := blkc hcc6 0 _ rfl
        have m1 := blkc hcc6 1 _ rfl
        simp only [List.getElem_toArray, List.getElem_cons_succ, List.getElem_cons_zero] at t0 m0 m1
        have hcc7 := ((grown_setO w6 B 0 (.slice At6 ((cs ++ [s]).flatten.length) ct6)).block (w.heap.size + 1) (Array.getElem?_eq_some_iff.1 hcc6).1 (by intro e; injection e with e; omega)).trans hcc6
        have hrr7 := ((grown_setO w6 B 0 (.slice At6 ((cs ++ [s]).flatten.length) ct6)).block w.heap.size (Array.getElem?_eq_some_iff.1 hrr6).1 (by intro e; injection e with e; omega)).trans hrr6
        have HRR7 := Lib.hid hrr7
        have n0 := blkc hcc7 0 _ rfl
        have n1 := blkc hcc7 1 _ rfl
        have q1 := blkc hrr7 0 _ rfl
        have q2 := blkc hrr7 1 _ rfl
        have q3 := blkf hrr7 0
        have q4 := blkf hrr7 1
        simp only [List.getElem_toArray, List.getElem_cons_succ, List.getElem_cons_zero] at n0 n1 q1 q2
        have hb7 := heap_setCell_same w6 B 0 _ _ (.slice At6 ((cs ++ [s]).flatten.length) ct6) hb6
        have HB7 := Lib.hid hb7
        clear hg6 hpw hpk hcc6 hrr6 hcc7 hrr7 hb7
        generalize (cs ++ [s]).flatten.length = L6 at *
        go_wp2_with (at_builtin; refine wpList_append_run rfl _ _ 44 9 rfl rfl rfl r6 ?_)
        have hs2 := set2c HRR7.out (.int .u64 (fl.length : Int)) (.int .u32 (s.length : Int))
        have k0 := blkc hs2 0 _ rfl
        have k1 := blkc hs2 1 _ rfl
        simp only [List.getElem_toArray, List.getElem_cons_succ, List.getElem_cons_zero] at k0 k1
        refine bodyPost_ret (v := .agg #[.int .u64 (fl.length : Int), .int .u32 (s.length : Int)]) (by simp [results, Tryz.results107, go_sem, k0, k1]) rfl ?_
        obtain ⟨tv, pv, mv, p1, p2, p3, p4, p5, p6⟩ := HPW.out
        have p0 := HB7.out
        rw [p1] at p0
        injection p0 with p0
        injection p0 with p0
        simp at p0
        have hfin := pool_ret (x := .int .u64 (fl.length : Int)) (y := .int .u32 (s.length : Int)) HRR7.out p1 p2 p3 p4 g5 g6 (by rw [p0.2.1]; exact HNR.out)
        refine ⟨by rw [hfl], hfin.1, HPK.out.trans hfin.2.1, ?_⟩
        rintro R cR fzR ⟨hR1, hR2⟩
        have hRl := (Array.getElem?_eq_some_iff.1 hR1).1
        have hRp := hR2 _ _ _ G1.out
        refine ⟨(hfin.2.2.2 R (by have := HPK.out.size; omega) (by omega)).trans (HEX6.out R cR fzR (HEX.out R cR fzR hR1 hRp)), fun tv3 pv3 mv3 h3 => ?_⟩
        rw [hfin.2.2.1, HB7.out] at h3
        injection h3 with h3
        injection h3 with h3
        simp at h3
        rw [← h3.2.1]
        rcases HDIS.out with hd | hd
        · rw [hd]; exact hRp
        · rw [hd]; intro e; injection e with e; have := HPM.out.keep.size; simp at e; omega

  · subst hfl
    have hpn := pn_some (s := s) G1.out G2.out G3.out hgr hD hG hM hM2 g6
    have HPN := Lib.hid hpn
    have q0 := eqlSome M
    clear hgr hD hG hpn
    generalize hfl : cs.flatten = fl at *
    go_enter Tryz.func107, Tryz.ntmps107
    go_wp2_with fail
    refine (SM _).out.mono ?_
    rintro e w1 ⟨rfl, hu1⟩
    have hp1 := pn_up HPN.out hu1 (by simp; omega)
    clear hu1 c0 c1 c2 q0 HR0
    have c0 := blkc hp1.blk 0 _ rfl
    have c1 := blkc hp1.blk 1 _ rfl
    have c2 := blkc hp1.blk 2 _ rfl
    simp only [List.getElem_toArray, List.getElem_cons_succ, List.getElem_cons_zero] at c0 c1 c2
    have hsm := fnvV_lt s
    have hkey : keyOf Tryz.prog 54 (.int .u64 (fnvV s : Int)) = some (.int .u64 (fnvV s : Int)) := keyOf_int_mk Tryz.underlying54 (by simp [Lit.wf, IntKind.min, IntKind.max, IntKind.bits, IntKind.signed]; omega)
    have HKEY := Lib.hid hkey
    have HP1 := Lib.hid hp1
    have HGAT := Lib.hid (hp1.gat (fnvV s) hsm)
    clear hp1 hkey hsm G2 G3 G4 HPN HU0
    obtain ⟨sm, hsm⟩ : ∃ sm, fnvV s = sm := ⟨_, rfl⟩
    have HSM := Lib.hid hsm
    rw [hsm] at HKEY HGAT ⊢
    clear hsm
    obtain ⟨i0, hi0, hz0, hz1, hz2⟩ := info_parts infoI64
    go_wp2_with fail
    refine wp_region_held_drew (S := fun w' => w'.cell? ⟨B, 1, none⟩ = some (.slice Ap cs.length cp) ∧ w'.cell? ⟨B, 2, none⟩ = some (.map (some M))) (by kernel_rfl) ?_ (fun hHeld => ?_)
    · exact ⟨c1, c2⟩
    refine tk 0 rfl ?_
    (try simp only [Act.put, tz1, tz2, tz3])
    refine tk 1 rfl ?_
    (try simp only [Act.put, tz1, tz2, tz3])
    refine tk 2 rfl ?_
    (try simp only [Act.put, tz1, tz2, tz3])
    refine tk 3 rfl ?_
    (try simp only [Act.put, tz1, tz2, tz3])
    refine tk 4 rfl ?_
    (try simp only [Act.put, tz1, tz2, tz3])
    refine tk 5 rfl ?_
    (try simp only [Act.put, tz1, tz2, tz3])
    refine tk 6 rfl ?_
    (try simp only [Act.put, tz1, tz2, tz3])
    refine tk 7 rfl ?_
    (try simp only [Act.put, tz1, tz2, tz3])
    refine tk 8 rfl ?_
    (try simp only [Act.put, tz1, tz2, tz3])
    refine tk 9 rfl ?_
    (try simp only [Act.put, tz1, tz2, tz3])
    refine tk 11 rfl ?_
    (try simp only [Act.put, tz1, tz2, tz3])
    refine tk 12 rfl ?_
    (try simp only [Act.put, tz1, tz2, tz3])
    refine tk 13 rfl ?_
    (try simp only [Act.put, tz1, tz2, tz3])
    refine tk 14 rfl ?_
    (try simp only [Act.put, tz1, tz2, tz3])
    refine tk 15 rfl ?_
    (try simp only [Act.put, tz1, tz2, tz3])
    have hb1 : base ≤ w1.heap.size := Nat.le_trans g6 HP1.out.keep.size
    have hpd := pn_up HP1.out (Up.refl w1).drew hb1
    have hpe := pn_up HP1.out ((Up.refl w1).alloc (.cells #[.int .i64 (cs.length : Int)] 3)).drew hb1
    have HPE := Lib.hid hpe
    have hXe : ((w1.alloc (.cells #[.int .i64 (cs.length : Int)] 3)).drew).heap[w1.heap.size]? = some (.cells #[.int .i64 (cs.length : Int)] 3 (0, 0)) := heap_alloc_new w1 _
    have HXE := Lib.hid hXe
    have hup := ((Up.refl w1).alloc (.cells #[.int .i64 (cs.length : Int)] 3)).drew
    have ce1 := hup.cell c1
    have ce2 := hup.cell c2
    have hn9 : cs.length < maxLen := by unfold maxLen; omega
    refine wpAnyH_ready (rs := [10, 16]) (by kernel_rfl) (by simp) ?_
    refine AllReadyH.cons (o := ⟨_, _, _, _, _, _⟩) rfl (fun K hK => ?_) ?_
    · obtain ⟨v, zs, hlk, hat, hoi, hzl, hback⟩ := hpd.grp.at lawU Tryz.underlying206 (zeroS _) hn9 HKEY.out
      have HZS := Lib.hid (zs_of hat hoi HGAT.out)
      have PG := Lib.hid (push_grp 268 hback hoi hzl hl2 hpd.ghi (show w1.drew.grownBy ((w1.alloc (.cells #[.int .i64 (cs.length : Int)] 3)).drew) none from World.grownBy_alloc w1.drew _ _) HXE.out)
      clear hat hoi hzl hback hpd hpe hXe hup
      go_simp
      refine hK.out _ _ ?_ (fun hHeld2 => ?_)
      · exact hHeld
      clear hK K
      (try simp only [Act.put, tz1, tz2, tz3])
      refine rd1 16 rfl (fun K hK => ?_)
      go_simp
      refine hK.out _ _ ?_ (fun hHeld3 => ?_)
      · exact ⟨ce1, ce2⟩
      clear hK K
      (try simp only [Act.put, tz1, tz2, tz3])
      refine rd1 17 rfl (fun K hK => ?_)
      obtain ⟨v2, w2, w3, r1, r2, hgr, ho', hg1, hg2, hrow⟩ := PG.out
      have hsm2 := HSM.out
      subst hsm2
      have hPM := pn_push HPE.out (by simp; omega) HZS.out hg1 hrow hg2 ho' hgr
      have hB2 := (hg1.block B (Array.getElem?_eq_some_iff.1 HPE.out.blk).1 (fun e => by obtain ⟨_, cur, fz, h2⟩ := hrow B e.symm; rw [HPE.out.blk] at h2; cases h2)).trans HPE.out.blk
      have HPM := Lib.hid hPM
      clear hPM hgr ho' hg1 hg2 hrow
      refine step_append_run rfl _ _ 268 rfl rfl rfl r1 ?_
      refine hK.out _ _ ?_ (fun hHeld4 => ?_)
      · exact ⟨blkc hB2 1 _ rfl, blkc hB2 2 _ rfl⟩
      clear hK K
      (try simp only [Act.put, tz1, tz2, tz3])
      refine rd1 18 rfl (fun K hK => ?_)
      go_simp
      refine hK.out _ _ ?_ (fun hHeld5 => ?_)
      · exact ⟨blkc HPM.out.blk 1 _ rfl, blkc HPM.out.blk 2 _ rfl⟩
      clear hK K
      (try simp only [Act.put, tz1, tz2, tz3])
      refine wpAnyH_done (by kernel_rfl) ?_ _
      have hm := HPM.out
      have d0 := blkc hm.blk 0 _ rfl
      have d1 := blkc hm.blk 1 _ rfl
      have d2 := blkc hm.cc 0 _ rfl
      have d3 := blkc hm.cc 1 _ rfl
      have e0 := blkf hm.blk 0
      have e1 := blkf hm.blk 1
      simp only [List.getElem_toArray, List.getElem_cons_succ, List.getElem_cons_zero] at d0 d1 d2 d3
      rw [hfl] at d2
      clear hm hB2 r1 r2 PG c0 c1 c2 ce1 ce2 hHeld hHeld2 hHeld3 hHeld4 hHeld5 hlk HXE
      go_wp2_with fail
      have hbw : base ≤ w3.heap.size := Nat.le_trans g6 HPM.out.keep.size
      have hwl := HPM.out.cc
      have hwl := (Array.getElem?_eq_some_iff.1 hwl).1
      have hcu := ((Up.refl w3).alloc (.cells #[.int .u64 (fl.length : Int), .int .u32 (s.length : Int)] 124)).drew
      have HMU := Lib.hid (pm_up HPM.out hcu hbw)
      have HXU : ((w3.alloc (.cells #[.int .u64 (fl.length : Int), .int .u32 (s.length : Int)] 124)).drew).heap[w3.heap.size]? = some (.cells #[.int .u64 (fl.length : Int), .int .u32 (s.length : Int)] 124 (0, 0)) := heap_alloc_new w3 _
      have PS := Lib.hid (place_step 205 HMU.out g5 (by simp; omega) hl2 (by rw [hfl]; exact HXU))
      have x1 := hcu.cell d1
      have x2 := hcu.cell d2
      have x3 := hcu.cell d3
      clear HXU
      refine wp_region_held_drew (S := fun w' => w'.cell? ⟨w.heap.size + 1, 0, none⟩ = some (.int .u64 (fl.length : Int)) ∧ w'.cell? ⟨w.heap.size + 1, 1, none⟩ = some (.int .u32 (s.length : Int))) (by kernel_rfl) ?_ (fun hHeld => ?_)
      · exact ⟨d2, d3⟩
      refine tk 0 rfl ?_
      (try simp only [Act.put, tz1, tz2, tz3])
      refine tk 1 rfl ?_
      (try simp only [Act.put, tz1, tz2, tz3])
      refine tk 2 rfl ?_
      (try simp only [Act.put, tz1, tz2, tz3])
      refine tk 3 rfl ?_
      (try simp only [Act.put, tz1, tz2, tz3])
      refine tk 5 rfl ?_
      (try simp only [Act.put, tz1, tz2, tz3])
      refine wpAnyH_ready (rs := [4, 6]) (by kernel_rfl) (by simp) ?_
      refine AllReadyH.cons (o := ⟨_, _, _, _, _, _⟩) rfl (fun K hK => ?_) ?_
      · go_simp
        refine hK.out _ _ ?_ (fun hHeld2 => ?_)
        · exact hHeld
        clear hK K
        (try simp only [Act.put, tz1, tz2, tz3])
        refine rd1 6 rfl (fun K hK => ?_)
        go_simp
        refine hK.out _ _ ?_ (fun hHeld3 => ?_)
        · exact ⟨x2, x3⟩
        clear hK K
        (try simp only [Act.put, tz1, tz2, tz3])
        refine rd1 7 rfl (fun K hK => ?_)
        obtain ⟨pv2, w4, r3, hdis, hg3, hb3, hpq, hex⟩ := PS.out
        obtain ⟨Aq, cq, rfl, hrq⟩ := Rd.of_own hpq.pls
        clear hrq
        have HNR : Hid ((Value.slice Aq (cs.length + 1) cq).ownBlock ≠ some w.heap.size) := Lib.hid (fun e => by
          rcases hdis with hdis | hdis
          · exact absurd (HPV.out _ (hdis ▸ e)) (Nat.lt_irrefl _)
          · rw [hdis] at e; injection e with e; simp at e; omega)
        have HDIS := Lib.hid hdis
        have HEX := Lib.hid hex
        clear hdis hex
        have hcc4 := (hg3.block (w.heap.size + 1) (Array.getElem?_eq_some_iff.1 HMU.out.cc).1 (fun e => by have := HPV.out _ e.symm; omega)).trans HMU.out.cc
        rw [hfl] at hcc4
        have hrr4 := (hg3.block w.heap.size (Array.getElem?_eq_some_iff.1 HMU.out.rr).1 (fun e => by have := HPV.out _ e.symm; omega)).trans HMU.out.rr
        have hcc5 := ((grown_setO w4 B 1 (.slice Aq (cs.length + 1) cq)).block (w.heap.size + 1) (Array.getElem?_eq_some_iff.1 hcc4).1 (by intro e; injection e with e; omega)).trans hcc4
        have hrr5 := ((grown_setO w4 B 1 (.slice Aq (cs.length + 1) cq)).block w.heap.size (Array.getElem?_eq_some_iff.1 hrr4).1 (by intro e; injection e with e; omega)).trans hrr4
        have HPQ := Lib.hid hpq
        have HCC5 := Lib.hid hcc5
        have HRR5 := Lib.hid hrr5
        have y1 := blkc hb3 1 _ rfl
        have y2 := blkf hb3 1
        have z0 := blkc hcc4 0 _ rfl
        have z1 := blkc hcc4 1 _ rfl
        have z2 := blkc hcc5 0 _ rfl
        have z3 := blkc hcc5 1 _ rfl
        simp only [List.getElem_toArray, List.getElem_cons_succ, List.getElem_cons_zero] at y1 z0 z1 z2 z3
        clear hg3 hpq hcc4 hrr4 hcc5 hrr5
        refine step_append_run rfl _ _ 205 rfl rfl rfl r3 ?_
        refine hK.out _ _ ?_ (fun hHeld4 => ?_)
        · exact ⟨z0, z1⟩
        clear hK K
        (try simp only [Act.put, tz1, tz2, tz3])
        refine tk 8 rfl ?_
        (try simp only [Act.put, tz1, tz2, tz3])
        refine tk 9 rfl ?_
        (try simp only [Act.put, tz1, tz2, tz3])
        refine rd1 10 rfl (fun K hK => ?_)
        go_simp
        refine hK.out _ _ ?_ (fun hHeld5 => ?_)
        · exact ⟨z2, z3⟩
        clear hK K
        (try simp only [Act.put, tz1, tz2, tz3])
        refine wpAnyH_done (by kernel_rfl) ?_ _
        clear x1 x2 x3 y1 y2 z0 z1 hHeld hHeld2 hHeld3 hHeld4 hHeld5 d0 d1 d2 d3 e0 e1 PS hcu r3
        have u0 := blkc HPQ.out.blk 0 _ rfl
        have u1 := blkf HPQ.out.blk 0
        simp only [List.getElem_toArray, List.getElem_cons_zero] at u0
        obtain ⟨tv2, w6, r6, hg6, hb6, hpw, hpk, hex6⟩ := text_step 44 HPQ.out g5 (by have := HPQ.out.keep.size; omega) (by rw [hfl]; exact hl) hs
        obtain ⟨At6, ct6, rfl⟩ : ∃ A c, tv2 = .slice A ((cs ++ [s]).flatten.length) c := by
          obtain ⟨tv, pv, mv, h1, h2, _⟩ := hpw
          obtain ⟨A, c, h3, _⟩ := Rd.of_own h2
          have h4 := heap_setCell_same w6 B 0 _ _ tv2 hb6
          rw [h1] at h4
          injection h4 with h4
          injection h4 with h4
          simp at h4
          exact ⟨A, c, by rw [← h4.1]; exact h3⟩
        have hcc6 := (hg6.block (w.heap.size + 1) (Array.getElem?_eq_some_iff.1 HCC5.out).1 (fun e => by have := HTV.out _ e.symm; omega)).trans HCC5.out
        have hrr6 := (hg6.block w.heap.size (Array.getElem?_eq_some_iff.1 HRR5.out).1 (fun e => by have := HTV.out _ e.symm; omega)).trans HRR5.out
        have HPW := Lib.hid hpw
        have HPK := Lib.hid hpk
        have HEX6 := Lib.hid hex6
        clear hex6
        have t0 := blkc hb6 0 _ rfl
        have t1 := blkf hb6 0
        have m0 := blkc hcc6 0 _ rfl
        have m1 := blkc hcc6 1 _ rfl
        simp only [List.getElem_toArray, List.getElem_cons_succ, List.getElem_cons_zero] at t0 m0 m1
        have hcc7 := ((grown_setO w6 B 0 (.slice At6 ((cs ++ [s]).flatten.length) ct6)).block (w.heap.size + 1) (Array.getElem?_eq_some_iff.1 hcc6).1 (by intro e; injection e with e; omega)).trans hcc6
        have hrr7 := ((grown_setO w6 B 0 (.slice At6 ((cs ++ [s]).flatten.length) ct6)).block w.heap.size (Array.getElem?_eq_some_iff.1 hrr6).1 (by intro e; injection e with e; omega)).trans hrr6
        have HRR7 := Lib.hid hrr7
        have n0 := blkc hcc7 0 _ rfl
        have n1 := blkc hcc7 1 _ rfl
        have q1 := blkc hrr7 0 _ rfl
        have q2 := blkc hrr7 1 _ rfl
        have q3 := blkf hrr7 0
        have q4 := blkf hrr7 1
        simp only [List.getElem_toArray, List.getElem_cons_succ, List.getElem_cons_zero] at n0 n1 q1 q2
        have hb7 := heap_setCell_same w6 B 0 _ _ (.slice At6 ((cs ++ [s]).flatten.length) ct6) hb6
        have HB7 := Lib.hid hb7
        clear hg6 hpw hpk hcc6 hrr6 hcc7 hrr7 hb7
        generalize (cs ++ [s]).flatten.length = L6 at *
        go_wp2_with (at_builtin; refine wpList_append_run rfl _ _ 44 9 rfl rfl rfl r6 ?_)
        have hs2 := set2c HRR7.out (.int .u64 (fl.length : Int)) (.int .u32 (s.length : Int))
        have k0 := blkc hs2 0 _ rfl
        have k1 := blkc hs2 1 _ rfl
        simp only [List.getElem_toArray, List.getElem_cons_succ, List.getElem_cons_zero] at k0 k1
        refine bodyPost_ret (v := .agg #[.int .u64 (fl.length : Int), .int .u32 (s.length : Int)]) (by simp [results, Tryz.results107, go_sem, k0, k1]) rfl ?_
        obtain ⟨tv, pv, mv, p1, p2, p3, p4, p5, p6⟩ := HPW.out
        have p0 := HB7.out
        rw [p1] at p0
        injection p0 with p0
        injection p0 with p0
        simp at p0
        have hfin := pool_ret (x := .int .u64 (fl.length : Int)) (y := .int .u32 (s.length : Int)) HRR7.out p1 p2 p3 p4 g5 g6 (by rw [p0.2.1]; exact HNR.out)
        refine ⟨by rw [hfl], hfin.1, HPK.out.trans hfin.2.1, ?_⟩
        rintro R cR fzR ⟨hR1, hR2⟩
        have hRl := (Array.getElem?_eq_some_iff.1 hR1).1
        have hRp := hR2 _ _ _ G1.out
        refine ⟨(hfin.2.2.2 R (by have := HPK.out.size; omega) (by omega)).trans (HEX6.out R cR fzR (HEX.out R cR fzR hR1 hRp)), fun tv3 pv3 mv3 h3 => ?_⟩
        rw [hfin.2.2.1, HB7.out] at h3
        injection h3 with h3
        injection h3 with h3
        simp at h3
        rw [← h3.2.1]
        rcases HDIS.out with hd | hd
        · rw [hd]; exact hRp
        · rw [hd]; intro e; injection e with e; have := HPM.out.keep.size; simp at e; omega
      refine AllReadyH.cons (o := ⟨_, _, _, _, _, _⟩) rfl (fun K hK => ?_) AllReadyH.nil
      · go_simp
        refine hK.out _ _ ?_ (fun hHeld2 => ?_)
        · exact ⟨x2, x3⟩
        clear hK K
        (try simp only [Act.put, tz1, tz2, tz3])
        refine rd1 4 rfl (fun K hK => ?_)
        go_simp
        refine hK.out _ _ ?_ (fun hHeld3 => ?_)
        · exact ⟨x2, x3⟩
        clear hK K
        (try simp only [Act.put, tz1, tz2, tz3])
        refine rd1 7 rfl (fun K hK => ?_)
        obtain ⟨pv2, w4, r3, hdis, hg3, hb3, hpq, hex⟩ := PS.out
        obtain ⟨Aq, cq, rfl, hrq⟩ := Rd.of_own hpq.pls
        clear hrq
        have HNR : Hid ((Value.slice Aq (cs.length + 1) cq).ownBlock ≠ some w.heap.size) := Lib.hid (fun e => by
          rcases hdis with hdis | hdis
          · exact absurd (HPV.out _ (hdis ▸ e)) (Nat.lt_irrefl _)
          · rw [hdis] at e; injection e with e; simp at e; omega)
        have HDIS := Lib.hid hdis
        have HEX := Lib.hid hex
        clear hdis hex
        have hcc4 := (hg3.block (w.heap.size + 1) (Array.getElem?_eq_some_iff.1 HMU.out.cc).1 (fun e => by have := HPV.out _ e.symm; omega)).trans HMU.out.cc
        rw [hfl] at hcc4
        have hrr4 := (hg3.block w.heap.size (Array.getElem?_eq_some_iff.1 HMU.out.rr).1 (fun e => by have := HPV.out _ e.symm; omega)).trans HMU.out.rr
        have hcc5 := ((grown_setO w4 B 1 (.slice Aq (cs.length + 1) cq)).block (w.heap.size + 1) (Array.getElem?_eq_some_iff.1 hcc4).1 (by intro e; injection e with e; omega)).trans hcc4
        have hrr5 := ((grown_setO w4 B 1 (.slice Aq (cs.length + 1) cq)).block w.heap.size (Array.getElem?_eq_some_iff.1 hrr4).1 (by intro e; injection e with e; omega)).trans hrr4
        have HPQ := Lib.hid hpq
        have HCC5 := Lib.hid hcc5
        have HRR5 := Lib.hid hrr5
        have y1 := blkc hb3 1 _ rfl
        have y2 := blkf hb3 1
        have z0 := blkc hcc4 0 _ rfl
        have z1 := blkc hcc4 1 _ rfl
        have z2 := blkc hcc5 0 _ rfl
        have z3 := blkc hcc5 1 _ rfl
        simp only [List.getElem_toArray, List.getElem_cons_succ, List.getElem_cons_zero] at y1 z0 z1 z2 z3
        clear hg3 hpq hcc4 hrr4 hcc5 hrr5
        refine step_append_run rfl _ _ 205 rfl rfl rfl r3 ?_
        refine hK.out _ _ ?_ (fun hHeld4 => ?_)
        · exact ⟨z0, z1⟩
        clear hK K
        (try simp only [Act.put, tz1, tz2, tz3])
        refine tk 8 rfl ?_
        (try simp only [Act.put, tz1, tz2, tz3])
        refine tk 9 rfl ?_
        (try simp only [Act.put, tz1, tz2, tz3])
        refine rd1 10 rfl (fun K hK => ?_)
        go_simp
        refine hK.out _ _ ?_ (fun hHeld5 => ?_)
        · exact ⟨z2, z3⟩
        clear hK K
        (try simp only [Act.put, tz1, tz2, tz3])
        refine wpAnyH_done (by kernel_rfl) ?_ _
        clear x1 x2 x3 y1 y2 z0 z1 hHeld hHeld2 hHeld3 hHeld4 hHeld5 d0 d1 d2 d3 e0 e1 PS hcu r3
        have u0 := blkc HPQ.out.blk 0 _ rfl
        have u1 := blkf HPQ.out.blk 0
        simp only [List.getElem_toArray, List.getElem_cons_zero] at u0
        obtain ⟨tv2, w6, r6, hg6, hb6, hpw, hpk, hex6⟩ := text_step 44 HPQ.out g5 (by have := HPQ.out.keep.size; omega) (by rw [hfl]; exact hl) hs
        obtain ⟨At6, ct6, rfl⟩ : ∃ A c, tv2 = .slice A ((cs ++ [s]).flatten.length) c := by
          obtain ⟨tv, pv, mv, h1, h2, _⟩ := hpw
          obtain ⟨A, c, h3, _⟩ := Rd.of_own h2
          have h4 := heap_setCell_same w6 B 0 _ _ tv2 hb6
          rw [h1] at h4
          injection h4 with h4
          injection h4 with h4
          simp at h4
          exact ⟨A, c, by rw [← h4.1]; exact h3⟩
        have hcc6 := (hg6.block (w.heap.size + 1) (Array.getElem?_eq_some_iff.1 HCC5.out).1 (fun e => by have := HTV.out _ e.symm; omega)).trans HCC5.out
        have hrr6 := (hg6.block w.heap.size (Array.getElem?_eq_some_iff.1 HRR5.out).1 (fun e => by have := HTV.out _ e.symm; omega)).trans HRR5.out
        have HPW := Lib.hid hpw
        have HPK := Lib.hid hpk
        have HEX6 := Lib.hid hex6
        clear hex6
        have t0 := blkc hb6 0 _ rfl
        have t1 := blkf hb6 0
        have m0 := blkc hcc6 0 _ rfl
        have m1 := blkc hcc6 1 _ rfl
        simp only [List.getElem_toArray, List.getElem_cons_succ, List.getElem_cons_zero] at t0 m0 m1
        have hcc7 := ((grown_setO w6 B 0 (.slice At6 ((cs ++ [s]).flatten.length) ct6)).block (w.heap.size + 1) (Array.getElem?_eq_some_iff.1 hcc6).1 (by intro e; injection e with e; omega)).trans hcc6
        have hrr7 := ((grown_setO w6 B 0 (.slice At6 ((cs ++ [s]).flatten.length) ct6)).block w.heap.size (Array.getElem?_eq_some_iff.1 hrr6).1 (by intro e; injection e with e; omega)).trans hrr6
        have HRR7 := Lib.hid hrr7
        have n0 := blkc hcc7 0 _ rfl
        have n1 := blkc hcc7 1 _ rfl
        have q1 := blkc hrr7 0 _ rfl
        have q2 := blkc hrr7 1 _ rfl
        have q3 := blkf hrr7 0
        have q4 := blkf hrr7 1
        simp only [List.getElem_toArray, List.getElem_cons_succ, List.getElem_cons_zero] at n0 n1 q1 q2
        have hb7 := heap_setCell_same w6 B 0 _ _ (.slice At6 ((cs ++ [s]).flatten.length) ct6) hb6
        have HB7 := Lib.hid hb7
        clear hg6 hpw hpk hcc6 hrr6 hcc7 hrr7 hb7
        generalize (cs ++ [s]).flatten.length = L6 at *
        go_wp2_with (at_builtin; refine wpList_append_run rfl _ _ 44 9 rfl rfl rfl r6 ?_)
        have hs2 := set2c HRR7.out (.int .u64 (fl.length : Int)) (.int .u32 (s.length : Int))
        have k0 := blkc hs2 0 _ rfl
        have k1 := blkc hs2 1 _ rfl
        simp only [List.getElem_toArray, List.getElem_cons_succ, List.getElem_cons_zero] at k0 k1
        refine bodyPost_ret (v := .agg #[.int .u64 (fl.length : Int), .int .u32 (s.length : Int)]) (by simp [results, Tryz.results107, go_sem, k0, k1]) rfl ?_
        obtain ⟨tv, pv, mv, p1, p2, p3, p4, p5, p6⟩ := HPW.out
        have p0 := HB7.out
        rw [p1] at p0
        injection p0 with p0
        injection p0 with p0
        simp at p0
        have hfin := pool_ret (x := .int .u64 (fl.length : Int)) (y := .int .u32 (s.length : Int)) HRR7.out p1 p2 p3 p4 g5 g6 (by rw [p0.2.1]; exact HNR.out)
        refine ⟨by rw [hfl], hfin.1, HPK.out.trans hfin.2.1, ?_⟩
        rintro R cR fzR ⟨hR1, hR2⟩
        have hRl := (Array.getElem?_eq_some_iff.1 hR1).1
        have hRp := hR2 _ _ _ G1.out
        refine ⟨(hfin.2.2.2 R (by have := HPK.out.size; omega) (by omega)).trans (HEX6.out R cR fzR (HEX.out R cR fzR hR1 hRp)), fun tv3 pv3 mv3 h3 => ?_⟩
        rw [hfin.2.2.1, HB7.out] at h3
        injection h3 with h3
        injection h3 with h3
        simp at h3
        rw [← h3.2.1]
        rcases HDIS.out with hd | hd
        · rw [hd]; exact hRp
        · rw [hd]; intro e; injection e with e; have := HPM.out.keep.size; simp at e; omega

    refine AllReadyH.cons (o := ⟨_, _, _, _, _, _⟩) rfl (fun K hK => ?_) AllReadyH.nil
    · obtain ⟨v, zs, hlk, hat, hoi, hzl, hback⟩ := hpe.grp.at lawU Tryz.underlying206 (zeroS _) hn9 HKEY.out
      have HZS := Lib.hid (zs_of hat hoi HGAT.out)
      have PG := Lib.hid (push_grp 268 hback hoi hzl hl2 hpe.ghi (World.grownBy.refl _ _) HXE.out)
      clear hat hoi hzl hback hpd hpe hXe hup
      go_simp
      refine hK.out _ _ ?_ (fun hHeld2 => ?_)
      · exact ⟨ce1, ce2⟩
      clear hK K
      (try simp only [Act.put, tz1, tz2, tz3])
      refine rd1 10 rfl (fun K hK => ?_)
      go_simp
      refine hK.out _ _ ?_ (fun hHeld3 => ?_)
      · exact ⟨ce1, ce2⟩
      clear hK K
      (try simp only [Act.put, tz1, tz2, tz3])
      refine rd1 17 rfl (fun K hK => ?_)
      obtain ⟨v2, w2, w3, r1, r2, hgr, ho', hg1, hg2, hrow⟩ := PG.out
      have hsm2 := HSM.out
      subst hsm2
      have hPM := pn_push HPE.out (by simp; omega) HZS.out hg1 hrow hg2 ho' hgr
      have hB2 := (hg1.block B (Array.getElem?_eq_some_iff.1 HPE.out.blk).1 (fun e => by obtain ⟨_, cur, fz, h2⟩ := hrow B e.symm; rw [HPE.out.blk] at h2; cases h2)).trans HPE.out.blk
      have HPM := Lib.hid hPM
      clear hPM hgr ho' hg1 hg2 hrow
      refine step_append_run rfl _ _ 268 rfl rfl rfl r1 ?_
      refine hK.out _ _ ?_ (fun hHeld4 => ?_)
      · exact ⟨blkc hB2 1 _ rfl, blkc hB2 2 _ rfl⟩
      clear hK K
      (try simp only [Act.put, tz1, tz2, tz3])
      refine rd1 18 rfl (fun K hK => ?_)
      go_simp
      refine hK.out _ _ ?_ (fun hHeld5 => ?_)
      · exact ⟨blkc HPM.out.blk 1 _ rfl, blkc HPM.out.blk 2 _ rfl⟩
      clear hK K
      (try simp only [Act.put, tz1, tz2, tz3])
      refine wpAnyH_done (by kernel_rfl) ?_ _
      have hm := HPM.out
      have d0 := blkc hm.blk 0 _ rfl
      have d1 := blkc hm.blk 1 _ rfl
      have d2 := blkc hm.cc 0 _ rfl
      have d3 := blkc hm.cc 1 _ rfl
      have e0 := blkf hm.blk 0
      have e1 := blkf hm.blk 1
      simp only [List.getElem_toArray, List.getElem_cons_succ, List.getElem_cons_zero] at d0 d1 d2 d3
      rw [hfl] at d2
      clear hm hB2 r1 r2 PG c0 c1 c2 ce1 ce2 hHeld hHeld2 hHeld3 hHeld4 hHeld5 hlk HXE
      go_wp2_with fail
      have hbw : base ≤ w3.heap.size := Nat.le_trans g6 HPM.out.keep.size
      have hwl := HPM.out.cc
      have hwl := (Array.getElem?_eq_some_iff.1 hwl).1
      have hcu := ((Up.refl w3).alloc (.cells #[.int .u64 (fl.length : Int), .int .u32 (s.length : Int)] 124)).drew
      have HMU := Lib.hid (pm_up HPM.out hcu hbw)
      have HXU : ((w3.alloc (.cells #[.int .u64 (fl.length : Int), .int .u32 (s.length : Int)] 124)).drew).heap[w3.heap.size]? = some (.cells #[.int .u64 (fl.length : Int), .int .u32 (s.length : Int)] 124 (0, 0)) := heap_alloc_new w3 _
      have PS := Lib.hid (place_step 205 HMU.out g5 (by simp; omega) hl2 (by rw [hfl]; exact HXU))
      have x1 := hcu.cell d1
      have x2 := hcu.cell d2
      have x3 := hcu.cell d3
      clear HXU
      refine wp_region_held_drew (S := fun w' => w'.cell? ⟨w.heap.size + 1, 0, none⟩ = some (.int .u64 (fl.length : Int)) ∧ w'.cell? ⟨w.heap.size + 1, 1, none⟩ = some (.int .u32 (s.length : Int))) (by kernel_rfl) ?_ (fun hHeld => ?_)
      · exact ⟨d2, d3⟩
      refine tk 0 rfl ?_
      (try simp only [Act.put, tz1, tz2, tz3])
      refine tk 1 rfl ?_
      (try simp only [Act.put, tz1, tz2, tz3])
      refine tk 2 rfl ?_
      (try simp only [Act.put, tz1, tz2, tz3])
      refine tk 3 rfl ?_
      (try simp only [Act.put, tz1, tz2, tz3])
      refine tk 5 rfl ?_
      (try simp only [Act.put, tz1, tz2, tz3])
      refine wpAnyH_ready (rs := [4, 6]) (by kernel_rfl) (by simp) ?_
      refine AllReadyH.cons (o := ⟨_, _, _, _, _, _⟩) rfl (fun K hK => ?_) ?_
      · go_simp
        refine hK.out _ _ ?_ (fun hHeld2 => ?_)
        · exact hHeld
        clear hK K
        (try simp only [Act.put, tz1, tz2, tz3])
        refine rd1 6 rfl (fun K hK => ?_)
        go_simp
        refine hK.out _ _ ?_ (fun hHeld3 => ?_)
        · exact ⟨x2, x3⟩
        clear hK K
        (try simp only [Act.put, tz1, tz2, tz3])
        refine rd1 7 rfl (fun K hK => ?_)
        obtain ⟨pv2, w4, r3, hdis, hg3, hb3, hpq, hex⟩ := PS.out
        obtain ⟨Aq, cq, rfl, hrq⟩ := Rd.of_own hpq.pls
        clear hrq
        have HNR : Hid ((Value.slice Aq (cs.length + 1) cq).ownBlock ≠ some w.heap.size) := Lib.hid (fun e => by
          rcases hdis with hdis | hdis
          · exact absurd (HPV.out _ (hdis ▸ e)) (Nat.lt_irrefl _)
          · rw [hdis] at e; injection e with e; simp at e; omega)
        have HDIS := Lib.hid hdis
        have HEX := Lib.hid hex
        clear hdis hex
        have hcc4 := (hg3.block (w.heap.size + 1) (Array.getElem?_eq_some_iff.1 HMU.out.cc).1 (fun e => by have := HPV.out _ e.symm; omega)).trans HMU.out.cc
        rw [hfl] at hcc4
        have hrr4 := (hg3.block w.heap.size (Array.getElem?_eq_some_iff.1 HMU.out.rr).1 (fun e => by have := HPV.out _ e.symm; omega)).trans HMU.out.rr
        have hcc5 := ((grown_setO w4 B 1 (.slice Aq (cs.length + 1) cq)).block (w.heap.size + 1) (Array.getElem?_eq_some_iff.1 hcc4).1 (by intro e; injection e with e; omega)).trans hcc4
        have hrr5 := ((grown_setO w4 B 1 (.slice Aq (cs.length + 1) cq)).block w.heap.size (Array.getElem?_eq_some_iff.1 hrr4).1 (by intro e; injection e with e; omega)).trans hrr4
        have HPQ := Lib.hid hpq
        have HCC5 := Lib.hid hcc5
        have HRR5 := Lib.hid hrr5
        have y1 := blkc hb3 1 _ rfl
        have y2 := blkf hb3 1
        have z0 := blkc hcc4 0 _ rfl
        have z1 := blkc hcc4 1 _ rfl
        have z2 := blkc hcc5 0 _ rfl
        have z3 := blkc hcc5 1 _ rfl
        simp only [List.getElem_toArray, List.getElem_cons_succ, List.getElem_cons_zero] at y1 z0 z1 z2 z3
        clear hg3 hpq hcc4 hrr4 hcc5 hrr5
        refine step_append_run rfl _ _ 205 rfl rfl rfl r3 ?_
        refine hK.out _ _ ?_ (fun hHeld4 => ?_)
        · exact ⟨z0, z1⟩
        clear hK K
        (try simp only [Act.put, tz1, tz2, tz3])
        refine tk 8 rfl ?_
        (try simp only [Act.put, tz1, tz2, tz3])
        refine tk 9 rfl ?_
        (try simp only [Act.put, tz1, tz2, tz3])
        refine rd1 10 rfl (fun K hK => ?_)
        go_simp
        refine hK.out _ _ ?_ (fun hHeld5 => ?_)
        · exact ⟨z2, z3⟩
        clear hK K
        (try simp only [Act.put, tz1, tz2, tz3])
        refine wpAnyH_done (by kernel_rfl) ?_ _
        clear x1 x2 x3 y1 y2 z0 z1 hHeld hHeld2 hHeld3 hHeld4 hHeld5 d0 d1 d2 d3 e0 e1 PS hcu r3
        have u0 := blkc HPQ.out.blk 0 _ rfl
        have u1 := blkf HPQ.out.blk 0
        simp only [List.getElem_toArray, List.getElem_cons_zero] at u0
        obtain ⟨tv2, w6, r6, hg6, hb6, hpw, hpk, hex6⟩ := text_step 44 HPQ.out g5 (by have := HPQ.out.keep.size; omega) (by rw [hfl]; exact hl) hs
        obtain ⟨At6, ct6, rfl⟩ : ∃ A c, tv2 = .slice A ((cs ++ [s]).flatten.length) c := by
          obtain ⟨tv, pv, mv, h1, h2, _⟩ := hpw
          obtain ⟨A, c, h3, _⟩ := Rd.of_own h2
          have h4 := heap_setCell_same w6 B 0 _ _ tv2 hb6
          rw [h1] at h4
          injection h4 with h4
          injection h4 with h4
          simp at h4
          exact ⟨A, c, by rw [← h4.1]; exact h3⟩
        have hcc6 := (hg6.block (w.heap.size + 1) (Array.getElem?_eq_some_iff.1 HCC5.out).1 (fun e => by have := HTV.out _ e.symm; omega)).trans HCC5.out
        have hrr6 := (hg6.block w.heap.size (Array.getElem?_eq_some_iff.1 HRR5.out).1 (fun e => by have := HTV.out _ e.symm; omega)).trans HRR5.out
        have HPW := Lib.hid hpw
        have HPK := Lib.hid hpk
        have HEX6 := Lib.hid hex6
        clear hex6
        have t0 := blkc hb6 0 _ rfl
        have t1 := blkf hb6 0
        have m0 := blkc hcc6 0 _ rfl
        have m1 := blkc hcc6 1 _ rfl
        simp only [List.getElem_toArray, List.getElem_cons_succ, List.getElem_cons_zero] at t0 m0 m1
        have hcc7 := ((grown_setO w6 B 0 (.slice At6 ((cs ++ [s]).flatten.length) ct6)).block (w.heap.size + 1) (Array.getElem?_eq_some_iff.1 hcc6).1 (by intro e; injection e with e; omega)).trans hcc6
        have hrr7 := ((grown_setO w6 B 0 (.slice At6 ((cs ++ [s]).flatten.length) ct6)).block w.heap.size (Array.getElem?_eq_some_iff.1 hrr6).1 (by intro e; injection e with e; omega)).trans hrr6
        have HRR7 := Lib.hid hrr7
        have n0 := blkc hcc7 0 _ rfl
        have n1 := blkc hcc7 1 _ rfl
        have q1 := blkc hrr7 0 _ rfl
        have q2 := blkc hrr7 1 _ rfl
        have q3 := blkf hrr7 0
        have q4 := blkf hrr7 1
        simp only [List.getElem_toArray, List.getElem_cons_succ, List.getElem_cons_zero] at n0 n1 q1 q2
        have hb7 := heap_setCell_same w6 B 0 _ _ (.slice At6 ((cs ++ [s]).flatten.length) ct6) hb6
        have HB7 := Lib.hid hb7
        clear hg6 hpw hpk hcc6 hrr6 hcc7 hrr7 hb7
        generalize (cs ++ [s]).flatten.length = L6 at *
        go_wp2_with (at_builtin; refine wpList_append_run rfl _ _ 44 9 rfl rfl rfl r6 ?_)
        have hs2 := set2c HRR7.out (.int .u64 (fl.length : Int)) (.int .u32 (s.length : Int))
        have k0 := blkc hs2 0 _ rfl
        have k1 := blkc hs2 1 _ rfl
        simp only [List.getElem_toArray, List.getElem_cons_succ, List.getElem_cons_zero] at k0 k1
        refine bodyPost_ret (v := .agg #[.int .u64 (fl.length : Int), .int .u32 (s.length : Int)]) (by simp [results, Tryz.results107, go_sem, k0, k1]) rfl ?_
        obtain ⟨tv, pv, mv, p1, p2, p3, p4, p5, p6⟩ := HPW.out
        have p0 := HB7.out
        rw [p1] at p0
        injection p0 with p0
        injection p0 with p0
        simp at p0
        have hfin := pool_ret (x := .int .u64 (fl.length : Int)) (y := .int .u32 (s.length : Int)) HRR7.out p1 p2 p3 p4 g5 g6 (by rw [p0.2.1]; exact HNR.out)
        refine ⟨by rw [hfl], hfin.1, HPK.out.trans hfin.2.1, ?_⟩
        rintro R cR fzR ⟨hR1, hR2⟩
        have hRl := (Array.getElem?_eq_some_iff.1 hR1).1
        have hRp := hR2 _ _ _ G1.out
        refine ⟨(hfin.2.2.2 R (by have := HPK.out.size; omega) (by omega)).trans (HEX6.out R cR fzR (HEX.out R cR fzR hR1 hRp)), fun tv3 pv3 mv3 h3 => ?_⟩
        rw [hfin.2.2.1, HB7.out] at h3
        injection h3 with h3
        injection h3 with h3
        simp at h3
        rw [← h3.2.1]
        rcases HDIS.out with hd | hd
        · rw [hd]; exact hRp
        · rw [hd]; intro e; injection e with e; have := HPM.out.keep.size; simp at e; omega
      refine AllReadyH.cons (o := ⟨_, _, _, _, _, _⟩) rfl (fun K hK => ?_) AllReadyH.nil
      · go_simp
        refine hK.out _ _ ?_ (fun hHeld2 => ?_)
        · exact ⟨x2, x3⟩
        clear hK K
        (try simp only [Act.put, tz1, tz2, tz3])
        refine rd1 4 rfl (fun K hK => ?_)
        go_simp
        refine hK.out _ _ ?_ (fun hHeld3 => ?_)
        · exact ⟨x2, x3⟩
        clear hK K
        (try simp only [Act.put, tz1, tz2, tz3])
        refine rd1 7 rfl (fun K hK => ?_)
        obtain ⟨pv2, w4, r3, hdis, hg3, hb3, hpq, hex⟩ := PS.out
        obtain ⟨Aq, cq, rfl, hrq⟩ := Rd.of_own hpq.pls
        clear hrq
        have HNR : Hid ((Value.slice Aq (cs.length + 1) cq).ownBlock ≠ some w.heap.size) := Lib.hid (fun e => by
          rcases hdis with hdis | hdis
          · exact absurd (HPV.out _ (hdis ▸ e)) (Nat.lt_irrefl _)
          · rw [hdis] at e; injection e with e; simp at e; omega)
        have HDIS := Lib.hid hdis
        have HEX := Lib.hid hex
        clear hdis hex
        have hcc4 := (hg3.block (w.heap.size + 1) (Array.getElem?_eq_some_iff.1 HMU.out.cc).1 (fun e => by have := HPV.out _ e.symm; omega)).trans HMU.out.cc
        rw [hfl] at hcc4
        have hrr4 := (hg3.block w.heap.size (Array.getElem?_eq_some_iff.1 HMU.out.rr).1 (fun e => by have := HPV.out _ e.symm; omega)).trans HMU.out.rr
        have hcc5 := ((grown_setO w4 B 1 (.slice Aq (cs.length + 1) cq)).block (w.heap.size + 1) (Array.getElem?_eq_some_iff.1 hcc4).1 (by intro e; injection e with e; omega)).trans hcc4
        have hrr5 := ((grown_setO w4 B 1 (.slice Aq (cs.length + 1) cq)).block w.heap.size (Array.getElem?_eq_some_iff.1 hrr4).1 (by intro e; injection e with e; omega)).trans hrr4
        have HPQ := Lib.hid hpq
        have HCC5 := Lib.hid hcc5
        have HRR5 := Lib.hid hrr5
        have y1 := blkc hb3 1 _ rfl
        have y2 := blkf hb3 1
        have z0 := blkc hcc4 0 _ rfl
        have z1 := blkc hcc4 1 _ rfl
        have z2 := blkc hcc5 0 _ rfl
        have z3 := blkc hcc5 1 _ rfl
        simp only [List.getElem_toArray, List.getElem_cons_succ, List.getElem_cons_zero] at y1 z0 z1 z2 z3
        clear hg3 hpq hcc4 hrr4 hcc5 hrr5
        refine step_append_run rfl _ _ 205 rfl rfl rfl r3 ?_
        refine hK.out _ _ ?_ (fun hHeld4 => ?_)
        · exact ⟨z0, z1⟩
        clear hK K
        (try simp only [Act.put, tz1, tz2, tz3])
        refine tk 8 rfl ?_
        (try simp only [Act.put, tz1, tz2, tz3])
        refine tk 9 rfl ?_
        (try simp only [Act.put, tz1, tz2, tz3])
        refine rd1 10 rfl (fun K hK => ?_)
        go_simp
        refine hK.out _ _ ?_ (fun hHeld5 => ?_)
        · exact ⟨z2, z3⟩
        clear hK K
        (try simp only [Act.put, tz1, tz2, tz3])
        refine wpAnyH_done (by kernel_rfl) ?_ _
        clear x1 x2 x3 y1 y2 z0 z1 hHeld hHeld2 hHeld3 hHeld4 hHeld5 d0 d1 d2 d3 e0 e1 PS hcu r3
        have u0 := blkc HPQ.out.blk 0 _ rfl
        have u1 := blkf HPQ.out.blk 0
        simp only [List.getElem_toArray, List.getElem_cons_zero] at u0
        obtain ⟨tv2, w6, r6, hg6, hb6, hpw, hpk, hex6⟩ := text_step 44 HPQ.out g5 (by have := HPQ.out.keep.size; omega) (by rw [hfl]; exact hl) hs
        obtain ⟨At6, ct6, rfl⟩ : ∃ A c, tv2 = .slice A ((cs ++ [s]).flatten.length) c := by
          obtain ⟨tv, pv, mv, h1, h2, _⟩ := hpw
          obtain ⟨A, c, h3, _⟩ := Rd.of_own h2
          have h4 := heap_setCell_same w6 B 0 _ _ tv2 hb6
          rw [h1] at h4
          injection h4 with h4
          injection h4 with h4
          simp at h4
          exact ⟨A, c, by rw [← h4.1]; exact h3⟩
        have hcc6 := (hg6.block (w.heap.size + 1) (Array.getElem?_eq_some_iff.1 HCC5.out).1 (fun e => by have := HTV.out _ e.symm; omega)).trans HCC5.out
        have hrr6 := (hg6.block w.heap.size (Array.getElem?_eq_some_iff.1 HRR5.out).1 (fun e => by have := HTV.out _ e.symm; omega)).trans HRR5.out
        have HPW := Lib.hid hpw
        have HPK := Lib.hid hpk
        have HEX6 := Lib.hid hex6
        clear hex6
        have t0 := blkc hb6 0 _ rfl
        have t1 := blkf hb6 0
        have m0 := blkc hcc6 0 _ rfl
        have m1 := blkc hcc6 1 _ rfl
        simp only [List.getElem_toArray, List.getElem_cons_succ, List.getElem_cons_zero] at t0 m0 m1
        have hcc7 := ((grown_setO w6 B 0 (.slice At6 ((cs ++ [s]).flatten.length) ct6)).block (w.heap.size + 1) (Array.getElem?_eq_some_iff.1 hcc6).1 (by intro e; injection e with e; omega)).trans hcc6
        have hrr7 := ((grown_setO w6 B 0 (.slice At6 ((cs ++ [s]).flatten.length) ct6)).block w.heap.size (Array.getElem?_eq_some_iff.1 hrr6).1 (by intro e; injection e with e; omega)).trans hrr6
        have HRR7 := Lib.hid hrr7
        have n0 := blkc hcc7 0 _ rfl
        have n1 := blkc hcc7 1 _ rfl
        have q1 := blkc hrr7 0 _ rfl
        have q2 := blkc hrr7 1 _ rfl
        have q3 := blkf hrr7 0
        have q4 := blkf hrr7 1
        simp only [List.getElem_toArray, List.getElem_cons_succ, List.getElem_cons_zero] at n0 n1 q1 q2
        have hb7 := heap_setCell_same w6 B 0 _ _ (.slice At6 ((cs ++ [s]).flatten.length) ct6) hb6
        have HB7 := Lib.hid hb7
        clear hg6 hpw hpk hcc6 hrr6 hcc7 hrr7 hb7
        generalize (cs ++ [s]).flatten.length = L6 at *
        go_wp2_with (at_builtin; refine wpList_append_run rfl _ _ 44 9 rfl rfl rfl r6 ?_)
        have hs2 := set2c HRR7.out (.int .u64 (fl.length : Int)) (.int .u32 (s.length : Int))
        have k0 := blkc hs2 0 _ rfl
        have k1 := blkc hs2 1 _ rfl
        simp only [List.getElem_toArray, List.getElem_cons_succ, List.getElem_cons_zero] at k0 k1
        refine bodyPost_ret (v := .agg #[.int .u64 (fl.length : Int), .int .u32 (s.length : Int)]) (by simp [results, Tryz.results107, go_sem, k0, k1]) rfl ?_
        obtain ⟨tv, pv, mv, p1, p2, p3, p4, p5, p6⟩ := HPW.out
        have p0 := HB7.out
        rw [p1] at p0
        injection p0 with p0
        injection p0 with p0
        simp at p0
        have hfin := pool_ret (x := .int .u64 (fl.length : Int)) (y := .int .u32 (s.length : Int)) HRR7.out p1 p2 p3 p4 g5 g6 (by rw [p0.2.1]; exact HNR.out)
        refine ⟨by rw [hfl], hfin.1, HPK.out.trans hfin.2.1, ?_⟩
        rintro R cR fzR ⟨hR1, hR2⟩
        have hRl := (Array.getElem?_eq_some_iff.1 hR1).1
        have hRp := hR2 _ _ _ G1.out
        refine ⟨(hfin.2.2.2 R (by have := HPK.out.size; omega) (by omega)).trans (HEX6.out R cR fzR (HEX.out R cR fzR hR1 hRp)), fun tv3 pv3 mv3 h3 => ?_⟩
        rw [hfin.2.2.1, HB7.out] at h3
        injection h3 with h3
        injection h3 with h3
        simp at h3
        rw [← h3.2.1]
        rcases HDIS.out with hd | hd
        · rw [hd]; exact hRp
        · rw [hd]; intro e; injection e with e; have := HPM.out.keep.size; simp at e; omega

end Go.Proofs.YtcfmidmokciofaaGreatDoor
