/- Walk: gazetteerlaw18.PressOnce. -/
import Derived.Test.YtgoelpjkfofbbaaGreatDoorG40
import Derived.Test.YtgoelpjkfofbbaaGreatDoorG27
import Derived.Test.YtgoelpjkfofbbaaGreatDoorG42
namespace Go.Proofs.YtgoelpjkfofbbaaGreatDoor
open Go.RowKit Go.Gz Go.Maps Go.Shelf

set_option maxRecDepth 100000
abbrev N2 : Bs := [123, 125]
abbrev HA (h : Hdr) (F K n : Nat) : Array Value := #[.int .u64 (h.r0 : Int), .int .u64 (h.r1 : Int), .int .u64 (h.m0 : Int), .int .u64 (h.m1 : Int), .int .u64 (h.l0 : Int), .int .u64 (h.l1 : Int), .int .u64 (h.d0 : Int), .int .u64 (F : Int), .int .u64 (n : Int), .int .u64 (h.ent : Int), .int .u64 (K : Int), .bool h.clu, .int .u8 (h.inn : Int), .int .u8 (h.out : Int), .int .u8 (h.kind : Int), .int .i64 h.minz, .int .i64 h.maxz, .int .i64 h.minlon, .int .i64 h.minlat, .int .i64 h.maxlon, .int .i64 h.maxlat, .int .i64 h.zoom, .int .i64 h.lon, .int .i64 h.lat]
/-- a chart's archive: what it is pressed to, and cut into -/
theorem arch_of {M : Items} (hg : Gz.Good M) (hl : M.length ≤ 1000) (ht : total M ≤ 400000) : ∃ (T : Bs) (h : Hdr) (a b c d : Bs),
    (∀ A c w, Gl w → Rd w 2 A M.length c (itV M) → Hid (Calls Tryz.prog 16 #[.agg #[.slice A M.length c], .agg #[.int .i64 512, .int .u8 0, .string ⟨N2.toArray⟩]] w fun e w' => e = .returned (.tuple #[.string ⟨T.toArray⟩, .int .i64 0]) ∧ Up w w')) ∧
    (∀ w, Hid (Calls Tryz.prog 17 #[.string ⟨T.toArray⟩] w fun e w' => e = .returned (.tuple #[.agg (HA h (rowsL M).2.flatten.length (rowsL M).2.length M.length), .agg (S4 a b c d), .int .i64 0]) ∧ Up w w')) := by
  obtain ⟨k1, k2, k3⟩ := press_con hg ht 512 0 N2
  refine ⟨(pressV M 512 0 N2).2, pressH M 512 0 N2, dirB (splitV (rowsL M).1 512).2.1, N2, (splitV (rowsL M).1 512).2.2.1, (rowsL M).2.flatten, fun A c w hgl hr => Lib.hid ?_, fun w => Lib.hid ?_⟩
  · exact press_good M hg hl ht A c 512 (by decide) (by decide) 0 (by decide) N2 (by decide) (fun w hg => Lib.hid (check_no ((512 : Nat) : Int) 0 (by decide) (by decide) (by decide) (by decide) (by decide) 0 (by decide +kernel) w hg)) w hgl hr
  · have := acut_any hg hl ht (b := 512) (kind := 0) (note := N2) (by decide) (by decide) (by decide) (by decide) [] (by decide) w
    rw [List.append_nil] at this
    rw [← k1, ← k2, ← k3]
    exact this
theorem cut_blocks (w : World) (b0 : Nat) (hb0 : w.heap.size = b0) (h : Hdr) (F K n : Nat) (a b c d : Bs) : ∃ X1 X2, ((w.alloc (.cells HZ 51)).alloc (.cells E4 52)).setCells b0 0 (HA h F K n).toList = X1 ∧ X1.setCells (b0 + 1) 0 (S4 a b c d).toList = X2 ∧
    ((w.alloc (.cells HZ 51)).alloc (.cells E4 52)).there b0 0 24 ∧ X1.there (b0 + 1) 0 4 ∧ Up w X2 ∧ X2.cell? ⟨b0, 7, none⟩ = some (.int .u64 (F : Int)) ∧ X2.cell? ⟨b0, 8, none⟩ = some (.int .u64 (n : Int)) ∧ X2.cell? ⟨b0, 10, none⟩ = some (.int .u64 (K : Int)) := by
  subst hb0
  have g1 := ((Up.refl _).alloc (.cells E4 52)).obj (heap_alloc_new w (.cells HZ 51))
  have g2 := heap_alloc_new (w.alloc (.cells HZ 51)) (.cells E4 52)
  rw [World.size_alloc] at g2
  have T1 : ((w.alloc (.cells HZ 51)).alloc (.cells E4 52)).there w.heap.size 0 24 := show _ from (th_blk g1 : World.there _ _ _ (HZ).size)
  have T2 : ((w.alloc (.cells HZ 51)).alloc (.cells E4 52)).there (w.heap.size + 1) 0 4 := show _ from (th_blk g2 : World.there _ _ _ (E4).size)
  have hu : Up w ((w.alloc (.cells HZ 51)).alloc (.cells E4 52)) := ((Up.refl w).alloc _).alloc _
  generalize (w.alloc (.cells HZ 51)).alloc (.cells E4 52) = X0 at *
  have r1 := World.rangeAt_setCells_apart (World.rangeAt_setCells_same X0 w.heap.size 0 (HA h F K n).toList T1) (w.heap.size + 1) 0 (S4 a b c d).toList (.inl (by omega))
  exact ⟨_, _, rfl, rfl, T1, World.there_setCells T2 _ _ _, up_setCells _ (up_setCells _ hu (Nat.le_refl _)) (by omega), r1 7 _ rfl, r1 8 _ rfl, r1 10 _ rfl⟩
theorem plan2_of (X : World) : (X.alloc (.cells #[.int .i64 512, .int .u8 0, .string ⟨#[123, 125]⟩] 42)).heap[X.heap.size]? = some (.cells #[.int .i64 512, .int .u8 0, .string ⟨#[123, 125]⟩] 42 (0, 0)) ∧ Up X (X.alloc (.cells #[.int .i64 512, .int .u8 0, .string ⟨#[123, 125]⟩] 42)) :=
  ⟨heap_alloc_new X _, (Up.refl X).alloc _⟩
theorem flat_add {S : List Bs} {t : Bs} : (t ∈ S → (addC S t).flatten.length = S.flatten.length) ∧ (t ∉ S → (addC S t).flatten.length = S.flatten.length + t.length) := by
  unfold addC
  constructor
  · intro h; rw [if_pos h]
  · intro h; rw [if_neg h]; simp
theorem put_pack {y X : World} {bb n' c' : Nat} {A' A : Option Addr} {T : TypeId} {c : Nat} {N : Items} (hcb : X.heap[bb]? = some (.cells #[.slice A' n' c'] T (0, 0))) (hu : Up y X) (hbw : y.heap.size ≤ bb) (hr : Rd X 2 A N.length c (itV N)) (v : Value) :
    (X.setCell ⟨bb, 0, none⟩ v).cell? ⟨bb, 0, none⟩ = some v ∧ Up y (X.setCell ⟨bb, 0, none⟩ v) ∧ Rd (X.setCell ⟨bb, 0, none⟩ v) 2 A N.length c (itV N) :=
  ⟨(blk_one (heap_setCell_same X bb 0 _ _ v hcb)).1, hu.set (p := ⟨bb, 0, none⟩) hbw v, Rd.far hr hcb v⟩
def OnceOK (w : World) (e : Ending) (w' : World) : Prop := e = .returned (.bool true) ∧ Up w w'
/-- the loop that counts the unlike texts -/
def OnRel (W : World) (M : Items) (bm gk : Nat) (sm i : Value) (wr : World) : Prop := ∃ k : Nat, k + gk = M.length ∧ i = .int .i64 k ∧ sm = .int .i64 (((rowsL (M.take k)).2.flatten.length : Nat) : Int) ∧ (rowsL (M.take k)).2.flatten.length ≤ 65536 * k ∧ SeOK wr bm (rowsL (M.take k)).2 k ∧ Up W wr
set_option maxHeartbeats 32000000 in
theorem once18 (l : Items) (hx : ∀ x ∈ l, x.2.length ≤ 9223372036854775807) (tn : Nat) (htn : tn < 256) (id : Nat) (A : Option Addr) (c : Nat) (w : World) (hg : Gl w) (hr : Rd w 2 A l.length c (itV l)) :
    Calls Tryz.prog 4 #[.slice A l.length c, .int .u8 (tn : Int), .int .u64 (id : Int)] w (OnceOK w) := by
  have OV : ∀ w, Rd w 2 A l.length c (itV l) → Hid (Calls Tryz.prog 8 #[.slice A l.length c, .int .i64 80, .int .i64 4000] w (OverEnd (l.length ≤ 80 ∧ sumL l ≤ 4000) w)) := fun w hr => Lib.hid (over12_any l 80 4000 (by decide) hx A c w hr)
  have AW := fun w hg => Lib.hid (awake18 w hg)
  have HG := Lib.hid hg
  have HR := Lib.hid hr
  clear hg hr hx
  go_enter Tryz.func4, Tryz.ntmps4
  go_wp2_with fail
  with_reducible refine (OV _ HR.out).out.mono ?_
  rintro e w1 ⟨b, rfl, hb, rfl⟩
  cases b with
  | true =>
    go_wp2_with fail
    with_reducible refine (AW _ HG.out).out.mono ?_
    rintro e w2 ⟨rfl, hu2⟩
    go_wp2_with fail
    go_ret
    exact ⟨rfl, hu2⟩
  | false =>
    obtain ⟨hl80, hsum⟩ := hb rfl
    clear hb OV
    have OW := fun w hr => Lib.hid (own12_any l (by omega) A c w hr)
    unfold OwnEnd at OW
    have hgood := good_own l (by omega)
    have htot := total_own l
    have hlen := own_len l
    generalize ownL l = M at *
    go_wp2_with fail
    with_reducible refine (OW _ HR.out).out.mono ?_
    rintro e w2 ⟨A1, c1, A1', c1', rfl, hr1, hr1', hu2⟩
    have n1 := new1 w2 30 (.slice A1 M.length c1)
    have HU2 := Lib.hid (hu2.trans n1.1)
    have HR2 := Lib.hid (hr1.up n1.1)
    have k7 := n1.2.1
    clear hr1' hr1 hu2 n1 OW
    obtain ⟨b7, hb7⟩ : ∃ b, w2.heap.size = b := ⟨_, rfl⟩
    have IT := fun w hr => Lib.hid (items_any M (by omega) A1 c1 w hr)
    unfold OwnE at IT
    go_wp2_with fail
    with_reducible refine (IT _ HR2.out).out.mono ?_
    rintro e W ⟨va, rfl, hoa, huW⟩
    obtain ⟨Aa, ca, rfl, hra⟩ := Rd.of_own hoa
    have HUW := Lib.hid (HU2.out.trans huW)
    have HRM := Lib.hid (HR2.out.up huW)
    have HRA := Lib.hid hra
    replace k7 := huW.cell k7
    rw [hb7] at k7
    clear hoa huW hra IT hb7 HU2 HR2
    have hmm := @run_makeMap Tryz.prog
    have hM0 : (W.alloc (.map #[] 0)).heap[W.heap.size]? = some (.map #[] 0) := heap_alloc_new W _
    obtain ⟨bm, hbm⟩ : ∃ b, W.heap.size = b := ⟨_, rfl⟩
    have hbW : bm < (W.alloc (.map #[] 0)).heap.size := by rw [World.size_alloc]; omega
    go_wp2_with fail
    clear hmm
    rw [hbm] at hM0
    go_loopg [11, 12] M.length (fun gk sm i wr => OnRel W M bm gk sm i wr)
    case atStart => exact ⟨0, by omega, rfl, rfl, Nat.zero_le _, ⟨#[], hM0, ⟨rfl, by intro i e he; simp at he⟩, by intro i e he; simp at he⟩, (Up.refl W).alloc _⟩
    case round =>
      obtain ⟨k, hk, rfl, rfl, hF, hc, hu⟩ := hrel
      have HU := Lib.hid hu
      have HC := Lib.hid hc
      clear hM0 hc
      by_cases hlt : k < M.length
      · obtain ⟨m, rfl⟩ : ∃ m, gk = m + 1 := ⟨gk - 1, by omega⟩
        obtain ⟨B, o, rfl, hw1, hw2⟩ := HRA.out.item hlt
        have hS2 := rows2_succ hlt
        have hxs := hgood.sz _ (List.getElem_mem hlt)
        obtain ⟨⟨xid, xt⟩, hx⟩ : ∃ x, M[k]'hlt = x := ⟨_, rfl⟩
        rw [hx] at hw1 hw2 hS2 hxs
        simp only at hw1 hw2 hS2 hxs
        have hc2 := hu.cell hw2
        have hSb : ∀ q ∈ (rowsL (M.take k)).2, q.length ≤ 1000000 := by
          intro q hq
          obtain ⟨x, hx, rfl⟩ := (rows2_mem _ _).1 hq
          have := hgood.sz x (List.mem_of_mem_take hx)
          omega
        have hfa := flat_add (S := (rowsL (M.take k)).2) (t := xt)
        rw [← hS2] at hfa
        generalize (rowsL (M.take k)).2 = S at *
        obtain ⟨n, w3, hn0, hnB, l1, l3, hg3, hc3⟩ := se_step HC.out hSb xt (by omega)
        rw [← hS2] at hc3
        obtain ⟨S2, hS3⟩ : ∃ s, (rowsL (M.take (k + 1))).2 = s := ⟨_, rfl⟩
        rw [hS3] at hfa hc3
        have e1 : IntKind.i64.wrap ((n : Int) + 1) = (n : Int) + 1 := IntWalk.i64_in _ (by omega)
        rw [show (((n + 1 : Nat)) : Int) = (n : Int) + 1 by omega] at l3
        have HS3 := Lib.hid hS3
        have HC3 := Lib.hid hc3
        have hltI : (k : Int) < (M.length : Int) := by omega
        have HU3 := Lib.hid (Up.of (HU.out.below.grown hg3 hu.le (fun j e => by cases e; rw [← hbm]; exact Nat.le_refl _)))
        simp only [lookT, strV] at l1 l3
        obtain ⟨f2, hf2⟩ : ∃ f, S2.flatten.length = f := ⟨_, rfl⟩
        rw [hf2] at hfa
        generalize S.flatten.length = f at *
        clear hw1 hw2 hx hSb hS2 hS3 hc3 hg3 hu
        by_cases hm : xt ∈ S
        · have hb : ((n : Int) == 0) = false := by
            rw [beq_eq_false_iff_ne]
            have : n ≠ 0 := fun h => (hn0.1 h) hm
            omega
          have hf := hfa.1 hm
          clear hfa hn0 hm
          go_wp2_with fail
          go_roundg m
          case measure => omega
          case rel => exact ⟨k + 1, by omega, by go_num, by rw [HS3.out, hf2, hf], by rw [HS3.out]; omega, by rw [HS3.out]; exact HC3.out, HU3.out⟩
        · obtain rfl : n = 0 := hn0.2 hm
          have hf := hfa.2 hm
          rw [show ((0 : Nat) : Int) = 0 from rfl] at l1 l3 e1
          rw [Int.zero_add] at l3 e1
          clear hfa hn0 hm
          go_wp2_with fail
          go_roundg m
          case measure => omega
          case rel => exact ⟨k + 1, by omega, by go_num, by rw [HS3.out, hf2, hf]; exact int_eq (by omega), by rw [HS3.out]; omega, by rw [HS3.out]; exact HC3.out, HU3.out⟩
      · obtain rfl : k = M.length := by omega
        obtain rfl : gk = 0 := by omega
        rw [List.take_length] at hF HC ⊢
        obtain ⟨T, h, p0, p1, p2, p3, PR, CT⟩ := arch_of hgood (by omega) (by omega)
        have hP := fun s (hE : putE M id s = 0) (hm : memL M id = false) (hs : ∃ x ∈ M, x.2 = s) => rows2_put hE hm hs
        have hFk : (rowsL M).2.length ≤ 80 := by
          obtain ⟨_, _, _, i4, _, _, _, _⟩ := rows_inv M hgood (by omega)
          have := seenE_len (rowsL M).1
          have h2 := cont_rows hgood (by omega)
          have h3 := (rows_inv M hgood (by omega)).1
          omega
        have HU1 := Lib.hid (HUW.out.trans HU.out)
        have HR1 := Lib.hid (HRM.out.up HU.out)
        have HA1 := Lib.hid (HRA.out.up HU.out)
        replace k7 := HU.out.cell k7
        generalize (rowsL M).2.flatten.length = F at *
        obtain ⟨S, hSd⟩ : ∃ s, (rowsL M).2 = s := ⟨_, rfl⟩
        rw [hSd] at HC CT hP hFk
        clear hSd HUW HRM HRA HU hk hlt
        obtain ⟨q0, hpu⟩ := plan2_of wr
        have s0 := blkc q0 0 _ rfl
        have s1 := blkc q0 1 _ rfl
        have s2 := blkc q0 2 _ rfl
        replace k7 := hpu.cell k7
        have HU2 := Lib.hid (HU1.out.trans hpu)
        have HR2 := Lib.hid (HR1.out.up hpu)
        have HA2 := Lib.hid (HA1.out.up hpu)
        have HC2 := Lib.hid (se_up HC.out hpu)
        clear q0 hpu HC HU1 HR1 HA1
        go_wp2_with fail
        with_reducible refine (PR _ _ _ (HG.out.up HU2.out) HR2.out).out.mono ?_
        rintro e y1 ⟨rfl, hy1⟩
        replace k7 := hy1.cell k7
        replace s0 := hy1.cell s0
        replace s1 := hy1.cell s1
        replace s2 := hy1.cell s2
        have HU3 := Lib.hid (HU2.out.trans hy1)
        have HR3 := Lib.hid (HR2.out.up hy1)
        have HA3 := Lib.hid (HA2.out.up hy1)
        have HC3 := Lib.hid (se_up HC2.out hy1)
        clear hy1 HU2 HR2 HA2 HC2
        go_wp2_with fail
        with_reducible refine (CT _).out.mono ?_
        rintro e y2 ⟨rfl, hy2⟩
        obtain ⟨b16, hb16⟩ : ∃ b, y2.heap.size = b := ⟨_, rfl⟩
        obtain ⟨Z1, Z2, hZ1, hZ2, th1, th2, huz, x7, x8, x10⟩ := cut_blocks y2 b16 hb16 h F S.length M.length p0 p1 p2 p3
        have hyz := hy2.trans huz
        replace k7 := hyz.cell k7
        replace s0 := hyz.cell s0
        replace s1 := hyz.cell s1
        replace s2 := hyz.cell s2
        have HU4 := Lib.hid (HU3.out.trans hyz)
        have HR4 := Lib.hid (HR3.out.up hyz)
        have HA4 := Lib.hid (HA3.out.up hyz)
        have HC4 := Lib.hid (se_up HC3.out hyz)
        have hlenm : (Builtin.len_ #[46] 3 #[.map (some bm)]).run Tryz.prog Z2 = .ok (.int .i64 ((S.length : Nat) : Int)) Z2 := by
          obtain ⟨es, h1, h2, _⟩ := HC4.out
          rw [show S.length = es.size from (se_size h2).symm]
          simp [Builtin.len_, MapKept.run_getObj_map h1, run_underlying Tryz.underlying46, Result.andThen, goInt]
        have eF : IntKind.u64.wrap (F : Int) = (F : Int) := IntWalk.u64_in _ (by omega)
        have eK : IntKind.u64.wrap (S.length : Int) = (S.length : Int) := IntWalk.u64_in _ (by omega)
        clear hyz hy2 huz HU3 HR3 HA3 HC3 HC4 CT PR
        by_cases h0 : M.length = 0
        · have e0 : ((M.length : Int) == 0) = true := by rw [beq_iff_eq]; omega
          clear h0
          go_wp2_with (first
            | (refine wpList_store_mid rfl 51 _ _ rfl b16 0 (HA h F S.length M.length) rfl rfl th1 (by kernel_rfl) (by simp [Value.oneCell']) ?_; rw [hZ1])
            | (refine wpList_store_mid rfl 52 _ _ rfl (b16 + 1) 0 (S4 p0 p1 p2 p3) rfl rfl th2 (by kernel_rfl) (by simp [Value.oneCell']) ?_; rw [hZ2]))
          with_reducible refine (AW _ (HG.out.up HU4.out)).out.mono ?_
          rintro e y3 ⟨rfl, hy3⟩
          go_wp2_with fail
          go_ret
          exact ⟨rfl, HU4.out.trans hy3⟩
        · have e0 : ((M.length : Int) == 0) = false := by rw [beq_eq_false_iff_ne]; omega
          have GT := fun w hr => Lib.hid (cget12_any M (by omega) id A1 c1 hgood.srt w hr)
          rw [← mem_get] at GT
          obtain ⟨bm2, hm⟩ : ∃ b, memL M id = b := ⟨_, rfl⟩
          rw [hm] at GT
          go_wp2_with (first
            | (refine wpList_store_mid rfl 51 _ _ rfl b16 0 (HA h F S.length M.length) rfl rfl th1 (by kernel_rfl) (by simp [Value.oneCell']) ?_; rw [hZ1])
            | (refine wpList_store_mid rfl 52 _ _ rfl (b16 + 1) 0 (S4 p0 p1 p2 p3) rfl rfl th2 (by kernel_rfl) (by simp [Value.oneCell']) ?_; rw [hZ2]))
          clear hZ1 th1 th2 hb16
          with_reducible refine (GT _ HR4.out).out.mono ?_
          rintro e y3 ⟨rfl, hy3⟩
          replace k7 := hy3.cell k7
          replace s0 := hy3.cell s0
          replace s1 := hy3.cell s1
          replace s2 := hy3.cell s2
          replace x7 := hy3.cell x7
          replace x8 := hy3.cell x8
          replace x10 := hy3.cell x10
          have HU5 := Lib.hid (HU4.out.trans hy3)
          have HR5 := Lib.hid (HR4.out.up hy3)
          have HA5 := Lib.hid (HA4.out.up hy3)
          clear hy3 HU4 HR4 HA4 GT hlenm hZ2
          cases bm2 with
          | true =>
            go_wp2_with fail
            with_reducible refine (AW _ (HG.out.up HU5.out)).out.mono ?_
            rintro e y4 ⟨rfl, hy4⟩
            go_wp2_with fail
            go_ret
            exact ⟨rfl, HU5.out.trans hy4⟩
          | false =>
            obtain ⟨k, hkd⟩ : ∃ k, tn % M.length = k := ⟨_, rfl⟩
            have hkl : k < M.length := by rw [← hkd]; exact Nat.mod_lt _ (by omega)
            obtain ⟨B, o, rfl, _, hw2⟩ := HA5.out.item hkl
            have hmem := List.getElem_mem hkl
            have hxs := hgood.sz _ hmem
            obtain ⟨⟨xid, xt⟩, hx⟩ : ∃ x, M[k]'hkl = x := ⟨_, rfl⟩
            rw [hx] at hw2 hmem hxs
            simp only at hw2 hxs
            have hP2 := fun hE => hP xt hE hm ⟨_, hmem, rfl⟩
            have e3 : (tn : Int).tmod (M.length : Int) = (k : Int) := by rw [IntWalk.rem_in _ _ (by omega), ← hkd]; omega
            have e4 : IntKind.i64.wrap (tn : Int) = (tn : Int) := IntWalk.i64_in _ (by omega)
            have e5 : IntKind.i64.wrap (k : Int) = (k : Int) := IntWalk.i64_in _ (by omega)
            have PC := fun w hr => Lib.hid (cput12_any M (by omega) id xt A1 c1 hgood.srt w hr)
            unfold CPutEnd at PC
            have hg2 := good_put hgood (by omega) id xt
            have hl2 := put_len M id xt
            have ht2 := total_put M id xt
            generalize putL M id xt = N at *
            generalize putE M id xt = E at *
            clear hP hmem hx hkd HA5
            go_wp2_with fail
            refine wp_region_held_drew (S := fun w' => (w'.cell? ⟨b7, 0, none⟩ = some (.slice A1 M.length c1) ∧ w'.cell? ⟨B, o + k * 2 + 1, none⟩ = some (.string ⟨xt.toArray⟩))) (by kernel_rfl) ⟨k7, hw2⟩ (fun hHeld => ?_)
            first
             | refine tk 0 undef rfl (Or.inr ⟨by rfl, rfl⟩) ?_
             | (refine tk 0 ?_ rfl (Or.inl ⟨by rfl, ?_⟩) ?_; rotate_left; focus (intro w hSw; (try dsimp only at hSw); go_simp; first | done | with_reducible rfl))
            (try simp only [Act.put, List.setIfInBounds_toArray, List.set_cons_zero, List.set_cons_succ])
            first
             | refine tk 1 undef rfl (Or.inr ⟨by rfl, rfl⟩) ?_
             | (refine tk 1 ?_ rfl (Or.inl ⟨by rfl, ?_⟩) ?_; rotate_left; focus (intro w hSw; (try dsimp only at hSw); go_simp; first | done | with_reducible rfl))
            (try simp only [Act.put, List.setIfInBounds_toArray, List.set_cons_zero, List.set_cons_succ])
            first
             | refine tk 2 undef rfl (Or.inr ⟨by rfl, rfl⟩) ?_
             | (refine tk 2 ?_ rfl (Or.inl ⟨by rfl, ?_⟩) ?_; rotate_left; focus (intro w hSw; (try dsimp only at hSw); go_simp; first | done | with_reducible rfl))
            (try simp only [Act.put, List.setIfInBounds_toArray, List.set_cons_zero, List.set_cons_succ])
            first
             | refine tk 3 undef rfl (Or.inr ⟨by rfl, rfl⟩) ?_
             | (refine tk 3 ?_ rfl (Or.inl ⟨by rfl, ?_⟩) ?_; rotate_left; focus (intro w hSw; (try dsimp only at hSw); go_simp; first | done | with_reducible rfl))
            (try simp only [Act.put, List.setIfInBounds_toArray, List.set_cons_zero, List.set_cons_succ])
            first
             | refine tk 4 undef rfl (Or.inr ⟨by rfl, rfl⟩) ?_
             | (refine tk 4 ?_ rfl (Or.inl ⟨by rfl, ?_⟩) ?_; rotate_left; focus (intro w hSw; (try dsimp only at hSw); go_simp; first | done | with_reducible rfl))
            (try simp only [Act.put, List.setIfInBounds_toArray, List.set_cons_zero, List.set_cons_succ])
            first
             | refine tk 5 undef rfl (Or.inr ⟨by rfl, rfl⟩) ?_
             | (refine tk 5 ?_ rfl (Or.inl ⟨by rfl, ?_⟩) ?_; rotate_left; focus (intro w hSw; (try dsimp only at hSw); go_simp; first | done | with_reducible rfl))
            (try simp only [Act.put, List.setIfInBounds_toArray, List.set_cons_zero, List.set_cons_succ])
            first
             | refine tk 6 undef rfl (Or.inr ⟨by rfl, rfl⟩) ?_
             | (refine tk 6 ?_ rfl (Or.inl ⟨by rfl, ?_⟩) ?_; rotate_left; focus (intro w hSw; (try dsimp only at hSw); go_simp; first | done | with_reducible rfl))
            (try simp only [Act.put, List.setIfInBounds_toArray, List.set_cons_zero, List.set_cons_succ])
            first
             | refine tk 7 undef rfl (Or.inr ⟨by rfl, rfl⟩) ?_
             | (refine tk 7 ?_ rfl (Or.inl ⟨by rfl, ?_⟩) ?_; rotate_left; focus (intro w hSw; (try dsimp only at hSw); go_simp; first | done | with_reducible rfl))
            (try simp only [Act.put, List.setIfInBounds_toArray, List.set_cons_zero, List.set_cons_succ])
            first
             | refine tk 8 undef rfl (Or.inr ⟨by rfl, rfl⟩) ?_
             | (refine tk 8 ?_ rfl (Or.inl ⟨by rfl, ?_⟩) ?_; rotate_left; focus (intro w hSw; (try dsimp only at hSw); go_simp; first | done | with_reducible rfl))
            (try simp only [Act.put, List.setIfInBounds_toArray, List.set_cons_zero, List.set_cons_succ])
            first
             | refine tk 9 undef rfl (Or.inr ⟨by rfl, rfl⟩) ?_
             | (refine tk 9 ?_ rfl (Or.inl ⟨by rfl, ?_⟩) ?_; rotate_left; focus (intro w hSw; (try dsimp only at hSw); go_simp; first | done | with_reducible rfl))
            (try simp only [Act.put, List.setIfInBounds_toArray, List.set_cons_zero, List.set_cons_succ])
            first
             | refine tk 10 undef rfl (Or.inr ⟨by rfl, rfl⟩) ?_
             | (refine tk 10 ?_ rfl (Or.inl ⟨by rfl, ?_⟩) ?_; rotate_left; focus (intro w hSw; (try dsimp only at hSw); go_simp; first | done | with_reducible rfl))
            (try simp only [Act.put, List.setIfInBounds_toArray, List.set_cons_zero, List.set_cons_succ])
            refine wpAnyH_ready (rs := [11, 15]) (by kernel_rfl) (by simp) ?_
            refine AllReadyH.cons (o := ⟨_, _, _, _, _, _⟩) rfl (fun K hK => ?_) (AllReadyH.cons (o := ⟨_, _, _, _, _, _⟩) rfl (fun K hK => ?_) AllReadyH.nil)
            · clear hHeld
              go_simp
              go_at_call 14
              refine (PC _ (HR5.out.up (Up.refl y3).drew)).out.mono ?_
              rintro e u1 ⟨Ap, cp, rfl, hrp, hu1⟩
              have hub := (Up.refl y3).drew.trans hu1
              have n1 := new1 u1 30 (.slice none 0 0)
              refine hK.out _ _ ⟨hub.cell k7, hub.cell hw2⟩ (fun hHeld => ?_)
              clear hK K
              (try simp only [Act.put, List.setIfInBounds_toArray, List.set_cons_zero, List.set_cons_succ])
              first
               | refine tk 12 undef rfl (Or.inr ⟨by rfl, rfl⟩) ?_
               | (refine tk 12 ?_ rfl (Or.inl ⟨by rfl, ?_⟩) ?_; rotate_left; focus (intro w hSw; (try dsimp only at hSw); go_simp; first | done | with_reducible rfl))
              (try simp only [Act.put, List.setIfInBounds_toArray, List.set_cons_zero, List.set_cons_succ])
              first
               | refine tk 13 undef rfl (Or.inr ⟨by rfl, rfl⟩) ?_
               | (refine tk 13 ?_ rfl (Or.inl ⟨by rfl, ?_⟩) ?_; rotate_left; focus (intro w hSw; (try dsimp only at hSw); go_simp; first | done | with_reducible rfl))
              (try simp only [Act.put, List.setIfInBounds_toArray, List.set_cons_zero, List.set_cons_succ])
              first
               | refine tk 14 undef rfl (Or.inr ⟨by rfl, rfl⟩) ?_
               | (refine tk 14 ?_ rfl (Or.inl ⟨by rfl, ?_⟩) ?_; rotate_left; focus (intro w hSw; (try dsimp only at hSw); go_simp; first | done | with_reducible rfl))
              (try simp only [Act.put, List.setIfInBounds_toArray, List.set_cons_zero, List.set_cons_succ])
              refine wpAnyH_ready (rs := [15]) (by kernel_rfl) (by simp) ?_
              refine AllReadyH.cons (o := ⟨_, _, _, _, _, _⟩) rfl (fun K hK => ?_) AllReadyH.nil
              clear hHeld
              go_simp
              refine hK.out _ _ ⟨n1.1.cell (hub.cell k7), n1.1.cell (hub.cell hw2)⟩ (fun hHeld => ?_)
              clear hK K
              (try simp only [Act.put, List.setIfInBounds_toArray, List.set_cons_zero, List.set_cons_succ])
              have n2 := new1 u1 30 (.slice Ap N.length cp)
              have kd := n2.2.1
              have hud := hub.trans n2.1
              have hrd := hrp.up n2.1
              obtain ⟨bd, hbd⟩ : ∃ b, u1.heap.size = b := ⟨_, rfl⟩
              clear n2
              refine wpAnyH_ready (rs := [16]) (by kernel_rfl) (by simp) ?_
              refine AllReadyH.cons (o := ⟨_, _, _, _, _, _⟩) rfl (fun K hK => ?_) AllReadyH.nil
              clear hHeld
              go_simp
              refine hK.out _ _ ⟨hud.cell k7, hud.cell hw2⟩ (fun hHeld => ?_)
              clear hK K
              (try simp only [Act.put, List.setIfInBounds_toArray, List.set_cons_zero, List.set_cons_succ])
              obtain ⟨Y, hY⟩ : ∃ x, u1.alloc (.cells #[.slice Ap N.length cp] 30) = x := ⟨_, rfl⟩
              rw [hY] at kd hud hrd hHeld ⊢
              rw [hbd] at kd
              clear hY n1 hub hu1 hrp hbd
              first
               | refine tk 17 undef rfl (Or.inr ⟨by rfl, rfl⟩) ?_
               | (refine tk 17 ?_ rfl (Or.inl ⟨by rfl, ?_⟩) ?_; rotate_left; focus (intro w hSw; (try dsimp only at hSw); go_simp; first | done | with_reducible rfl))
              (try simp only [Act.put, List.setIfInBounds_toArray, List.set_cons_zero, List.set_cons_succ])
              refine wpAnyH_done (by kernel_rfl) ?_ _
              clear hHeld
              by_cases hE : E = 0
              · subst hE
                obtain ⟨hK2, hF2, hN2⟩ := hP2 rfl
                obtain ⟨T2, h2, q0, q1, q2, q3, PR2, CT2⟩ := arch_of hg2 (by omega) (by omega)
                rw [hK2, hF2, hN2] at CT2
                clear hN2 hK2 hF2
                replace k7 := hud.cell k7
                replace s0 := hud.cell s0
                replace s1 := hud.cell s1
                replace s2 := hud.cell s2
                replace x7 := hud.cell x7
                replace x8 := hud.cell x8
                replace x10 := hud.cell x10
                have HUY := Lib.hid (HU5.out.trans hud)
                have HRY := Lib.hid hrd
                clear hud hrd HU5 HR5 hP2
                go_wp2_with fail
                with_reducible refine (PR2 _ _ _ (HG.out.up HUY.out) HRY.out).out.mono ?_
                rintro e v1 ⟨rfl, hv1⟩
                replace x7 := hv1.cell x7
                replace x8 := hv1.cell x8
                replace x10 := hv1.cell x10
                have HUV := Lib.hid (HUY.out.trans hv1)
                clear k7 s0 s1 s2 kd HRY HUY hv1
                go_wp2_with fail
                with_reducible refine (CT2 _).out.mono ?_
                rintro e v2 ⟨rfl, hv2⟩
                obtain ⟨b25, hb25⟩ : ∃ b, v2.heap.size = b := ⟨_, rfl⟩
                obtain ⟨Z1, Z3, hZ1, hZ3, th1, th2, huz, w7, w8, w10⟩ := cut_blocks v2 b25 hb25 h2 F S.length (M.length + 1) q0 q1 q2 q3
                have hyz := hv2.trans huz
                replace x7 := hyz.cell x7
                replace x8 := hyz.cell x8
                replace x10 := hyz.cell x10
                have HUZ := Lib.hid (HUV.out.trans hyz)
                have eN : IntKind.u64.wrap ((M.length : Int) + 1) = ((M.length + 1 : Nat) : Int) := by rw [IntWalk.u64_in _ (by omega)]; omega
                clear hyz hv2 huz HUV CT2 PR2
                go_wp2_with (first
                                  | (refine wpList_store_mid rfl 51 _ _ rfl b25 0 (HA h2 F S.length (M.length + 1)) rfl rfl th1 (by kernel_rfl) (by simp [Value.oneCell']) ?_; rw [hZ1])
                                  | (refine wpList_store_mid rfl 52 _ _ rfl (b25 + 1) 0 (S4 q0 q1 q2 q3) rfl rfl th2 (by kernel_rfl) (by simp [Value.oneCell']) ?_; rw [hZ3]))
                clear hZ1 th1 th2 hb25
                with_reducible refine (AW _ (HG.out.up HUZ.out)).out.mono ?_
                rintro e v3 ⟨rfl, hv3⟩
                go_wp2_with fail
                go_ret
                first
                  | exact ⟨rfl, HUZ.out.trans hv3⟩
                  | (refine ⟨ret_bool ?_, HUZ.out.trans hv3⟩; simp)
              · have hEb : (E == 0) = false := by rw [beq_eq_false_iff_ne]; exact hE
                have HUY := Lib.hid (HU5.out.trans hud)
                clear hud hrd HU5 HR5 hP2 hE kd
                go_wp2_with fail
                with_reducible refine (AW _ (HG.out.up HUY.out)).out.mono ?_
                rintro e v3 ⟨rfl, hv3⟩
                go_wp2_with fail
                go_ret
                exact ⟨rfl, HUY.out.trans hv3⟩
            · have n1 := new1 y3.drew 30 (.slice none 0 0)
              obtain ⟨bd, hbd⟩ : ∃ b, y3.heap.size = b := ⟨_, rfl⟩
              have hub := (Up.refl y3).drew.trans n1.1
              clear hHeld
              go_simp
              refine hK.out _ _ ⟨hub.cell k7, hub.cell hw2⟩ (fun hHeld => ?_)
              clear hK K
              (try simp only [Act.put, List.setIfInBounds_toArray, List.set_cons_zero, List.set_cons_succ])
              refine wpAnyH_ready (rs := [11]) (by kernel_rfl) (by simp) ?_
              refine AllReadyH.cons (o := ⟨_, _, _, _, _, _⟩) rfl (fun K hK => ?_) AllReadyH.nil
              clear hHeld
              go_simp
              go_at_call 14
              refine (PC _ (HR5.out.up hub)).out.mono ?_
              rintro e u1 ⟨Ap, cp, rfl, hrp, hu1⟩
              have hub2 := hub.trans hu1
              refine hK.out _ _ ⟨hub2.cell k7, hub2.cell hw2⟩ (fun hHeld => ?_)
              clear hK K
              (try simp only [Act.put, List.setIfInBounds_toArray, List.set_cons_zero, List.set_cons_succ])
              first
               | refine tk 12 undef rfl (Or.inr ⟨by rfl, rfl⟩) ?_
               | (refine tk 12 ?_ rfl (Or.inl ⟨by rfl, ?_⟩) ?_; rotate_left; focus (intro w hSw; (try dsimp only at hSw); go_simp; first | done | with_reducible rfl))
              (try simp only [Act.put, List.setIfInBounds_toArray, List.set_cons_zero, List.set_cons_succ])
              first
               | refine tk 13 undef rfl (Or.inr ⟨by rfl, rfl⟩) ?_
               | (refine tk 13 ?_ rfl (Or.inl ⟨by rfl, ?_⟩) ?_; rotate_left; focus (intro w hSw; (try dsimp only at hSw); go_simp; first | done | with_reducible rfl))
              (try simp only [Act.put, List.setIfInBounds_toArray, List.set_cons_zero, List.set_cons_succ])
              first
               | refine tk 14 undef rfl (Or.inr ⟨by rfl, rfl⟩) ?_
               | (refine tk 14 ?_ rfl (Or.inl ⟨by rfl, ?_⟩) ?_; rotate_left; focus (intro w hSw; (try dsimp only at hSw); go_simp; first | done | with_reducible rfl))
              (try simp only [Act.put, List.setIfInBounds_toArray, List.set_cons_zero, List.set_cons_succ])
              have row : u1.heap[bd]? = some (.cells #[.slice none 0 0] 30 (0, 0)) := by rw [← hbd]; exact hu1.obj n1.2.2
              obtain ⟨kd, hud, hrd⟩ := put_pack row hub2 (by rw [hbd]; exact Nat.le_refl _) hrp (.slice Ap N.length cp)
              obtain ⟨z0, z1⟩ := blk_one row
              refine wpAnyH_ready (rs := [16]) (by kernel_rfl) (by simp) ?_
              refine AllReadyH.cons (o := ⟨_, _, _, _, _, _⟩) rfl (fun K hK => ?_) AllReadyH.nil
              clear hHeld
              go_simp
              refine hK.out _ _ ⟨hud.cell k7, hud.cell hw2⟩ (fun hHeld => ?_)
              clear hK K
              (try simp only [Act.put, List.setIfInBounds_toArray, List.set_cons_zero, List.set_cons_succ])
              obtain ⟨Y, hY⟩ : ∃ x, u1.setCell ⟨bd, 0, none⟩ (.slice Ap N.length cp) = x := ⟨_, rfl⟩
              rw [hY] at kd hud hrd hHeld ⊢
              clear hY n1 hub hub2 hu1 hrp row z0 z1 hbd
              first
               | refine tk 17 undef rfl (Or.inr ⟨by rfl, rfl⟩) ?_
               | (refine tk 17 ?_ rfl (Or.inl ⟨by rfl, ?_⟩) ?_; rotate_left; focus (intro w hSw; (try dsimp only at hSw); go_simp; first | done | with_reducible rfl))
              (try simp only [Act.put, List.setIfInBounds_toArray, List.set_cons_zero, List.set_cons_succ])
              refine wpAnyH_done (by kernel_rfl) ?_ _
              clear hHeld
              by_cases hE : E = 0
              · subst hE
                obtain ⟨hK2, hF2, hN2⟩ := hP2 rfl
                obtain ⟨T2, h2, q0, q1, q2, q3, PR2, CT2⟩ := arch_of hg2 (by omega) (by omega)
                rw [hK2, hF2, hN2] at CT2
                clear hN2 hK2 hF2
                replace k7 := hud.cell k7
                replace s0 := hud.cell s0
                replace s1 := hud.cell s1
                replace s2 := hud.cell s2
                replace x7 := hud.cell x7
                replace x8 := hud.cell x8
                replace x10 := hud.cell x10
                have HUY := Lib.hid (HU5.out.trans hud)
                have HRY := Lib.hid hrd
                clear hud hrd HU5 HR5 hP2
                go_wp2_with fail
                with_reducible refine (PR2 _ _ _ (HG.out.up HUY.out) HRY.out).out.mono ?_
                rintro e v1 ⟨rfl, hv1⟩
                replace x7 := hv1.cell x7
                replace x8 := hv1.cell x8
                replace x10 := hv1.cell x10
                have HUV := Lib.hid (HUY.out.trans hv1)
                clear k7 s0 s1 s2 kd HRY HUY hv1
                go_wp2_with fail
                with_reducible refine (CT2 _).out.mono ?_
                rintro e v2 ⟨rfl, hv2⟩
                obtain ⟨b25, hb25⟩ : ∃ b, v2.heap.size = b := ⟨_, rfl⟩
                obtain ⟨Z1, Z3, hZ1, hZ3, th1, th2, huz, w7, w8, w10⟩ := cut_blocks v2 b25 hb25 h2 F S.length (M.length + 1) q0 q1 q2 q3
                have hyz := hv2.trans huz
                replace x7 := hyz.cell x7
                replace x8 := hyz.cell x8
                replace x10 := hyz.cell x10
                have HUZ := Lib.hid (HUV.out.trans hyz)
                have eN : IntKind.u64.wrap ((M.length : Int) + 1) = ((M.length + 1 : Nat) : Int) := by rw [IntWalk.u64_in _ (by omega)]; omega
                clear hyz hv2 huz HUV CT2 PR2
                go_wp2_with (first
                                  | (refine wpList_store_mid rfl 51 _ _ rfl b25 0 (HA h2 F S.length (M.length + 1)) rfl rfl th1 (by kernel_rfl) (by simp [Value.oneCell']) ?_; rw [hZ1])
                                  | (refine wpList_store_mid rfl 52 _ _ rfl (b25 + 1) 0 (S4 q0 q1 q2 q3) rfl rfl th2 (by kernel_rfl) (by simp [Value.oneCell']) ?_; rw [hZ3]))
                clear hZ1 th1 th2 hb25
                with_reducible refine (AW _ (HG.out.up HUZ.out)).out.mono ?_
                rintro e v3 ⟨rfl, hv3⟩
                go_wp2_with fail
                go_ret
                first
                  | exact ⟨rfl, HUZ.out.trans hv3⟩
                  | (refine ⟨ret_bool ?_, HUZ.out.trans hv3⟩; simp)
              · have hEb : (E == 0) = false := by rw [beq_eq_false_iff_ne]; exact hE
                have HUY := Lib.hid (HU5.out.trans hud)
                clear hud hrd HU5 HR5 hP2 hE kd
                go_wp2_with fail
                with_reducible refine (AW _ (HG.out.up HUY.out)).out.mono ?_
                rintro e v3 ⟨rfl, hv3⟩
                go_wp2_with fail
                go_ret
                exact ⟨rfl, HUY.out.trans hv3⟩
end Go.Proofs.YtgoelpjkfofbbaaGreatDoor
