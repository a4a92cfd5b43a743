/- Walk: gazetteerlaw20.awake. -/
import Derived.Test.YtgoelpjkfofbbaaGreatDoorG39
import Derived.Test.YtgoelpjkfofbbaaGreatDoorG23
import Derived.Test.YtgoelpjkfofbbaaGreatDoorG12
import Derived.Test.YtgoelpjkfofbbaaGreatDoorG42
import Derived.Test.YtgoelpjkfofbbaaGreatDoorG41
namespace Go.Proofs.YtgoelpjkfofbbaaGreatDoor
open Go.RowKit Go.Gz Go.Shelf

set_option maxRecDepth 100000
def L2 : Items := [(3, [120]), (4, [120])]
theorem good2 : Gz.Good L2 := ⟨by
  intro i j hi hj h
  have hi : i < 2 := hi
  have hj : j < 2 := hj
  obtain rfl : i = 0 := by omega
  obtain rfl : j = 1 := by omega
  show (3 : Nat) < 4
  decide, by decide, by decide, by decide, by decide⟩
theorem srt2 : Srt L2 := good2.srt
theorem fit2 : Fit L2 := good_fit good2
def T2 : Bs := (pressV L2 512 0 [123, 125]).2
def Of2 (w : World) (e : Ending) (w' : World) : Prop := ∃ A c, e = .returned (.tuple #[.agg #[.slice A 2 c], .int .i64 0]) ∧ Rd w' 2 A 2 c (itV L2) ∧ Up w w'
theorem of2_any (b : Nat) (w : World) (h : w.heap[b]? = some (.cells #[.int .u64 3, .string ⟨#[120]⟩, .int .u64 4, .string ⟨#[120]⟩] 47 (0, 0))) :
    Calls Tryz.prog 12 #[.slice (some ⟨b, 0, none⟩) 2 2] w (Of2 w) := by
  refine (of_any L2 fit2 (by decide) (some ⟨b, 0, none⟩) 2 w ?_).mono ?_
  · exact ⟨rfl, by decide, by unfold maxLen; omega, fun h => by (cases h), fun _ => ⟨b, 0, rfl, fun j u hj => by
      rw [cell_of_row w b (0 + j) _ _ (0, 0) h, Nat.zero_add]
      simpa [itV, L2] using hj⟩⟩
  · rintro e w' ⟨M, hp, hs, A, c, he, hr, hu⟩
    obtain rfl := srt_perm srt2 hs hp
    exact ⟨A, c, he, hr, hu⟩
theorem rows2_len : (rowsL L2).1.length = 1 := by decide +kernel
theorem rows2_dat : (rowsL L2).2.flatten = [120] := by decide +kernel
theorem nrows_nil (w : World) : Calls Tryz.prog 55 #[.string ⟨#[]⟩] w (NRowsE w (3, [], [])) :=
  nrows_any [] 3 HZ rfl (by simp [Value.oneCell']) [] [] [] [] (by decide) (fun w => Lib.hid (lcut_bad [] 3 (by decide) (fun w => Lib.hid (hdec_short [] (by decide) w)) w)) (fun h => absurd h (by decide)) w
set_option maxHeartbeats 16000000 in
theorem awake20 (w : World) (hg : Gl w) :
    Calls Tryz.prog 26 #[] w fun e w' => e = .returned (.bool true) ∧ Up w w' := by
  have OF := fun b w h => Lib.hid (of2_any b w h)
  have PG : ∀ A c w, Gl w → Rd w 2 A 2 c (itV L2) → Hid (Calls Tryz.prog 16 #[.agg #[.slice A 2 c], .agg #[.int .i64 512, .int .u8 0, .string ⟨#[123, 125]⟩]] w (PressE w T2 0)) := fun A c w hg hr => Lib.hid (press_good L2 good2 (by decide) (by decide) A c 512 (by decide) (by decide) 0 (by decide) [123, 125] (by decide) (fun w hg => Lib.hid (check_no 512 0 (by decide) (by decide) (by decide) (by decide) (by decide) 0 (by decide +kernel) w hg)) w hg hr)
  obtain ⟨L, dt, hL, hdt, RW, RD, TL⟩ := arch_naive good2 (by decide) (by decide) (b := 512) (kind := 0) (by decide) (by decide) (by decide) (note := [123, 125]) (by decide) [] (by decide)
  rw [List.append_nil] at RW RD TL
  have hLl : L.length = 1 := by rw [hL]; exact rows2_len
  have hdd : dt = [120] := by rw [hdt]; exact rows2_dat
  subst hdd
  have T4 := fun w => TL 4 w
  have T5 := fun w => TL 5 w
  rw [show getL L2 4 = some [120] from by decide] at T4
  rw [show getL L2 5 = none from by decide] at T5
  have RN := fun w => Lib.hid (nrows_nil w)
  have SM := fun A1 c1 A2 c2 w h1 h2 => Lib.hid (same_any L2 (by decide) A1 c1 A2 c2 w h1 h2)
  simp only [show L2.length = 2 from rfl] at SM
  change ∀ w, Hid (Calls Tryz.prog 55 #[.string ⟨T2.toArray⟩] w (NRowsE w (0, L, [120]))) at RW
  change ∀ w, Hid (Calls Tryz.prog 27 #[.string ⟨T2.toArray⟩] w (ChartE w (0, L2))) at RD
  change ∀ w, Hid (Calls Tryz.prog 28 #[.string ⟨T2.toArray⟩, .int .u64 4] w (NTileE w (0, true, [120]))) at T4
  change ∀ w, Hid (Calls Tryz.prog 28 #[.string ⟨T2.toArray⟩, .int .u64 5] w (NTileE w (0, false, []))) at T5
  unfold PressE at PG
  unfold NRowsE at RW RN
  unfold ChartE at RD
  unfold NTileE at T4 T5
  simp only at RW RN RD T4 T5
  clear hL hdt TL
  generalize T2 = T at *
  have n0 := heap_alloc_new w (.cells #[.int .u64 3, .string ⟨#[120]⟩, .int .u64 4, .string ⟨#[120]⟩] 47)
  have HU0 := Lib.hid ((Up.refl w).alloc (.cells #[.int .u64 3, .string ⟨#[120]⟩, .int .u64 4, .string ⟨#[120]⟩] 47))
  have HG := Lib.hid hg
  clear hg
  go_enter Tryz.func26, Tryz.ntmps26
  go_wp2_with fail
  refine (OF _ _ n0).out.mono ?_
  rintro e w1 ⟨A, c, rfl, hr1, hu1⟩
  have n1 := new1 w1 30 (.slice A 2 c)
  have HU1 := Lib.hid (HU0.out.trans (hu1.trans n1.1))
  have HR1 := Lib.hid (hr1.up n1.1)
  have hc1 := n1.2.1
  clear hr1 hu1 n0 n1 OF
  go_wp2_with fail
  with_reducible refine (PG A c _ (HG.out.up HU1.out) HR1.out).out.mono ?_
  rintro e w2 ⟨rfl, hu2⟩
  have HU2 := Lib.hid (HU1.out.trans hu2)
  have HR2 := Lib.hid (HR1.out.up hu2)
  have hc2 := hu2.cell hc1
  clear hu2 hc1 PG
  go_wp2_with fail
  with_reducible refine (RD _).out.mono ?_
  rintro e w3 ⟨v3, rfl, hu3, hv3, _⟩
  obtain ⟨A3, c3, rfl, r3⟩ := hv3 trivial
  have n3 := new1 w3 30 (.slice A3 2 c3)
  have hu3' := hu3.trans n3.1
  have HU3 := Lib.hid (HU2.out.trans hu3')
  have HR3 := Lib.hid (HR2.out.up hu3')
  have HS3 := Lib.hid (r3.up n3.1)
  have hc3 := hu3'.cell hc2
  have hd3 := n3.2.1
  clear hu3 hu3' hc2 r3 n3 hv3 RD
  go_wp2_with fail
  with_reducible refine (T4 _).out.mono ?_
  rintro e w4 ⟨rfl, hu4⟩
  have HU4 := Lib.hid (HU3.out.trans hu4)
  have HR4 := Lib.hid (HR3.out.up hu4)
  have HS4 := Lib.hid (HS3.out.up hu4)
  have hc4 := hu4.cell hc3
  have hd4 := hu4.cell hd3
  clear hu4 hc3 hd3 T4
  go_wp2_with fail
  with_reducible refine (T5 _).out.mono ?_
  rintro e w5 ⟨rfl, hu5⟩
  have HU5 := Lib.hid (HU4.out.trans hu5)
  have HR5 := Lib.hid (HR4.out.up hu5)
  have HS5 := Lib.hid (HS4.out.up hu5)
  have hc5 := hu5.cell hc4
  have hd5 := hu5.cell hd4
  clear hu5 hc4 hd4 T5
  go_wp2_with fail
  with_reducible refine (RN _).out.mono ?_
  rintro e w6 ⟨v6, t6, rfl, hu6, _, hv6⟩
  obtain ⟨rfl, rfl⟩ := hv6 (by decide)
  have HU6 := Lib.hid (HU5.out.trans hu6)
  have HR6 := Lib.hid (HR5.out.up hu6)
  have HS6 := Lib.hid (HS5.out.up hu6)
  have hc6 := hu6.cell hc5
  have hd6 := hu6.cell hd5
  clear hu6 hc5 hd5 RN hv6
  go_wp2_with fail
  with_reducible refine (RW _).out.mono ?_
  rintro e w7 ⟨v7, t7, rfl, hu7, hv7, _⟩
  obtain ⟨rfl, A7, c7, rfl, _⟩ := hv7 trivial
  have HU7 := Lib.hid (HU6.out.trans hu7)
  have HR7 := Lib.hid (HR6.out.up hu7)
  have HS7 := Lib.hid (HS6.out.up hu7)
  have hc7 := hu7.cell hc6
  have hd7 := hu7.cell hd6
  rw [hLl]
  clear hu7 hc6 hd6 RW hv7
  go_wp2_with fail
  with_reducible refine (SM _ _ _ _ _ HR7.out HS7.out).out.mono ?_
  rintro e w8 ⟨rfl, hu8⟩
  have HU8 := Lib.hid (HU7.out.trans hu8)
  clear hu8
  go_wp2_with fail
  go_ret
  exact ⟨rfl, HU8.out⟩
end Go.Proofs.YtgoelpjkfofbbaaGreatDoor
/- Walk: gazetteerlaw20.NaiveBack. -/
namespace Go.Proofs.YtgoelpjkfofbbaaGreatDoor
open Go.RowKit Go.Gz Go.Maps Go.Shelf

set_option maxRecDepth 100000
def NBackOK (w : World) (e : Ending) (w' : World) : Prop := e = .returned (.bool true) ∧ Up w w'
def NbR (w : World) (l : Items) (gk : Nat) (i : Value) (wr : World) : Prop := ∃ k : Nat, k + gk = l.length ∧ i = .int .i64 (k : Int) ∧ Up w wr
set_option maxHeartbeats 64000000 in
theorem nback20 (l : Items) (hx : ∀ x ∈ l, x.2.length ≤ 9223372036854775807) (b : Int) (kind : Nat) (note beh : Bs) (A : Option Addr) (c : Nat) (w : World) (hg : Gl w) (hr : Rd w 2 A l.length c (itV l)) :
    Calls Tryz.prog 7 #[.slice A l.length c, .agg #[.int .i64 b, .int .u8 (kind : Int), .string ⟨note.toArray⟩], .string ⟨beh.toArray⟩] w (NBackOK w) := by
  have OV : ∀ w, Rd w 2 A l.length c (itV l) → Hid (Calls Tryz.prog 8 #[.slice A l.length c, .int .i64 80, .int .i64 4000] w (OverEnd (l.length ≤ 80 ∧ sumL l ≤ 4000) w)) := fun w hr => Lib.hid (over12_any l 80 4000 (by decide) hx A c w hr)
  have AW := fun w hg => Lib.hid (awake20 w hg)
  have q := heap_alloc_new w (.cells #[.int .i64 b, .int .u8 (kind : Int), .string ⟨note.toArray⟩] 56)
  have HU0 := Lib.hid ((Up.refl w).alloc (.cells #[.int .i64 b, .int .u8 (kind : Int), .string ⟨note.toArray⟩] 56))
  have s0 := blkc q 0 (.int .i64 b) rfl
  have s1 := blkc q 1 (.int .u8 (kind : Int)) rfl
  have s2 := blkc q 2 (.string ⟨note.toArray⟩) rfl
  have HG := Lib.hid hg
  have HR := Lib.hid hr
  clear q hg hr hx
  go_enter Tryz.func7, Tryz.ntmps7
  go_wp2_with fail
  with_reducible refine (OV _ (HR.out.up HU0.out)).out.mono ?_
  rintro e w1 ⟨b1, rfl, hb, rfl⟩
  cases b1 with
  | true =>
    go_wp2_with fail
    with_reducible refine (AW _ (HG.out.up HU0.out)).out.mono ?_
    rintro e w2 ⟨rfl, hu2⟩
    go_wp2_with fail
    go_ret
    exact ⟨rfl, HU0.out.trans hu2⟩
  | false =>
    obtain ⟨hl80, hsum⟩ := hb rfl
    clear hb OV
    by_cases hn : 1000 < note.length
    · have hnI : (1000 : Int) < (note.length : Int) := by omega
      go_wp2_with fail
      with_reducible refine (AW _ (HG.out.up HU0.out)).out.mono ?_
      rintro e w2 ⟨rfl, hu2⟩
      go_wp2_with fail
      go_ret
      exact ⟨rfl, HU0.out.trans hu2⟩
    have hnI : ¬ (1000 : Int) < (note.length : Int) := by omega
    by_cases hbh : 100 < beh.length
    · have hbI : (100 : Int) < (beh.length : Int) := by omega
      go_wp2_with fail
      with_reducible refine (AW _ (HG.out.up HU0.out)).out.mono ?_
      rintro e w2 ⟨rfl, hu2⟩
      go_wp2_with fail
      go_ret
      exact ⟨rfl, HU0.out.trans hu2⟩
    have hbI : ¬ (100 : Int) < (beh.length : Int) := by omega
    have OW := fun w hr => Lib.hid (own12_any l (by omega) A c w hr)
    unfold OwnEnd at OW
    have hgood := good_own l (by omega)
    have htot := total_own l
    have hlen := own_len l
    generalize ownL l = M at *
    go_wp2_with fail
    with_reducible refine (OW _ (HR.out.up HU0.out)).out.mono ?_
    rintro e w2 ⟨A1, c1, A1', c1', rfl, hr1, hr1', hu2⟩
    have n1 := new1 w2 30 (.slice A1 M.length c1)
    have hu3 := hu2.trans n1.1
    have HU2 := Lib.hid (HU0.out.trans hu3)
    have HR2 := Lib.hid (hr1.up n1.1)
    have g7 := n1.2.1
    replace s0 := hu3.cell s0
    replace s1 := hu3.cell s1
    replace s2 := hu3.cell s2
    clear hr1' hr1 hu2 hu3 n1 OW HU0 hnI hbI
    obtain ⟨b7, hb7⟩ : ∃ b, w2.heap.size = b := ⟨_, rfl⟩
    rw [hb7] at g7
    have CK := fun w hg => Lib.hid (pcheck_all b kind note (by omega) w hg)
    obtain ⟨E, hE⟩ : ∃ E, planN b kind note = E := ⟨_, rfl⟩
    rw [hE] at CK
    by_cases hE0 : E = 0
    · subst hE0
      have hpl : 512 ≤ b ∧ b ≤ 16257 ∧ kind ≤ 5 := by
        unfold planN at hE
        split at hE
        · simp at hE
        · split at hE
          · simp at hE
          · omega
      obtain ⟨b, rfl⟩ : ∃ n : Nat, b = (n : Int) := ⟨b.toNat, by omega⟩
      have PR := fun w hg hr => Lib.hid (press_good M hgood (by omega) (by omega) A1 c1 b (by omega) (by omega) kind hpl.2.2 note (by omega) CK w hg hr)
      unfold PressE at PR
      obtain ⟨_, _, _, _, _, RD, TL⟩ := arch_naive hgood (by omega) (by omega) (b := b) (kind := kind) (by omega) (by omega) hpl.2.2 (note := note) (by omega) beh (by omega)
      have hTl : (pressV M b kind note).2.length ≤ 900000000 := by
        obtain ⟨_, _, _, _, _, _, _, hT, _, _, _, _, _, _, _, _, h, _⟩ := arch_whole (b := b) (kind := kind) (note := note) hgood (by omega) (by omega) (by omega) (by omega) hpl.2.2 (by omega)
        rw [← hT]; exact h
      generalize (pressV M b kind note).2 = T at *
      have hcat : ¬ (9223372036854775807 < T.length + beh.length) := by omega
      rw [← ba_app] at RD
      replace TL : ∀ (id : Nat) w, Hid (Calls Tryz.prog 28 #[.string ((⟨T.toArray⟩ : ByteArray) ++ ⟨beh.toArray⟩), .int .u64 (id : Int)] w (NTileE w (0, (getL M id).isSome, (getL M id).getD []))) := fun id w => by
        rw [ba_app]; exact TL id w
      unfold ChartE at RD
      unfold NTileE at TL
      simp only at RD TL
      have SM := fun A2 c2 w h1 h2 => Lib.hid (same_any M (by omega) A1 c1 A2 c2 w h1 h2)
      have GA := fun id w hr => Lib.hid (cget12_any M (by omega) id A1 c1 hgood.srt w hr)
      clear hE hpl hsum htot hlen
      go_wp2_with fail
      with_reducible refine (PR _ (HG.out.up HU2.out) HR2.out).out.mono ?_
      rintro e y1 ⟨rfl, hy1⟩
      replace g7 := hy1.cell g7
      have HU3 := Lib.hid (HU2.out.trans hy1)
      have HR3 := Lib.hid (HR2.out.up hy1)
      clear hy1 HU2 HR2 PR CK s0 s1 s2
      go_wp2_with fail
      with_reducible refine (RD _).out.mono ?_
      rintro e y2 ⟨v2, rfl, hy2, hv2, _⟩
      obtain ⟨A2, c2, rfl, r2⟩ := hv2 trivial
      have n2 := new1 y2 30 (.slice A2 M.length c2)
      have hyn := hy2.trans n2.1
      have k11 := n2.2.1
      have R2 := Lib.hid (r2.up n2.1)
      replace g7 := hyn.cell g7
      have HU4 := Lib.hid (HU3.out.trans hyn)
      have HR4 := Lib.hid (HR3.out.up hyn)
      clear hv2 r2 n2 hy2 hyn HU3 HR3 RD
      go_wp2_with fail
      with_reducible refine (SM _ _ _ HR4.out R2.out).out.mono ?_
      rintro e y3 ⟨rfl, hy3⟩
      replace g7 := hy3.cell g7
      have HU5 := Lib.hid (HU4.out.trans hy3)
      have HR5 := Lib.hid (HR4.out.up hy3)
      clear hy3 HU4 HR4 SM R2 k11
      go_wp2_with fail
      go_loopg [13] l.length (fun gk i wr => NbR y3 l gk i wr)
      case atStart => exact ⟨0, by omega, rfl, Up.refl _⟩
      case round =>
        obtain ⟨k, hk, rfl, hu⟩ := hrel
        have HUk := Lib.hid (HU5.out.trans hu)
        have HRk := Lib.hid (HR5.out.up hu)
        have hLk := HR.out.up HUk.out
        have HUy := Lib.hid hu
        replace g7 := hu.cell g7
        clear hu
        by_cases hlt : k < l.length
        · have hltI : (k : Int) < (l.length : Int) := by omega
          by_cases h6 : k < 6
          · have h6I : (k : Int) < 6 := by omega
            obtain ⟨m, rfl⟩ : ∃ m, gk = m + 1 := ⟨gk - 1, by omega⟩
            obtain ⟨B, o, rfl, hw1, _⟩ := hLk.item hlt
            obtain ⟨xid, hxid⟩ : ∃ x, (l[k]'hlt).1 = x := ⟨_, rfl⟩
            rw [hxid] at hw1
            have GT := GA xid
            have TG := TL xid
            generalize (getL M xid).getD [] = gs at GT TG
            generalize (getL M xid).isSome = gi at GT TG
            clear hxid GA TL hLk
            go_wp2_with fail
            refine wp_region_held_drew (S := fun w' => w'.cell? ⟨b7, 0, none⟩ = some (.slice A1 M.length c1) ∧ w'.cell? ⟨B, o + k * 2, none⟩ = some (.int .u64 (xid : Int))) (by kernel_rfl) ⟨g7, hw1⟩ (fun hHeld => ?_)
            first | refine tku 0 rfl ?_ | refine tkv 0 rfl ?_
            (try simp only [Act.put, tz1, tz2, tz3])
            first | refine tku 1 rfl ?_ | refine tkv 1 rfl ?_
            (try simp only [Act.put, tz1, tz2, tz3])
            first | refine tku 2 rfl ?_ | refine tkv 2 rfl ?_
            (try simp only [Act.put, tz1, tz2, tz3])
            first | refine tku 3 rfl ?_ | refine tkv 3 rfl ?_
            (try simp only [Act.put, tz1, tz2, tz3])
            first | refine tku 4 rfl ?_ | refine tkv 4 rfl ?_
            (try simp only [Act.put, tz1, tz2, tz3])
            first | refine tku 5 rfl ?_ | refine tkv 5 rfl ?_
            (try simp only [Act.put, tz1, tz2, tz3])
            refine wpAnyH_ready (rs := [6]) (by kernel_rfl) (by simp) ?_
            refine AllReadyH.cons (o := ⟨_, _, _, _, _, _⟩) rfl (fun K hK => ?_) AllReadyH.nil
            clear hHeld
            go_simp
            go_at_call 13
            refine (GT _ (HRk.out.up (Up.refl _).drew)).out.mono ?_
            rintro e q1 ⟨rfl, huq⟩
            refine hK.out _ _ ⟨huq.cell g7, huq.cell hw1⟩ (fun hHeld => ?_)
            clear hK K
            (try simp only [Act.put, tz1, tz2, tz3])
            replace hw1 := huq.cell hw1
            have HB := Lib.hid (fun (q2 : World) (h : Up q1 q2) => HUy.out.trans ((Up.refl _).drew.trans (huq.trans h)))
            clear huq HUk HRk HUy GT g7
            first | refine tku 7 rfl ?_ | refine tkv 7 rfl ?_
            (try simp only [Act.put, tz1, tz2, tz3])
            first | refine tku 8 rfl ?_ | refine tkv 8 rfl ?_
            (try simp only [Act.put, tz1, tz2, tz3])
            first | refine tku 9 rfl ?_ | refine tkv 9 rfl ?_
            (try simp only [Act.put, tz1, tz2, tz3])
            first | refine tku 10 rfl ?_ | refine tkv 10 rfl ?_
            (try simp only [Act.put, tz1, tz2, tz3])
            first | refine tku 11 rfl ?_ | refine tkv 11 rfl ?_
            (try simp only [Act.put, tz1, tz2, tz3])
            refine wpAnyH_done (by kernel_rfl) ?_ _
            clear hHeld
            go_wp2_with fail
            with_reducible refine (TG _).out.mono ?_
            rintro e q2 ⟨rfl, huq2⟩
            go_wp2_with fail
            go_roundg m
            case measure => omega
            case rel => exact ⟨k + 1, by omega, by go_num, HB.out _ huq2⟩
          · have h6I : ¬ (k : Int) < 6 := by omega
            go_wp2_with fail
            with_reducible refine (AW _ (HG.out.up HUk.out)).out.mono ?_
            rintro e q2 ⟨rfl, huq2⟩
            go_wp2_with fail
            go_ret
            exact ⟨rfl, HUk.out.trans huq2⟩
        · have hltI : ¬ (k : Int) < (l.length : Int) := by omega
          go_wp2_with fail
          with_reducible refine (AW _ (HG.out.up HUk.out)).out.mono ?_
          rintro e q2 ⟨rfl, huq2⟩
          go_wp2_with fail
          go_ret
          exact ⟨rfl, HUk.out.trans huq2⟩
    · have hEb : (E == 0) = false := by rw [beq_eq_false_iff_ne]; exact hE0
      have PB := fun w hg => Lib.hid (press_bad A1 M.length c1 b kind note E hE0 CK w hg)
      unfold PressE at PB
      clear hE
      go_wp2_with fail
      with_reducible refine (PB _ (HG.out.up HU2.out)).out.mono ?_
      rintro e y1 ⟨rfl, hy1⟩
      have HU3 := Lib.hid (HU2.out.trans hy1)
      clear hy1 HU2 HR2 PB g7 s0 s1 s2
      go_wp2_with fail
      with_reducible refine (AW _ (HG.out.up HU3.out)).out.mono ?_
      rintro e y2 ⟨rfl, hy2⟩
      go_wp2_with fail
      go_ret
      exact ⟨rfl, HU3.out.trans hy2⟩
end Go.Proofs.YtgoelpjkfofbbaaGreatDoor
