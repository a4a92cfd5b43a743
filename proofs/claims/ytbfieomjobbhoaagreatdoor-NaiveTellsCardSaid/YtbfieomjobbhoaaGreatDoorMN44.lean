/- Walk: gazetteerlaw20.awake. -/
import Derived.Test.YtbfieomjobbhoaaGreatDoorMN37
import Derived.Test.YtbfieomjobbhoaaGreatDoorMN19
import Derived.Test.YtbfieomjobbhoaaGreatDoorMN04
import Derived.Test.YtbfieomjobbhoaaGreatDoorMN43
import Derived.Test.YtbfieomjobbhoaaGreatDoorMN11
namespace Go.Proofs.YtbfieomjobbhoaaGreatDoor
open Go.RowKit Go.Gz Go.Shelf

set_option maxRecDepth 100000
def L2 : Items := [(3, [120]), (4, [120])]
theorem good2 : Gz.Good L2 := ⟨by
  intro i j hi hj h;have hi : i < 2 := hi;have hj : j < 2 := hj;obtain rfl : i = 0 := by omega
  obtain rfl : j = 1 := by omega
  show (3 : Nat) < 4
  decide, by decide, by decide, by decide, by decide⟩
theorem srt2 : Srt L2 := good2.srt
theorem fit2 : Fit L2 := good_fit good2
def T2 : Bs := (pressV L2 512 0 [123, 125]).2
def Of2 (w : World) (e : Ending) (w' : World) : Prop := ∃ A c, e = .returned (.tuple #[.agg #[.slice A 2 c], .int .i64 0]) ∧ Rd w' 2 A 2 c (itV L2) ∧ Up w w'
theorem of2_any (b : Nat) (w : World) (h : w.heap[b]? = some (.cells #[.int .u64 3, .string ⟨#[120]⟩, .int .u64 4, .string ⟨#[120]⟩] 54 (0, 0))) :
    Calls Tryz.prog 21 #[.slice (some ⟨b, 0, none⟩) 2 2] w (Of2 w) := by
  refine (of_any L2 fit2 (by decide) (some ⟨b, 0, none⟩) 2 w ?_).mono ?_
  · exact ⟨rfl, by decide, by unfold maxLen; omega, fun h => by (cases h), fun _ => ⟨b, 0, rfl, fun j u hj => by
      rw [cell_of_row w b (0 + j) _ _ (0, 0) h, Nat.zero_add];simpa [itV, L2] using hj⟩⟩
  · rintro e w' ⟨M, hp, hs, A, c, he, hr, hu⟩;obtain rfl := srt_perm srt2 hs hp;exact ⟨A, c, he, hr, hu⟩
theorem rows2_len : (rowsL L2).1.length = 1 := by decide +kernel
theorem rows2_dat : (rowsL L2).2.flatten = [120] := by decide +kernel
theorem nrows_nil (w : World) : Calls Tryz.prog 6 #[.string ⟨#[]⟩] w (NRowsE w (3, [], [])) :=
  nrows_any [] 3 HZ rfl (by simp [Value.oneCell']) [] [] [] [] (by decide) (fun w => Lib.hid (lcut_bad [] 3 (by decide) (fun w => Lib.hid (hdec_short [] (by decide) w)) w)) (fun h => absurd h (by decide)) w
set_option maxHeartbeats 16000000 in
theorem awake20 (w : World) (hg : Gl w) :
    Calls Tryz.prog 5 #[] w fun e w' => e = .returned (.bool true) ∧ Up w w' := by
  have OF := fun b w h => Lib.hid (of2_any b w h);have PG : ∀ A c w, Gl w → Rd w 2 A 2 c (itV L2) → Hid (Calls Tryz.prog 22 #[.agg #[.slice A 2 c], .agg #[.int .i64 512, .int .u8 0, .string ⟨#[123, 125]⟩]] w (PressE w T2 0)) := fun A c w hg hr => Lib.hid (press_good L2 good2 (by decide) (by decide) A c 512 (by decide) (by decide) 0 (by decide) [123, 125] (by decide) (fun w hg => Lib.hid (check_no 512 0 (by decide) (by decide) (by decide) (by decide) (by decide) 0 (by decide +kernel) w hg)) w hg hr);obtain ⟨L, dt, hL, hdt, RW, RD, TL⟩ := arch_naive good2 (by decide) (by decide) (b := 512) (kind := 0) (by decide) (by decide) (by decide) (note := [123, 125]) (by decide) [] (by decide);rw [List.append_nil] at RW RD TL;have hLl : L.length = 1 := by rw [hL]; exact rows2_len
  have hdd : dt = [120] := by rw [hdt]; exact rows2_dat
  subst hdd;have T4 := fun w => TL 4 w;have T5 := fun w => TL 5 w;rw [show getL L2 4 = some [120] from by decide] at T4;rw [show getL L2 5 = none from by decide] at T5;have RN := fun w => Lib.hid (nrows_nil w);have SM := fun A1 c1 A2 c2 w h1 h2 => Lib.hid (same_any L2 (by decide) A1 c1 A2 c2 w h1 h2);simp only [show L2.length = 2 from rfl] at SM;change ∀ w, Hid (Calls Tryz.prog 6 #[.string ⟨T2.toArray⟩] w (NRowsE w (0, L, [120]))) at RW;change ∀ w, Hid (Calls Tryz.prog 8 #[.string ⟨T2.toArray⟩] w (ChartE w (0, L2))) at RD;change ∀ w, Hid (Calls Tryz.prog 10 #[.string ⟨T2.toArray⟩, .int .u64 4] w (NTileE w (0, true, [120]))) at T4;change ∀ w, Hid (Calls Tryz.prog 10 #[.string ⟨T2.toArray⟩, .int .u64 5] w (NTileE w (0, false, []))) at T5;unfold PressE at PG;unfold NRowsE at RW RN;unfold ChartE at RD;unfold NTileE at T4 T5;simp only at RW RN RD T4 T5;clear hL hdt TL;generalize T2 = T at *;have n0 := heap_alloc_new w (.cells #[.int .u64 3, .string ⟨#[120]⟩, .int .u64 4, .string ⟨#[120]⟩] 54);have HU0 := Lib.hid ((Up.refl w).alloc (.cells #[.int .u64 3, .string ⟨#[120]⟩, .int .u64 4, .string ⟨#[120]⟩] 54));have HG := Lib.hid hg;clear hg;go_enter Tryz.func5, Tryz.ntmps5;go_wp2_with fail;refine (OF _ _ n0).out.mono ?_;rintro e w1 ⟨A, c, rfl, hr1, hu1⟩;have n1 := new1 w1 33 (.slice A 2 c);have HU1 := Lib.hid (HU0.out.trans (hu1.trans n1.1));have HR1 := Lib.hid (hr1.up n1.1);have hc1 := n1.2.1;clear hr1 hu1 n0 n1 OF;go_wp2_with fail;with_reducible refine (PG A c _ (HG.out.up HU1.out) HR1.out).out.mono ?_
  rintro e w2 ⟨rfl, hu2⟩;have HU2 := Lib.hid (HU1.out.trans hu2);have HR2 := Lib.hid (HR1.out.up hu2);have hc2 := hu2.cell hc1;clear hu2 hc1 PG;go_wp2_with fail;with_reducible refine (RD _).out.mono ?_
  rintro e w3 ⟨v3, rfl, hu3, hv3, _⟩;obtain ⟨A3, c3, rfl, r3⟩ := hv3 trivial;have n3 := new1 w3 33 (.slice A3 2 c3);have hu3' := hu3.trans n3.1;have HU3 := Lib.hid (HU2.out.trans hu3');have HR3 := Lib.hid (HR2.out.up hu3');have HS3 := Lib.hid (r3.up n3.1);have hc3 := hu3'.cell hc2;have hd3 := n3.2.1;clear hu3 hu3' hc2 r3 n3 hv3 RD;go_wp2_with fail;with_reducible refine (T4 _).out.mono ?_
  rintro e w4 ⟨rfl, hu4⟩;have HU4 := Lib.hid (HU3.out.trans hu4);have HR4 := Lib.hid (HR3.out.up hu4);have HS4 := Lib.hid (HS3.out.up hu4);have hc4 := hu4.cell hc3;have hd4 := hu4.cell hd3;clear hu4 hc3 hd3 T4;go_wp2_with fail;with_reducible refine (T5 _).out.mono ?_
  rintro e w5 ⟨rfl, hu5⟩;have HU5 := Lib.hid (HU4.out.trans hu5);have HR5 := Lib.hid (HR4.out.up hu5);have HS5 := Lib.hid (HS4.out.up hu5);have hc5 := hu5.cell hc4;have hd5 := hu5.cell hd4;clear hu5 hc4 hd4 T5;go_wp2_with fail;with_reducible refine (RN _).out.mono ?_
  rintro e w6 ⟨v6, t6, rfl, hu6, _, hv6⟩;obtain ⟨rfl, rfl⟩ := hv6 (by decide);have HU6 := Lib.hid (HU5.out.trans hu6);have HR6 := Lib.hid (HR5.out.up hu6);have HS6 := Lib.hid (HS5.out.up hu6);have hc6 := hu6.cell hc5;have hd6 := hu6.cell hd5;clear hu6 hc5 hd5 RN hv6;go_wp2_with fail;with_reducible refine (RW _).out.mono ?_
  rintro e w7 ⟨v7, t7, rfl, hu7, hv7, _⟩;obtain ⟨rfl, A7, c7, rfl, _⟩ := hv7 trivial;have HU7 := Lib.hid (HU6.out.trans hu7);have HR7 := Lib.hid (HR6.out.up hu7);have HS7 := Lib.hid (HS6.out.up hu7);have hc7 := hu7.cell hc6;have hd7 := hu7.cell hd6;rw [hLl];clear hu7 hc6 hd6 RW hv7;go_wp2_with fail;with_reducible refine (SM _ _ _ _ _ HR7.out HS7.out).out.mono ?_
  rintro e w8 ⟨rfl, hu8⟩;have HU8 := Lib.hid (HU7.out.trans hu8);clear hu8;go_wp2_with fail;go_ret;exact ⟨rfl, HU8.out⟩
end Go.Proofs.YtbfieomjobbhoaaGreatDoor
/- Walk: gazetteerlaw20.NaiveTiles. -/
namespace Go.Gz
/-- the chart of a text -/
def readS (s : Bs) : Int × Items := if (rowsS s).1 ≠ 0 then ((rowsS s).1, []) else backE (rowsS s).2.1 (rowsS s).2.2
end Go.Gz
namespace Go.Proofs.YtbfieomjobbhoaaGreatDoor
open Go.RowKit Go.Gz Go.Maps Go.Shelf

set_option maxRecDepth 100000
theorem read_every (s : Bs) (hs : s.length ≤ 3000) (w : World) : Calls Tryz.prog 8 #[.string ⟨s.toArray⟩] w (ChartE w (readS s)) := by
  exact nread_any s (rowsS s) (fun w => Lib.hid (rows_every s hs w)) (backE (rowsS s).2.1 (rowsS s).2.2) (fun h A c w hr => by
    obtain ⟨h1, h2, h3⟩ := rowsS_ok hs h
    exact Lib.hid (back_any _ h1 h2 _ (by omega) (fun hb => by
      obtain ⟨_, q2, _, q4⟩ := backE_ok hb;rw [q2, expand_len];exact q4) A c w hr)) w
theorem tile_every (s : Bs) (hs : s.length ≤ 3000) (id : Nat) (w : World) : Calls Tryz.prog 10 #[.string ⟨s.toArray⟩, .int .u64 (id : Int)] w (NTileE w (tileN (rowsS s) id)) := by
  exact ntile_any s id (rowsS s) (fun h => by
    obtain ⟨h1, h2, h3⟩ := rowsS_ok hs h;have := row_len h2;exact ⟨fun e he => ⟨h1 e he, row_chk h2 he⟩, by omega, by omega⟩) (fun w => Lib.hid (rows_every s hs w)) w
theorem read_ok {s : Bs} (h : (readS s).1 = 0) : Gz.Good (readS s).2 ∧ (readS s).2.length ≤ 2048 ∧ ∀ id, tileN (rowsS s) id = (0, (getL (readS s).2 id).isSome, (getL (readS s).2 id).getD []) := by
  unfold readS at h ⊢;split at h
  · contradiction
  · rename_i g;rw [if_neg g];obtain ⟨q1, q2, q3, q4⟩ := backE_ok h;rw [q2];refine ⟨expand_good q1 q3 q4, by rw [expand_len]; exact q4, fun id => ?_⟩;unfold tileN;rw [if_neg g];exact tile_get id (fun e he => row_chk q1 he) q3
def NTilesOK (w : World) (e : Ending) (w' : World) : Prop := e = .returned (.bool true) ∧ Up w w'
def NtR (w : World) (n : Nat) (gk : Nat) (i : Value) (wr : World) : Prop := ∃ k : Nat, k + gk = n ∧ i = .int .i64 (k : Int) ∧ Up w wr
end Go.Proofs.YtbfieomjobbhoaaGreatDoor
