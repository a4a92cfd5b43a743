/- Walk: gazetteerref08.Decode. -/
import Derived.Test.YtbfieomjobbhoaaGreatDoorMN39
import Derived.Test.YtbfieomjobbhoaaGreatDoorMN18
import Derived.Test.YtbfieomjobbhoaaGreatDoorMN08
import Derived.Test.YtbfieomjobbhoaaGreatDoorMN24
import Derived.Test.YtbfieomjobbhoaaGreatDoorMN19
import Derived.Test.YtbfieomjobbhoaaGreatDoorMN04
import Derived.Test.YtbfieomjobbhoaaGreatDoorMN10
import Derived.StillTailTactics
namespace Go.Proofs.YtbfieomjobbhoaaGreatDoor
open Go.RowKit Go.Gz
set_option maxRecDepth 100000
theorem r8put_any (B : Nat) (L : Ents) (hL : L.length ≤ 4096) (hok : ∀ e ∈ L, okE e) (c k : Nat) (hc : c ≤ 3) (hk : k < L.length) (x : Nat) (hx : x < 18446744073709551616) (h1 : (setE c k (prevD L k) L[k] x).1 = 0) (w : World) (hb : EBr w B L) :
    Calls Tryz.prog 68 #[.slice (some ⟨B, 0, none⟩) L.length L.length, .int .i64 (c : Int), .int .i64 (k : Int), .int .u64 (x : Int)] w (PuE w B (L.set k (setE c k (prevD L k) L[k] x).2)) := by
  have hk' : k = 0 ∨ ∃ j, k = j + 1 := by cases k with | zero => exact .inl rfl | succ j => exact .inr ⟨j, rfl⟩
  have hc' : c = 0 ∨ c = 1 ∨ c = 2 ∨ c = 3 := by omega
  rcases hc' with rfl | rfl | rfl | rfl
  · rcases hk' with h0 | ⟨j, hj⟩
    · subst h0;have e : (setE 0 0 (prevD L 0) L[0] x).2 = { L[0] with id := x } := by
        rw [prev_0];show ({ L[0] with id := (0 + x) % 18446744073709551616 } : Ent) = _
        rw [Nat.zero_add, Nat.mod_eq_of_lt hx]
      rw [e];exact r8put00 B L hk x w hb
    · exact r8put0s B L hL k j hj hk x _ _ rfl rfl w hb
  · have hx2 : x < 4294967296 := by
      unfold setE at h1;rw [if_neg (by decide), if_pos rfl] at h1;rcases Nat.lt_or_ge x 4294967296 with g | g
      · exact g
      · rw [if_pos g] at h1; exact absurd h1 (by simp)
    have e : (setE 1 k (prevD L k) L[k] x).2 = { L[k] with run := x } := by
      unfold setE;rw [if_neg (by decide), if_pos rfl, if_neg (by omega)]
    rw [e];exact r8put1 B L k hk x hx2 w hb
  · have hx2 : x < 4294967296 := by
      unfold setE at h1;rw [if_neg (by decide), if_neg (by decide), if_pos rfl] at h1;rcases Nat.lt_or_ge x 4294967296 with g | g
      · exact g
      · rw [if_pos g] at h1; exact absurd h1 (by simp)
    have e : (setE 2 k (prevD L k) L[k] x).2 = { L[k] with len := x } := by
      unfold setE;rw [if_neg (by decide), if_neg (by decide), if_pos rfl, if_neg (by omega)]
    rw [e];exact r8put2 B L k hk x hx2 w hb
  · have hne : ¬ (k = 0 ∧ x = 0 ∨ 0 < k ∧ 0 < x ∧ (x + 18446744073709551615) % 18446744073709551616 = nextE (prevD L k)) := fun g => by
      unfold setE at h1;rw [if_neg (by decide), if_neg (by decide), if_neg (by decide), if_pos g] at h1;exact absurd h1 (by simp)
    have e : (setE 3 k (prevD L k) L[k] x).2 = { L[k] with off := if x = 0 then nextE (prevD L k) else (x + 18446744073709551615) % 18446744073709551616 } := by
      unfold setE;rw [if_neg (by decide), if_neg (by decide), if_neg (by decide), if_neg hne]
    rw [e];by_cases h0 : x = 0
    · subst h0;rw [if_pos rfl];rcases hk' with g | ⟨j, hj⟩
      · exact absurd (.inl ⟨g, rfl⟩) hne
      · have ho : okE (prevD L k) := by subst hj; rw [prev_s L (by omega)]; exact hok _ (List.getElem_mem _)
        exact r8put3z B L hL k j hj hk _ rfl ho _ rfl w hb
    · rw [if_neg h0, show (x + 18446744073709551615) % 18446744073709551616 = x - 1 by omega];exact r8put3 B L k hk x (by omega) hx w hb
theorem make_er (n : Nat) (hn : n ≤ 4096) (w : World) : (Instr.makeSlice 28 (.int .u64 (n : Int)) (.int .u64 (n : Int))).run Tryz.prog w = .ok (.slice (some ⟨w.heap.size, 0, none⟩) n n) (w.alloc (.cells (entV (List.replicate n zE)).toArray 87)) := by
  obtain ⟨i, h1, h2, h3, h4⟩ := info_parts infoEr;have := run_makeSlice (P := Tryz.prog) (w := w) 28 87 i _ Tryz.underlying28 h1 h2 .u64 .u64 (n : Int) (n : Int) (by omega) (by omega) (by rw [h3]; omega) (by rw [h4]; omega) (by omega);rw [this, h3, Int.toNat_natCast, made_ent]
theorem EBr.rd {w : World} {B : Nat} {L : Ents} (h : EBr w B L) (hl : L.length ≤ 1000000) : Rd w 4 (some ⟨B, 0, none⟩) L.length L.length (entV L) := by
  refine ⟨entV_len L, Nat.le_refl _, by unfold maxLen; omega, fun h => by (cases h), fun _ => ⟨B, 0, rfl, fun j u hj => ?_⟩⟩;rw [Nat.zero_add];exact blkc h j u (by simpa using hj)
/-- a directory's entries, or why there are none -/
def DecRE (w : World) (d : Int × Ents) (e : Ending) (w' : World) : Prop := ∃ A c at_, e = .returned (.tuple #[.slice A d.2.length c, .int .i64 at_, .int .i64 d.1]) ∧ Rd w' 4 A d.2.length c (entV d.2) ∧ Up w w'
theorem decR_bad {w w' : World} {E at_ : Int} (hu : Up w w') : DecRE w (E, []) (.returned (.tuple #[.slice none 0 0, .int .i64 at_, .int .i64 E])) w' :=
  ⟨none, 0, at_, rfl, ⟨by simp [entV_nil], Nat.le_refl _, Nat.zero_le _, fun _ => rfl, fun h => absurd h (by simp)⟩, hu⟩
set_option maxHeartbeats 16000000 in
theorem r8dec_any (s : Bs) (hs : s.length ≤ 1000000) (w : World) :
    Calls Tryz.prog 28 #[.string ⟨s.toArray⟩] w (DecRE w (decD s)) := by
  have GT := fun a ha w => Lib.hid (r2get_any s hs a ha w);have hss : (⟨s.toArray⟩ : ByteArray).size = s.length := by simp [ByteArray.size]
  by_cases hbig : 65536 < s.length
  · have e : decD s = (5, []) := by unfold decD; rw [if_pos hbig]
    rw [e];have hI : (65536 : Int) < (s.length : Int) := by omega
    clear GT e hbig;go_enter Tryz.func28, Tryz.ntmps28;go_wp2_with fail;go_ret3
    exact decR_bad (Up.refl w)
  have hI : ¬ (65536 : Int) < (s.length : Int) := by omega
  have G0 : ∀ w, RowKit.Hid (Calls Tryz.prog 66 #[.agg #[.string ⟨s.toArray⟩, .int .i64 0, .int .i64 0]] w (GetE w s 0 (getV s))) := fun w => Lib.hid (by
    have := r2get_any s hs 0 (Nat.zero_le _) w;rw [List.drop_zero] at this;exact this)
  obtain ⟨⟨E0, n, m⟩, hg0⟩ : ∃ r, getV s = r := ⟨_, rfl⟩;have hok := fun h => getV_ok (t := s) h;rw [hg0] at G0 hok;unfold GetE at G0;simp only [Nat.zero_add] at G0 hok;by_cases hE0 : E0 ≠ 0
  · have e : decD s = (E0, []) := by unfold decD; rw [if_neg hbig, hg0, if_pos hE0]
    rw [e];have eE : (E0 != 0) = true := by rw [bne_iff_ne]; exact hE0
    clear GT e hbig hg0 hok;go_enter Tryz.func28, Tryz.ntmps28;go_wp2_with fail;with_reducible refine (G0 _).out.mono ?_
    rintro e w1 ⟨rfl, hu1⟩;have hn1 := heap_alloc_new w1 (.cells #[.string ⟨s.toArray⟩, .int .i64 (m : Int), .int .i64 E0] 146);have c2 := blkc hn1 2 (.int .i64 E0) rfl;have HU := Lib.hid (hu1.alloc (.cells #[.string ⟨s.toArray⟩, .int .i64 (m : Int), .int .i64 E0] 146));clear hn1 hu1 G0;go_wp2_with (refine wpList_store_new w1 rfl 146 _ _ rfl #[.string ⟨#[]⟩, .int .i64 0, .int .i64 0] #[.string ⟨s.toArray⟩, .int .i64 (m : Int), .int .i64 E0] rfl rfl (by kernel_rfl) rfl (by simp [Value.oneCell']) ?_)
    refine wp_region_held_drew (S := fun w' => w'.cell? ⟨w1.heap.size, 2, none⟩ = some (.int .i64 E0)) (by kernel_rfl) ?_ (fun hHeld => ?_)
    · exact c2
    refine tk 0 rfl ?_;(try simp only [Act.put, tz1, tz2, tz3]);refine tk 1 rfl ?_;(try simp only [Act.put, tz1, tz2, tz3]);refine tk 2 rfl ?_;(try simp only [Act.put, tz1, tz2, tz3]);refine tk 3 rfl ?_;(try simp only [Act.put, tz1, tz2, tz3]);refine tk 4 rfl ?_;(try simp only [Act.put, tz1, tz2, tz3]);refine wpAnyH_done (by kernel_rfl) ?_ _;go_wp2_with fail;go_ret3
    exact decR_bad HU.out.drew
  have hE0 : E0 = 0 := by omega
  subst hE0;obtain ⟨k1, k2, k3⟩ := hok rfl;clear hok;by_cases hmany : 4096 < n
  · have e : decD s = (21, []) := by unfold decD; rw [if_neg hbig, hg0, if_neg (by simp), if_pos hmany]
    rw [e];have eE : (4096 : Int) < (n : Int) := by omega
    clear GT e hbig hg0 hmany;go_enter Tryz.func28, Tryz.ntmps28;go_wp2_with fail;with_reducible refine (G0 _).out.mono ?_
    rintro e w1 ⟨rfl, hu1⟩;have hn1 := heap_alloc_new w1 (.cells #[.string ⟨s.toArray⟩, .int .i64 (m : Int), .int .i64 0] 146);have c2 := blkc hn1 2 (.int .i64 0) rfl;have HU := Lib.hid (hu1.alloc (.cells #[.string ⟨s.toArray⟩, .int .i64 (m : Int), .int .i64 0] 146));clear hn1 hu1 G0;go_wp2_with (refine wpList_store_new w1 rfl 146 _ _ rfl #[.string ⟨#[]⟩, .int .i64 0, .int .i64 0] #[.string ⟨s.toArray⟩, .int .i64 (m : Int), .int .i64 0] rfl rfl (by kernel_rfl) rfl (by simp [Value.oneCell']) ?_)
    go_ret3
    exact decR_bad HU.out
  have hgo : decD s = endD (colsD 0 4 (List.replicate n zE) (s.drop m)) := decD_go hbig hg0 hmany;have hinv0 := inv_0 n s m k3;rw [hgo];generalize colsD 0 4 (List.replicate n zE) (s.drop m) = R at *;have HI0 := Lib.hid hinv0;have eE : ¬ (4096 : Int) < (n : Int) := by omega
  have hn4 : n ≤ 4096 := by omega
  clear hinv0 hgo hg0 hbig hmany k1 k2 k3;go_enter Tryz.func28, Tryz.ntmps28;go_wp2_with fail;with_reducible refine (G0 _).out.mono ?_
  rintro e w1 ⟨rfl, hu1⟩;have hn1 := heap_alloc_new w1 (.cells #[.string ⟨s.toArray⟩, .int .i64 (m : Int), .int .i64 0] 146);have c2 := blkc hn1 2 (.int .i64 0) rfl;have mk := make_er n hn4 (w1.alloc (.cells #[.string ⟨s.toArray⟩, .int .i64 (m : Int), .int .i64 0] 146));have hn2 := heap_alloc_new (w1.alloc (.cells #[.string ⟨s.toArray⟩, .int .i64 (m : Int), .int .i64 0] 146)) (.cells (entV (List.replicate n zE)).toArray 87);rw [World.size_alloc] at hn2;have hu2 := (hu1.alloc (.cells #[.string ⟨s.toArray⟩, .int .i64 (m : Int), .int .i64 0] 146)).alloc (.cells (entV (List.replicate n zE)).toArray 87);have ht2 := ((Up.refl _).alloc (.cells (entV (List.replicate n zE)).toArray 87)).obj hn1;have HB := Lib.hid hn2;have HT := Lib.hid ht2;have HU := Lib.hid hu2;have hsz : w.heap.size ≤ w1.heap.size := hu1.le;clear hn1 hn2 ht2 hu2 hu1 G0;go_wp2_with (refine wpList_store_new w1 rfl 146 _ _ rfl #[.string ⟨#[]⟩, .int .i64 0, .int .i64 0] #[.string ⟨s.toArray⟩, .int .i64 (m : Int), .int .i64 0] rfl rfl (by kernel_rfl) rfl (by simp [Value.oneCell']) ?_)
  clear mk c2;go_loopg [8] (4 * n) (fun gk i wr => ∃ (k a : Nat) (L : Ents), k + gk = 4 * n ∧ i = .int .i64 (k : Int) ∧ InvD n R s k L a ∧ wr.heap[w1.heap.size]? = some (.cells #[.string ⟨s.toArray⟩, .int .i64 (a : Int), .int .i64 0] 146 (0, 0)) ∧ EBr wr (w1.heap.size + 1) L ∧ Up w wr)
  case atStart => exact ⟨0, m, _, by omega, rfl, HI0.out, HT.out, HB.out, HU.out⟩
  case round =>
    obtain ⟨k, a, L, hk, rfl, hinv, hT, hB, hup⟩ := hrel;have hLn := hinv.len;have HI := Lib.hid hinv;have HTk := Lib.hid hT;have HBk := Lib.hid hB;have HUk := Lib.hid hup;by_cases hlt : k < 4 * n
    · obtain ⟨gn, rfl⟩ : ∃ x, gk = x + 1 := ⟨gk - 1, by omega⟩;obtain ⟨hc3, hkn⟩ := inv_k hinv hlt;obtain ⟨c, hc⟩ : ∃ c, k / n = c := ⟨_, rfl⟩;obtain ⟨j, hj⟩ : ∃ j, k % n = j := ⟨_, rfl⟩;have hltI : (k : Int) < 4 * (n : Int) := by omega
      have e4 : IntKind.i64.wrap (4 * (n : Int)) = 4 * (n : Int) := IntWalk.i64_in _ (by omega);have hnz : n ≠ 0 := by omega
      have hn0 : ((n : Int) == 0) = false := by rw [beq_eq_false_iff_ne]; omega
      have hdiv : Int.tdiv (k : Int) (n : Int) = (c : Int) := by rw [← hc]; rfl
      have hmod : Int.tmod (k : Int) (n : Int) = (j : Int) := by rw [← hj]; rfl
      have hdiv2 : (k : Int) / (n : Int) = (c : Int) := by rw [← hc]; rfl
      have hmod2 : (k : Int) % (n : Int) = (j : Int) := by rw [← hj]; rfl
      have ew : IntKind.i64.wrap (c : Int) = (c : Int) := IntWalk.i64_in _ (by omega);have ew2 : IntKind.i64.wrap (j : Int) = (j : Int) := IntWalk.i64_in _ (by have := hinv.len; omega);obtain ⟨⟨E, x, ln⟩, hg⟩ : ∃ r, getV (s.drop a) = r := ⟨_, rfl⟩;have GA := fun w => Lib.hid (GT a hinv.at_le w).out;unfold GetE at GA;rw [hg] at GA;simp only at GA;have hjl : j < L.length := by rw [← hj]; exact hkn
      have herr := fun h => inv_err hinv hlt h;have herr2 := fun h1 h2 => inv_err2 hinv hlt h1 hkn h2;have hstep := fun h1 h2 => inv_step hinv hlt h1 hkn h2;have hgok := fun h => getV_ok (t := s.drop a) h;rw [hg] at herr herr2 hstep hgok;simp only [hc, hj] at herr herr2 hstep hgok;have hokL := hinv.ok;have q0 : wr.drew.cell? ⟨w1.heap.size, 0, none⟩ = some (.string ⟨s.toArray⟩) := blkc HTk.out 0 _ rfl;have q1 : wr.drew.cell? ⟨w1.heap.size, 1, none⟩ = some (.int .i64 (a : Int)) := blkc HTk.out 1 _ rfl;have q2 : wr.drew.cell? ⟨w1.heap.size, 2, none⟩ = some (.int .i64 0) := blkc HTk.out 2 _ rfl;clear hinv hT hB hup hg;go_wp2_with fail;refine wp_region_held_drew (S := fun w' => Up wr w') (by kernel_rfl) ?_ (fun hHeld => ?_)
      · exact (Up.refl wr).drew
      refine tk 0 rfl ?_;(try simp only [Act.put, tz1, tz2, tz3]);refine tk 1 rfl ?_;(try simp only [Act.put, tz1, tz2, tz3]);refine tk 2 rfl ?_;(try simp only [Act.put, tz1, tz2, tz3]);refine tk 3 rfl ?_;(try simp only [Act.put, tz1, tz2, tz3]);refine tk 4 rfl ?_;(try simp only [Act.put, tz1, tz2, tz3]);refine tk 5 rfl ?_;(try simp only [Act.put, tz1, tz2, tz3]);refine tk 6 rfl ?_;(try simp only [Act.put, tz1, tz2, tz3]);refine tk 7 rfl ?_;(try simp only [Act.put, tz1, tz2, tz3]);refine tk 8 rfl ?_;(try simp only [Act.put, tz1, tz2, tz3]);refine tk 9 rfl ?_;(try simp only [Act.put, tz1, tz2, tz3]);refine wpAnyH_done (by kernel_rfl) ?_ _;go_wp2_with fail;with_reducible refine (GA _).out.mono ?_
      rintro e w3 ⟨rfl, hu3⟩;have hu3' := (Up.refl wr).drew.trans hu3;have g3 := heap_alloc_new w3 (.cells #[.string ⟨s.toArray⟩, .int .i64 ((a + ln : Nat) : Int), .int .i64 E] 146);have hu4 := hu3'.alloc (.cells #[.string ⟨s.toArray⟩, .int .i64 ((a + ln : Nat) : Int), .int .i64 E] 146);obtain ⟨W4, hW4⟩ : ∃ y, w3.alloc (.cells #[.string ⟨s.toArray⟩, .int .i64 ((a + ln : Nat) : Int), .int .i64 E] 146) = y := ⟨_, rfl⟩;rw [hW4] at g3 hu4;have HW4 := Lib.hid hW4;have T4 := Lib.hid (hu4.obj HTk.out);have B4 : RowKit.Hid (EBr W4 (w1.heap.size + 1) L) := Lib.hid (hu4.obj HBk.out);have U4 := Lib.hid g3;have HU4 := Lib.hid (HUk.out.trans hu4);have hTlt : w1.heap.size < w3.heap.size := Nat.lt_of_lt_of_le (Array.getElem?_eq_some_iff.1 HTk.out).1 hu3'.le;have hBlt : w1.heap.size + 1 < w3.heap.size := Nat.lt_of_lt_of_le (Array.getElem?_eq_some_iff.1 HBk.out).1 hu3'.le;clear hW4 g3 hu4 hu3 hu3' q0 q1 q2 GA GT;have r1 := blkc T4.out 1 (.int .i64 (a : Int)) rfl;have v2 := blkc U4.out 2 (.int .i64 E) rfl;by_cases hE : E = 0
      · subst hE;obtain ⟨g1, g2, g4⟩ := hgok rfl;have WR := fun w h => Lib.hid (r8wrong_any (w1.heap.size + 1) L (by omega) hokL c j (by rw [← hc]; exact hc3) hjl x g1 w h);unfold WgE at WR;by_cases hS : (setE c j (prevD L j) L[j] x).1 = 0
        · have PT := fun w h => Lib.hid (r8put_any (w1.heap.size + 1) L (by omega) hokL c j (by rw [← hc]; exact hc3) hjl x g1 hS w h);unfold PuE at PT;rw [hS] at WR;have HST := Lib.hid (hstep rfl hS);rw [hLn] at WR PT;generalize L.set j (setE c j (prevD L j) L[j] x).2 = L2 at *;clear herr herr2 hstep hgok hS hokL hjl hkn hc hj;go_wp2_with (refine wpList_store_new w3 rfl 146 _ _ rfl #[.string ⟨#[]⟩, .int .i64 0, .int .i64 0] #[.string ⟨s.toArray⟩, .int .i64 ((a + ln : Nat) : Int), .int .i64 0] rfl rfl (by kernel_rfl) rfl (by simp [Value.oneCell']) ?_; rw [HW4.out])
          with_reducible refine (WR _ B4.out).out.mono ?_
          rintro e w5 ⟨rfl, hu5⟩;have T5 := Lib.hid (hu5.obj T4.out);have B5 : RowKit.Hid (EBr w5 (w1.heap.size + 1) L) := Lib.hid (hu5.obj B4.out);have U5 := Lib.hid (hu5.obj U4.out);have HU5 := Lib.hid (HU4.out.trans hu5);clear hu5 r1 v2 T4 B4 U4 HU4;go_wp2_with fail;with_reducible refine (PT _ B5.out).out.mono ?_
          rintro e w6 ⟨rfl, b6, t6⟩;have T6 := Lib.hid (t6.obj T5.out (by simp));have U6 := Lib.hid (t6.obj U5.out (by simp; omega));have HU6 := Lib.hid (Up.tw HU5.out t6 (by simp; omega));have u0 := blkc U6.out 0 (.string ⟨s.toArray⟩) rfl;have u1 := blkc U6.out 1 (.int .i64 ((a + ln : Nat) : Int)) rfl;have u2 := blkc U6.out 2 (.int .i64 0) rfl;have th : w6.there w1.heap.size 0 3 := show _ from (th_blk T6.out : World.there _ _ _ (#[.string ⟨s.toArray⟩, .int .i64 (a : Int), .int .i64 0] : Array Value).size)
          have ht7 := sc3 T6.out (.string ⟨s.toArray⟩) (.int .i64 ((a + ln : Nat) : Int)) (.int .i64 0);have hb7 : EBr (w6.setCells w1.heap.size 0 [.string ⟨s.toArray⟩, .int .i64 ((a + ln : Nat) : Int), .int .i64 0]) (w1.heap.size + 1) L2 := (sc_other _ _ _ _ (by omega)).trans b6;have hu7 : Up w (w6.setCells w1.heap.size 0 [.string ⟨s.toArray⟩, .int .i64 ((a + ln : Nat) : Int), .int .i64 0]) := up_setCells _ HU6.out (by omega);obtain ⟨W7, hW7⟩ : ∃ y, w6.setCells w1.heap.size 0 [.string ⟨s.toArray⟩, .int .i64 ((a + ln : Nat) : Int), .int .i64 0] = y := ⟨_, rfl⟩;rw [hW7] at ht7 hb7 hu7;have HW7 := Lib.hid hW7;have T7 := Lib.hid ht7;have B7 := Lib.hid hb7;have HU7 := Lib.hid hu7;clear hW7 ht7 hb7 hu7 b6 t6 T5 B5 U5 HU5 T6 U6 HU6;go_wp2_with (refine wpList_store_mid rfl 146 _ _ rfl w1.heap.size 0 #[.string ⟨s.toArray⟩, .int .i64 ((a + ln : Nat) : Int), .int .i64 0] rfl rfl th (by kernel_rfl) (by simp [Value.oneCell']) ?_; rw [HW7.out])
          go_roundg gn
          case measure => omega
          case rel => exact ⟨k + 1, a + ln, L2, by omega, by go_num, HST.out, T7.out, B7.out, HU7.out⟩
        · have hR := herr2 rfl hS;obtain ⟨SE, hSE⟩ : ∃ y, (setE c j (prevD L j) L[j] x).1 = y := ⟨_, rfl⟩;rw [hSE] at WR hR hS;rw [hLn] at WR;have eS : (SE != 0) = true := by rw [bne_iff_ne]; exact hS
          have hend : endD R = (SE, []) := by unfold endD; rw [hR, if_pos hS]
          have HEND := Lib.hid hend;clear herr herr2 hstep hgok hS hokL hjl hkn hc hj hSE hR hend;go_wp2_with (refine wpList_store_new w3 rfl 146 _ _ rfl #[.string ⟨#[]⟩, .int .i64 0, .int .i64 0] #[.string ⟨s.toArray⟩, .int .i64 ((a + ln : Nat) : Int), .int .i64 0] rfl rfl (by kernel_rfl) rfl (by simp [Value.oneCell']) ?_; rw [HW4.out])
          with_reducible refine (WR _ B4.out).out.mono ?_
          rintro e w5 ⟨rfl, hu5⟩;have r5 : w5.drew.cell? ⟨w1.heap.size, 1, none⟩ = some (.int .i64 (a : Int)) := hu5.cell r1;have HU5 := Lib.hid (HU4.out.trans hu5);clear hu5 r1 v2 T4 B4 U4 HU4;go_wp2_with fail;refine wp_region_held_drew (S := fun w' => w'.cell? ⟨w1.heap.size, 1, none⟩ = some (.int .i64 (a : Int))) (by kernel_rfl) ?_ (fun hHeld => ?_)
          · exact r5
          refine tk 0 rfl ?_;(try simp only [Act.put, tz1, tz2, tz3]);refine tk 1 rfl ?_;(try simp only [Act.put, tz1, tz2, tz3]);refine tk 2 rfl ?_;(try simp only [Act.put, tz1, tz2, tz3]);refine tk 3 rfl ?_;(try simp only [Act.put, tz1, tz2, tz3]);refine tk 4 rfl ?_;(try simp only [Act.put, tz1, tz2, tz3]);refine tk 5 rfl ?_;(try simp only [Act.put, tz1, tz2, tz3]);refine wpAnyH_done (by kernel_rfl) ?_ _;go_wp2_with fail;go_ret3
          rw [HEND.out];exact decR_bad HU5.out.drew
      · have hR := herr hE;have eE2 : (E != 0) = true := by rw [bne_iff_ne]; exact hE
        have hend : endD R = (E, []) := by unfold endD; rw [hR, if_pos hE]
        have HEND := Lib.hid hend;have r4 : W4.drew.cell? ⟨w1.heap.size, 1, none⟩ = some (.int .i64 (a : Int)) := r1;have v4 : W4.drew.cell? ⟨w3.heap.size, 2, none⟩ = some (.int .i64 E) := v2;clear herr herr2 hstep hgok hE hokL hjl hkn hc hj hR hend;go_wp2_with (refine wpList_store_new w3 rfl 146 _ _ rfl #[.string ⟨#[]⟩, .int .i64 0, .int .i64 0] #[.string ⟨s.toArray⟩, .int .i64 ((a + ln : Nat) : Int), .int .i64 E] rfl rfl (by kernel_rfl) rfl (by simp [Value.oneCell']) ?_; rw [HW4.out])
        refine wp_region_held_drew (S := fun w' => w'.cell? ⟨w1.heap.size, 1, none⟩ = some (.int .i64 (a : Int)) ∧ w'.cell? ⟨w3.heap.size, 2, none⟩ = some (.int .i64 E)) (by kernel_rfl) ?_ (fun hHeld => ?_)
        · exact ⟨r4, v4⟩
        refine tk 0 rfl ?_;(try simp only [Act.put, tz1, tz2, tz3]);refine tk 1 rfl ?_;(try simp only [Act.put, tz1, tz2, tz3]);refine tk 2 rfl ?_;(try simp only [Act.put, tz1, tz2, tz3]);refine tk 3 rfl ?_;(try simp only [Act.put, tz1, tz2, tz3]);refine tk 4 rfl ?_;(try simp only [Act.put, tz1, tz2, tz3]);refine tk 5 rfl ?_;(try simp only [Act.put, tz1, tz2, tz3]);refine tk 6 rfl ?_;(try simp only [Act.put, tz1, tz2, tz3]);refine wpAnyH_done (by kernel_rfl) ?_ _;go_wp2_with fail;go_ret3
        rw [HEND.out];exact decR_bad HU4.out.drew
    · obtain rfl : k = 4 * n := by omega
      have hfin := HI.out.fin rfl;have hnI : ¬ (4 * (n : Int)) < 4 * (n : Int) := by omega
      have e4 : IntKind.i64.wrap (4 * (n : Int)) = 4 * (n : Int) := IntWalk.i64_in _ (by omega);have r1 := blkc HTk.out 1 (.int .i64 (a : Int)) rfl;have hal := HI.out.at_le;have RW := fun w hr => Lib.hid (r7row_any L HI.out.ok (by omega) (some ⟨w1.heap.size + 1, 0, none⟩) L.length w hr);have hrd := EBr.rd HBk.out (by omega);have HRD := Lib.hid hrd;clear hT hB hup GT hlt;by_cases hal2 : a < s.length
      · have hend : endD R = (4, []) := by
          unfold endD;rw [hfin];rw [if_neg (by simp), if_pos];intro h0;have := congrArg List.length h0;rw [List.length_drop, List.length_nil] at this;omega
        have HEND := Lib.hid hend;have haI : (a : Int) < (s.length : Int) := by omega
        have r2 : wr.drew.cell? ⟨w1.heap.size, 1, none⟩ = some (.int .i64 (a : Int)) := r1;clear hend hfin hal RW hrd HRD hal2;go_wp2_with fail;refine wp_region_held_drew (S := fun w' => w'.cell? ⟨w1.heap.size, 1, none⟩ = some (.int .i64 (a : Int))) (by kernel_rfl) ?_ (fun hHeld => ?_)
        · exact r2
        refine tk 0 rfl ?_;(try simp only [Act.put, tz1, tz2, tz3]);refine tk 1 rfl ?_;(try simp only [Act.put, tz1, tz2, tz3]);refine tk 2 rfl ?_;(try simp only [Act.put, tz1, tz2, tz3]);refine tk 3 rfl ?_;(try simp only [Act.put, tz1, tz2, tz3]);refine tk 4 rfl ?_;(try simp only [Act.put, tz1, tz2, tz3]);refine wpAnyH_done (by kernel_rfl) ?_ _;go_wp2_with fail;go_ret3
        rw [HEND.out];exact decR_bad HUk.out.drew
      · have haI : ¬ (a : Int) < (s.length : Int) := by omega
        have hd0 : s.drop a = [] := List.drop_of_length_le (by omega);have hend : endD R = if rowE L ≠ 0 then (rowE L, []) else (0, L) := by
          unfold endD;rw [hfin];rw [if_neg (by simp), hd0, if_neg (by simp)]
        obtain ⟨RE, hRE⟩ : ∃ y, rowE L = y := ⟨_, rfl⟩;rw [hRE] at RW hend;have HEND := Lib.hid hend;rw [hLn] at RW HRD;clear hend hfin hal hrd hal2 hd0 hRE;by_cases h0 : RE = 0
        · subst h0;go_wp2_with fail;with_reducible refine (RW _ HRD.out).out.mono ?_
          rintro e w5 ⟨rfl, hu5⟩;have RD5 := Lib.hid (HRD.out.up hu5);have HU5 := Lib.hid (HUk.out.trans hu5);clear hu5 r1 HRD;go_wp2_with fail;go_ret3
          rw [HEND.out, if_neg (by simp)];exact ⟨some ⟨w1.heap.size + 1, 0, none⟩, n, (s.length : Int), by rw [hLn]; rfl, by rw [hLn]; exact RD5.out, HU5.out⟩
        · have HEN2 := Lib.hid (HEND.out.trans (if_pos h0));have eE2 : (RE != 0) = true := by rw [bne_iff_ne]; exact h0
          clear h0;go_wp2_with fail;with_reducible refine (RW _ HRD.out).out.mono ?_
          rintro e w5 ⟨rfl, hu5⟩;have HU5 := Lib.hid (HUk.out.trans hu5);clear hu5 r1 HRD;go_wp2_with fail;go_ret3
          rw [HEN2.out];exact decR_bad HU5.out
end Go.Proofs.YtbfieomjobbhoaaGreatDoor
/- Walk: gazetteerref13.Back. -/
namespace Go.Proofs.YtbfieomjobbhoaaGreatDoor
open Go.RowKit Go.Gz Go.Shelf
set_option maxRecDepth 100000
/-- items, or why there are none -/
def RItE (w : World) (d : Int × Items) (e : Ending) (w' : World) : Prop := ∃ A c, e = .returned (.tuple #[.slice A d.2.length c, .int .i64 d.1]) ∧ Rd w' 2 A d.2.length c (itV d.2) ∧ Up w w'
theorem rit_bad {w w' : World} {E : Int} (hu : Up w w') : RItE w (E, []) (.returned (.tuple #[.slice none 0 0, .int .i64 E])) w' :=
  ⟨none, 0, rfl, ⟨by simp [itV], Nat.le_refl _, Nat.zero_le _, fun _ => rfl, fun h => absurd h (by simp)⟩, hu⟩
theorem runI_succ (e : Ent) (data : Bs) (q : Nat) : runI e data (q + 1) = runI e data q ++ [(e.id + q, (data.drop e.off).take e.len)] := by
  unfold runI;rw [List.range_succ, List.map_append];rfl
theorem rd_item (w : World) (t : TypeId) (a b : Value) : Rd (w.alloc (.cells #[a, b] t)) 2 (some ⟨w.heap.size, 0, none⟩) 1 1 [a, b] := by
  refine ⟨rfl, Nat.le_refl _, by decide, fun h => by (cases h), fun _ => ⟨_, 0, rfl, fun j u hj => ?_⟩⟩;rw [Nat.zero_add];exact blkc (heap_alloc_new w (.cells #[a, b] t)) j u (by simpa using hj)
set_option maxHeartbeats 16000000 in
theorem r13back_any (l : Ents) (hok : ∀ e ∈ l, okE e) (hrow : rowE l = 0) (data : Bs) (hs : data.length ≤ 1000000) (A : Option Addr) (c : Nat) (w : World) (hr : Rd w 4 A l.length c (entV l)) :
    Calls Tryz.prog 31 #[.slice A l.length c, .string ⟨data.toArray⟩] w (RItE w (backE l data)) := by
  have hll := row_len hrow;have hchk : ∀ x ∈ l, chkE x = 0 := fun x hx => row_chk hrow hx;have RW := fun w hr => Lib.hid (r7row_any l hok (by omega) A c w hr);have hbe : backE l data = backGo data l 0 [] := by unfold backE; rw [if_neg (by simp [hrow])]
  rw [hrow] at RW;rw [hbe];obtain ⟨i0, hi0, hz0, hz1, hz2⟩ := info_parts infoIt;obtain ⟨D, hD⟩ : ∃ D, backGo data l 0 [] = D := ⟨_, rfl⟩;rw [hD];have hss : (⟨data.toArray⟩ : ByteArray).size = data.length := by simp [ByteArray.size]
  have e3 : IntKind.u64.wrap (data.length : Int) = (data.length : Int) := IntWalk.u64_in _ (by omega);have HR := Lib.hid hr;have HD0 := Lib.hid hD;clear hr hrow hbe hD;go_enter Tryz.func31, Tryz.ntmps31;go_wp2_with fail;with_reducible refine (RW _ HR.out).out.mono ?_
  rintro e w1 ⟨rfl, hu1⟩;have HU1 := Lib.hid hu1;clear hu1 RW;go_wp2_with fail;go_loopg [7, 8, 9] l.length (fun gk v mn i wr => ∃ (k many : Nat) (out : Items), k + gk = l.length ∧ i = .int .i64 (k : Int) ∧ mn = .int .u64 (many : Int) ∧ many ≤ 2048 ∧ out.length ≤ many ∧ OwnR wr w.heap.size v out ∧ backGo data (l.drop k) many out = D ∧ Up w wr)
  case atStart => exact ⟨0, 0, [], by omega, rfl, rfl, by omega, by simp, World.ownsRow_nil _ _ _ _, by rw [List.drop_zero]; exact HD0.out, HU1.out⟩
  case round =>
    obtain ⟨k, many, out, hk, rfl, rfl, hmany, hol, ho, hgo, hu⟩ := hrel;have HO := Lib.hid ho;have HU := Lib.hid hu;clear ho HD0 HU1;by_cases hlt : k < l.length
    · obtain ⟨m, rfl⟩ : ∃ x, gk = x + 1 := ⟨gk - 1, by omega⟩;obtain ⟨b, o, rfl, d0, d1, d2, d3⟩ := (HR.out.up hu).ent hlt;have hmem := List.getElem_mem hlt;have hc := hchk _ hmem;have hxo := hok _ hmem;rw [List.drop_eq_getElem_cons hlt] at hgo;obtain ⟨x, hx⟩ : ∃ x, l[k] = x := ⟨_, rfl⟩;rw [hx] at d0 d1 d2 d3 hc hgo hxo;unfold backGo at hgo;obtain ⟨q1, q2, q3⟩ := chk_ok hc;have hrl := hxo.2.2.2;have hwd : x.run ≤ wideE x := by unfold wideE; omega
      have kI : (k : Int) < (l.length : Int) := by omega
      have f1 : IntKind.u64.wrap (x.run : Int) = (x.run : Int) := IntWalk.u64_in _ (by omega);have f2 : IntKind.u64.wrap ((many : Int) + (x.run : Int)) = ((many + x.run : Nat) : Int) := by rw [IntWalk.u64_in _ (by omega)]; omega
      have f3 : IntKind.u64.wrap (x.len : Int) = (x.len : Int) := IntWalk.u64_in _ (by have := hxo.2.2.1; omega);have f4 : IntKind.u64.wrap ((x.off : Int) + (x.len : Int)) = (x.off : Int) + (x.len : Int) := IntWalk.u64_in _ (by omega);have g1 : wr.drew.cell? ⟨b, o + k * 4 + 1, none⟩ = some (.int .u64 (x.off : Int)) := d1;have g2 : wr.drew.cell? ⟨b, o + k * 4 + 2, none⟩ = some (.int .u32 (x.len : Int)) := d2;have g3 : wr.drew.cell? ⟨b, o + k * 4 + 3, none⟩ = some (.int .u32 (x.run : Int)) := d3;by_cases h1 : x.run = 0
      · have hw : wrongR x (many + x.run) data = 14 := by unfold wrongR; rw [if_pos h1]
        rw [hw, if_pos (by decide)] at hgo;have r0 : ((x.run : Int) == 0) = true := by rw [beq_iff_eq]; omega
        have HG := Lib.hid hgo;clear hgo hw hx hmem hc hxo hu h1;go_wp2_with fail;go_ret2
        rw [← HG.out];exact rit_bad HU.out
      have r0 : ((x.run : Int) == 0) = false := by rw [beq_eq_false_iff_ne]; omega
      by_cases h2 : data.length < x.off + x.len
      · have hw : wrongR x (many + x.run) data = 8 := by unfold wrongR; rw [if_neg h1, if_pos h2]
        rw [hw, if_pos (by decide)] at hgo;have r1 : decide (data.length < x.off + x.len) = true := by rw [decide_eq_true_eq]; omega
        have r1b : decide ((data.length : Int) < (x.off : Int) + (x.len : Int)) = true := by rw [decide_eq_true_eq]; omega
        have HG := Lib.hid hgo;clear hgo hw hx hmem hc hxo hu h1 h2;go_wp2_with fail;refine wp_region_held_drew (S := fun w' => w'.cell? ⟨b, o + k * 4 + 1, none⟩ = some (.int .u64 (x.off : Int)) ∧ w'.cell? ⟨b, o + k * 4 + 2, none⟩ = some (.int .u32 (x.len : Int))) (by kernel_rfl) ?_ (fun hHeld => ?_)
        · exact ⟨g1, g2⟩
        refine tk 0 rfl ?_;(try simp only [Act.put, tz1, tz2, tz3]);refine tk 1 rfl ?_;(try simp only [Act.put, tz1, tz2, tz3]);refine tk 2 rfl ?_;(try simp only [Act.put, tz1, tz2, tz3]);refine tk 3 rfl ?_;(try simp only [Act.put, tz1, tz2, tz3]);refine tk 4 rfl ?_;(try simp only [Act.put, tz1, tz2, tz3]);refine tk 5 rfl ?_;(try simp only [Act.put, tz1, tz2, tz3]);refine tk 6 rfl ?_;(try simp only [Act.put, tz1, tz2, tz3]);refine tk 7 rfl ?_;(try simp only [Act.put, tz1, tz2, tz3]);refine tk 8 rfl ?_;(try simp only [Act.put, tz1, tz2, tz3]);refine tk 9 rfl ?_;(try simp only [Act.put, tz1, tz2, tz3]);refine tk 10 rfl ?_;(try simp only [Act.put, tz1, tz2, tz3]);refine tk 11 rfl ?_;(try simp only [Act.put, tz1, tz2, tz3]);refine tk 12 rfl ?_;(try simp only [Act.put, tz1, tz2, tz3]);refine tk 13 rfl ?_;(try simp only [Act.put, tz1, tz2, tz3]);refine tk 14 rfl ?_;(try simp only [Act.put, tz1, tz2, tz3]);refine tk 15 rfl ?_;(try simp only [Act.put, tz1, tz2, tz3]);refine wpAnyH_done (by kernel_rfl) ?_ _;go_wp2_with fail;go_ret2
        rw [← HG.out];exact rit_bad HU.out.drew
      have r1 : decide (data.length < x.off + x.len) = false := by rw [decide_eq_false_iff_not]; omega
      have r1b : decide ((data.length : Int) < (x.off : Int) + (x.len : Int)) = false := by rw [decide_eq_false_iff_not]; omega
      by_cases h3 : 2048 < many + x.run
      · have hw : wrongR x (many + x.run) data = 21 := by unfold wrongR; rw [if_neg h1, if_neg h2, if_pos h3]
        rw [hw, if_pos (by decide)] at hgo;have r2 : (2048 : Int) < ((many + x.run : Nat) : Int) := by omega
        have HG := Lib.hid hgo;generalize many + x.run = mr at *;clear hgo hw hx hmem hc hxo hu h1 h2 h3;go_wp2_with fail;refine wp_region_held_drew (S := fun w' => w'.cell? ⟨b, o + k * 4 + 1, none⟩ = some (.int .u64 (x.off : Int)) ∧ w'.cell? ⟨b, o + k * 4 + 2, none⟩ = some (.int .u32 (x.len : Int))) (by kernel_rfl) ?_ (fun hHeld => ?_)
        · exact ⟨g1, g2⟩
        refine tk 0 rfl ?_;(try simp only [Act.put, tz1, tz2, tz3]);refine tk 1 rfl ?_;(try simp only [Act.put, tz1, tz2, tz3]);refine tk 2 rfl ?_;(try simp only [Act.put, tz1, tz2, tz3]);refine tk 3 rfl ?_;(try simp only [Act.put, tz1, tz2, tz3]);refine tk 4 rfl ?_;(try simp only [Act.put, tz1, tz2, tz3]);refine tk 5 rfl ?_;(try simp only [Act.put, tz1, tz2, tz3]);refine tk 6 rfl ?_;(try simp only [Act.put, tz1, tz2, tz3]);refine tk 7 rfl ?_;(try simp only [Act.put, tz1, tz2, tz3]);refine tk 8 rfl ?_;(try simp only [Act.put, tz1, tz2, tz3]);refine tk 9 rfl ?_;(try simp only [Act.put, tz1, tz2, tz3]);refine tk 10 rfl ?_;(try simp only [Act.put, tz1, tz2, tz3]);refine tk 11 rfl ?_;(try simp only [Act.put, tz1, tz2, tz3]);refine tk 12 rfl ?_;(try simp only [Act.put, tz1, tz2, tz3]);refine tk 13 rfl ?_;(try simp only [Act.put, tz1, tz2, tz3]);refine tk 14 rfl ?_;(try simp only [Act.put, tz1, tz2, tz3]);refine tk 15 rfl ?_;(try simp only [Act.put, tz1, tz2, tz3]);refine wpAnyH_done (by kernel_rfl) ?_ _;go_wp2_with fail;go_ret2
        rw [← HG.out];exact rit_bad HU.out.drew
      by_cases h4 : 65536 < x.len
      · have hw : wrongR x (many + x.run) data = 5 := by unfold wrongR; rw [if_neg h1, if_neg h2, if_neg h3, if_pos h4]
        rw [hw, if_pos (by decide)] at hgo;have r2 : ¬ (2048 : Int) < ((many + x.run : Nat) : Int) := by omega
        have r3 : (65536 : Int) < (x.len : Int) := by omega
        have HG := Lib.hid hgo;generalize many + x.run = mr at *;clear hgo hw hx hmem hc hxo hu h1 h2 h3 h4;go_wp2_with fail;refine wp_region_held_drew (S := fun w' => w'.cell? ⟨b, o + k * 4 + 1, none⟩ = some (.int .u64 (x.off : Int)) ∧ w'.cell? ⟨b, o + k * 4 + 2, none⟩ = some (.int .u32 (x.len : Int))) (by kernel_rfl) ?_ (fun hHeld => ?_)
        · exact ⟨g1, g2⟩
        refine tk 0 rfl ?_;(try simp only [Act.put, tz1, tz2, tz3]);refine tk 1 rfl ?_;(try simp only [Act.put, tz1, tz2, tz3]);refine tk 2 rfl ?_;(try simp only [Act.put, tz1, tz2, tz3]);refine tk 3 rfl ?_;(try simp only [Act.put, tz1, tz2, tz3]);refine tk 4 rfl ?_;(try simp only [Act.put, tz1, tz2, tz3]);refine tk 5 rfl ?_;(try simp only [Act.put, tz1, tz2, tz3]);refine tk 6 rfl ?_;(try simp only [Act.put, tz1, tz2, tz3]);refine tk 7 rfl ?_;(try simp only [Act.put, tz1, tz2, tz3]);refine tk 8 rfl ?_;(try simp only [Act.put, tz1, tz2, tz3]);refine tk 9 rfl ?_;(try simp only [Act.put, tz1, tz2, tz3]);refine tk 10 rfl ?_;(try simp only [Act.put, tz1, tz2, tz3]);refine tk 11 rfl ?_;(try simp only [Act.put, tz1, tz2, tz3]);refine tk 12 rfl ?_;(try simp only [Act.put, tz1, tz2, tz3]);refine tk 13 rfl ?_;(try simp only [Act.put, tz1, tz2, tz3]);refine tk 14 rfl ?_;(try simp only [Act.put, tz1, tz2, tz3]);refine tk 15 rfl ?_;(try simp only [Act.put, tz1, tz2, tz3]);refine wpAnyH_done (by kernel_rfl) ?_ _;go_wp2_with fail;go_ret2
        rw [← HG.out];exact rit_bad HU.out.drew
      · have hw : wrongR x (many + x.run) data = 0 := by unfold wrongR; rw [if_neg h1, if_neg h2, if_neg h3, if_neg h4]
        rw [hw, if_neg (by simp)] at hgo;have r2 : ¬ (2048 : Int) < ((many + x.run : Nat) : Int) := by omega
        have r3 : ¬ (65536 : Int) < (x.len : Int) := by omega
        have HG := Lib.hid hgo;have hmr : many + x.run ≤ 2048 := by omega
        have hpm := part_mk data x.off x.len (x.off + x.len) rfl;unfold Gz.part at hpm;have b1 : (x.off : Int) ≤ (x.off : Int) + (x.len : Int) := by omega
        have b2 : (x.off : Int) + (x.len : Int) ≤ (data.length : Int) := by omega
        have b0 : (0 : Int) ≤ (x.off : Int) := by omega
        have hLR := (HR.out.1 : _);have HHO := Lib.hid (own_up HO.out (Up.refl _).drew);have HUd := Lib.hid HU.out.drew;clear hgo hw hmem hc hu h1 h2 h3 h4 HO HU;go_wp2_with fail;refine wp_region_held_drew (S := fun w' => w'.cell? ⟨b, o + k * 4 + 1, none⟩ = some (.int .u64 (x.off : Int)) ∧ w'.cell? ⟨b, o + k * 4 + 2, none⟩ = some (.int .u32 (x.len : Int))) (by kernel_rfl) ?_ (fun hHeld => ?_)
        · exact ⟨g1, g2⟩
        refine tk 0 rfl ?_;(try simp only [Act.put, tz1, tz2, tz3]);refine tk 1 rfl ?_;(try simp only [Act.put, tz1, tz2, tz3]);refine tk 2 rfl ?_;(try simp only [Act.put, tz1, tz2, tz3]);refine tk 3 rfl ?_;(try simp only [Act.put, tz1, tz2, tz3]);refine tk 4 rfl ?_;(try simp only [Act.put, tz1, tz2, tz3]);refine tk 5 rfl ?_;(try simp only [Act.put, tz1, tz2, tz3]);refine tk 6 rfl ?_;(try simp only [Act.put, tz1, tz2, tz3]);refine tk 7 rfl ?_;(try simp only [Act.put, tz1, tz2, tz3]);refine tk 8 rfl ?_;(try simp only [Act.put, tz1, tz2, tz3]);refine tk 9 rfl ?_;(try simp only [Act.put, tz1, tz2, tz3]);refine tk 10 rfl ?_;(try simp only [Act.put, tz1, tz2, tz3]);refine tk 11 rfl ?_;(try simp only [Act.put, tz1, tz2, tz3]);refine tk 12 rfl ?_;(try simp only [Act.put, tz1, tz2, tz3]);refine tk 13 rfl ?_;(try simp only [Act.put, tz1, tz2, tz3]);refine tk 14 rfl ?_;(try simp only [Act.put, tz1, tz2, tz3]);refine tk 15 rfl ?_;(try simp only [Act.put, tz1, tz2, tz3]);refine wpAnyH_done (by kernel_rfl) ?_ _;go_wp2_with fail;clear g1 g2 g3 d0 d1 d2 d3 r0 r1 r1b r2 r3 f2;go_loopg [7, 10] x.run (fun gj v2 qv wx => ∃ q : Nat, q + gj = x.run ∧ qv = .int .u64 (q : Int) ∧ OwnR wx w.heap.size v2 (out ++ runI x data q) ∧ Up w wx)
        case atStart => exact ⟨0, by omega, rfl, by rw [show runI x data 0 = [] from rfl, List.append_nil]; exact HHO.out, HUd.out⟩
        case round =>
          rename World => wx
          obtain ⟨q, hq, rfl, hoq, huq⟩ := hrel;obtain ⟨b5, o5, eb5, d0, d1, d2, d3⟩ := (HR.out.up huq).ent hlt;injection eb5 with eb5;injection eb5 with eb6 eb7;subst eb6; subst eb7;rw [hx] at d0 d1 d2 d3;have HOq := Lib.hid hoq;have HUq := Lib.hid huq;have hlq : (runI x data q).length = q := by unfold runI; simp
          by_cases hqr : q < x.run
          · obtain ⟨mq, hmq⟩ : ∃ y, gk = y + 1 := ⟨gk - 1, by omega⟩;subst hmq;have r5 : (q : Int) < (x.run : Int) := by omega
            have f5 : IntKind.u64.wrap ((x.id : Int) + (q : Int)) = (x.id : Int) + (q : Int) := IntWalk.u64_in _ (by omega);have f6 : IntKind.u64.wrap ((q : Int) + 1) = (q : Int) + 1 := IntWalk.u64_in _ (by omega);have HS := Lib.hid (runI_succ x data q);have hld : (out ++ runI x data q).length ≤ 2048 := by rw [List.length_append, hlq]; omega
            clear hoq huq hlq;have HCL : RowKit.Hid (∀ w', Up w w' → w'.cell? ⟨b, o + k * 4, none⟩ = some (.int .u64 (x.id : Int)) ∧ w'.cell? ⟨b, o + k * 4 + 1, none⟩ = some (.int .u64 (x.off : Int)) ∧ w'.cell? ⟨b, o + k * 4 + 2, none⟩ = some (.int .u32 (x.len : Int))) := Lib.hid (fun w' h => by
              obtain ⟨b5, o5, eb5, y0, y1, y2, y3⟩ := (HR.out.up h).ent hlt;injection eb5 with eb5;injection eb5 with eb6 eb7;subst eb6; subst eb7;rw [hx] at y0 y1 y2;exact ⟨y0, y1, y2⟩)
            have hpm2 : (⟨data.toArray⟩ : ByteArray).extract x.off ((x.off : Int) + (x.len : Int)).toNat = ⟨((data.drop x.off).take x.len).toArray⟩ := by
              rw [show ((x.off : Int) + (x.len : Int)).toNat = x.off + x.len by omega]; exact hpm
            have HIT := Lib.hid (show ([.int .u64 ((x.id : Int) + (q : Int)), .string ((⟨data.toArray⟩ : ByteArray).extract x.off ((x.off : Int) + (x.len : Int)).toNat)] : List Value) = itV [(x.id + q, (data.drop x.off).take x.len)] by rw [hpm2]; rfl);have OA := Lib.hid (own_up HOq.out ((Up.refl wx).alloc (.cells #[.int .u64 ((x.id : Int) + (q : Int)), .string ((⟨data.toArray⟩ : ByteArray).extract x.off ((x.off : Int) + (x.len : Int)).toNat)] 88)).drew);have RA := Lib.hid ((rd_item wx 88 (.int .u64 ((x.id : Int) + (q : Int))) (.string ((⟨data.toArray⟩ : ByteArray).extract x.off ((x.off : Int) + (x.len : Int)).toNat))).up (Up.refl _).drew);have HUA := Lib.hid ((HUq.out.alloc (.cells #[.int .u64 ((x.id : Int) + (q : Int)), .string ((⟨data.toArray⟩ : ByteArray).extract x.off ((x.off : Int) + (x.len : Int)).toNat)] 88)).drew);clear hpm hpm2;go_wp2_with fail;refine wp_region_held_drew (S := fun w' => w'.cell? ⟨b, o + k * 4, none⟩ = some (.int .u64 (x.id : Int)) ∧ w'.cell? ⟨b, o + k * 4 + 1, none⟩ = some (.int .u64 (x.off : Int)) ∧ w'.cell? ⟨b, o + k * 4 + 2, none⟩ = some (.int .u32 (x.len : Int))) (by kernel_rfl) ?_ (fun hHeld => ?_)
            · exact HCL.out _ HUq.out.drew
            refine tk 0 rfl ?_;(try simp only [Act.put, tz1, tz2, tz3]);refine tk 1 rfl ?_;(try simp only [Act.put, tz1, tz2, tz3]);refine tk 2 rfl ?_;(try simp only [Act.put, tz1, tz2, tz3]);refine tk 3 rfl ?_;(try simp only [Act.put, tz1, tz2, tz3]);refine tk 4 rfl ?_;(try simp only [Act.put, tz1, tz2, tz3]);refine tk 5 rfl ?_;(try simp only [Act.put, tz1, tz2, tz3]);refine tk 6 rfl ?_;(try simp only [Act.put, tz1, tz2, tz3]);refine tk 7 rfl ?_;(try simp only [Act.put, tz1, tz2, tz3]);refine tk 8 rfl ?_;(try simp only [Act.put, tz1, tz2, tz3]);refine tk 9 rfl ?_;(try simp only [Act.put, tz1, tz2, tz3]);refine tk 10 rfl ?_;(try simp only [Act.put, tz1, tz2, tz3]);refine tk 11 rfl ?_;(try simp only [Act.put, tz1, tz2, tz3]);refine tk 12 rfl ?_;(try simp only [Act.put, tz1, tz2, tz3]);refine tk 13 rfl ?_;(try simp only [Act.put, tz1, tz2, tz3]);refine tk 14 rfl ?_;(try simp only [Act.put, tz1, tz2, tz3]);refine tk 15 rfl ?_;(try simp only [Act.put, tz1, tz2, tz3]);refine tk 16 rfl ?_;(try simp only [Act.put, tz1, tz2, tz3]);refine tk 17 rfl ?_;(try simp only [Act.put, tz1, tz2, tz3]);refine tk 18 rfl ?_;(try simp only [Act.put, tz1, tz2, tz3]);refine tk 19 rfl ?_;(try simp only [Act.put, tz1, tz2, tz3]);refine tk 20 rfl ?_;(try simp only [Act.put, tz1, tz2, tz3]);refine tk 21 rfl ?_;(try simp only [Act.put, tz1, tz2, tz3]);refine tk 22 rfl ?_;(try simp only [Act.put, tz1, tz2, tz3]);refine tk 23 rfl ?_;(try simp only [Act.put, tz1, tz2, tz3]);refine tk 24 rfl ?_;(try simp only [Act.put, tz1, tz2, tz3]);refine tk 25 rfl ?_;(try simp only [Act.put, tz1, tz2, tz3]);refine tk 26 rfl ?_;(try simp only [Act.put, tz1, tz2, tz3]);refine tk 27 rfl ?_;(try simp only [Act.put, tz1, tz2, tz3]);refine rd1 28 rfl (fun K hK => ?_);go_simp;refine hK.out _ _ ?_ (fun hHeld2 => ?_)
            · exact HCL.out _ HUA.out
            clear hK K;(try simp only [Act.put, tz1, tz2, tz3]);refine rd1 29 rfl (fun K hK => ?_);refine step_append_rd _ rfl _ _ 36 (by rfl) _ 88 i0 _ 2 24 Tryz.underlying36 hi0 hz0 hz1 hz2 rfl (by decide) _ _ _ (by rfl) OA.out _ 1 1 _ (by rfl) RA.out (by simp [Value.oneCell']) (by omega) (by omega) HUA.out.le ?_;intro v7 w7 ho7 hb7;have HU7 := Lib.hid (HUA.out.base (Nat.le_refl _) hb7);refine hK.out _ _ ?_ (fun hHeld3 => ?_)
            · exact HCL.out _ HU7.out
            clear hK K;(try simp only [Act.put, tz1, tz2, tz3]);refine tk 30 rfl ?_;(try simp only [Act.put, tz1, tz2, tz3]);refine wpAnyH_done (by kernel_rfl) ?_ _;go_wp2_with fail;go_roundg mq
            case measure => omega
            case rel =>
              refine ⟨q + 1, by omega, by go_num, ?_, HU7.out⟩;rw [HS.out, ← List.append_assoc];unfold OwnR;rw [itV_app, List.length_append, ← HIT.out];exact ho7
          · obtain rfl : q = x.run := by omega
            have r5 : ¬ (x.run : Int) < (x.run : Int) := by omega
            clear hoq huq hqr;go_wp2_with fail;go_roundg m
            case measure => omega
            case rel => exact ⟨k + 1, many + x.run, out ++ runI x data x.run, by omega, by go_num, rfl, hmr, by rw [List.length_append, hlq]; omega, HOq.out, HG.out, HUq.out⟩
    · obtain rfl : k = l.length := by omega
      rw [List.drop_length] at hgo;have hgo : (0, out) = D := hgo;obtain ⟨A9, c9, rfl, r9⟩ := Rd.of_own HO.out;have R9 := Lib.hid r9;have kI : ¬ (l.length : Int) < (l.length : Int) := by omega
      have HG := Lib.hid hgo;clear hgo hu hlt r9;go_wp2_with fail;go_ret2
      rw [← HG.out];exact ⟨A9, c9, rfl, R9.out, HU.out⟩
end Go.Proofs.YtbfieomjobbhoaaGreatDoor
