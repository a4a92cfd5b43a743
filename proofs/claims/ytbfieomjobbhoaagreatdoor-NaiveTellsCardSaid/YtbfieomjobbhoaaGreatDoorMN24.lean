/- Walk: dirs.Decode, of any text. -/
import Derived.Test.YtbfieomjobbhoaaGreatDoorMN23
import Derived.Test.YtbfieomjobbhoaaGreatDoorMN10
namespace Go.Gz
theorem colD_err1 {c i : Nat} {a e : Ent} {r : Ents} {t : Bs} (h : (getV t).1 ≠ 0) : colD c i a (e :: r) t = ((getV t).1, [], []) := by
  conv => lhs; unfold colD
  rw [if_pos h]
theorem colD_err2 {c i : Nat} {a e : Ent} {r : Ents} {t : Bs} (h : (getV t).1 = 0) (h2 : (setE c i a e (getV t).2.1).1 ≠ 0) : colD c i a (e :: r) t = ((setE c i a e (getV t).2.1).1, [], []) := by
  conv => lhs; unfold colD
  rw [if_neg (by omega), if_pos h2]
theorem colD_go {c i : Nat} {a e : Ent} {r : Ents} {t : Bs} (h : (getV t).1 = 0) (h2 : (setE c i a e (getV t).2.1).1 = 0) :
    colD c i a (e :: r) t = ((colD c (i + 1) (setE c i a e (getV t).2.1).2 r (t.drop (getV t).2.2)).1, (setE c i a e (getV t).2.1).2 :: (colD c (i + 1) (setE c i a e (getV t).2.1).2 r (t.drop (getV t).2.2)).2.1, (colD c (i + 1) (setE c i a e (getV t).2.1).2 r (t.drop (getV t).2.2)).2.2) := by
  conv => lhs; unfold colD
  rw [if_neg (by omega), if_neg (by omega)]
theorem cols_err {c m : Nat} {l : Ents} {t : Bs} {q : Int × Ents × Bs} (hq : colD c 0 zE l t = q) (h : q.1 ≠ 0) : colsD c (m + 1) l t = (q.1, [], []) := by
  unfold colsD;rw [hq, if_pos h]
theorem cols_go {c m : Nat} {l : Ents} {t : Bs} {q : Int × Ents × Bs} (hq : colD c 0 zE l t = q) (h : q.1 = 0) : colsD c (m + 1) l t = colsD (c + 1) m q.2.1 q.2.2 := by
  conv => lhs; unfold colsD
  rw [hq, if_neg (by omega)]
theorem decD_go {s : Bs} {n m : Nat} (h1 : ¬ 65536 < s.length) (h2 : getV s = (0, n, m)) (h3 : ¬ 4096 < n) : decD s = endD (colsD 0 4 (List.replicate n zE) (s.drop m)) := by
  unfold decD;rw [if_neg h1, h2, if_neg (by simp), if_neg h3]
theorem endD_err {q : Int × Ents × Bs} (h : q.1 ≠ 0) : endD q = (q.1, []) := by
  unfold endD;rw [if_pos h]
end Go.Gz
namespace Go.Proofs.YtbfieomjobbhoaaGreatDoor
open Go.RowKit Go.Gz Go.Shelf

set_option maxRecDepth 100000
def DdecE (w : World) (r : Int × Ents) (e : Ending) (w' : World) : Prop := ∃ (v : Value) (at' : Int), e = .returned (.tuple #[v, .int .i64 at', .int .i64 r.1]) ∧ Up w w' ∧ (r.1 = 0 → ∃ A c, v = .slice A r.2.length c ∧ Rd w' 4 A r.2.length c (entV r.2)) ∧ (r.1 ≠ 0 → v = .slice none 0 0)
theorem ddec_bad {w w' : World} {E : Int} {l : Ents} (h : E ≠ 0) (a : Int) (hu : Up w w') : DdecE w (E, l) (.returned (.tuple #[.slice none 0 0, .int .i64 a, .int .i64 E])) w' :=
  ⟨_, a, rfl, hu, fun h2 => absurd h2 h, fun _ => rfl⟩
def OutR (w : World) (s : Bs) (T B n : Nat) (R : Int × Ents × Bs) (gk : Nat) (i : Value) (wr : World) : Prop := ∃ (c a : Nat) (L : Ents), c + gk = 4 ∧ i = .int .i64 (c : Int) ∧ L.length = n ∧ a ≤ s.length ∧ (∀ x ∈ L, okE x) ∧ colsD c (4 - c) L (s.drop a) = R ∧ Up w wr ∧ ScB wr T s a 0 ∧ EB wr B L
def InR (w : World) (s : Bs) (T H B n c : Nat) (L : Ents) (Q : Int × Ents × Bs) (gj : Nat) (j : Value) (wx : World) : Prop := ∃ (k a : Nat) (e : Ent) (L' : Ents), k + gj = n ∧ j = .int .i64 (k : Int) ∧ L'.length = n ∧ a ≤ s.length ∧ (∀ x ∈ L', okE x) ∧ L'.drop k = L.drop k ∧
  Q = ((colD c k e (L.drop k) (s.drop a)).1, L'.take k ++ (colD c k e (L.drop k) (s.drop a)).2.1, (colD c k e (L.drop k) (s.drop a)).2.2) ∧ DD w wx T H B s a e L'
theorem setCell_self {w : World} {b k : Nat} {cs : Array Value} {v : Value} {t : TypeId} (h : w.heap[b]? = some (.cells cs t (0, 0))) (hv : cs[k]? = some v) : w.setCell ⟨b, k, none⟩ v = w := by
  have e : cs.setIfInBounds k v = cs := by
    apply Array.ext';rw [Array.toList_setIfInBounds];apply List.ext_getElem?;intro i;rw [List.getElem?_set];split
    · rename_i hi;subst hi;have hv' : cs.toList[k]? = some v := by simpa using hv
      obtain ⟨h1, h2⟩ := List.getElem?_eq_some_iff.1 hv';rw [if_pos h1, hv']
    · rfl
  have h2 := heap_setCell_same w b k cs t v h;rw [e] at h2;have hx : (w.setCell ⟨b, k, none⟩ v).heap = w.heap := by
    apply Array.ext_getElem?;intro i;by_cases hi : i = b
    · subst hi; rw [h2, h]
    · exact heap_setCell_other w ⟨b, k, none⟩ i v hi
  exact show ({ w.setCell ⟨b, k, none⟩ v with heap := (w.setCell ⟨b, k, none⟩ v).heap } : World) = w by rw [hx]; rfl
theorem EB.rd {w : World} {B : Nat} {L : Ents} (h : EB w B L) (hl : L.length ≤ 1000000) : Rd w 4 (some ⟨B, 0, none⟩) L.length L.length (entV L) := by
  refine ⟨by rw [entV_len], Nat.le_refl _, by unfold maxLen; omega, fun h => by (cases h), fun _ => ⟨_, 0, rfl, fun j u hj => ?_⟩⟩;rw [Nat.zero_add];exact blkc h j u (by simpa using hj)
set_option maxHeartbeats 16000000 in
theorem ddec_any (s : Bs) (hs : s.length ≤ 1000000000) (w : World) :
    Calls Tryz.prog 25 #[.string ⟨s.toArray⟩] w (DdecE w (decD s)) := by
  have GT := fun a ha w => Lib.hid (get_any s hs a ha w);unfold GetE at GT;obtain ⟨D, hDD⟩ : ∃ D, decD s = D := ⟨_, rfl⟩;rw [hDD];by_cases hlong : 65536 < s.length
  · have hD : decD s = (5, []) := by unfold decD; rw [if_pos hlong]
    obtain rfl := hDD.symm.trans hD;have t0 : (65536 : Int) < (s.length : Int) := by omega
    go_enter Tryz.func25, Tryz.ntmps25;go_wp2_with fail;change bodyPost _ _ _ _ _ _;refine bodyPost_ret (v := .tuple #[.slice none 0 0, .int .i64 0, .int .i64 5]) (by simp [results, Tryz.results25, go_sem]) rfl ?_; exact ddec_bad (by decide) 0 (Up.refl w)
  have t0 : ¬ (65536 : Int) < (s.length : Int) := by omega
  have G0 := GT 0 (Nat.zero_le _);rw [List.drop_zero] at G0;obtain ⟨⟨E0, n, m⟩, hr⟩ : ∃ r, getV s = r := ⟨_, rfl⟩;rw [hr] at G0;simp only [Nat.zero_add, show ((0 : Nat) : Int) = 0 from rfl] at G0;go_enter Tryz.func25, Tryz.ntmps25;go_wp2_with fail;with_reducible refine (G0 _).out.mono ?_
  rintro e w1 ⟨rfl, hu1⟩;have q0 := heap_alloc_new w1 (.cells #[.string ⟨s.toArray⟩, .int .i64 (m : Int), .int .i64 E0] 136);have HU1 := Lib.hid (hu1.trans ((Up.refl w1).alloc (.cells #[.string ⟨s.toArray⟩, .int .i64 (m : Int), .int .i64 E0] 136)));obtain ⟨T, hT⟩ : ∃ b, w1.heap.size = b := ⟨_, rfl⟩;have hTw : w.heap.size ≤ T := by rw [← hT]; exact hu1.le
  have hX1s : (w1.alloc (.cells #[.string ⟨s.toArray⟩, .int .i64 (m : Int), .int .i64 E0] 136)).heap.size = T + 1 := by rw [World.size_alloc, hT]
  obtain ⟨X1, hX1⟩ : ∃ x, w1.alloc (.cells #[.string ⟨s.toArray⟩, .int .i64 (m : Int), .int .i64 E0] 136) = x := ⟨_, rfl⟩;rw [hX1] at q0 HU1 hX1s;rw [hT] at q0;have q1 := blkc q0 1 (.int .i64 (m : Int)) rfl;have q2 := blkc q0 2 (.int .i64 E0) rfl;have z2 := blkf q0 2;by_cases hE : E0 = 0
  · subst hE;have hok := getV_ok (t := s) (by rw [hr]);rw [hr] at hok;have hself := setCell_self q0 (k := 2) (v := .int .i64 0) rfl;by_cases hn : 4096 < n
    · have hD : decD s = (21, []) := by unfold decD; rw [if_neg hlong, hr, if_neg (by simp), if_pos hn]
      obtain rfl := hDD.symm.trans hD;have t1 : (4096 : Int) < (n : Int) := by omega
      go_wp2_with fail;change bodyPost _ _ _ _ _ _;refine bodyPost_ret (v := .tuple #[.slice none 0 0, .int .i64 0, .int .i64 21]) (by simp [results, Tryz.results25, go_sem]) rfl ?_; exact ddec_bad (by decide) 0 HU1.out
    · have t1 : ¬ (4096 : Int) < (n : Int) := by omega
      have hD := decD_go hlong hr hn;obtain ⟨R, hR⟩ : ∃ R, colsD 0 4 (List.replicate n zE) (s.drop m) = R := ⟨_, rfl⟩;rw [hR] at hD;obtain rfl := hDD.symm.trans hD;have mk := make_ent n (by omega) X1;have bq := heap_alloc_new X1 (.cells (entV (List.replicate n zE)).toArray 84);have hu2 := (Up.refl X1).alloc (.cells (entV (List.replicate n zE)).toArray 84);obtain ⟨X2, hX2⟩ : ∃ x, X1.alloc (.cells (entV (List.replicate n zE)).toArray 84) = x := ⟨_, rfl⟩;obtain ⟨B, hB⟩ : ∃ b, X1.heap.size = b := ⟨_, rfl⟩;rw [hX2] at mk bq hu2;rw [hB] at mk bq;have hTB : T ≠ B := by omega
      have hBw : w.heap.size ≤ B := by omega
      have ST : OutR w s T B n R 4 (.int .i64 0) X2 := ⟨0, m, List.replicate n zE, by omega, rfl, List.length_replicate, hok.2.2, fun x hx => by
        rw [List.eq_of_mem_replicate hx]; exact ⟨by decide, by decide, by decide, by decide⟩, hR, HU1.out.trans hu2, hu2.obj q0, bq⟩
      have STH := Lib.hid ST;clear bq hu2 HU1 ST hD hDD hR hok hX1s hr G0 hu1 q0;go_wp2_with fail;clear mk q1 q2 z2 hself hX1 hX2 hB hT;go_loopg [35] 4 (fun gk i wr => OutR w s T B n R gk i wr)
      case atStart => exact STH.out
      case round =>
        obtain ⟨c, a, L, hg, rfl, hLn, ha, hok, hR, hu, htb, hal⟩ := hrel;have HTB := Lib.hid htb;have HAL := Lib.hid hal;have HU := Lib.hid hu;have HOK := Lib.hid hok;have HR := Lib.hid hR;clear hu htb hal hok hR;by_cases hc4 : c < 4
        · obtain ⟨m', rfl⟩ : ∃ x, gk = x + 1 := ⟨gk - 1, by omega⟩;obtain ⟨Q, hQ⟩ : ∃ Q, colD c 0 zE L (s.drop a) = Q := ⟨_, rfl⟩;have nh := heap_alloc_new wr (.cells #[.int .u64 0, .int .u64 0, .int .u32 0, .int .u32 0] 84);have hun := (Up.refl wr).alloc (.cells #[.int .u64 0, .int .u64 0, .int .u32 0, .int .u32 0] 84);have hTl := (Array.getElem?_eq_some_iff.1 HTB.out).1;have hBl := (Array.getElem?_eq_some_iff.1 HAL.out).1;have hwl := HU.out.le;obtain ⟨H, hH⟩ : ∃ b, wr.heap.size = b := ⟨_, rfl⟩;obtain ⟨Wa, hWa⟩ : ∃ x, wr.alloc (.cells #[.int .u64 0, .int .u64 0, .int .u32 0, .int .u32 0] 84) = x := ⟨_, rfl⟩;rw [hWa] at nh hun;rw [hH] at nh hTl hBl hwl;have IN : InR w s T H B n c L Q n (.int .i64 0) Wa := ⟨0, a, zE, L, by omega, rfl, hLn, ha, HOK.out, rfl, by rw [List.drop_zero, hQ]; simp, HU.out.trans hun, hTw, hwl, hBw, by omega, hTB, by omega, hun.obj HTB.out, nh, hun.obj HAL.out⟩;have INH := Lib.hid IN;have c1 : (c : Int) < 4 := by omega
          clear IN nh hun hTl hBl hwl HTB HAL HU HOK;go_wp2_with fail;clear hWa hH;go_loopg [40] n (fun gj j wx => InR w s T H B n c L Q gj j wx)
          case atStart => exact INH.out
          case round =>
            rename World => wx
            obtain ⟨k, a2, e, L', hk, rfl, hLn', ha2, hok', hdr, hq, hd⟩ := hrel;have HD := Lib.hid hd;have HDR := Lib.hid hdr;have HQ := Lib.hid hq;have HOK' := Lib.hid hok';clear hd hdr hq hok';by_cases hlt : k < n
            · obtain ⟨j2, rfl⟩ : ∃ x, gk = x + 1 := ⟨gk - 1, by omega⟩;have hkl : k < L'.length := by omega
              have hdx : L.drop k = L'[k] :: L'.drop (k + 1) := by rw [← HDR.out]; exact List.drop_eq_getElem_cons hkl
              have hdx2 : L'.drop (k + 1) = L.drop (k + 1) := by
                have := congrArg (List.drop 1) HDR.out;rw [List.drop_drop, List.drop_drop] at this;exact this
              obtain ⟨⟨E1, v, m1⟩, hr1⟩ : ∃ r, getV (s.drop a2) = r := ⟨_, rfl⟩;have G1 := GT a2 ha2 wx;rw [hr1] at G1;simp only at G1;obtain ⟨a3, ha3⟩ : ∃ x, a2 + m1 = x := ⟨_, rfl⟩;rw [ha3] at G1;have u0 := blkc HD.out.tb 0 (.string ⟨s.toArray⟩) rfl;have u1 := blkc HD.out.tb 1 (.int .i64 (a2 : Int)) rfl;have u2 := blkc HD.out.tb 2 (.int .i64 0) rfl;have kI : (k : Int) < (n : Int) := by omega
              go_wp2_with fail;refine G1.out.mono ?_;rintro e5 w5 ⟨rfl, hu5⟩;have hu6 := (Up.refl w5).alloc (.cells #[.string ⟨s.toArray⟩, .int .i64 (a3 : Int), .int .i64 E1] 136);have q0 := heap_alloc_new w5 (.cells #[.string ⟨s.toArray⟩, .int .i64 (a3 : Int), .int .i64 E1] 136);obtain ⟨U, hU⟩ : ∃ b, w5.heap.size = b := ⟨_, rfl⟩;have hd5 := HD.out.more hu5;have hTU : T < U := by rw [← hU]; exact (Array.getElem?_eq_some_iff.1 hd5.tb).1
              have hHU : H < U := by rw [← hU]; exact (Array.getElem?_eq_some_iff.1 hd5.ah).1
              have hBU : B < U := by rw [← hU]; exact (Array.getElem?_eq_some_iff.1 hd5.all).1
              obtain ⟨X, hX⟩ : ∃ x, w5.alloc (.cells #[.string ⟨s.toArray⟩, .int .i64 (a3 : Int), .int .i64 E1] 136) = x := ⟨_, rfl⟩;rw [hX] at q0 hu6;rw [hU] at q0;have HD6 := Lib.hid (hd5.more hu6);have Q0 := Lib.hid q0;have p2 := blkc q0 2 (.int .i64 E1) rfl;have y2 := blkf q0 2;have u1' := blkc HD6.out.tb 1 (.int .i64 (a2 : Int)) rfl;clear hd5 hu5 hu6 u0 u1 u2 G1 HD;by_cases hE1 : E1 = 0
              · subst hE1;have hself := setCell_self q0 (k := 2) (v := .int .i64 0) rfl;have hvo := getV_ok (t := s.drop a2) (by rw [hr1]);rw [hr1] at hvo;simp only [List.length_drop] at hvo;obtain ⟨⟨E2, e2⟩, hS⟩ : ∃ r, setE c k e L'[k] v = r := ⟨_, rfl⟩;have DS := Lib.hid (dset_any c hc4 k e B L' hkl v hvo.1 X.drew HD6.out.all);unfold SetE at DS;rw [hS] at DS;simp only at DS;have h0 := blkc HD6.out.ah 0 (.int .u64 (e.id : Int)) rfl;have h1 := blkc HD6.out.ah 1 (.int .u64 (e.off : Int)) rfl;have h2 := blkc HD6.out.ah 2 (.int .u32 (e.len : Int)) rfl;have h3 := blkc HD6.out.ah 3 (.int .u32 (e.run : Int)) rfl;clear q0;go_wp2_with fail;clear hself p2 y2 hX hU;refine wp_region_held_drew (S := fun w' => (w'.cell? ⟨H, 0, none⟩ = some (.int .u64 (e.id : Int)) ∧ w'.cell? ⟨H, 1, none⟩ = some (.int .u64 (e.off : Int)) ∧ w'.cell? ⟨H, 2, none⟩ = some (.int .u32 (e.len : Int)) ∧ w'.cell? ⟨H, 3, none⟩ = some (.int .u32 (e.run : Int)))) (by kernel_rfl) ⟨h0, h1, h2, h3⟩ (fun hHeld => ?_);refine tk 0 rfl ?_;(try simp only [Act.put, tz1, tz2, tz3]);refine tk 1 rfl ?_;(try simp only [Act.put, tz1, tz2, tz3]);refine tk 2 rfl ?_;(try simp only [Act.put, tz1, tz2, tz3]);refine tk 3 rfl ?_;(try simp only [Act.put, tz1, tz2, tz3]);refine tk 4 rfl ?_;(try simp only [Act.put, tz1, tz2, tz3]);refine tk 5 rfl ?_;(try simp only [Act.put, tz1, tz2, tz3]);refine tk 6 rfl ?_;(try simp only [Act.put, tz1, tz2, tz3])

                refine rd1 7 rfl (fun K hK => ?_);clear hHeld;go_simp;go_at_call 62;refine DS.out.mono ?_;rintro e6 w6 ⟨rfl, hk6, hb6⟩;have hah6 := (hk6.block H (Array.getElem?_eq_some_iff.1 HD6.out.ah).1 (by intro e; injection e with e; exact HD6.out.hb e)).trans HD6.out.ah;have htb6 := (hk6.block T (Array.getElem?_eq_some_iff.1 HD6.out.tb).1 (by intro e; injection e with e; exact HD6.out.tB e)).trans HD6.out.tb;have hq6 := (hk6.block U (Array.getElem?_eq_some_iff.1 Q0.out).1 (by intro e; injection e with e; omega)).trans Q0.out;have hup6 := Up.of ((HD6.out.up.drew).below.grown hk6 (HD6.out.up.drew).le (fun j e => by cases e; exact HD6.out.hB));refine hK.out _ _ ⟨blkc hah6 0 _ rfl, blkc hah6 1 _ rfl, blkc hah6 2 _ rfl, blkc hah6 3 _ rfl⟩ (fun hHeld => ?_);clear hK K;(try simp only [Act.put, tz1, tz2, tz3]);refine tk 8 rfl ?_;(try simp only [Act.put, tz1, tz2, tz3])

                refine wpAnyH_done (by kernel_rfl) ?_ _;clear hHeld h0 h1 h2 h3 DS;by_cases hE2 : E2 = 0
                · subst hE2;have hd7 := (HD6.out.more (Up.refl X).drew).row hk6 (hb6 rfl);have HD7 := Lib.hid hd7;have hkl2 : k < (L'.set k e2).length := by simpa using hkl
                  obtain ⟨f0, f1, f2, f3, fz⟩ := EB.cell hd7.all hkl2;simp only [List.getElem_set_self] at f0 f1 f2 f3;have g0 := blkc hq6 0 (.string ⟨s.toArray⟩) rfl;have g1 := blkc hq6 1 (.int .i64 (a3 : Int)) rfl;have g2 := blkc hq6 2 (.int .i64 0) rfl;have th1 : w6.drew.there H 0 4 := (World.there_drew _ _ _ _).2 (th_blk hd7.ah : World.there _ _ _ (#[.int .u64 (e.id : Int), .int .u64 (e.off : Int), .int .u32 (e.len : Int), .int .u32 (e.run : Int)] : Array Value).size);have th2 := World.there_setCells (n := 3) ((World.there_drew _ _ _ _).2 (th_blk hd7.tb : World.there _ _ _ (#[.string ⟨s.toArray⟩, .int .i64 (a2 : Int), .int .i64 0] : Array Value).size)) H 0 [.int .u64 (e2.id : Int), .int .u64 (e2.off : Int), .int .u32 (e2.len : Int), .int .u32 (e2.run : Int)];have HD8 := Lib.hid ((hd7.more (Up.refl w6).drew).step e2 a3);have sb : ∀ (j : Nat) (v : Value), w6.drew.cell? ⟨B, j, none⟩ = some v → (w6.drew.setCells H 0 [.int .u64 (e2.id : Int), .int .u64 (e2.off : Int), .int .u32 (e2.len : Int), .int .u32 (e2.run : Int)]).cell? ⟨B, j, none⟩ = some v := fun j v h => (World.cell?_of_block (sc_other _ _ 0 B (fun e => hd7.hb e.symm))).trans h;have su : ∀ (j : Nat) (v : Value), w6.drew.cell? ⟨U, j, none⟩ = some v → (w6.drew.setCells H 0 [.int .u64 (e2.id : Int), .int .u64 (e2.off : Int), .int .u32 (e2.len : Int), .int .u32 (e2.run : Int)]).cell? ⟨U, j, none⟩ = some v := fun j v h => (World.cell?_of_block (sc_other _ _ 0 U (by omega))).trans h;obtain ⟨Y1, hY1⟩ : ∃ y, w6.drew.setCells H 0 [.int .u64 (e2.id : Int), .int .u64 (e2.off : Int), .int .u32 (e2.len : Int), .int .u32 (e2.run : Int)] = y := ⟨_, rfl⟩;rw [hY1] at th2 sb su HD8;have sb2 : ∀ (j : Nat) (v : Value), Y1.cell? ⟨B, j, none⟩ = some v → (Y1.setCells T 0 [.string ⟨s.toArray⟩, .int .i64 (a3 : Int), .int .i64 0]).cell? ⟨B, j, none⟩ = some v := fun j v h => (World.cell?_of_block (sc_other _ _ 0 B (fun e => hd7.tB e.symm))).trans h;have su2 : ∀ (j : Nat) (v : Value), Y1.cell? ⟨U, j, none⟩ = some v → (Y1.setCells T 0 [.string ⟨s.toArray⟩, .int .i64 (a3 : Int), .int .i64 0]).cell? ⟨U, j, none⟩ = some v := fun j v h => (World.cell?_of_block (sc_other _ _ 0 U (by omega))).trans h;obtain ⟨Y2, hY2⟩ : ∃ y, Y1.setCells T 0 [.string ⟨s.toArray⟩, .int .i64 (a3 : Int), .int .i64 0] = y := ⟨_, rfl⟩;rw [hY2] at sb2 su2 HD8;have SB := Lib.hid sb;have SU := Lib.hid su;have SB2 := Lib.hid sb2;have SU2 := Lib.hid su2;have HY1 := Lib.hid hY1;have HY2 := Lib.hid hY2;clear sb su sb2 su2 hd7 hah6 htb6 hq6 hk6 hb6 hY1 hY2 fz;go_wp2_with fail;refine wp_region_held_drew (S := fun w' => (w'.cell? ⟨B, k * 4, none⟩ = some (.int .u64 (e2.id : Int)) ∧ w'.cell? ⟨B, k * 4 + 1, none⟩ = some (.int .u64 (e2.off : Int)) ∧ w'.cell? ⟨B, k * 4 + 2, none⟩ = some (.int .u32 (e2.len : Int)) ∧ w'.cell? ⟨B, k * 4 + 3, none⟩ = some (.int .u32 (e2.run : Int)) ∧ w'.cell? ⟨U, 0, none⟩ = some (.string ⟨s.toArray⟩) ∧ w'.cell? ⟨U, 1, none⟩ = some (.int .i64 (a3 : Int)) ∧ w'.cell? ⟨U, 2, none⟩ = some (.int .i64 0))) (by kernel_rfl) ⟨f0, f1, f2, f3, g0, g1, g2⟩ (fun hHeld => ?_);refine tk 0 rfl ?_;(try simp only [Act.put, tz1, tz2, tz3]);refine tk 1 rfl ?_;(try simp only [Act.put, tz1, tz2, tz3]);refine tk 2 rfl ?_;(try simp only [Act.put, tz1, tz2, tz3]);refine tk 3 rfl ?_;(try simp only [Act.put, tz1, tz2, tz3]);refine tk 4 rfl ?_;(try simp only [Act.put, tz1, tz2, tz3])

                  refine rd1 5 rfl (fun K hK => ?_);clear hHeld;refine wp_store_mid 84 _ _ rfl H 0 #[.int .u64 (e2.id : Int), .int .u64 (e2.off : Int), .int .u32 (e2.len : Int), .int .u32 (e2.run : Int)] rfl rfl th1 (by kernel_rfl) (by simp [Value.oneCell']) ?_;rw [HY1.out];have r0 := SB.out _ _ f0;have r1 := SB.out _ _ f1;have r2 := SB.out _ _ f2;have r3 := SB.out _ _ f3;have x0 := SU.out _ _ g0;have x1 := SU.out _ _ g1;have x2 := SU.out _ _ g2;refine hK.out _ _ ⟨r0, r1, r2, r3, x0, x1, x2⟩ (fun hHeld => ?_);clear hK K hHeld;(try simp only [Act.put]);refine rd1 6 rfl (fun K hK => ?_);refine wp_store_mid 136 _ _ rfl T 0 #[.string ⟨s.toArray⟩, .int .i64 (a3 : Int), .int .i64 0] rfl rfl th2 (by kernel_rfl) (by simp [Value.oneCell']) ?_;rw [HY2.out];refine hK.out _ _ ⟨SB2.out _ _ r0, SB2.out _ _ r1, SB2.out _ _ r2, SB2.out _ _ r3, SU2.out _ _ x0, SU2.out _ _ x1, SU2.out _ _ x2⟩ (fun hHeld => ?_);clear hK K hHeld r0 r1 r2 r3 x0 x1 x2 f0 f1 f2 f3 g0 g1 g2 th1 th2;(try simp only [Act.put]);refine wpAnyH_done (by kernel_rfl) ?_ _;have hgo := colD_go (r := L'.drop (k + 1)) (t := s.drop a2) (by rw [hr1]) (by rw [hr1]; show (setE c k e L'[k] v).1 = 0; rw [hS]);rw [hr1] at hgo;simp only at hgo;rw [hS] at hgo;simp only at hgo;rw [List.drop_drop, ha3] at hgo;have hq2 := HQ.out;rw [hdx, hgo] at hq2;have NEW : InR w s T H B n c L Q j2 (.int .i64 ((k + 1 : Nat) : Int)) Y2 := by
                    refine ⟨k + 1, a3, e2, L'.set k e2, by omega, rfl, by simpa using hLn', by omega, fun z hz => ?_, by rw [List.drop_set_of_lt (by omega)]; exact hdx2, ?_, HD8.out⟩
                    · rcases List.mem_or_eq_of_mem_set hz with h | h
                      · exact HOK'.out z h
                      · rw [h];have := setE_ok (c := c) (i := k) (a := e) (x := v) (HOK'.out _ (List.getElem_mem hkl));rw [hS] at this;exact this
                    · rw [hq2, ← hdx2];simp only;rw [List.take_succ_eq_append_getElem (by simpa using hkl), List.take_set_of_le (by omega), List.getElem_set_self, List.append_assoc];rfl
                  have NEWH := Lib.hid NEW;clear NEW hq2 hgo;go_wp2_with fail;go_roundg j2
                  case measure => omega
                  case rel => exact NEWH.out
                · have hEb : (E2 == 0) = false := by rw [beq_eq_false_iff_ne]; exact hE2
                  have t61 := blkc htb6 1 (.int .i64 (a2 : Int)) rfl;go_wp2_with fail;refine wp_region_held_drew (S := fun w' => w'.cell? ⟨T, 1, none⟩ = some (.int .i64 (a2 : Int))) (by kernel_rfl) t61 (fun hHeld => ?_);refine tk 0 rfl ?_;(try simp only [Act.put, tz1, tz2, tz3]);refine tk 1 rfl ?_;(try simp only [Act.put, tz1, tz2, tz3]);refine tk 2 rfl ?_;(try simp only [Act.put, tz1, tz2, tz3]);refine tk 3 rfl ?_;(try simp only [Act.put, tz1, tz2, tz3]);refine tk 4 rfl ?_;(try simp only [Act.put, tz1, tz2, tz3]);refine tk 5 rfl ?_;(try simp only [Act.put, tz1, tz2, tz3]);refine wpAnyH_done (by kernel_rfl) ?_ _;clear hHeld

                  go_wp2_with fail;change bodyPost _ _ _ _ _ _;refine bodyPost_ret (v := .tuple #[.slice none 0 0, .int .i64 (a2 : Int), .int .i64 E2]) (by simp [results, Tryz.results25, go_sem]) rfl ?_

                  have hRE : R = (E2, [], []) := by
                    have h1 := HQ.out;rw [hdx, colD_err2 (by rw [hr1]) (by rw [hr1]; show (setE c k e L'[k] v).1 ≠ 0; rw [hS]; exact hE2), hr1] at h1;simp only at h1;rw [hS] at h1;rw [← HR.out, show 4 - c = (3 - c) + 1 by omega, cols_err hQ (by rw [h1]; exact hE2), h1]
                  rw [hRE, endD_err hE2];exact ddec_bad hE2 _ hup6.drew
              · have hEb : (E1 == 0) = false := by rw [beq_eq_false_iff_ne]; exact hE1
                clear q0;go_wp2_with fail;refine wp_region_held_drew (S := fun w' => (w'.cell? ⟨T, 1, none⟩ = some (.int .i64 (a2 : Int)) ∧ w'.cell? ⟨U, 2, none⟩ = some (.int .i64 E1))) (by kernel_rfl) ⟨u1', p2⟩ (fun hHeld => ?_);refine tk 0 rfl ?_;(try simp only [Act.put, tz1, tz2, tz3]);refine tk 1 rfl ?_;(try simp only [Act.put, tz1, tz2, tz3]);refine tk 2 rfl ?_;(try simp only [Act.put, tz1, tz2, tz3]);refine tk 3 rfl ?_;(try simp only [Act.put, tz1, tz2, tz3]);refine tk 4 rfl ?_;(try simp only [Act.put, tz1, tz2, tz3]);refine tk 5 rfl ?_;(try simp only [Act.put, tz1, tz2, tz3]);refine tk 6 rfl ?_;(try simp only [Act.put, tz1, tz2, tz3]);refine wpAnyH_done (by kernel_rfl) ?_ _;clear hHeld

                go_wp2_with fail;change bodyPost _ _ _ _ _ _;refine bodyPost_ret (v := .tuple #[.slice none 0 0, .int .i64 (a2 : Int), .int .i64 E1]) (by simp [results, Tryz.results25, go_sem]) rfl ?_

                have hRE : R = (E1, [], []) := by
                  have h1 := HQ.out;rw [hdx, colD_err1 (by rw [hr1]; exact hE1), hr1] at h1;rw [← HR.out, show 4 - c = (3 - c) + 1 by omega, cols_err hQ (by rw [h1]; exact hE1), h1]
                rw [hRE, endD_err hE1];exact ddec_bad hE1 _ HD6.out.up.drew
            · obtain rfl : gk = 0 := by omega
              have kI : ¬ (k : Int) < (n : Int) := by omega
              have h1 := HQ.out;rw [List.drop_eq_nil_of_le (by omega : L.length ≤ k)] at h1;have hz : colD c k e [] (s.drop a2) = (0, [], s.drop a2) := rfl;rw [hz] at h1;simp only [List.append_nil] at h1;rw [List.take_of_length_le (by omega)] at h1;have NEW : OutR w s T B n R m' (.int .i64 ((c + 1 : Nat) : Int)) wx := by
                refine ⟨c + 1, a2, L', by omega, rfl, hLn', ha2, HOK'.out, ?_, HD.out.up, HD.out.tb, HD.out.all⟩;rw [← HR.out, show 4 - c = (4 - (c + 1)) + 1 by omega, cols_go hQ (by rw [h1]), h1]
              have NEWH := Lib.hid NEW;clear NEW h1 hz;go_wp2_with fail;go_roundg m'
              case measure => omega
              case rel => exact NEWH.out
        · obtain rfl : gk = 0 := by omega
          have hc : c = 4 := by omega
          have c1 : ¬ (c : Int) < 4 := by omega
          have hR2 := HR.out;rw [hc] at hR2;have hz : colsD 4 (4 - 4) L (s.drop a) = (0, L, s.drop a) := rfl;rw [hz] at hR2;subst hR2;have u1 := blkc HTB.out 1 (.int .i64 (a : Int)) rfl;clear hc hz HR;by_cases hal : a < s.length
          · have t5 : (a : Int) < (s.length : Int) := by omega
            have hD : endD (0, L, s.drop a) = (4, []) := by
              unfold endD;rw [if_neg (by simp), if_pos];intro h;have := congrArg List.length h;simp only [List.length_drop, List.length_nil] at this;omega
            go_wp2_with fail;refine wp_region_held_drew (S := fun w' => w'.cell? ⟨T, 1, none⟩ = some (.int .i64 (a : Int))) (by kernel_rfl) u1 (fun hHeld => ?_);refine tk 0 rfl ?_;(try simp only [Act.put, tz1, tz2, tz3]);refine tk 1 rfl ?_;(try simp only [Act.put, tz1, tz2, tz3]);refine tk 2 rfl ?_;(try simp only [Act.put, tz1, tz2, tz3]);refine tk 3 rfl ?_;(try simp only [Act.put, tz1, tz2, tz3]);refine tk 4 rfl ?_;(try simp only [Act.put, tz1, tz2, tz3]);refine wpAnyH_done (by kernel_rfl) ?_ _;clear hHeld

            go_wp2_with fail;change bodyPost _ _ _ _ _ _;refine bodyPost_ret (v := .tuple #[.slice none 0 0, .int .i64 (a : Int), .int .i64 4]) (by simp [results, Tryz.results25, go_sem]) rfl ?_

            rw [hD];exact ddec_bad (by decide) _ HU.out.drew
          · have t5 : ¬ (a : Int) < (s.length : Int) := by omega
            have hdn : s.drop a = [] := List.drop_eq_nil_of_le (by omega);have RW := fun w hr => Lib.hid (row_any L HOK.out (by omega) (some ⟨B, 0, none⟩) L.length w hr);rw [hLn] at RW;obtain ⟨E3, hE3d⟩ : ∃ x, rowE L = x := ⟨_, rfl⟩;rw [hE3d] at RW;have hrd := HAL.out.rd (by omega);rw [hLn] at hrd;have HRD := Lib.hid hrd;clear hrd;go_wp2_with fail;refine (RW _ HRD.out).out.mono ?_;rintro e7 w7 ⟨rfl, hu7⟩;by_cases hE3 : E3 = 0
            · subst hE3;have hD : endD (0, L, s.drop a) = (0, L) := by
                unfold endD;rw [if_neg (by simp), if_neg (by simp [hdn]), if_neg (by simp [hE3d])]
              go_wp2_with fail;change bodyPost _ _ _ _ _ _;refine bodyPost_ret (v := .tuple #[.slice (some ⟨B, 0, none⟩) n n, .int .i64 (s.length : Int), .int .i64 0]) (by simp [results, Tryz.results25, go_sem]) rfl ?_;rw [hD];exact ⟨_, _, rfl, HU.out.trans hu7, fun _ => ⟨_, n, by rw [hLn], by show Rd w7 4 _ L.length _ _; rw [hLn]; exact HRD.out.up hu7⟩, fun h => absurd rfl h⟩
            · have hEb : (E3 == 0) = false := by rw [beq_eq_false_iff_ne]; exact hE3
              have hD : endD (0, L, s.drop a) = (E3, []) := by
                unfold endD;rw [if_neg (by simp), if_neg (by simp [hdn]), if_pos (by simp [hE3d]; exact hE3)];simp [hE3d]
              go_wp2_with fail;change bodyPost _ _ _ _ _ _;refine bodyPost_ret (v := .tuple #[.slice none 0 0, .int .i64 (s.length : Int), .int .i64 E3]) (by simp [results, Tryz.results25, go_sem]) rfl ?_

              rw [hD];exact ddec_bad hE3 _ (HU.out.trans hu7)
  · have hD : decD s = (E0, []) := by unfold decD; rw [if_neg hlong, hr, if_pos (by simpa using hE)]
    obtain rfl := hDD.symm.trans hD;have hEb : (E0 == 0) = false := by rw [beq_eq_false_iff_ne]; exact hE
    go_wp2_with fail;refine wp_region_held_drew (S := fun w' => w'.cell? ⟨T, 2, none⟩ = some (.int .i64 E0)) (by kernel_rfl) q2 (fun hHeld => ?_);refine tk 0 rfl ?_;(try simp only [Act.put, tz1, tz2, tz3]);refine tk 1 rfl ?_;(try simp only [Act.put, tz1, tz2, tz3]);refine tk 2 rfl ?_;(try simp only [Act.put, tz1, tz2, tz3]);refine tk 3 rfl ?_;(try simp only [Act.put, tz1, tz2, tz3]);refine tk 4 rfl ?_;(try simp only [Act.put, tz1, tz2, tz3]);refine wpAnyH_done (by kernel_rfl) ?_ _;clear hHeld

    go_wp2_with fail;change bodyPost _ _ _ _ _ _;refine bodyPost_ret (v := .tuple #[.slice none 0 0, .int .i64 0, .int .i64 E0]) (by simp [results, Tryz.results25, go_sem]) rfl ?_; exact ddec_bad hE 0 HU1.out.drew
end Go.Proofs.YtbfieomjobbhoaaGreatDoor
/- Plain: the entries of a directory are in bounds. -/
namespace Go.Gz
theorem setE_ok2 {c i : Nat} {a e : Ent} {x : Nat} (he : okE e) : okE (setE c i a e x).2 := by
  unfold okE at he ⊢;unfold setE nextE;split
  · exact ⟨Nat.mod_lt _ (by decide), he.2⟩
  · split
    · split
      · exact he
      · exact ⟨he.1, he.2.1, he.2.2.1, by simp only; omega⟩
    · split
      · split
        · exact he
        · exact ⟨he.1, he.2.1, by simp only; omega, he.2.2.2⟩
      · split
        · exact he
        · refine ⟨he.1, ?_, he.2.2⟩;simp only;split <;> exact Nat.mod_lt _ (by decide)
theorem colD_okE (c : Nat) : ∀ (l : Ents) (i : Nat) (a : Ent) (t : Bs), (∀ e ∈ l, okE e) → (colD c i a l t).1 = 0 → ∀ e ∈ (colD c i a l t).2.1, okE e := by
  intro l;induction l with
  | nil => intro i a t _ _ e he; simp [colD] at he
  | cons x r ih =>
    intro i a t hok h;by_cases h1 : (getV t).1 = 0
    · by_cases h2 : (setE c i a x (getV t).2.1).1 = 0
      · rw [colD_go h1 h2] at h ⊢;simp only at h ⊢;intro e he;rcases List.mem_cons.1 he with rfl | he
        · exact setE_ok2 (hok x (by simp))
        · exact ih _ _ _ (fun e he => hok e (by simp [he])) h e he
      · rw [colD_err2 h1 h2] at h;exact absurd h h2
    · rw [colD_err1 h1] at h;exact absurd h h1
theorem colsD_okE : ∀ (k c : Nat) (l : Ents) (t : Bs), (∀ e ∈ l, okE e) → (colsD c k l t).1 = 0 → ∀ e ∈ (colsD c k l t).2.1, okE e := by
  intro k;induction k with
  | zero => intro c l t hok _ e he; exact hok e he
  | succ k ih =>
    intro c l t hok h;by_cases hq : (colD c 0 zE l t).1 = 0
    · rw [cols_go rfl hq] at h ⊢;exact ih _ _ _ (colD_okE c l 0 zE t hok hq) h
    · rw [cols_err rfl hq] at h;exact absurd h hq
theorem decD_okE {s : Bs} (h : (decD s).1 = 0) : ∀ e ∈ (decD s).2, okE e := by
  unfold decD at h ⊢;split at h
  · simp at h
  · rename_i g1;split at h
    · contradiction
    · rename_i g2;split at h
      · simp at h
      · rename_i g3;rw [if_neg g1, if_neg g2, if_neg g3];have hz : ∀ e ∈ List.replicate (getV s).2.1 zE, okE e := fun e he => by
          rw [List.eq_of_mem_replicate he]; exact ⟨by decide, by decide, by decide, by decide⟩
        unfold endD at h ⊢;split at h
        · contradiction
        · rename_i g4;split at h
          · simp at h
          · rename_i g5;split at h
            · contradiction
            · rename_i g6;rw [if_neg g4, if_neg g5, if_neg g6];exact colsD_okE 4 0 _ _ hz (by omega)
end Go.Gz
/- Plain laws: the reference's loop over all numbers of a directory. -/
namespace Go.Gz
/-- where the loop stands: the i-th number, the entries so far, the place -/
structure InvD (n : Nat) (R : Int × Ents × Bs) (s : Bs) (i : Nat) (L : Ents) (a : Nat) : Prop where
  le : i ≤ 4 * n
  len : L.length = n
  ok : ∀ e ∈ L, okE e
  at_le : a ≤ s.length
  mid : i < 4 * n → resD (i / n) (i % n) L (s.drop a) = R
  fin : i = 4 * n → R = (0, L, s.drop a)
theorem cols_empty : ∀ (k c : Nat) (t : Bs), colsD c k [] t = (0, [], t)
  | 0, _, _ => rfl
  | k + 1, c, t => by
    have e : colD c 0 zE [] t = (0, [], t) := rfl;rw [colsD];simp only [e];simpa using cols_empty k (c + 1) t
theorem inv_0 (n : Nat) (s : Bs) (a : Nat) (ha : a ≤ s.length) : InvD n (colsD 0 4 (List.replicate n zE) (s.drop a)) s 0 (List.replicate n zE) a := by
  refine ⟨Nat.zero_le _, List.length_replicate, fun e he => ?_, ha, fun h => ?_, fun h => ?_⟩
  · rw [List.eq_of_mem_replicate he]; exact ⟨by decide, by decide, by decide, by decide⟩
  · rw [Nat.zero_div, Nat.zero_mod];exact res_0 0 (by omega) _ _
  · have : n = 0 := by omega
    subst this;exact cols_empty 4 0 _
theorem inv_err {n : Nat} {R : Int × Ents × Bs} {s : Bs} {i : Nat} {L : Ents} {a : Nat} (h : InvD n R s i L a) (hi : i < 4 * n) (hE : (getV (s.drop a)).1 ≠ 0) : R.1 = (getV (s.drop a)).1 := by
  have hn : 0 < n := by omega
  rw [← h.mid hi];exact res_err (by rw [h.len]; exact Nat.mod_lt _ hn) hE
theorem inv_k {n : Nat} {R : Int × Ents × Bs} {s : Bs} {i : Nat} {L : Ents} {a : Nat} (h : InvD n R s i L a) (hi : i < 4 * n) : i / n ≤ 3 ∧ i % n < L.length := by
  have hn : 0 < n := by omega
  refine ⟨?_, by rw [h.len]; exact Nat.mod_lt _ hn⟩;have := (Nat.div_lt_iff_lt_mul hn).2 hi;omega
theorem inv_err2 {n : Nat} {R : Int × Ents × Bs} {s : Bs} {i : Nat} {L : Ents} {a : Nat} (h : InvD n R s i L a) (hi : i < 4 * n) (hE : (getV (s.drop a)).1 = 0) (hk : i % n < L.length) (h2 : (setE (i / n) (i % n) (prevD L (i % n)) L[i % n] (getV (s.drop a)).2.1).1 ≠ 0) :
    R.1 = (setE (i / n) (i % n) (prevD L (i % n)) L[i % n] (getV (s.drop a)).2.1).1 := by
  rw [← h.mid hi];exact res_err2 hk hE h2
theorem inv_step {n : Nat} {R : Int × Ents × Bs} {s : Bs} {i : Nat} {L : Ents} {a : Nat} (h : InvD n R s i L a) (hi : i < 4 * n) (hE : (getV (s.drop a)).1 = 0) (hk : i % n < L.length) (h2 : (setE (i / n) (i % n) (prevD L (i % n)) L[i % n] (getV (s.drop a)).2.1).1 = 0) :
    InvD n R s (i + 1) (L.set (i % n) (setE (i / n) (i % n) (prevD L (i % n)) L[i % n] (getV (s.drop a)).2.1).2) (a + (getV (s.drop a)).2.2) := by
  have hn : 0 < n := by omega
  obtain ⟨c3, _⟩ := inv_k h hi;obtain ⟨o1, o2, o3⟩ := getV_ok hE;rw [List.length_drop] at o3;have hst := res_step hk hE h2;rw [h.mid hi, List.drop_drop] at hst;have hdm := Nat.div_add_mod i n;have hml := Nat.mod_lt i hn;generalize hc : i / n = c at *;generalize hkk : i % n = k at *;refine ⟨by omega, by rw [List.length_set]; exact h.len, fun e he => ?_, by have := h.at_le; omega, fun hi2 => ?_, fun hi2 => ?_⟩
  · rcases List.mem_or_eq_of_mem_set he with g | g
    · exact h.ok e g
    · subst g;exact setE_ok2 (h.ok _ (List.getElem_mem hk))
  · by_cases hk2 : k + 1 < n
    · have e1 : (i + 1) / n = c := by
        rw [show i + 1 = n * c + (k + 1) by omega, Nat.mul_add_div hn, Nat.div_eq_of_lt hk2, Nat.add_zero]
      have e2 : (i + 1) % n = k + 1 := by
        rw [show i + 1 = n * c + (k + 1) by omega, Nat.mul_add_mod, Nat.mod_eq_of_lt hk2]
      rw [e1, e2, hst, if_pos (by rw [h.len]; exact hk2)]
    · have hkn : k + 1 = n := by omega
      have e0 : i + 1 = n * (c + 1) := by rw [Nat.mul_add, Nat.mul_one]; omega
      have e1 : (i + 1) / n = c + 1 := by rw [e0, Nat.mul_div_cancel_left _ hn]
      have e2 : (i + 1) % n = 0 := by rw [e0, Nat.mul_mod_right]
      have hc3 : c + 1 ≤ 3 := by
        have : n * (c + 1) < n * 4 := by omega
        have := Nat.lt_of_mul_lt_mul_left this;omega
      rw [e1, e2, hst, if_neg (by rw [h.len]; omega), res_0 _ hc3, show 4 - (c + 1) = 3 - c by omega]
  · have hkn : k + 1 = n := by
      have : n * c ≤ n * 3 := Nat.mul_le_mul_left _ c3;omega
    have hc3 : c = 3 := by
      have e0 : n * (c + 1) = n * 4 := by rw [Nat.mul_add, Nat.mul_one]; omega
      have := Nat.eq_of_mul_eq_mul_left hn e0;omega
    rw [hst, if_neg (by rw [h.len]; omega), hc3];rfl
end Go.Gz
