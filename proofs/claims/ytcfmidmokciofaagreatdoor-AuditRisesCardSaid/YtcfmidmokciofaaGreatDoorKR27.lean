/- Walk: the audit's rules of the header (its sections). -/
import Derived.Test.YtcfmidmokciofaaGreatDoorKR22
import Derived.Test.YtcfmidmokciofaaGreatDoorKR26
namespace Go.Proofs.YtcfmidmokciofaaGreatDoor
open Go.RowKit Go.Gz Go.Maps
set_option maxRecDepth 100000
def secN (h : Hdr) : Nat → Nat × Nat
  | 0 => (h.r0, h.r1)
  | 1 => (h.m0, h.m1)
  | 2 => (h.l0, h.l1)
  | _ => (h.d0, h.d1)
def endN (h : Hdr) : Nat → Nat
  | 0 => 127
  | k + 1 => (secN h k).1 + (secN h k).2
def tightN (h : Hdr) : Nat → Bool
  | 0 => true
  | k + 1 => tightN h k && decide ((secN h k).1 = endN h k)
theorem tight_all (h : Hdr) (n : Nat) : (tightN h 4 && decide (endN h 4 = n)) = tightA h n := by
  rw [Bool.eq_iff_iff];simp only [tightN, endN, secN, tightA, Bool.and_eq_true, decide_eq_true_eq, Bool.true_and];omega
/-- the four sections as they stand in a row -/
def secA (h : Hdr) : Value := .agg #[.int .u64 (h.r0 : Int), .int .u64 (h.r1 : Int), .int .u64 (h.m0 : Int), .int .u64 (h.m1 : Int), .int .u64 (h.l0 : Int), .int .u64 (h.l1 : Int), .int .u64 (h.d0 : Int), .int .u64 (h.d1 : Int)]
theorem sec_ixk (h : Hdr) (k : Nat) (hk : k < 4) (w : World) : (Instr.index 160 (secA h) (.int .i64 (k : Int))).run Tryz.prog w = .ok (.agg #[.int .u64 ((secN h k).1 : Int), .int .u64 ((secN h k).2 : Int)]) w := by
  match k, hk with
  | 0, _ => exact sec_ix0 h.r0 h.r1 h.m0 h.m1 h.l0 h.l1 h.d0 h.d1 w
  | 1, _ => exact sec_ix1 h.r0 h.r1 h.m0 h.m1 h.l0 h.l1 h.d0 h.d1 w
  | 2, _ => exact sec_ix2 h.r0 h.r1 h.m0 h.m1 h.l0 h.l1 h.d0 h.d1 w
  | 3, _ => exact sec_ix3 h.r0 h.r1 h.m0 h.m1 h.l0 h.l1 h.d0 h.d1 w
theorem AuR.range {w : World} {B m c : Nat} {s : Bs} {h : Hdr} {F : Brk} (a : AuR w B m s h c F) : w.rangeAt B 1 [.int .u64 (h.r0 : Int), .int .u64 (h.r1 : Int), .int .u64 (h.m0 : Int), .int .u64 (h.m1 : Int), .int .u64 (h.l0 : Int), .int .u64 (h.l1 : Int), .int .u64 (h.d0 : Int), .int .u64 (h.d1 : Int), .int .u64 (h.adr : Int), .int .u64 (h.ent : Int), .int .u64 (h.con : Int), .bool h.clu, .int .u8 (h.inn : Int), .int .u8 (h.out : Int), .int .u8 (h.kind : Int), .int .i64 h.minz, .int .i64 h.maxz, .int .i64 h.minlon, .int .i64 h.minlat, .int .i64 h.maxlon, .int .i64 h.maxlat, .int .i64 h.zoom, .int .i64 h.lon, .int .i64 h.lat] := fun j v hv => by
  have hj : (auC s h m)[1 + j]? = some v := by
    have h24 : j < 24 := (List.getElem?_eq_some_iff.1 hv).1;unfold auC;rw [Nat.add_comm 1 j];have e : ∀ (x : Value) (l r : List Value), l[j]? = some v → (⟨x :: (l ++ r)⟩ : Array Value)[j + 1]? = some v := fun x l r hl => by
      show (List.toArray (x :: (l ++ r)))[j + 1]? = some v
      rw [List.getElem?_toArray, List.getElem?_cons_succ, List.getElem?_append_left (List.getElem?_eq_some_iff.1 hl).1];exact hl
    exact e _ _ [.map (some m)] hv
  exact a.at hj
/-- what notes.Take tells -/
def NtE (w : World) (t : Bs) (e : Ending) (w' : World) : Prop := ∃ (v V : Value) (n er : Int) (b : Bool), e = .returned (.tuple #[v, .int .i64 n, .int .i64 er]) ∧ (∀ w, (Instr.typeAssert v 20 112 true).run Tryz.prog w = .ok (.tuple #[V, .bool b]) w) ∧ (decide (er = 0) && b) = noteA t ∧ Up w w'
/-- the loop over the sections -/
def ScR (w : World) (B m c : Nat) (s : Bs) (h : Hdr) (F : Brk) (gk : Nat) (v5 v6 i : Value) (wr : World) : Prop :=
  ∃ k : Nat, k + gk = 4 ∧ v5 = .int .u64 (endN h k : Int) ∧ v6 = .bool (tightN h k) ∧ i = .int .i64 (k : Int) ∧ AuR wr B m s h c F ∧ Tw [m] w wr
set_option maxHeartbeats 8000000 in
theorem asec_any (B m c : Nat) (s : Bs) (hs : s.length ≤ 1000000000) (h : Hdr) (b : Int) (hb1 : -9223372036854775808 ≤ b) (hb2 : b ≤ 9223372036854775807) (hS : ∀ k, (secN h k).1 + (secN h k).2 ≤ 1099511627776) (hc : c ≤ 900000000) (w : World) (a : AuR w B m s h c zB)
    (LD : ∀ w, Hid (Calls Tryz.prog 72 #[hdrV h, .int .u64 (s.length : Int)] w fun e w' => e = .returned (.int .i64 (laidE h s.length)) ∧ Up w w'))
    (NT : ∀ w', Tw [m] w w' → Hid (Calls Tryz.prog 48 #[.string ⟨(secT s h.m0 h.m1).toArray⟩] w' (NtE w' (secT s h.m0 h.m1)))) :
    Calls Tryz.prog 32 #[.pointer (some ⟨B, 0, none⟩), .int .i64 b] w fun e w' => (∃ v, e = .returned v) ∧ AuR w' B m s h (c + 5) (secF s h b) ∧ Tw [m] w w' := by
  have HH := fun c r (hr : r < 256) z hz F g hc w a => Lib.hid (aholdz_any B m c s h F r hr z hz g hc w a);have TX := fun w3 c3 F3 (a3 : AuR w3 B m s h c3 F3) => Lib.hid (atext_any B m c3 s hs h F3 h.m0 h.m1 (hS 1) w3 a3);have e3 : IntKind.u64.wrap (s.length : Int) = (s.length : Int) := IntWalk.u64_in _ (by omega);have c0 : w.cell? ⟨B, 0, none⟩ = some (.string ⟨s.toArray⟩) := a.at rfl;have hss : (⟨s.toArray⟩ : ByteArray).size = s.length := by simp [ByteArray.size]
  have A0 := Lib.hid a;have T0 := Lib.hid (Tw.refl [m] w);obtain ⟨LE, hLE⟩ : ∃ x, laidE h s.length = x := ⟨_, rfl⟩;rw [hLE] at LD;simp only [hdrV] at LD;have hLd : (LE == 0) = decide (LE = 0) := by by_cases hE : LE = 0 <;> simp [hE]
  have hgoal : secF s h b = hold (hold (hold (hold (hold zB 2 (decide (LE = 0))) 3 (tightA h s.length)) 4 (codecA h)) 5 (noteA (secT s h.m0 h.m1))) 6 (decide (0 ≤ b ∧ (h.r1 : Int) ≤ b)) := by unfold secF; rw [hLE]
  rw [hgoal];obtain ⟨FF, hFF⟩ : ∃ FF, hold (hold (hold (hold (hold zB 2 (decide (LE = 0))) 3 (tightA h s.length)) 4 (codecA h)) 5 (noteA (secT s h.m0 h.m1))) 6 (decide (0 ≤ b ∧ (h.r1 : Int) ≤ b)) = FF := ⟨_, rfl⟩;rw [hFF];have HFF := Lib.hid hFF;clear a hLE hgoal hFF;go_enter Tryz.func32, Tryz.ntmps32;go_wp2_with (refine wpList_load_mid rfl 83 _ rfl B 1 rfl [.int .u64 (h.r0 : Int), .int .u64 (h.r1 : Int), .int .u64 (h.m0 : Int), .int .u64 (h.m1 : Int), .int .u64 (h.l0 : Int), .int .u64 (h.l1 : Int), .int .u64 (h.d0 : Int), .int .u64 (h.d1 : Int), .int .u64 (h.adr : Int), .int .u64 (h.ent : Int), .int .u64 (h.con : Int), .bool h.clu, .int .u8 (h.inn : Int), .int .u8 (h.out : Int), .int .u8 (h.kind : Int), .int .i64 h.minz, .int .i64 h.maxz, .int .i64 h.minlon, .int .i64 h.minlat, .int .i64 h.maxlon, .int .i64 h.maxlat, .int .i64 h.zoom, .int .i64 h.lon, .int .i64 h.lat] _ A0.out.range Tryz.underlying83 rfl (by kernel_rfl) ?_)
  with_reducible refine (LD _).out.mono ?_
  rintro e w1 ⟨rfl, hu1⟩;have A1 := Lib.hid (A0.out.up hu1);have T1 := Lib.hid (Tw.up (S := [m]) hu1);clear hu1 A0 T0 c0 LD;go_wp2_with (go_at_call 71; (with_reducible refine (HH _ 2 (by decide) 2 rfl _ _ (by omega) _ A1.out).out.mono ?_); rintro e w2 ⟨⟨v2, rfl⟩, a2, t2⟩; have A2 := Lib.hid a2; have T2 := Lib.hid (T1.out.trans t2); clear a2 t2 A1 T1)
  clear hLd;have hA2 := A2.out.up (Up.refl w2).drew;have k1 : w2.drew.cell? ⟨B, 1, none⟩ = some (.int .u64 (h.r0 : Int)) := hA2.at rfl;have k2 : w2.drew.cell? ⟨B, 2, none⟩ = some (.int .u64 (h.r1 : Int)) := hA2.at rfl;have k3 : w2.drew.cell? ⟨B, 3, none⟩ = some (.int .u64 (h.m0 : Int)) := hA2.at rfl;have k4 : w2.drew.cell? ⟨B, 4, none⟩ = some (.int .u64 (h.m1 : Int)) := hA2.at rfl;have k5 : w2.drew.cell? ⟨B, 5, none⟩ = some (.int .u64 (h.l0 : Int)) := hA2.at rfl;have k6 : w2.drew.cell? ⟨B, 6, none⟩ = some (.int .u64 (h.l1 : Int)) := hA2.at rfl;have k7 : w2.drew.cell? ⟨B, 7, none⟩ = some (.int .u64 (h.d0 : Int)) := hA2.at rfl;have k8 : w2.drew.cell? ⟨B, 8, none⟩ = some (.int .u64 (h.d1 : Int)) := hA2.at rfl;have hSS : (fun w' : World => w'.cell? ⟨B, 1, none⟩ = some (.int .u64 (h.r0 : Int)) ∧ w'.cell? ⟨B, 2, none⟩ = some (.int .u64 (h.r1 : Int)) ∧ w'.cell? ⟨B, 3, none⟩ = some (.int .u64 (h.m0 : Int)) ∧ w'.cell? ⟨B, 4, none⟩ = some (.int .u64 (h.m1 : Int)) ∧ w'.cell? ⟨B, 5, none⟩ = some (.int .u64 (h.l0 : Int)) ∧ w'.cell? ⟨B, 6, none⟩ = some (.int .u64 (h.l1 : Int)) ∧ w'.cell? ⟨B, 7, none⟩ = some (.int .u64 (h.d0 : Int)) ∧ w'.cell? ⟨B, 8, none⟩ = some (.int .u64 (h.d1 : Int))) w2.drew := ⟨k1, k2, k3, k4, k5, k6, k7, k8⟩;clear k1 k2 k3 k4 k5 k6 k7 k8 hA2;go_wp2_with fail;go_region_held3 (fun w' => w'.cell? ⟨B, 1, none⟩ = some (.int .u64 (h.r0 : Int)) ∧ w'.cell? ⟨B, 2, none⟩ = some (.int .u64 (h.r1 : Int)) ∧ w'.cell? ⟨B, 3, none⟩ = some (.int .u64 (h.m0 : Int)) ∧ w'.cell? ⟨B, 4, none⟩ = some (.int .u64 (h.m1 : Int)) ∧ w'.cell? ⟨B, 5, none⟩ = some (.int .u64 (h.l0 : Int)) ∧ w'.cell? ⟨B, 6, none⟩ = some (.int .u64 (h.l1 : Int)) ∧ w'.cell? ⟨B, 7, none⟩ = some (.int .u64 (h.d0 : Int)) ∧ w'.cell? ⟨B, 8, none⟩ = some (.int .u64 (h.d1 : Int))) (first | assumption | exact hSS) (fail)
  have A3 := Lib.hid (A2.out.up (Up.refl w2).drew);have T3 := Lib.hid (T2.out.trans (Tw.up (Up.refl w2).drew));clear hSS A2 T2;generalize w2.drew = w3 at *;go_wp2_with fail;go_loopg [5, 6, 50] 4 (fun gk v5 v6 i wr => ScR w3 B m (c + 1) s h (hold zB 2 (decide (LE = 0))) gk v5 v6 i wr)
  case atStart => exact ⟨0, rfl, rfl, rfl, rfl, A3.out, Tw.refl _ _⟩
  case round =>
    obtain ⟨k, hk, rfl, rfl, rfl, ha, ht⟩ := hrel;have HA := Lib.hid ha;have HT := Lib.hid ht;clear ha ht;by_cases hlt : k < 4
    · obtain ⟨gn, rfl⟩ : ∃ x, gk = x + 1 := ⟨gk - 1, by omega⟩;have ix := sec_ixk h k hlt wr;simp only [secA] at ix;have hv5 : endN h (k + 1) = (secN h k).1 + (secN h k).2 := rfl;have hv6 : tightN h (k + 1) = (tightN h k && decide ((secN h k).1 = endN h k)) := rfl;have hb := hS k;obtain ⟨⟨f, n2⟩, hfn⟩ : ∃ x, secN h k = x := ⟨_, rfl⟩;rw [hfn] at ix hv5 hv6 hb;simp only at ix hv5 hv6 hb;have HV5 := Lib.hid hv5;have SE := fun w => Lib.hid (send_any f n2 (by omega) w);have z0 : (wr.alloc (.cells #[.int .u64 (f : Int), .int .u64 (n2 : Int)] 81)).cell? ⟨wr.heap.size, 0, none⟩ = some (.int .u64 (f : Int)) := by simp
      have z1 : (wr.alloc (.cells #[.int .u64 (f : Int), .int .u64 (n2 : Int)] 81)).cell? ⟨wr.heap.size, 1, none⟩ = some (.int .u64 (n2 : Int)) := by simp
      have UN := Lib.hid ((Up.refl wr).alloc (.cells #[.int .u64 (f : Int), .int .u64 (n2 : Int)] 81));generalize endN h k = E at *;have eqb : ((f : Int) == (E : Int)) = decide (f = E) := by rw [Bool.eq_iff_iff]; simp; omega
      have kI : (k : Int) < 4 := by omega
      generalize tightN h k = T at *;have HV6 := Lib.hid hv6;clear hv5 hv6 hfn hb;cases T with
      | true =>
        go_wp2_with fail;with_reducible refine (SE _).out.mono ?_
        rintro e w4 ⟨rfl, hu4⟩;go_wp2_with fail;go_roundg gn
        case measure => omega
        case rel => exact ⟨k + 1, by omega, (by rw [HV5.out, Int.natCast_add]), (by rw [HV6.out]; rfl), by go_num, HA.out.up (UN.out.trans hu4), HT.out.trans (Tw.up (UN.out.trans hu4))⟩
      | false =>
        go_wp2_with fail;with_reducible refine (SE _).out.mono ?_
        rintro e w4 ⟨rfl, hu4⟩;go_wp2_with fail;go_roundg gn
        case measure => omega
        case rel => exact ⟨k + 1, by omega, (by rw [HV5.out, Int.natCast_add]), (by rw [HV6.out]; rfl), by go_num, HA.out.up (UN.out.trans hu4), HT.out.trans (Tw.up (UN.out.trans hu4))⟩
    · obtain rfl : k = 4 := by omega
      obtain rfl : gk = 0 := by omega
      have hti := tight_all h s.length;generalize endN h 4 = E at *;generalize tightN h 4 = T at *;have eqn : ((E : Int) == (s.length : Int)) = decide (E = s.length) := by rw [Bool.eq_iff_iff]; simp; omega
      have T4 := Lib.hid (T3.out.trans HT.out);have A4 := HA;clear HA HT A3 T3 hlt;have hcod : (h.inn = 1 ∧ h.out = 1) ∨ (h.inn = 1 ∧ ¬ h.out = 1) ∨ ¬ h.inn = 1 := by by_cases h1 : h.inn = 1 <;> by_cases h2 : h.out = 1 <;> simp [h1, h2]
      have H3 : Hid ((T && decide (E = s.length)) = tightA h s.length) := Lib.hid hti;clear hti;obtain ⟨g3, hg3⟩ : ∃ g, (T && decide (E = s.length)) = g := ⟨_, rfl⟩;rw [hg3] at H3;have hTT : (T = true ∧ decide (E = s.length) = g3) ∨ (T = false ∧ g3 = false) := by cases T <;> simp_all
      clear hg3;obtain ⟨g4, hg4⟩ : ∃ g, codecA h = g := ⟨_, rfl⟩;have HG4 := Lib.hid hg4;clear hg4;rcases hTT with ⟨rfl, hg3⟩ | ⟨rfl, rfl⟩ <;> rcases hcod with ⟨hi, ho⟩ | ⟨hi, ho⟩ | hi;all_goals
        have i1 : ((h.inn : Int) == 1) = decide (h.inn = 1) := by rw [Bool.eq_iff_iff]; simp; omega
        have i2 : ((h.out : Int) == 1) = decide (h.out = 1) := by rw [Bool.eq_iff_iff]; simp; omega
        have hcc := HG4.out;unfold codecA at hcc;first | rw [decide_eq_true hi] at i1 | rw [decide_eq_false hi] at i1
        try first | rw [decide_eq_true ho] at i2 | rw [decide_eq_false ho] at i2
        have HCC : Hid (g4 = decide (h.inn = 1 ∧ h.out = 1 ∧ h.clu = true)) := Lib.hid hcc.symm;clear hcc;try rw [hg3] at eqn
        try clear hg3
        go_wp2_with (go_at_call 71; (with_reducible refine (HH _ 3 (by decide) 3 rfl _ _ (by omega) _ A4.out).out.mono ?_); rintro e w5 ⟨⟨v5, rfl⟩, a5, t5⟩; have A5 := Lib.hid a5; have T5 := Lib.hid (T4.out.trans t5); have c12 : w5.cell? ⟨B, 12, none⟩ = some (.bool h.clu) := A5.out.at rfl; have c13 : w5.cell? ⟨B, 13, none⟩ = some (.int .u8 (h.inn : Int)) := A5.out.at rfl; have c14 : w5.cell? ⟨B, 14, none⟩ = some (.int .u8 (h.out : Int)) := A5.out.at rfl; clear a5 t5 A4 T4)
        first
          | (have h4 : g4 = h.clu := by rw [HCC.out]; simp [hi, ho])
          | (have h4 : g4 = false := by rw [HCC.out]; simp [hi, ho])
          | (have h4 : g4 = false := by rw [HCC.out]; simp [hi])
        have H4 := Lib.hid h4;clear h4 HCC i1 i2 c12 c13 c14;try clear eqn
        go_wp2_with (go_at_call 71; (with_reducible refine (HH _ 4 (by decide) 4 rfl _ _ (by omega) _ A5.out).out.mono ?_); rintro e w6 ⟨⟨v6, rfl⟩, a6, t6⟩; have A6 := Lib.hid a6; have T6 := Lib.hid (T5.out.trans t6); have c3 : w6.cell? ⟨B, 3, none⟩ = some (.int .u64 (h.m0 : Int)) := A6.out.at rfl; have c4 : w6.cell? ⟨B, 4, none⟩ = some (.int .u64 (h.m1 : Int)) := A6.out.at rfl; clear a6 t6 A5 T5)
        with_reducible refine (TX _ _ _ A6.out).out.mono ?_
        rintro e w7 ⟨rfl, hu7⟩;have A7 := Lib.hid (A6.out.up hu7);have T7 := Lib.hid (T6.out.trans (Tw.up hu7));clear hu7 A6 T6 c3 c4;have NT7 := NT _ T7.out;go_wp2_with fail;with_reducible refine NT7.out.mono ?_
        rintro e w8 ⟨v, V, n, er, b5, rfl, hta, hn5, hu8⟩;have A8 := Lib.hid (A7.out.up hu8);have T8 := Lib.hid (T7.out.trans (Tw.up hu8));have HN5 := Lib.hid hn5;clear hu8 A7 T7 NT7 hn5;have her : (er = 0) ∨ ¬ er = 0 := Classical.em _;have hbb : (0 ≤ b) ∨ ¬ 0 ≤ b := Classical.em _;rcases her with rfl | her <;> rcases hbb with hb0 | hb0;all_goals
          have hn5 := HN5.out
          first
            | (have h5 : noteA (secT s h.m0 h.m1) = b5 := by rw [← hn5]; simp; done)
            | (have h5 : noteA (secT s h.m0 h.m1) = false := by rw [← hn5]; simp [her])
          first
            | (have h6 : decide (0 ≤ b ∧ (h.r1 : Int) ≤ b) = decide ((h.r1 : Int) ≤ b) := by simp [hb0]; done)
            | (have h6 : decide (0 ≤ b ∧ (h.r1 : Int) ≤ b) = false := by simp [hb0])
          have H5 := Lib.hid h5;have H6 := Lib.hid h6;try (have her2 : (er == 0) = false := by rw [beq_eq_false_iff_ne]; exact her)
          try (have hbw : IntKind.u64.wrap b = b := IntWalk.u64_in _ (by omega))
          clear h5 h6 hn5 HN5
          go_wp2_with (first
            | (go_at_call 71; (with_reducible refine (HH _ 5 (by decide) 5 rfl _ _ (by omega) _ A8.out).out.mono ?_); rintro e w9 ⟨⟨v9, rfl⟩, a9, t9⟩; have A9 := Lib.hid a9; have T9 := Lib.hid (T8.out.trans t9); have c2 : w9.cell? ⟨B, 2, none⟩ = some (.int .u64 (h.r1 : Int)) := A9.out.at rfl; clear a9 t9 A8 T8)
            | (go_at_call 71; (with_reducible refine (HH _ 6 (by decide) 6 rfl _ _ (by omega) _ A9.out).out.mono ?_); rintro e w10 ⟨⟨v10, rfl⟩, a10, t10⟩; have A10 := Lib.hid a10; have T10 := Lib.hid (T9.out.trans t10); clear a10 t10 A9 T9))
          go_end0
          refine ⟨⟨_, rfl⟩, ?_, T10.out⟩;rw [← HFF.out, ← H3.out, HG4.out, H4.out, H5.out, H6.out];exact A10.out
end Go.Proofs.YtcfmidmokciofaaGreatDoor
