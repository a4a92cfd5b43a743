/- Walk: header.Encode. -/
import Derived.Test.YtcfmidmokciofaaGreatDoorKM19
import Derived.Test.YtcfmidmokciofaaGreatDoorKM21
import Derived.Lib.SlBytesConst
namespace Go.Proofs.YtcfmidmokciofaaGreatDoor
open Go.RowKit Go.Gz Go.Shelf

set_option maxRecDepth 100000
theorem own_new {w : World} {base : Nat} (t : TypeId) (cs : Array Value) (n : Nat) (h : cs.size = n) (hn : n ≤ maxLen) (hb : base ≤ w.heap.size) : (w.alloc (.cells cs t)).ownsRow base t 1 (.slice (some ⟨w.heap.size, 0, none⟩) n n) n cs.toList :=
  ⟨by simp [h], .inr ⟨w.heap.size, n, cs, rfl, hb, heap_alloc_new w _, Nat.le_refl _, hn, by simp [h], by rw [List.take_of_length_le (by simp [h])]⟩⟩
theorem hdr_bytes (r0 r1 m0 m1 l0 l1 d0 d1 adr ent con : Nat) (clu : Bool) (inn out kind minz maxz : Nat) (minlon minlat maxlon maxlat : Int) (zoom : Nat) (lon lat : Int) :
    ((((((((magic ++ layN 8 [r0, r1]) ++ layN 8 [m0, m1]) ++ layN 8 [l0, l1]) ++ layN 8 [d0, d1]) ++ layN 8 [adr, ent, con]) ++ layN 1 [clu.toNat, inn, out, kind, minz, maxz]) ++ layI [minlon, minlat, maxlon, maxlat]) ++ layN 1 [zoom]) ++ layI [lon, lat] =
      hdrB ⟨r0, r1, m0, m1, l0, l1, d0, d1, adr, ent, con, clu, inn, out, kind, minz, maxz, minlon, minlat, maxlon, maxlat, zoom, lon, lat⟩ := by
  unfold hdrB layN layI layP pcs
  simp only [List.flatMap_cons, List.flatMap_nil, List.append_nil, List.append_assoc, Int.toNat_natCast]
set_option maxHeartbeats 16000000 in
theorem henc_true (r0 r1 m0 m1 l0 l1 d0 d1 adr ent con : Nat) (inn out kind minz maxz : Nat) (minlon minlat maxlon maxlat : Int) (zoom : Nat) (lon lat : Int) (hE : hdrE ⟨r0, r1, m0, m1, l0, l1, d0, d1, adr, ent, con, true, inn, out, kind, minz, maxz, minlon, minlat, maxlon, maxlat, zoom, lon, lat⟩ = 0) (hn : r0 < 18446744073709551616 ∧ r1 < 18446744073709551616 ∧ m0 < 18446744073709551616 ∧ m1 < 18446744073709551616 ∧ l0 < 18446744073709551616 ∧ l1 < 18446744073709551616 ∧ d0 < 18446744073709551616 ∧ d1 < 18446744073709551616 ∧ adr < 18446744073709551616 ∧ ent < 18446744073709551616 ∧ con < 18446744073709551616 ∧ inn < 256 ∧ out < 256 ∧ kind < 256 ∧ minz < 256 ∧ maxz < 256 ∧ zoom < 256)
    (hi : -2147483648 ≤ minlon ∧ minlon < 2147483648 ∧ -2147483648 ≤ minlat ∧ minlat < 2147483648 ∧ -2147483648 ≤ maxlon ∧ maxlon < 2147483648 ∧ -2147483648 ≤ maxlat ∧ maxlat < 2147483648 ∧ -2147483648 ≤ lon ∧ lon < 2147483648 ∧ -2147483648 ≤ lat ∧ lat < 2147483648) (w : World) :
    Calls Tryz.prog 91 #[.agg #[.int .u64 (r0 : Int), .int .u64 (r1 : Int), .int .u64 (m0 : Int), .int .u64 (m1 : Int), .int .u64 (l0 : Int), .int .u64 (l1 : Int), .int .u64 (d0 : Int), .int .u64 (d1 : Int), .int .u64 (adr : Int), .int .u64 (ent : Int), .int .u64 (con : Int), .bool true, .int .u8 (inn : Int), .int .u8 (out : Int), .int .u8 (kind : Int), .int .i64 (minz : Int), .int .i64 (maxz : Int), .int .i64 minlon, .int .i64 minlat, .int .i64 maxlon, .int .i64 maxlat, .int .i64 (zoom : Int), .int .i64 lon, .int .i64 lat]] w fun e w' => e = .returned (.tuple #[.string ⟨(hdrB ⟨r0, r1, m0, m1, l0, l1, d0, d1, adr, ent, con, true, inn, out, kind, minz, maxz, minlon, minlat, maxlon, maxlat, zoom, lon, lat⟩).toArray⟩, .int .i64 0]) ∧ Up w w' := by
  have CK := fun w => Lib.hid (hchk_good ⟨r0, r1, m0, m1, l0, l1, d0, d1, adr, ent, con, true, inn, out, kind, minz, maxz, minlon, minlat, maxlon, maxlat, zoom, lon, lat⟩ hE w)
  simp only [hdrV] at CK
  have SC := fun w => Lib.hid (sects_any r0 r1 m0 m1 l0 l1 d0 d1 adr ent con true inn out kind minz maxz minlon minlat maxlon maxlat zoom lon lat w)
  rw [← hdr_bytes]
  clear hE
  obtain ⟨B0, hB0⟩ : ∃ B, magic = B := ⟨_, rfl⟩
  rw [hB0]
  have HL0 : B0.length = 8 := by rw [← hB0]; rfl
  obtain ⟨B1, hB1⟩ : ∃ B, B0 ++ layN 8 [r0, r1] = B := ⟨_, rfl⟩
  rw [hB1]
  have HL1 : B1.length = 24 := by rw [← hB1, List.length_append, layN_len, HL0]; rfl
  have P1 : ∀ (A A2 : Option Addr) (c : Nat) (w : World), Rd w 1 A B0.length c (byV B0) → Rd w 1 A2 2 2 (nuV [r0, r1]) → Hid (Calls Tryz.prog 143 #[.slice A B0.length c, .int .i64 8, .slice A2 2 2] w (OwnE w 5 1 B1.length (byV B1))) := fun A A2 c w hr hr2 => by
    have h := hput_any B0 (by omega) A c 8 (by omega) (by omega) [r0, r1] (by intro x hx; simp at hx; rcases hx with rfl | rfl <;> (try simp) <;> omega) (by simp) (by simp) A2 2 w hr hr2
    rw [hB1] at h
    exact Lib.hid h
  obtain ⟨B2, hB2⟩ : ∃ B, B1 ++ layN 8 [m0, m1] = B := ⟨_, rfl⟩
  rw [hB2]
  have HL2 : B2.length = 40 := by rw [← hB2, List.length_append, layN_len, HL1]; rfl
  have P2 : ∀ (A A2 : Option Addr) (c : Nat) (w : World), Rd w 1 A B1.length c (byV B1) → Rd w 1 A2 2 2 (nuV [m0, m1]) → Hid (Calls Tryz.prog 143 #[.slice A B1.length c, .int .i64 8, .slice A2 2 2] w (OwnE w 5 1 B2.length (byV B2))) := fun A A2 c w hr hr2 => by
    have h := hput_any B1 (by omega) A c 8 (by omega) (by omega) [m0, m1] (by intro x hx; simp at hx; rcases hx with rfl | rfl <;> (try simp) <;> omega) (by simp) (by simp) A2 2 w hr hr2
    rw [hB2] at h
    exact Lib.hid h
  obtain ⟨B3, hB3⟩ : ∃ B, B2 ++ layN 8 [l0, l1] = B := ⟨_, rfl⟩
  rw [hB3]
  have HL3 : B3.length = 56 := by rw [← hB3, List.length_append, layN_len, HL2]; rfl
  have P3 : ∀ (A A2 : Option Addr) (c : Nat) (w : World), Rd w 1 A B2.length c (byV B2) → Rd w 1 A2 2 2 (nuV [l0, l1]) → Hid (Calls Tryz.prog 143 #[.slice A B2.length c, .int .i64 8, .slice A2 2 2] w (OwnE w 5 1 B3.length (byV B3))) := fun A A2 c w hr hr2 => by
    have h := hput_any B2 (by omega) A c 8 (by omega) (by omega) [l0, l1] (by intro x hx; simp at hx; rcases hx with rfl | rfl <;> (try simp) <;> omega) (by simp) (by simp) A2 2 w hr hr2
    rw [hB3] at h
    exact Lib.hid h
  obtain ⟨B4, hB4⟩ : ∃ B, B3 ++ layN 8 [d0, d1] = B := ⟨_, rfl⟩
  rw [hB4]
  have HL4 : B4.length = 72 := by rw [← hB4, List.length_append, layN_len, HL3]; rfl
  have P4 : ∀ (A A2 : Option Addr) (c : Nat) (w : World), Rd w 1 A B3.length c (byV B3) → Rd w 1 A2 2 2 (nuV [d0, d1]) → Hid (Calls Tryz.prog 143 #[.slice A B3.length c, .int .i64 8, .slice A2 2 2] w (OwnE w 5 1 B4.length (byV B4))) := fun A A2 c w hr hr2 => by
    have h := hput_any B3 (by omega) A c 8 (by omega) (by omega) [d0, d1] (by intro x hx; simp at hx; rcases hx with rfl | rfl <;> (try simp) <;> omega) (by simp) (by simp) A2 2 w hr hr2
    rw [hB4] at h
    exact Lib.hid h
  obtain ⟨B5, hB5⟩ : ∃ B, B4 ++ layN 8 [adr, ent, con] = B := ⟨_, rfl⟩
  rw [hB5]
  have HL5 : B5.length = 96 := by rw [← hB5, List.length_append, layN_len, HL4]; rfl
  have P5 : ∀ (A A2 : Option Addr) (c : Nat) (w : World), Rd w 1 A B4.length c (byV B4) → Rd w 1 A2 3 3 (nuV [adr, ent, con]) → Hid (Calls Tryz.prog 143 #[.slice A B4.length c, .int .i64 8, .slice A2 3 3] w (OwnE w 5 1 B5.length (byV B5))) := fun A A2 c w hr hr2 => by
    have h := hput_any B4 (by omega) A c 8 (by omega) (by omega) [adr, ent, con] (by intro x hx; simp at hx; rcases hx with rfl | rfl | rfl <;> (try simp) <;> omega) (by simp) (by simp) A2 3 w hr hr2
    rw [hB5] at h
    exact Lib.hid h
  obtain ⟨B6, hB6⟩ : ∃ B, B5 ++ layN 1 [true.toNat, inn, out, kind, minz, maxz] = B := ⟨_, rfl⟩
  rw [hB6]
  have HL6 : B6.length = 102 := by rw [← hB6, List.length_append, layN_len, HL5]; rfl
  have P6 : ∀ (A A2 : Option Addr) (c : Nat) (w : World), Rd w 1 A B5.length c (byV B5) → Rd w 1 A2 6 6 (nuV [true.toNat, inn, out, kind, minz, maxz]) → Hid (Calls Tryz.prog 143 #[.slice A B5.length c, .int .i64 1, .slice A2 6 6] w (OwnE w 5 1 B6.length (byV B6))) := fun A A2 c w hr hr2 => by
    have h := hput_any B5 (by omega) A c 1 (by omega) (by omega) [true.toNat, inn, out, kind, minz, maxz] (by intro x hx; simp at hx; rcases hx with rfl | rfl | rfl | rfl | rfl | rfl <;> (try simp) <;> omega) (by simp) (by simp) A2 6 w hr hr2
    rw [hB6] at h
    exact Lib.hid h
  obtain ⟨B7, hB7⟩ : ∃ B, B6 ++ layI [minlon, minlat, maxlon, maxlat] = B := ⟨_, rfl⟩
  rw [hB7]
  have HL7 : B7.length = 118 := by rw [← hB7, List.length_append, layI_len, HL6]; rfl
  have P7 : ∀ (A A2 : Option Addr) (c : Nat) (w : World), Rd w 1 A B6.length c (byV B6) → Rd w 1 A2 4 4 (inV [minlon, minlat, maxlon, maxlat]) → Hid (Calls Tryz.prog 144 #[.slice A B6.length c, .slice A2 4 4] w (OwnE w 5 1 B7.length (byV B7))) := fun A A2 c w hr hr2 => by
    have h := hdeg_any B6 (by omega) A c [minlon, minlat, maxlon, maxlat] (by intro x hx; simp at hx; rcases hx with rfl | rfl | rfl | rfl <;> omega) (by simp) (by simp) A2 4 w hr hr2
    rw [hB7] at h
    exact Lib.hid h
  obtain ⟨B8, hB8⟩ : ∃ B, B7 ++ layN 1 [zoom] = B := ⟨_, rfl⟩
  rw [hB8]
  have HL8 : B8.length = 119 := by rw [← hB8, List.length_append, layN_len, HL7]; rfl
  have P8 : ∀ (A A2 : Option Addr) (c : Nat) (w : World), Rd w 1 A B7.length c (byV B7) → Rd w 1 A2 1 1 (nuV [zoom]) → Hid (Calls Tryz.prog 143 #[.slice A B7.length c, .int .i64 1, .slice A2 1 1] w (OwnE w 5 1 B8.length (byV B8))) := fun A A2 c w hr hr2 => by
    have h := hput_any B7 (by omega) A c 1 (by omega) (by omega) [zoom] (by intro x hx; simp at hx; rcases hx with rfl <;> (try simp) <;> omega) (by simp) (by simp) A2 1 w hr hr2
    rw [hB8] at h
    exact Lib.hid h
  obtain ⟨B9, hB9⟩ : ∃ B, B8 ++ layI [lon, lat] = B := ⟨_, rfl⟩
  rw [hB9]
  have HL9 : B9.length = 127 := by rw [← hB9, List.length_append, layI_len, HL8]; rfl
  have P9 : ∀ (A A2 : Option Addr) (c : Nat) (w : World), Rd w 1 A B8.length c (byV B8) → Rd w 1 A2 2 2 (inV [lon, lat]) → Hid (Calls Tryz.prog 144 #[.slice A B8.length c, .slice A2 2 2] w (OwnE w 5 1 B9.length (byV B9))) := fun A A2 c w hr hr2 => by
    have h := hdeg_any B8 (by omega) A c [lon, lat] (by intro x hx; simp at hx; rcases hx with rfl | rfl <;> omega) (by simp) (by simp) A2 2 w hr hr2
    rw [hB9] at h
    exact Lib.hid h
  obtain ⟨i0, hi0, hz0, hz1, hz2⟩ := info_parts infoU8
  have e_inn : IntKind.u64.wrap (inn : Int) = (inn : Int) := IntWalk.u64_in _ (by omega)
  have e_out : IntKind.u64.wrap (out : Int) = (out : Int) := IntWalk.u64_in _ (by omega)
  have e_kind : IntKind.u64.wrap (kind : Int) = (kind : Int) := IntWalk.u64_in _ (by omega)
  have e_minz : IntKind.u64.wrap (minz : Int) = (minz : Int) := IntWalk.u64_in _ (by omega)
  have e_maxz : IntKind.u64.wrap (maxz : Int) = (maxz : Int) := IntWalk.u64_in _ (by omega)
  have e_zoom : IntKind.u64.wrap (zoom : Int) = (zoom : Int) := IntWalk.u64_in _ (by omega)
  have HB0 := Lib.hid hB0
  have HL9' := Lib.hid (show B9 ≠ [] by intro h; rw [h] at HL9; simp at HL9)
  clear hn hi hB0 hB1 hB2 hB3 hB4 hB5 hB6 hB7 hB8 hB9 HL0 HL1 HL2 HL3 HL4 HL5 HL6 HL7 HL8 HL9
  have HQ := Lib.hid (heap_alloc_new w (.cells #[.int .u64 (r0 : Int), .int .u64 (r1 : Int), .int .u64 (m0 : Int), .int .u64 (m1 : Int), .int .u64 (l0 : Int), .int .u64 (l1 : Int), .int .u64 (d0 : Int), .int .u64 (d1 : Int), .int .u64 (adr : Int), .int .u64 (ent : Int), .int .u64 (con : Int), .bool true, .int .u8 (inn : Int), .int .u8 (out : Int), .int .u8 (kind : Int), .int .i64 (minz : Int), .int .i64 (maxz : Int), .int .i64 minlon, .int .i64 minlat, .int .i64 maxlon, .int .i64 maxlat, .int .i64 (zoom : Int), .int .i64 lon, .int .i64 lat] 83))
  go_enter Tryz.func91, Tryz.ntmps91
  go_wp2_with (refine wpList_load_mid rfl 83 _ rfl w.heap.size 0 rfl [.int .u64 (r0 : Int), .int .u64 (r1 : Int), .int .u64 (m0 : Int), .int .u64 (m1 : Int), .int .u64 (l0 : Int), .int .u64 (l1 : Int), .int .u64 (d0 : Int), .int .u64 (d1 : Int), .int .u64 (adr : Int), .int .u64 (ent : Int), .int .u64 (con : Int), .bool true, .int .u8 (inn : Int), .int .u8 (out : Int), .int .u8 (kind : Int), .int .i64 (minz : Int), .int .i64 (maxz : Int), .int .i64 minlon, .int .i64 minlat, .int .i64 maxlon, .int .i64 maxlat, .int .i64 (zoom : Int), .int .i64 lon, .int .i64 lat] _ (rg_blk HQ.out) Tryz.underlying83 rfl (by kernel_rfl) ?_)
  refine (CK _).out.mono ?_
  rintro e w1 ⟨rfl, hu1⟩
  have HU1 := Lib.hid (((Up.refl w).alloc (.cells #[.int .u64 (r0 : Int), .int .u64 (r1 : Int), .int .u64 (m0 : Int), .int .u64 (m1 : Int), .int .u64 (l0 : Int), .int .u64 (l1 : Int), .int .u64 (d0 : Int), .int .u64 (d1 : Int), .int .u64 (adr : Int), .int .u64 (ent : Int), .int .u64 (con : Int), .bool true, .int .u8 (inn : Int), .int .u8 (out : Int), .int .u8 (kind : Int), .int .i64 (minz : Int), .int .i64 (maxz : Int), .int .i64 minlon, .int .i64 minlat, .int .i64 maxlon, .int .i64 maxlat, .int .i64 (zoom : Int), .int .i64 lon, .int .i64 lat] 83)).trans hu1)
  have HQ1 := Lib.hid (hu1.obj HQ.out)
  clear hu1
  have hcv := Lib.run_convert_bytes_const (P := Tryz.prog) w1 44 5 #[.int .u8 80, .int .u8 77, .int .u8 84, .int .u8 105, .int .u8 108, .int .u8 101, .int .u8 115] 7 7 Tryz.underlying44 Tryz.underlying5
  have hna := heap_alloc_new w1 (.cells #[.int .u8 80, .int .u8 77, .int .u8 84, .int .u8 105, .int .u8 108, .int .u8 101, .int .u8 115] 5 (7, 8))
  have huA := (Up.refl w1).alloc (.cells #[.int .u8 80, .int .u8 77, .int .u8 84, .int .u8 105, .int .u8 108, .int .u8 101, .int .u8 115] 5 (7, 8))
  obtain ⟨wA, hwA⟩ : ∃ wA, w1.alloc (.cells #[.int .u8 80, .int .u8 77, .int .u8 84, .int .u8 105, .int .u8 108, .int .u8 101, .int .u8 115] 5 (7, 8)) = wA := ⟨_, rfl⟩
  rw [hwA] at hna huA
  replace hcv : (convert 44 44 (.slice (some ⟨w1.heap.size, 0, none⟩) 7 7)).run Tryz.prog (w1.alloc (.cells #[.int .u8 80, .int .u8 77, .int .u8 84, .int .u8 105, .int .u8 108, .int .u8 101, .int .u8 115] 5)) = .ok (.slice (some ⟨w1.heap.size, 0, none⟩) 7 7) wA := by rw [← hwA]; exact hcv
  have huB := (Up.refl wA).alloc (.cells #[.int .u8 3] 5)
  have hnb := heap_alloc_new wA (.cells #[.int .u8 3] 5)
  have hrA : Rd wA 1 (some ⟨w1.heap.size, 0, none⟩) 7 7 [.int .u8 80, .int .u8 77, .int .u8 84, .int .u8 105, .int .u8 108, .int .u8 101, .int .u8 115] := ⟨rfl, Nat.le_refl _, by unfold maxLen; omega, fun h => (by cases h), fun _ => ⟨_, 0, rfl, fun j u hj => rg_blk hna j u hj⟩⟩
  have HRB := Lib.hid (hrA.up huB)
  obtain ⟨wB, hwB⟩ : ∃ wB, wA.alloc (.cells #[.int .u8 3] 5) = wB := ⟨_, rfl⟩
  rw [hwB] at huB hnb HRB
  have HUB := Lib.hid (huA.trans huB)
  have HCB := Lib.hid (fun (j : Nat) (u : Value) (hj : [Value.int .u8 3][j]? = some u) => (show wB.cell? ((⟨wA.heap.size, 0, none⟩ : Addr).add j) = some u by rw [add_plain]; exact rg_blk hnb j u hj))
  clear hna huA hnb huB hrA hwA
  go_wp2_with (first
    | (at_builtin; refine wpList_append_full wB rfl _ _ 44 rfl 5 i0 _ 1 1 Tryz.underlying44 hi0 hz0 hz1 hz2 rfl (by decide) (some ⟨w1.heap.size, 0, none⟩) 7 _ rfl HRB.out ⟨wA.heap.size, 0, none⟩ 1 1 [.int .u8 3] rfl rfl HCB.out (by simp [Value.oneCell']) (by omega) (by omega) (by omega) ?_; intro v2 w2 ho2 hu2; have HU2 := Lib.hid ((HU1.out.trans HUB.out).trans hu2); have HQ2 := Lib.hid ((HUB.out.trans hu2).obj HQ1.out))
    | (refine wpList_load_mid rfl 83 _ rfl w.heap.size 0 rfl [.int .u64 (r0 : Int), .int .u64 (r1 : Int), .int .u64 (m0 : Int), .int .u64 (m1 : Int), .int .u64 (l0 : Int), .int .u64 (l1 : Int), .int .u64 (d0 : Int), .int .u64 (d1 : Int), .int .u64 (adr : Int), .int .u64 (ent : Int), .int .u64 (con : Int), .bool true, .int .u8 (inn : Int), .int .u8 (out : Int), .int .u8 (kind : Int), .int .i64 (minz : Int), .int .i64 (maxz : Int), .int .i64 minlon, .int .i64 minlat, .int .i64 maxlon, .int .i64 maxlat, .int .i64 (zoom : Int), .int .i64 lon, .int .i64 lat] _ (rg_blk HQ2.out) Tryz.underlying83 rfl (by kernel_rfl) ?_))
  have HO := Lib.hid (show w2.ownsRow wB.heap.size 5 1 v2 B0.length (byV B0) by rw [← HB0.out]; exact ho2)
  obtain ⟨A0, c0, rfl, r0'⟩ := Rd.of_own HO.out
  have HR0 := Lib.hid r0'
  clear ho2 r0' hcv hwB hu2 HO HCB HRB HUB
  refine (SC _).out.mono ?_
  rintro e w3 ⟨rfl, hu3⟩
  have HU3 := Lib.hid (HU2.out.trans hu3)
  have HR3 := Lib.hid (HR0.out.up hu3)
  have HQ3 := Lib.hid (hu3.obj HQ2.out)
  clear hu3 HU1 HQ1 HU2 HQ2 HR0
  go_wp2_with fail
  refine wp_loop_rounds 5 ?_
  rw [rounds_succ]
  have n := heap_alloc_new w3 (.cells #[.int .u64 (r0 : Int), .int .u64 (r1 : Int)] 81)
  have n0 := blkc n 0 _ rfl
  have n1 := blkc n 1 _ rfl
  clear n
  have ix := sec_ix0 r0 r1 m0 m1 l0 l1 d0 d1 w3
  go_wp2_with fail
  refine (P1 _ _ _ _ (HR3.out.up (((Up.refl w3).alloc (.cells #[.int .u64 (r0 : Int), .int .u64 (r1 : Int)] 81)).alloc (.cells #[.int .u64 (r0 : Int), .int .u64 (r1 : Int)] 54))) (by have h := rd_new (w3.alloc (.cells #[.int .u64 (r0 : Int), .int .u64 (r1 : Int)] 81)) 54 #[.int .u64 (r0 : Int), .int .u64 (r1 : Int)] 2 rfl (by unfold maxLen; omega); (try rw [World.size_alloc] at h); exact h)).out.mono ?_
  rintro e w4 ⟨v, rfl, ho, hu⟩
  have hu' := (((Up.refl w3).alloc (.cells #[.int .u64 (r0 : Int), .int .u64 (r1 : Int)] 81)).alloc (.cells #[.int .u64 (r0 : Int), .int .u64 (r1 : Int)] 54)).trans hu
  have HU4 := Lib.hid (HU3.out.trans hu')
  have HQ4 := Lib.hid (hu'.obj HQ3.out)
  obtain ⟨A4, c4, rfl, r⟩ := Rd.of_own ho
  have HR4 := Lib.hid r
  clear hu hu' ho r n0 n1 ix HU3 HQ3 HR3 P1
  go_wp2_with fail
  rw [rounds_succ]
  have n := heap_alloc_new w4 (.cells #[.int .u64 (m0 : Int), .int .u64 (m1 : Int)] 81)
  have n0 := blkc n 0 _ rfl
  have n1 := blkc n 1 _ rfl
  clear n
  have ix := sec_ix1 r0 r1 m0 m1 l0 l1 d0 d1 w4
  go_wp2_with fail
  refine (P2 _ _ _ _ (HR4.out.up (((Up.refl w4).alloc (.cells #[.int .u64 (m0 : Int), .int .u64 (m1 : Int)] 81)).alloc (.cells #[.int .u64 (m0 : Int), .int .u64 (m1 : Int)] 54))) (by have h := rd_new (w4.alloc (.cells #[.int .u64 (m0 : Int), .int .u64 (m1 : Int)] 81)) 54 #[.int .u64 (m0 : Int), .int .u64 (m1 : Int)] 2 rfl (by unfold maxLen; omega); (try rw [World.size_alloc] at h); exact h)).out.mono ?_
  rintro e w5 ⟨v, rfl, ho, hu⟩
  have hu' := (((Up.refl w4).alloc (.cells #[.int .u64 (m0 : Int), .int .u64 (m1 : Int)] 81)).alloc (.cells #[.int .u64 (m0 : Int), .int .u64 (m1 : Int)] 54)).trans hu
  have HU5 := Lib.hid (HU4.out.trans hu')
  have HQ5 := Lib.hid (hu'.obj HQ4.out)
  obtain ⟨A5, c5, rfl, r⟩ := Rd.of_own ho
  have HR5 := Lib.hid r
  clear hu hu' ho r n0 n1 ix HU4 HQ4 HR4 P2
  go_wp2_with fail
  rw [rounds_succ]
  have n := heap_alloc_new w5 (.cells #[.int .u64 (l0 : Int), .int .u64 (l1 : Int)] 81)
  have n0 := blkc n 0 _ rfl
  have n1 := blkc n 1 _ rfl
  clear n
  have ix := sec_ix2 r0 r1 m0 m1 l0 l1 d0 d1 w5
  go_wp2_with fail
  refine (P3 _ _ _ _ (HR5.out.up (((Up.refl w5).alloc (.cells #[.int .u64 (l0 : Int), .int .u64 (l1 : Int)] 81)).alloc (.cells #[.int .u64 (l0 : Int), .int .u64 (l1 : Int)] 54))) (by have h := rd_new (w5.alloc (.cells #[.int .u64 (l0 : Int), .int .u64 (l1 : Int)] 81)) 54 #[.int .u64 (l0 : Int), .int .u64 (l1 : Int)] 2 rfl (by unfold maxLen; omega); (try rw [World.size_alloc] at h); exact h)).out.mono ?_
  rintro e w6 ⟨v, rfl, ho, hu⟩
  have hu' := (((Up.refl w5).alloc (.cells #[.int .u64 (l0 : Int), .int .u64 (l1 : Int)] 81)).alloc (.cells #[.int .u64 (l0 : Int), .int .u64 (l1 : Int)] 54)).trans hu
  have HU6 := Lib.hid (HU5.out.trans hu')
  have HQ6 := Lib.hid (hu'.obj HQ5.out)
  obtain ⟨A6, c6, rfl, r⟩ := Rd.of_own ho
  have HR6 := Lib.hid r
  clear hu hu' ho r n0 n1 ix HU5 HQ5 HR5 P3
  go_wp2_with fail
  rw [rounds_succ]
  have n := heap_alloc_new w6 (.cells #[.int .u64 (d0 : Int), .int .u64 (d1 : Int)] 81)
  have n0 := blkc n 0 _ rfl
  have n1 := blkc n 1 _ rfl
  clear n
  have ix := sec_ix3 r0 r1 m0 m1 l0 l1 d0 d1 w6
  go_wp2_with fail
  refine (P4 _ _ _ _ (HR6.out.up (((Up.refl w6).alloc (.cells #[.int .u64 (d0 : Int), .int .u64 (d1 : Int)] 81)).alloc (.cells #[.int .u64 (d0 : Int), .int .u64 (d1 : Int)] 54))) (by have h := rd_new (w6.alloc (.cells #[.int .u64 (d0 : Int), .int .u64 (d1 : Int)] 81)) 54 #[.int .u64 (d0 : Int), .int .u64 (d1 : Int)] 2 rfl (by unfold maxLen; omega); (try rw [World.size_alloc] at h); exact h)).out.mono ?_
  rintro e w7 ⟨v, rfl, ho, hu⟩
  have hu' := (((Up.refl w6).alloc (.cells #[.int .u64 (d0 : Int), .int .u64 (d1 : Int)] 81)).alloc (.cells #[.int .u64 (d0 : Int), .int .u64 (d1 : Int)] 54)).trans hu
  have HU7 := Lib.hid (HU6.out.trans hu')
  have HQ7 := Lib.hid (hu'.obj HQ6.out)
  obtain ⟨A7, c7, rfl, r⟩ := Rd.of_own ho
  have HR7 := Lib.hid r
  clear hu hu' ho r n0 n1 ix HU6 HQ6 HR6 P4
  go_wp2_with fail
  rw [rounds_succ]
  have q8 : w7.cell? ⟨w.heap.size, 8, none⟩ = some (.int .u64 (adr : Int)) := blkc HQ7.out 8 _ rfl
  have q9 : w7.cell? ⟨w.heap.size, 9, none⟩ = some (.int .u64 (ent : Int)) := blkc HQ7.out 9 _ rfl
  have q10 : w7.cell? ⟨w.heap.size, 10, none⟩ = some (.int .u64 (con : Int)) := blkc HQ7.out 10 _ rfl
  go_wp2_with fail
  refine (P5 _ _ _ _ (HR7.out.up ((Up.refl w7).alloc (.cells #[.int .u64 (adr : Int), .int .u64 (ent : Int), .int .u64 (con : Int)] 54))) (by have h := rd_new w7 54 #[.int .u64 (adr : Int), .int .u64 (ent : Int), .int .u64 (con : Int)] 3 rfl (by unfold maxLen; omega); (try rw [World.size_alloc] at h); exact h)).out.mono ?_
  rintro e w8 ⟨v, rfl, ho, hu⟩
  have hu' := ((Up.refl w7).alloc (.cells #[.int .u64 (adr : Int), .int .u64 (ent : Int), .int .u64 (con : Int)] 54)).trans hu
  have HU8 := Lib.hid (HU7.out.trans hu')
  have HQ8 := Lib.hid (hu'.obj HQ7.out)
  obtain ⟨A8, c8, rfl, r⟩ := Rd.of_own ho
  have HR8 := Lib.hid r
  clear hu hu' ho r q8 q9 q10 HU7 HQ7 HR7 P5
  have q11 : w8.cell? ⟨w.heap.size, 11, none⟩ = some (.bool true) := blkc HQ8.out 11 _ rfl
  have q12 : w8.cell? ⟨w.heap.size, 12, none⟩ = some (.int .u8 (inn : Int)) := blkc HQ8.out 12 _ rfl
  have q13 : w8.cell? ⟨w.heap.size, 13, none⟩ = some (.int .u8 (out : Int)) := blkc HQ8.out 13 _ rfl
  have q14 : w8.cell? ⟨w.heap.size, 14, none⟩ = some (.int .u8 (kind : Int)) := blkc HQ8.out 14 _ rfl
  have q15 : w8.cell? ⟨w.heap.size, 15, none⟩ = some (.int .i64 (minz : Int)) := blkc HQ8.out 15 _ rfl
  have q16 : w8.cell? ⟨w.heap.size, 16, none⟩ = some (.int .i64 (maxz : Int)) := blkc HQ8.out 16 _ rfl
  go_wp2_with fail
  refine (P6 _ _ _ _ (HR8.out.up ((Up.refl w8).alloc (.cells #[.int .u64 1, .int .u64 (inn : Int), .int .u64 (out : Int), .int .u64 (kind : Int), .int .u64 (minz : Int), .int .u64 (maxz : Int)] 54))) (by have h := rd_new w8 54 #[.int .u64 1, .int .u64 (inn : Int), .int .u64 (out : Int), .int .u64 (kind : Int), .int .u64 (minz : Int), .int .u64 (maxz : Int)] 6 rfl (by unfold maxLen; omega); (try rw [World.size_alloc] at h); exact h)).out.mono ?_
  rintro e w9 ⟨v, rfl, ho, hu⟩
  have hu' := ((Up.refl w8).alloc (.cells #[.int .u64 1, .int .u64 (inn : Int), .int .u64 (out : Int), .int .u64 (kind : Int), .int .u64 (minz : Int), .int .u64 (maxz : Int)] 54)).trans hu
  have HU9 := Lib.hid (HU8.out.trans hu')
  have HQ9 := Lib.hid (hu'.obj HQ8.out)
  obtain ⟨A9, c9, rfl, r⟩ := Rd.of_own ho
  have HR9 := Lib.hid r
  clear hu hu' ho r q11 q12 q13 q14 q15 q16 HU8 HQ8 HR8 P6
  have q17 : w9.cell? ⟨w.heap.size, 17, none⟩ = some (.int .i64 minlon) := blkc HQ9.out 17 _ rfl
  have q18 : w9.cell? ⟨w.heap.size, 18, none⟩ = some (.int .i64 minlat) := blkc HQ9.out 18 _ rfl
  have q19 : w9.cell? ⟨w.heap.size, 19, none⟩ = some (.int .i64 maxlon) := blkc HQ9.out 19 _ rfl
  have q20 : w9.cell? ⟨w.heap.size, 20, none⟩ = some (.int .i64 maxlat) := blkc HQ9.out 20 _ rfl
  go_wp2_with fail
  refine (P7 _ _ _ _ (HR9.out.up ((Up.refl w9).alloc (.cells #[.int .i64 minlon, .int .i64 minlat, .int .i64 maxlon, .int .i64 maxlat] 3))) (by have h := rd_new w9 3 #[.int .i64 minlon, .int .i64 minlat, .int .i64 maxlon, .int .i64 maxlat] 4 rfl (by unfold maxLen; omega); (try rw [World.size_alloc] at h); exact h)).out.mono ?_
  rintro e w10 ⟨v, rfl, ho, hu⟩
  have hu' := ((Up.refl w9).alloc (.cells #[.int .i64 minlon, .int .i64 minlat, .int .i64 maxlon, .int .i64 maxlat] 3)).trans hu
  have HU10 := Lib.hid (HU9.out.trans hu')
  have HQ10 := Lib.hid (hu'.obj HQ9.out)
  obtain ⟨A10, c10, rfl, r⟩ := Rd.of_own ho
  have HR10 := Lib.hid r
  clear hu hu' ho r q17 q18 q19 q20 HU9 HQ9 HR9 P7
  have q21 : w10.cell? ⟨w.heap.size, 21, none⟩ = some (.int .i64 (zoom : Int)) := blkc HQ10.out 21 _ rfl
  go_wp2_with fail
  refine (P8 _ _ _ _ (HR10.out.up ((Up.refl w10).alloc (.cells #[.int .u64 (zoom : Int)] 54))) (by have h := rd_new w10 54 #[.int .u64 (zoom : Int)] 1 rfl (by unfold maxLen; omega); (try rw [World.size_alloc] at h); exact h)).out.mono ?_
  rintro e w11 ⟨v, rfl, ho, hu⟩
  have hu' := ((Up.refl w10).alloc (.cells #[.int .u64 (zoom : Int)] 54)).trans hu
  have HU11 := Lib.hid (HU10.out.trans hu')
  have HQ11 := Lib.hid (hu'.obj HQ10.out)
  obtain ⟨A11, c11, rfl, r⟩ := Rd.of_own ho
  have HR11 := Lib.hid r
  clear hu hu' ho r q21 HU10 HQ10 HR10 P8
  have q22 : w11.cell? ⟨w.heap.size, 22, none⟩ = some (.int .i64 lon) := blkc HQ11.out 22 _ rfl
  have q23 : w11.cell? ⟨w.heap.size, 23, none⟩ = some (.int .i64 lat) := blkc HQ11.out 23 _ rfl
  go_wp2_with fail
  refine (P9 _ _ _ _ (HR11.out.up ((Up.refl w11).alloc (.cells #[.int .i64 lon, .int .i64 lat] 3))) (by have h := rd_new w11 3 #[.int .i64 lon, .int .i64 lat] 2 rfl (by unfold maxLen; omega); (try rw [World.size_alloc] at h); exact h)).out.mono ?_
  rintro e w12 ⟨v, rfl, ho, hu⟩
  have hu' := ((Up.refl w11).alloc (.cells #[.int .i64 lon, .int .i64 lat] 3)).trans hu
  have HU12 := Lib.hid (HU11.out.trans hu')
  have HQ12 := Lib.hid (hu'.obj HQ11.out)
  obtain ⟨A12, c12, rfl, r⟩ := Rd.of_own ho
  have HR12 := Lib.hid r
  clear hu hu' ho r q22 q23 HU11 HQ11 HR11 P9
  have hst := HR12.out.str HL9'.out
  go_wp2_with fail
  refine bodyPost_ret (v := .tuple #[.string ⟨B9.toArray⟩, .int .i64 0]) (by simp [results, Tryz.results91, go_sem]) rfl ?_
  exact ⟨rfl, HU12.out⟩
set_option maxHeartbeats 16000000 in
theorem henc_false (r0 r1 m0 m1 l0 l1 d0 d1 adr ent con : Nat) (inn out kind minz maxz : Nat) (minlon minlat maxlon maxlat : Int) (zoom : Nat) (lon lat : Int) (hE : hdrE ⟨r0, r1, m0, m1, l0, l1, d0, d1, adr, ent, con, false, inn, out, kind, minz, maxz, minlon, minlat, maxlon, maxlat, zoom, lon, lat⟩ = 0) (hn : r0 < 18446744073709551616 ∧ r1 < 18446744073709551616 ∧ m0 < 18446744073709551616 ∧ m1 < 18446744073709551616 ∧ l0 < 18446744073709551616 ∧ l1 < 18446744073709551616 ∧ d0 < 18446744073709551616 ∧ d1 < 18446744073709551616 ∧ adr < 18446744073709551616 ∧ ent < 18446744073709551616 ∧ con < 18446744073709551616 ∧ inn < 256 ∧ out < 256 ∧ kind < 256 ∧ minz < 256 ∧ maxz < 256 ∧ zoom < 256)
    (hi : -2147483648 ≤ minlon ∧ minlon < 2147483648 ∧ -2147483648 ≤ minlat ∧ minlat < 2147483648 ∧ -2147483648 ≤ maxlon ∧ maxlon < 2147483648 ∧ -2147483648 ≤ maxlat ∧ maxlat < 2147483648 ∧ -2147483648 ≤ lon ∧ lon < 2147483648 ∧ -2147483648 ≤ lat ∧ lat < 2147483648) (w : World) :
    Calls Tryz.prog 91 #[.agg #[.int .u64 (r0 : Int), .int .u64 (r1 : Int), .int .u64 (m0 : Int), .int .u64 (m1 : Int), .int .u64 (l0 : Int), .int .u64 (l1 : Int), .int .u64 (d0 : Int), .int .u64 (d1 : Int), .int .u64 (adr : Int), .int .u64 (ent : Int), .int .u64 (con : Int), .bool false, .int .u8 (inn : Int), .int .u8 (out : Int), .int .u8 (kind : Int), .int .i64 (minz : Int), .int .i64 (maxz : Int), .int .i64 minlon, .int .i64 minlat, .int .i64 maxlon, .int .i64 maxlat, .int .i64 (zoom : Int), .int .i64 lon, .int .i64 lat]] w fun e w' => e = .returned (.tuple #[.string ⟨(hdrB ⟨r0, r1, m0, m1, l0, l1, d0, d1, adr, ent, con, false, inn, out, kind, minz, maxz, minlon, minlat, maxlon, maxlat, zoom, lon, lat⟩).toArray⟩, .int .i64 0]) ∧ Up w w' := by
  have CK := fun w => Lib.hid (hchk_good ⟨r0, r1, m0, m1, l0, l1, d0, d1, adr, ent, con, false, inn, out, kind, minz, maxz, minlon, minlat, maxlon, maxlat, zoom, lon, lat⟩ hE w)
  simp only [hdrV] at CK
  have SC := fun w => Lib.hid (sects_any r0 r1 m0 m1 l0 l1 d0 d1 adr ent con false inn out kind minz maxz minlon minlat maxlon maxlat zoom lon lat w)
  rw [← hdr_bytes]
  clear hE
  obtain ⟨B0, hB0⟩ : ∃ B, magic = B := ⟨_, rfl⟩
  rw [hB0]
  have HL0 : B0.length = 8 := by rw [← hB0]; rfl
  obtain ⟨B1, hB1⟩ : ∃ B, B0 ++ layN 8 [r0, r1] = B := ⟨_, rfl⟩
  rw [hB1]
  have HL1 : B1.length = 24 := by rw [← hB1, List.length_append, layN_len, HL0]; rfl
  have P1 : ∀ (A A2 : Option Addr) (c : Nat) (w : World), Rd w 1 A B0.length c (byV B0) → Rd w 1 A2 2 2 (nuV [r0, r1]) → Hid (Calls Tryz.prog 143 #[.slice A B0.length c, .int .i64 8, .slice A2 2 2] w (OwnE w 5 1 B1.length (byV B1))) := fun A A2 c w hr hr2 => by
    have h := hput_any B0 (by omega) A c 8 (by omega) (by omega) [r0, r1] (by intro x hx; simp at hx; rcases hx with rfl | rfl <;> (try simp) <;> omega) (by simp) (by simp) A2 2 w hr hr2
    rw [hB1] at h
    exact Lib.hid h
  obtain ⟨B2, hB2⟩ : ∃ B, B1 ++ layN 8 [m0, m1] = B := ⟨_, rfl⟩
  rw [hB2]
  have HL2 : B2.length = 40 := by rw [← hB2, List.length_append, layN_len, HL1]; rfl
  have P2 : ∀ (A A2 : Option Addr) (c : Nat) (w : World), Rd w 1 A B1.length c (byV B1) → Rd w 1 A2 2 2 (nuV [m0, m1]) → Hid (Calls Tryz.prog 143 #[.slice A B1.length c, .int .i64 8, .slice A2 2 2] w (OwnE w 5 1 B2.length (byV B2))) := fun A A2 c w hr hr2 => by
    have h := hput_any B1 (by omega) A c 8 (by omega) (by omega) [m0, m1] (by intro x hx; simp at hx; rcases hx with rfl | rfl <;> (try simp) <;> omega) (by simp) (by simp) A2 2 w hr hr2
    rw [hB2] at h
    exact Lib.hid h
  obtain ⟨B3, hB3⟩ : ∃ B, B2 ++ layN 8 [l0, l1] = B := ⟨_, rfl⟩
  rw [hB3]
  have HL3 : B3.length = 56 := by rw [← hB3, List.length_append, layN_len, HL2]; rfl
  have P3 : ∀ (A A2 : Option Addr) (c : Nat) (w : World), Rd w 1 A B2.length c (byV B2) → Rd w 1 A2 2 2 (nuV [l0, l1]) → Hid (Calls Tryz.prog 143 #[.slice A B2.length c, .int .i64 8, .slice A2 2 2] w (OwnE w 5 1 B3.length (byV B3))) := fun A A2 c w hr hr2 => by
    have h := hput_any B2 (by omega) A c 8 (by omega) (by omega) [l0, l1] (by intro x hx; simp at hx; rcases hx with rfl | rfl <;> (try simp) <;> omega) (by simp) (by simp) A2 2 w hr hr2
    rw [hB3] at h
    exact Lib.hid h
  obtain ⟨B4, hB4⟩ : ∃ B, B3 ++ layN 8 [d0, d1] = B := ⟨_, rfl⟩
  rw [hB4]
  have HL4 : B4.length = 72 := by rw [← hB4, List.length_append, layN_len, HL3]; rfl
  have P4 : ∀ (A A2 : Option Addr) (c : Nat) (w : World), Rd w 1 A B3.length c (byV B3) → Rd w 1 A2 2 2 (nuV [d0, d1]) → Hid (Calls Tryz.prog 143 #[.slice A B3.length c, .int .i64 8, .slice A2 2 2] w (OwnE w 5 1 B4.length (byV B4))) := fun A A2 c w hr hr2 => by
    have h := hput_any B3 (by omega) A c 8 (by omega) (by omega) [d0, d1] (by intro x hx; simp at hx; rcases hx with rfl | rfl <;> (try simp) <;> omega) (by simp) (by simp) A2 2 w hr hr2
    rw [hB4] at h
    exact Lib.hid h
  obtain ⟨B5, hB5⟩ : ∃ B, B4 ++ layN 8 [adr, ent, con] = B := ⟨_, rfl⟩
  rw [hB5]
  have HL5 : B5.length = 96 := by rw [← hB5, List.length_append, layN_len, HL4]; rfl
  have P5 : ∀ (A A2 : Option Addr) (c : Nat) (w : World), Rd w 1 A B4.length c (byV B4) → Rd w 1 A2 3 3 (nuV [adr, ent, con]) → Hid (Calls Tryz.prog 143 #[.slice A B4.length c, .int .i64 8, .slice A2 3 3] w (OwnE w 5 1 B5.length (byV B5))) := fun A A2 c w hr hr2 => by
    have h := hput_any B4 (by omega) A c 8 (by omega) (by omega) [adr, ent, con] (by intro x hx; simp at hx; rcases hx with rfl | rfl | rfl <;> (try simp) <;> omega) (by simp) (by simp) A2 3 w hr hr2
    rw [hB5] at h
    exact Lib.hid h
  obtain ⟨B6, hB6⟩ : ∃ B, B5 ++ layN 1 [false.toNat, inn, out, kind, minz, maxz] = B := ⟨_, rfl⟩
  rw [hB6]
  have HL6 : B6.length = 102 := by rw [← hB6, List.length_append, layN_len, HL5]; rfl
  have P6 : ∀ (A A2 : Option Addr) (c : Nat) (w : World), Rd w 1 A B5.length c (byV B5) → Rd w 1 A2 6 6 (nuV [false.toNat, inn, out, kind, minz, maxz]) → Hid (Calls Tryz.prog 143 #[.slice A B5.length c, .int .i64 1, .slice A2 6 6] w (OwnE w 5 1 B6.length (byV B6))) := fun A A2 c w hr hr2 => by
    have h := hput_any B5 (by omega) A c 1 (by omega) (by omega) [false.toNat, inn, out, kind, minz, maxz] (by intro x hx; simp at hx; rcases hx with rfl | rfl | rfl | rfl | rfl | rfl <;> (try simp) <;> omega) (by simp) (by simp) A2 6 w hr hr2
    rw [hB6] at h
    exact Lib.hid h
  obtain ⟨B7, hB7⟩ : ∃ B, B6 ++ layI [minlon, minlat, maxlon, maxlat] = B := ⟨_, rfl⟩
  rw [hB7]
  have HL7 : B7.length = 118 := by rw [← hB7, List.length_append, layI_len, HL6]; rfl
  have P7 : ∀ (A A2 : Option Addr) (c : Nat) (w : World), Rd w 1 A B6.length c (byV B6) → Rd w 1 A2 4 4 (inV [minlon, minlat, maxlon, maxlat]) → Hid (Calls Tryz.prog 144 #[.slice A B6.length c, .slice A2 4 4] w (OwnE w 5 1 B7.length (byV B7))) := fun A A2 c w hr hr2 => by
    have h := hdeg_any B6 (by omega) A c [minlon, minlat, maxlon, maxlat] (by intro x hx; simp at hx; rcases hx with rfl | rfl | rfl | rfl <;> omega) (by simp) (by simp) A2 4 w hr hr2
    rw [hB7] at h
    exact Lib.hid h
  obtain ⟨B8, hB8⟩ : ∃ B, B7 ++ layN 1 [zoom] = B := ⟨_, rfl⟩
  rw [hB8]
  have HL8 : B8.length = 119 := by rw [← hB8, List.length_append, layN_len, HL7]; rfl
  have P8 : ∀ (A A2 : Option Addr) (c : Nat) (w : World), Rd w 1 A B7.length c (byV B7) → Rd w 1 A2 1 1 (nuV [zoom]) → Hid (Calls Tryz.prog 143 #[.slice A B7.length c, .int .i64 1, .slice A2 1 1] w (OwnE w 5 1 B8.length (byV B8))) := fun A A2 c w hr hr2 => by
    have h := hput_any B7 (by omega) A c 1 (by omega) (by omega) [zoom] (by intro x hx; simp at hx; rcases hx with rfl <;> (try simp) <;> omega) (by simp) (by simp) A2 1 w hr hr2
    rw [hB8] at h
    exact Lib.hid h
  obtain ⟨B9, hB9⟩ : ∃ B, B8 ++ layI [lon, lat] = B := ⟨_, rfl⟩
  rw [hB9]
  have HL9 : B9.length = 127 := by rw [← hB9, List.length_append, layI_len, HL8]; rfl
  have P9 : ∀ (A A2 : Option Addr) (c : Nat) (w : World), Rd w 1 A B8.length c (byV B8) → Rd w 1 A2 2 2 (inV [lon, lat]) → Hid (Calls Tryz.prog 144 #[.slice A B8.length c, .slice A2 2 2] w (OwnE w 5 1 B9.length (byV B9))) := fun A A2 c w hr hr2 => by
    have h := hdeg_any B8 (by omega) A c [lon, lat] (by intro x hx; simp at hx; rcases hx with rfl | rfl <;> omega) (by simp) (by simp) A2 2 w hr hr2
    rw [hB9] at h
    exact Lib.hid h
  obtain ⟨i0, hi0, hz0, hz1, hz2⟩ := info_parts infoU8
  have e_inn : IntKind.u64.wrap (inn : Int) = (inn : Int) := IntWalk.u64_in _ (by omega)
  have e_out : IntKind.u64.wrap (out : Int) = (out : Int) := IntWalk.u64_in _ (by omega)
  have e_kind : IntKind.u64.wrap (kind : Int) = (kind : Int) := IntWalk.u64_in _ (by omega)
  have e_minz : IntKind.u64.wrap (minz : Int) = (minz : Int) := IntWalk.u64_in _ (by omega)
  have e_maxz : IntKind.u64.wrap (maxz : Int) = (maxz : Int) := IntWalk.u64_in _ (by omega)
  have e_zoom : IntKind.u64.wrap (zoom : Int) = (zoom : Int) := IntWalk.u64_in _ (by omega)
  have HB0 := Lib.hid hB0
  have HL9' := Lib.hid (show B9 ≠ [] by intro h; rw [h] at HL9; simp at HL9)
  clear hn hi hB0 hB1 hB2 hB3 hB4 hB5 hB6 hB7 hB8 hB9 HL0 HL1 HL2 HL3 HL4 HL5 HL6 HL7 HL8 HL9
  have HQ := Lib.hid (heap_alloc_new w (.cells #[.int .u64 (r0 : Int), .int .u64 (r1 : Int), .int .u64 (m0 : Int), .int .u64 (m1 : Int), .int .u64 (l0 : Int), .int .u64 (l1 : Int), .int .u64 (d0 : Int), .int .u64 (d1 : Int), .int .u64 (adr : Int), .int .u64 (ent : Int), .int .u64 (con : Int), .bool false, .int .u8 (inn : Int), .int .u8 (out : Int), .int .u8 (kind : Int), .int .i64 (minz : Int), .int .i64 (maxz : Int), .int .i64 minlon, .int .i64 minlat, .int .i64 maxlon, .int .i64 maxlat, .int .i64 (zoom : Int), .int .i64 lon, .int .i64 lat] 83))
  go_enter Tryz.func91, Tryz.ntmps91
  go_wp2_with (refine wpList_load_mid rfl 83 _ rfl w.heap.size 0 rfl [.int .u64 (r0 : Int), .int .u64 (r1 : Int), .int .u64 (m0 : Int), .int .u64 (m1 : Int), .int .u64 (l0 : Int), .int .u64 (l1 : Int), .int .u64 (d0 : Int), .int .u64 (d1 : Int), .int .u64 (adr : Int), .int .u64 (ent : Int), .int .u64 (con : Int), .bool false, .int .u8 (inn : Int), .int .u8 (out : Int), .int .u8 (kind : Int), .int .i64 (minz : Int), .int .i64 (maxz : Int), .int .i64 minlon, .int .i64 minlat, .int .i64 maxlon, .int .i64 maxlat, .int .i64 (zoom : Int), .int .i64 lon, .int .i64 lat] _ (rg_blk HQ.out) Tryz.underlying83 rfl (by kernel_rfl) ?_)
  refine (CK _).out.mono ?_
  rintro e w1 ⟨rfl, hu1⟩
  have HU1 := Lib.hid (((Up.refl w).alloc (.cells #[.int .u64 (r0 : Int), .int .u64 (r1 : Int), .int .u64 (m0 : Int), .int .u64 (m1 : Int), .int .u64 (l0 : Int), .int .u64 (l1 : Int), .int .u64 (d0 : Int), .int .u64 (d1 : Int), .int .u64 (adr : Int), .int .u64 (ent : Int), .int .u64 (con : Int), .bool false, .int .u8 (inn : Int), .int .u8 (out : Int), .int .u8 (kind : Int), .int .i64 (minz : Int), .int .i64 (maxz : Int), .int .i64 minlon, .int .i64 minlat, .int .i64 maxlon, .int .i64 maxlat, .int .i64 (zoom : Int), .int .i64 lon, .int .i64 lat] 83)).trans hu1)
  have HQ1 := Lib.hid (hu1.obj HQ.out)
  clear hu1
  have hcv := Lib.run_convert_bytes_const (P := Tryz.prog) w1 44 5 #[.int .u8 80, .int .u8 77, .int .u8 84, .int .u8 105, .int .u8 108, .int .u8 101, .int .u8 115] 7 7 Tryz.underlying44 Tryz.underlying5
  have hna := heap_alloc_new w1 (.cells #[.int .u8 80, .int .u8 77, .int .u8 84, .int .u8 105, .int .u8 108, .int .u8 101, .int .u8 115] 5 (7, 8))
  have huA := (Up.refl w1).alloc (.cells #[.int .u8 80, .int .u8 77, .int .u8 84, .int .u8 105, .int .u8 108, .int .u8 101, .int .u8 115] 5 (7, 8))
  obtain ⟨wA, hwA⟩ : ∃ wA, w1.alloc (.cells #[.int .u8 80, .int .u8 77, .int .u8 84, .int .u8 105, .int .u8 108, .int .u8 101, .int .u8 115] 5 (7, 8)) = wA := ⟨_, rfl⟩
  rw [hwA] at hna huA
  replace hcv : (convert 44 44 (.slice (some ⟨w1.heap.size, 0, none⟩) 7 7)).run Tryz.prog (w1.alloc (.cells #[.int .u8 80, .int .u8 77, .int .u8 84, .int .u8 105, .int .u8 108, .int .u8 101, .int .u8 115] 5)) = .ok (.slice (some ⟨w1.heap.size, 0, none⟩) 7 7) wA := by rw [← hwA]; exact hcv
  have huB := (Up.refl wA).alloc (.cells #[.int .u8 3] 5)
  have hnb := heap_alloc_new wA (.cells #[.int .u8 3] 5)
  have hrA : Rd wA 1 (some ⟨w1.heap.size, 0, none⟩) 7 7 [.int .u8 80, .int .u8 77, .int .u8 84, .int .u8 105, .int .u8 108, .int .u8 101, .int .u8 115] := ⟨rfl, Nat.le_refl _, by unfold maxLen; omega, fun h => (by cases h), fun _ => ⟨_, 0, rfl, fun j u hj => rg_blk hna j u hj⟩⟩
  have HRB := Lib.hid (hrA.up huB)
  obtain ⟨wB, hwB⟩ : ∃ wB, wA.alloc (.cells #[.int .u8 3] 5) = wB := ⟨_, rfl⟩
  rw [hwB] at huB hnb HRB
  have HUB := Lib.hid (huA.trans huB)
  have HCB := Lib.hid (fun (j : Nat) (u : Value) (hj : [Value.int .u8 3][j]? = some u) => (show wB.cell? ((⟨wA.heap.size, 0, none⟩ : Addr).add j) = some u by rw [add_plain]; exact rg_blk hnb j u hj))
  clear hna huA hnb huB hrA hwA
  go_wp2_with (first
    | (at_builtin; refine wpList_append_full wB rfl _ _ 44 rfl 5 i0 _ 1 1 Tryz.underlying44 hi0 hz0 hz1 hz2 rfl (by decide) (some ⟨w1.heap.size, 0, none⟩) 7 _ rfl HRB.out ⟨wA.heap.size, 0, none⟩ 1 1 [.int .u8 3] rfl rfl HCB.out (by simp [Value.oneCell']) (by omega) (by omega) (by omega) ?_; intro v2 w2 ho2 hu2; have HU2 := Lib.hid ((HU1.out.trans HUB.out).trans hu2); have HQ2 := Lib.hid ((HUB.out.trans hu2).obj HQ1.out))
    | (refine wpList_load_mid rfl 83 _ rfl w.heap.size 0 rfl [.int .u64 (r0 : Int), .int .u64 (r1 : Int), .int .u64 (m0 : Int), .int .u64 (m1 : Int), .int .u64 (l0 : Int), .int .u64 (l1 : Int), .int .u64 (d0 : Int), .int .u64 (d1 : Int), .int .u64 (adr : Int), .int .u64 (ent : Int), .int .u64 (con : Int), .bool false, .int .u8 (inn : Int), .int .u8 (out : Int), .int .u8 (kind : Int), .int .i64 (minz : Int), .int .i64 (maxz : Int), .int .i64 minlon, .int .i64 minlat, .int .i64 maxlon, .int .i64 maxlat, .int .i64 (zoom : Int), .int .i64 lon, .int .i64 lat] _ (rg_blk HQ2.out) Tryz.underlying83 rfl (by kernel_rfl) ?_))
  have HO := Lib.hid (show w2.ownsRow wB.heap.size 5 1 v2 B0.length (byV B0) by rw [← HB0.out]; exact ho2)
  obtain ⟨A0, c0, rfl, r0'⟩ := Rd.of_own HO.out
  have HR0 := Lib.hid r0'
  clear ho2 r0' hcv hwB hu2 HO HCB HRB HUB
  refine (SC _).out.mono ?_
  rintro e w3 ⟨rfl, hu3⟩
  have HU3 := Lib.hid (HU2.out.trans hu3)
  have HR3 := Lib.hid (HR0.out.up hu3)
  have HQ3 := Lib.hid (hu3.obj HQ2.out)
  clear hu3 HU1 HQ1 HU2 HQ2 HR0
  go_wp2_with fail
  refine wp_loop_rounds 5 ?_
  rw [rounds_succ]
  have n := heap_alloc_new w3 (.cells #[.int .u64 (r0 : Int), .int .u64 (r1 : Int)] 81)
  have n0 := blkc n 0 _ rfl
  have n1 := blkc n 1 _ rfl
  clear n
  have ix := sec_ix0 r0 r1 m0 m1 l0 l1 d0 d1 w3
  go_wp2_with fail
  refine (P1 _ _ _ _ (HR3.out.up (((Up.refl w3).alloc (.cells #[.int .u64 (r0 : Int), .int .u64 (r1 : Int)] 81)).alloc (.cells #[.int .u64 (r0 : Int), .int .u64 (r1 : Int)] 54))) (by have h := rd_new (w3.alloc (.cells #[.int .u64 (r0 : Int), .int .u64 (r1 : Int)] 81)) 54 #[.int .u64 (r0 : Int), .int .u64 (r1 : Int)] 2 rfl (by unfold maxLen; omega); (try rw [World.size_alloc] at h); exact h)).out.mono ?_
  rintro e w4 ⟨v, rfl, ho, hu⟩
  have hu' := (((Up.refl w3).alloc (.cells #[.int .u64 (r0 : Int), .int .u64 (r1 : Int)] 81)).alloc (.cells #[.int .u64 (r0 : Int), .int .u64 (r1 : Int)] 54)).trans hu
  have HU4 := Lib.hid (HU3.out.trans hu')
  have HQ4 := Lib.hid (hu'.obj HQ3.out)
  obtain ⟨A4, c4, rfl, r⟩ := Rd.of_own ho
  have HR4 := Lib.hid r
  clear hu hu' ho r n0 n1 ix HU3 HQ3 HR3 P1
  go_wp2_with fail
  rw [rounds_succ]
  have n := heap_alloc_new w4 (.cells #[.int .u64 (m0 : Int), .int .u64 (m1 : Int)] 81)
  have n0 := blkc n 0 _ rfl
  have n1 := blkc n 1 _ rfl
  clear n
  have ix := sec_ix1 r0 r1 m0 m1 l0 l1 d0 d1 w4
  go_wp2_with fail
  refine (P2 _ _ _ _ (HR4.out.up (((Up.refl w4).alloc (.cells #[.int .u64 (m0 : Int), .int .u64 (m1 : Int)] 81)).alloc (.cells #[.int .u64 (m0 : Int), .int .u64 (m1 : Int)] 54))) (by have h := rd_new (w4.alloc (.cells #[.int .u64 (m0 : Int), .int .u64 (m1 : Int)] 81)) 54 #[.int .u64 (m0 : Int), .int .u64 (m1 : Int)] 2 rfl (by unfold maxLen; omega); (try rw [World.size_alloc] at h); exact h)).out.mono ?_
  rintro e w5 ⟨v, rfl, ho, hu⟩
  have hu' := (((Up.refl w4).alloc (.cells #[.int .u64 (m0 : Int), .int .u64 (m1 : Int)] 81)).alloc (.cells #[.int .u64 (m0 : Int), .int .u64 (m1 : Int)] 54)).trans hu
  have HU5 := Lib.hid (HU4.out.trans hu')
  have HQ5 := Lib.hid (hu'.obj HQ4.out)
  obtain ⟨A5, c5, rfl, r⟩ := Rd.of_own ho
  have HR5 := Lib.hid r
  clear hu hu' ho r n0 n1 ix HU4 HQ4 HR4 P2
  go_wp2_with fail
  rw [rounds_succ]
  have n := heap_alloc_new w5 (.cells #[.int .u64 (l0 : Int), .int .u64 (l1 : Int)] 81)
  have n0 := blkc n 0 _ rfl
  have n1 := blkc n 1 _ rfl
  clear n
  have ix := sec_ix2 r0 r1 m0 m1 l0 l1 d0 d1 w5
  go_wp2_with fail
  refine (P3 _ _ _ _ (HR5.out.up (((Up.refl w5).alloc (.cells #[.int .u64 (l0 : Int), .int .u64 (l1 : Int)] 81)).alloc (.cells #[.int .u64 (l0 : Int), .int .u64 (l1 : Int)] 54))) (by have h := rd_new (w5.alloc (.cells #[.int .u64 (l0 : Int), .int .u64 (l1 : Int)] 81)) 54 #[.int .u64 (l0 : Int), .int .u64 (l1 : Int)] 2 rfl (by unfold maxLen; omega); (try rw [World.size_alloc] at h); exact h)).out.mono ?_
  rintro e w6 ⟨v, rfl, ho, hu⟩
  have hu' := (((Up.refl w5).alloc (.cells #[.int .u64 (l0 : Int), .int .u64 (l1 : Int)] 81)).alloc (.cells #[.int .u64 (l0 : Int), .int .u64 (l1 : Int)] 54)).trans hu
  have HU6 := Lib.hid (HU5.out.trans hu')
  have HQ6 := Lib.hid (hu'.obj HQ5.out)
  obtain ⟨A6, c6, rfl, r⟩ := Rd.of_own ho
  have HR6 := Lib.hid r
  clear hu hu' ho r n0 n1 ix HU5 HQ5 HR5 P3
  go_wp2_with fail
  rw [rounds_succ]
  have n := heap_alloc_new w6 (.cells #[.int .u64 (d0 : Int), .int .u64 (d1 : Int)] 81)
  have n0 := blkc n 0 _ rfl
  have n1 := blkc n 1 _ rfl
  clear n
  have ix := sec_ix3 r0 r1 m0 m1 l0 l1 d0 d1 w6
  go_wp2_with fail
  refine (P4 _ _ _ _ (HR6.out.up (((Up.refl w6).alloc (.cells #[.int .u64 (d0 : Int), .int .u64 (d1 : Int)] 81)).alloc (.cells #[.int .u64 (d0 : Int), .int .u64 (d1 : Int)] 54))) (by have h := rd_new (w6.alloc (.cells #[.int .u64 (d0 : Int), .int .u64 (d1 : Int)] 81)) 54 #[.int .u64 (d0 : Int), .int .u64 (d1 : Int)] 2 rfl (by unfold maxLen; omega); (try rw [World.size_alloc] at h); exact h)).out.mono ?_
  rintro e w7 ⟨v, rfl, ho, hu⟩
  have hu' := (((Up.refl w6).alloc (.cells #[.int .u64 (d0 : Int), .int .u64 (d1 : Int)] 81)).alloc (.cells #[.int .u64 (d0 : Int), .int .u64 (d1 : Int)] 54)).trans hu
  have HU7 := Lib.hid (HU6.out.trans hu')
  have HQ7 := Lib.hid (hu'.obj HQ6.out)
  obtain ⟨A7, c7, rfl, r⟩ := Rd.of_own ho
  have HR7 := Lib.hid r
  clear hu hu' ho r n0 n1 ix HU6 HQ6 HR6 P4
  go_wp2_with fail
  rw [rounds_succ]
  have q8 : w7.cell? ⟨w.heap.size, 8, none⟩ = some (.int .u64 (adr : Int)) := blkc HQ7.out 8 _ rfl
  have q9 : w7.cell? ⟨w.heap.size, 9, none⟩ = some (.int .u64 (ent : Int)) := blkc HQ7.out 9 _ rfl
  have q10 : w7.cell? ⟨w.heap.size, 10, none⟩ = some (.int .u64 (con : Int)) := blkc HQ7.out 10 _ rfl
  go_wp2_with fail
  refine (P5 _ _ _ _ (HR7.out.up ((Up.refl w7).alloc (.cells #[.int .u64 (adr : Int), .int .u64 (ent : Int), .int .u64 (con : Int)] 54))) (by have h := rd_new w7 54 #[.int .u64 (adr : Int), .int .u64 (ent : Int), .int .u64 (con : Int)] 3 rfl (by unfold maxLen; omega); (try rw [World.size_alloc] at h); exact h)).out.mono ?_
  rintro e w8 ⟨v, rfl, ho, hu⟩
  have hu' := ((Up.refl w7).alloc (.cells #[.int .u64 (adr : Int), .int .u64 (ent : Int), .int .u64 (con : Int)] 54)).trans hu
  have HU8 := Lib.hid (HU7.out.trans hu')
  have HQ8 := Lib.hid (hu'.obj HQ7.out)
  obtain ⟨A8, c8, rfl, r⟩ := Rd.of_own ho
  have HR8 := Lib.hid r
  clear hu hu' ho r q8 q9 q10 HU7 HQ7 HR7 P5
  have q11 : w8.cell? ⟨w.heap.size, 11, none⟩ = some (.bool false) := blkc HQ8.out 11 _ rfl
  have q12 : w8.cell? ⟨w.heap.size, 12, none⟩ = some (.int .u8 (inn : Int)) := blkc HQ8.out 12 _ rfl
  have q13 : w8.cell? ⟨w.heap.size, 13, none⟩ = some (.int .u8 (out : Int)) := blkc HQ8.out 13 _ rfl
  have q14 : w8.cell? ⟨w.heap.size, 14, none⟩ = some (.int .u8 (kind : Int)) := blkc HQ8.out 14 _ rfl
  have q15 : w8.cell? ⟨w.heap.size, 15, none⟩ = some (.int .i64 (minz : Int)) := blkc HQ8.out 15 _ rfl
  have q16 : w8.cell? ⟨w.heap.size, 16, none⟩ = some (.int .i64 (maxz : Int)) := blkc HQ8.out 16 _ rfl
  go_wp2_with fail
  refine (P6 _ _ _ _ (HR8.out.up ((Up.refl w8).alloc (.cells #[.int .u64 0, .int .u64 (inn : Int), .int .u64 (out : Int), .int .u64 (kind : Int), .int .u64 (minz : Int), .int .u64 (maxz : Int)] 54))) (by have h := rd_new w8 54 #[.int .u64 0, .int .u64 (inn : Int), .int .u64 (out : Int), .int .u64 (kind : Int), .int .u64 (minz : Int), .int .u64 (maxz : Int)] 6 rfl (by unfold maxLen; omega); (try rw [World.size_alloc] at h); exact h)).out.mono ?_
  rintro e w9 ⟨v, rfl, ho, hu⟩
  have hu' := ((Up.refl w8).alloc (.cells #[.int .u64 0, .int .u64 (inn : Int), .int .u64 (out : Int), .int .u64 (kind : Int), .int .u64 (minz : Int), .int .u64 (maxz : Int)] 54)).trans hu
  have HU9 := Lib.hid (HU8.out.trans hu')
  have HQ9 := Lib.hid (hu'.obj HQ8.out)
  obtain ⟨A9, c9, rfl, r⟩ := Rd.of_own ho
  have HR9 := Lib.hid r
  clear hu hu' ho r q11 q12 q13 q14 q15 q16 HU8 HQ8 HR8 P6
  have q17 : w9.cell? ⟨w.heap.size, 17, none⟩ = some (.int .i64 minlon) := blkc HQ9.out 17 _ rfl
  have q18 : w9.cell? ⟨w.heap.size, 18, none⟩ = some (.int .i64 minlat) := blkc HQ9.out 18 _ rfl
  have q19 : w9.cell? ⟨w.heap.size, 19, none⟩ = some (.int .i64 maxlon) := blkc HQ9.out 19 _ rfl
  have q20 : w9.cell? ⟨w.heap.size, 20, none⟩ = some (.int .i64 maxlat) := blkc HQ9.out 20 _ rfl
  go_wp2_with fail
  refine (P7 _ _ _ _ (HR9.out.up ((Up.refl w9).alloc (.cells #[.int .i64 minlon, .int .i64 minlat, .int .i64 maxlon, .int .i64 maxlat] 3))) (by have h := rd_new w9 3 #[.int .i64 minlon, .int .i64 minlat, .int .i64 maxlon, .int .i64 maxlat] 4 rfl (by unfold maxLen; omega); (try rw [World.size_alloc] at h); exact h)).out.mono ?_
  rintro e w10 ⟨v, rfl, ho, hu⟩
  have hu' := ((Up.refl w9).alloc (.cells #[.int .i64 minlon, .int .i64 minlat, .int .i64 maxlon, .int .i64 maxlat] 3)).trans hu
  have HU10 := Lib.hid (HU9.out.trans hu')
  have HQ10 := Lib.hid (hu'.obj HQ9.out)
  obtain ⟨A10, c10, rfl, r⟩ := Rd.of_own ho
  have HR10 := Lib.hid r
  clear hu hu' ho r q17 q18 q19 q20 HU9 HQ9 HR9 P7
  have q21 : w10.cell? ⟨w.heap.size, 21, none⟩ = some (.int .i64 (zoom : Int)) := blkc HQ10.out 21 _ rfl
  go_wp2_with fail
  refine (P8 _ _ _ _ (HR10.out.up ((Up.refl w10).alloc (.cells #[.int .u64 (zoom : Int)] 54))) (by have h := rd_new w10 54 #[.int .u64 (zoom : Int)] 1 rfl (by unfold maxLen; omega); (try rw [World.size_alloc] at h); exact h)).out.mono ?_
  rintro e w11 ⟨v, rfl, ho, hu⟩
  have hu' := ((Up.refl w10).alloc (.cells #[.int .u64 (zoom : Int)] 54)).trans hu
  have HU11 := Lib.hid (HU10.out.trans hu')
  have HQ11 := Lib.hid (hu'.obj HQ10.out)
  obtain ⟨A11, c11, rfl, r⟩ := Rd.of_own ho
  have HR11 := Lib.hid r
  clear hu hu' ho r q21 HU10 HQ10 HR10 P8
  have q22 : w11.cell? ⟨w.heap.size, 22, none⟩ = some (.int .i64 lon) := blkc HQ11.out 22 _ rfl
  have q23 : w11.cell? ⟨w.heap.size, 23, none⟩ = some (.int .i64 lat) := blkc HQ11.out 23 _ rfl
  go_wp2_with fail
  refine (P9 _ _ _ _ (HR11.out.up ((Up.refl w11).alloc (.cells #[.int .i64 lon, .int .i64 lat] 3))) (by have h := rd_new w11 3 #[.int .i64 lon, .int .i64 lat] 2 rfl (by unfold maxLen; omega); (try rw [World.size_alloc] at h); exact h)).out.mono ?_
  rintro e w12 ⟨v, rfl, ho, hu⟩
  have hu' := ((Up.refl w11).alloc (.cells #[.int .i64 lon, .int .i64 lat] 3)).trans hu
  have HU12 := Lib.hid (HU11.out.trans hu')
  have HQ12 := Lib.hid (hu'.obj HQ11.out)
  obtain ⟨A12, c12, rfl, r⟩ := Rd.of_own ho
  have HR12 := Lib.hid r
  clear hu hu' ho r q22 q23 HU11 HQ11 HR11 P9
  have hst := HR12.out.str HL9'.out
  go_wp2_with fail
  refine bodyPost_ret (v := .tuple #[.string ⟨B9.toArray⟩, .int .i64 0]) (by simp [results, Tryz.results91, go_sem]) rfl ?_
  exact ⟨rfl, HU12.out⟩
theorem henc_any (h : Hdr) (hE : hdrE h = 0) (ok : OkH h) (w : World) :
    Calls Tryz.prog 91 #[hdrV h] w fun e w' => e = .returned (.tuple #[.string ⟨(hdrB h).toArray⟩, .int .i64 0]) ∧ Up w w' := by
  obtain ⟨e1, e2, e3, e4, e5⟩ := hdr_ok hE
  obtain ⟨o1, o2, o3⟩ := ok
  obtain ⟨r0, r1, m0, m1, l0, l1, d0, d1, adr, ent, con, clu, inn, out, kind, minz, maxz, minlon, minlat, maxlon, maxlat, zoom, lon, lat⟩ := h
  simp only [TOT] at e1 e2 e3 e4 e5 o1 o2 o3
  obtain ⟨z1, rfl⟩ := Int.eq_ofNat_of_zero_le (show 0 ≤ minz by omega)
  obtain ⟨z2, rfl⟩ := Int.eq_ofNat_of_zero_le (show 0 ≤ maxz by omega)
  obtain ⟨z3, rfl⟩ := Int.eq_ofNat_of_zero_le (show 0 ≤ zoom by omega)
  cases clu
  · exact henc_false r0 r1 m0 m1 l0 l1 d0 d1 adr ent con inn out kind z1 z2 minlon minlat maxlon maxlat z3 lon lat hE (by omega) (by omega) w
  · exact henc_true r0 r1 m0 m1 l0 l1 d0 d1 adr ent con inn out kind z1 z2 minlon minlat maxlon maxlat z3 lon lat hE (by omega) (by omega) w
end Go.Proofs.YtcfmidmokciofaaGreatDoor
