/- Walk: gazetteerref06.Decode of every text. -/
import Derived.Test.YtbfieomjobbhoaaGreatDoorMN20
import Derived.Test.YtbfieomjobbhoaaGreatDoorMN21
import Derived.StillTailTactics
namespace Go.Proofs.YtbfieomjobbhoaaGreatDoor
open Go.RowKit Go.Gz Go.Shelf
set_option maxRecDepth 100000
theorem build_hz6 (w : World) : (Instr.build 73 #[]).run Tryz.prog w = .ok (.agg HZ) w := by kernel_rfl
theorem build_h46 (r0 r1 m0 m1 l0 l1 d0 d1 : Nat) (w : World) : (Instr.build 73 #[(0, .agg #[.int .u64 (r0 : Int), .int .u64 (r1 : Int)]), (1, .agg #[.int .u64 (m0 : Int), .int .u64 (m1 : Int)]), (2, .agg #[.int .u64 (l0 : Int), .int .u64 (l1 : Int)]), (3, .agg #[.int .u64 (d0 : Int), .int .u64 (d1 : Int)])]).run Tryz.prog w = .ok (.agg (HC r0 r1 m0 m1 l0 l1 d0 d1 0 0 0 false 0 0 0 0 0 0 0 0 0 0 0 0)) w := by kernel_rfl
theorem nAt_one {s : Bs} {p : Nat} (h : p < s.length) : nAt s p 1 = (s[p]'h).toNat := by
  unfold nAt;rw [List.drop_eq_getElem_cons h];show (s[p]).toNat + 256 * 0 = _
  omega
set_option maxHeartbeats 4000000 in
theorem r6dec_short (s : Bs) (hl : s.length < 127) (w : World) :
    Calls Tryz.prog 41 #[.string ⟨s.toArray⟩] w (DecE w (HZ, 3)) := by
  have t0 : (s.length : Int) < 127 := by omega
  have hb := heap_alloc_new w (.cells HZ 73);have hu := (Up.refl w).alloc (.cells HZ 73);have bz := build_hz6 (w.alloc (.cells HZ 73));have th1 : (w.alloc (.cells HZ 73)).there w.heap.size 0 24 := show _ from (th_blk hb : World.there _ _ _ (HZ).size)
  have hrg := World.rangeAt_setCells_same (w.alloc (.cells HZ 73)) w.heap.size 0 (HZ).toList th1;have hu2 : Up w ((w.alloc (.cells HZ 73)).setCells w.heap.size 0 (HZ).toList) := up_setCells _ hu (Nat.le_refl _);obtain ⟨X, hX⟩ : ∃ x, (w.alloc (.cells HZ 73)).setCells w.heap.size 0 (HZ).toList = x := ⟨_, rfl⟩;rw [hX] at hrg hu2;have HU := Lib.hid hu2;clear hb hu hu2;go_enter Tryz.func41, Tryz.ntmps41;go_wp2_with (refine wpList_store_mid rfl 73 _ _ rfl w.heap.size 0 HZ rfl rfl th1 (by kernel_rfl) (by simp [Value.oneCell']) ?_; rw [hX])
  refine bodyPost_ret (results_cell_tmp rfl _ _ w.heap.size (HZ).toList _ rfl hrg Tryz.underlying73 rfl (by kernel_rfl)) rfl ?_;exact ⟨rfl, HU.out⟩
set_option maxHeartbeats 4000000 in
theorem r6dec_magic (s : Bs) (hl : 127 ≤ s.length) (hm : s.take 7 ≠ [80, 77, 84, 105, 108, 101, 115]) (w : World) :
    Calls Tryz.prog 41 #[.string ⟨s.toArray⟩] w (DecE w (HZ, 12)) := by
  have t0 : ¬ (s.length : Int) < 127 := by omega
  have t7 : (7 : Int) ≤ (s.length : Int) := by omega
  have hss : (⟨s.toArray⟩ : ByteArray).size = s.length := by simp [ByteArray.size]
  have hp := part_mk s 0 7 7 rfl;rw [show Gz.part s 0 7 = s.take 7 from rfl] at hp;have hmb : (s.take 7 == [80, 77, 84, 105, 108, 101, 115]) = false := by rw [beq_eq_false_iff_ne]; exact hm
  generalize s.take 7 = T at *;have hb := heap_alloc_new w (.cells HZ 73);have hu := (Up.refl w).alloc (.cells HZ 73);have bz := build_hz6 (w.alloc (.cells HZ 73));have th1 : (w.alloc (.cells HZ 73)).there w.heap.size 0 24 := show _ from (th_blk hb : World.there _ _ _ (HZ).size)
  have hrg := World.rangeAt_setCells_same (w.alloc (.cells HZ 73)) w.heap.size 0 (HZ).toList th1;have hu2 : Up w ((w.alloc (.cells HZ 73)).setCells w.heap.size 0 (HZ).toList) := up_setCells _ hu (Nat.le_refl _);obtain ⟨X, hX⟩ : ∃ x, (w.alloc (.cells HZ 73)).setCells w.heap.size 0 (HZ).toList = x := ⟨_, rfl⟩;rw [hX] at hrg hu2;have HU := Lib.hid hu2;clear hb hu hu2;go_enter Tryz.func41, Tryz.ntmps41;go_wp2_with (refine wpList_store_mid rfl 73 _ _ rfl w.heap.size 0 HZ rfl rfl th1 (by kernel_rfl) (by simp [Value.oneCell']) ?_; rw [hX])
  refine bodyPost_ret (results_cell_tmp rfl _ _ w.heap.size (HZ).toList _ rfl hrg Tryz.underlying73 rfl (by kernel_rfl)) rfl ?_;exact ⟨rfl, HU.out⟩
set_option maxHeartbeats 4000000 in
theorem r6dec_ver (s : Bs) (hl : 127 ≤ s.length) (hm : s.take 7 = [80, 77, 84, 105, 108, 101, 115]) (v : UInt8) (hv : s[7]? = some v) (h3 : v ≠ 3) (w : World) :
    Calls Tryz.prog 41 #[.string ⟨s.toArray⟩] w (DecE w (HZ, 13)) := by
  have t0 : ¬ (s.length : Int) < 127 := by omega
  have t7 : (7 : Int) ≤ (s.length : Int) := by omega
  have hss : (⟨s.toArray⟩ : ByteArray).size = s.length := by simp [ByteArray.size]
  have hp := part_mk s 0 7 7 rfl;rw [show Gz.part s 0 7 = s.take 7 from rfl, hm] at hp;have hmb : (([80, 77, 84, 105, 108, 101, 115] : List UInt8) == [80, 77, 84, 105, 108, 101, 115]) = true := by decide
  have hb7 : (⟨s.toArray⟩ : ByteArray)[7]'(by rw [size_mk]; exact Nat.lt_of_lt_of_le (by decide) hl) = v := by
    rw [List.getElem?_eq_getElem (Nat.lt_of_lt_of_le (by decide) hl)] at hv;injection hv
  have hvb : ((v.toNat : Int) != 3) = true := by
    rw [bne_iff_ne];intro e;exact h3 (UInt8.toNat_inj.1 (by have : (3 : UInt8).toNat = 3 := rfl; omega))
  have hb := heap_alloc_new w (.cells HZ 73);have hu := (Up.refl w).alloc (.cells HZ 73);have bz := build_hz6 (w.alloc (.cells HZ 73));have th1 : (w.alloc (.cells HZ 73)).there w.heap.size 0 24 := show _ from (th_blk hb : World.there _ _ _ (HZ).size)
  have hrg := World.rangeAt_setCells_same (w.alloc (.cells HZ 73)) w.heap.size 0 (HZ).toList th1;have hu2 : Up w ((w.alloc (.cells HZ 73)).setCells w.heap.size 0 (HZ).toList) := up_setCells _ hu (Nat.le_refl _);obtain ⟨X, hX⟩ : ∃ x, (w.alloc (.cells HZ 73)).setCells w.heap.size 0 (HZ).toList = x := ⟨_, rfl⟩;rw [hX] at hrg hu2;have HU := Lib.hid hu2;clear hb hu hu2;go_enter Tryz.func41, Tryz.ntmps41;go_wp2_with (refine wpList_store_mid rfl 73 _ _ rfl w.heap.size 0 HZ rfl rfl th1 (by kernel_rfl) (by simp [Value.oneCell']) ?_; rw [hX])
  refine bodyPost_ret (results_cell_tmp rfl _ _ w.heap.size (HZ).toList _ rfl hrg Tryz.underlying73 rfl (by kernel_rfl)) rfl ?_;exact ⟨rfl, HU.out⟩
set_option maxHeartbeats 4000000 in
theorem r6dec_clu (s : Bs) (hl : 127 ≤ s.length) (hm : s.take 7 = [80, 77, 84, 105, 108, 101, 115]) (hv : s[7]? = some 3) (cl : UInt8) (hcl : s[96]'(by omega) = cl) (h1 : 1 < cl.toNat) (w : World) :
    Calls Tryz.prog 41 #[.string ⟨s.toArray⟩] w (DecE w (HZ, 4)) := by
  have t0 : ¬ (s.length : Int) < 127 := by omega
  have t7 : (7 : Int) ≤ (s.length : Int) := by omega
  have hss : (⟨s.toArray⟩ : ByteArray).size = s.length := by simp [ByteArray.size]
  have hp := part_mk s 0 7 7 rfl;rw [show Gz.part s 0 7 = s.take 7 from rfl, hm] at hp;have hmb : (([80, 77, 84, 105, 108, 101, 115] : List UInt8) == [80, 77, 84, 105, 108, 101, 115]) = true := by decide
  have hb7 : (⟨s.toArray⟩ : ByteArray)[7]'(by rw [size_mk]; exact Nat.lt_of_lt_of_le (by decide) hl) = 3 := by
    rw [List.getElem?_eq_getElem (Nat.lt_of_lt_of_le (by decide) hl)] at hv;injection hv
  have hb96 : (⟨s.toArray⟩ : ByteArray)[96]'(by rw [size_mk]; exact Nat.lt_of_lt_of_le (by decide) hl) = cl := hcl;have h1I : (1 : Int) < (cl.toNat : Int) := by omega
  have hb := heap_alloc_new w (.cells HZ 73);have hu := (Up.refl w).alloc (.cells HZ 73);have bz := build_hz6 (w.alloc (.cells HZ 73));have th1 : (w.alloc (.cells HZ 73)).there w.heap.size 0 24 := show _ from (th_blk hb : World.there _ _ _ (HZ).size)
  have hrg := World.rangeAt_setCells_same (w.alloc (.cells HZ 73)) w.heap.size 0 (HZ).toList th1;have hu2 : Up w ((w.alloc (.cells HZ 73)).setCells w.heap.size 0 (HZ).toList) := up_setCells _ hu (Nat.le_refl _);obtain ⟨X, hX⟩ : ∃ x, (w.alloc (.cells HZ 73)).setCells w.heap.size 0 (HZ).toList = x := ⟨_, rfl⟩;rw [hX] at hrg hu2;have HU := Lib.hid hu2;clear hb hu hu2;go_enter Tryz.func41, Tryz.ntmps41;go_wp2_with (refine wpList_store_mid rfl 73 _ _ rfl w.heap.size 0 HZ rfl rfl th1 (by kernel_rfl) (by simp [Value.oneCell']) ?_; rw [hX])
  refine bodyPost_ret (results_cell_tmp rfl _ _ w.heap.size (HZ).toList _ rfl hrg Tryz.underlying73 rfl (by kernel_rfl)) rfl ?_;exact ⟨rfl, HU.out⟩
/-- where the walk stands: the result's block, the header's -/
theorem ix_run (s : Bs) (k : Nat) (h : k < s.length) (b : UInt8) (hb : s[k] = b) (i : Int) (hi : i = (k : Int)) (w : World) : (Instr.index 9 (.string ⟨s.toArray⟩) (.int .i64 i)).run Tryz.prog w = .ok (.int .u8 (b.toNat : Int)) w := by
  subst hi; subst hb;rw [run_index_string _ _ _ _ _ Tryz.underlying9, dif_pos ⟨by omega, by rw [size_mk]; omega⟩];rfl
theorem merge1 {P F : World → Prop} {G : Prop} (h1 : (∀ Y, F Y → P Y) → G) (h2 : ∀ Y, F Y → P Y) : G := h1 h2
structure DR (w X : World) (B : Nat) (cs : Array Value) : Prop where
  up : Up w X
  lt : w.heap.size < B
  hh : X.heap[B]? = some (.cells cs 73 (0, 0))
  hr : X.heap[w.heap.size]? = some (.cells HZ 73 (0, 0))
theorem DR.set {w X : World} {B : Nat} {cs : Array Value} (h : DR w X B cs) (k : Nat) (v : Value) : DR w (X.setCell ⟨B, k, none⟩ v) B (cs.setIfInBounds k v) :=
  ⟨h.up.set (p := ⟨B, k, none⟩) (Nat.le_of_lt h.lt) v, h.lt, heap_setCell_same X _ k _ _ v h.hh, (heap_setCell_other X ⟨B, k, none⟩ _ v (by have := h.lt; simp; omega)).trans h.hr⟩
theorem DR.more {w X Y : World} {B : Nat} {cs : Array Value} (h : DR w X B cs) (hu : Up X Y) : DR w Y B cs :=
  ⟨h.up.trans hu, h.lt, hu.obj h.hh, hu.obj h.hr⟩
theorem DR.cs {w X : World} {B : Nat} {cs cs2 : Array Value} (h : DR w X B cs) (e : cs = cs2) : DR w X B cs2 := e ▸ h
set_option maxHeartbeats 16000000 in
theorem r6dec_full (s : Bs) (hs : s.length ≤ 1000000) (hl : 127 ≤ s.length) (hm : s.take 7 = [80, 77, 84, 105, 108, 101, 115]) (hv : s[7]? = some 3)
    (r0 r1 m0 m1 l0 l1 d0 d1 adr ent con : Nat) (cl inn out kind minz maxz : UInt8) (minlon minlat maxlon maxlat : Int) (zoom : UInt8) (lon lat : Int)
    (e_r0 : nAt s 8 8 = r0) (e_r1 : nAt s 16 8 = r1) (e_m0 : nAt s 24 8 = m0) (e_m1 : nAt s 32 8 = m1) (e_l0 : nAt s 40 8 = l0) (e_l1 : nAt s 48 8 = l1) (e_d0 : nAt s 56 8 = d0) (e_d1 : nAt s 64 8 = d1) (e_adr : nAt s 72 8 = adr) (e_ent : nAt s 80 8 = ent) (e_con : nAt s 88 8 = con) (e_cl : s[96]'(by omega) = cl) (h1 : cl.toNat ≤ 1) (clu : Bool) (hclu : ((cl.toNat : Int) == 1) = clu)
    (e_inn : s[97]'(by omega) = inn) (e_out : s[98]'(by omega) = out) (e_kind : s[99]'(by omega) = kind) (e_minz : s[100]'(by omega) = minz) (e_maxz : s[101]'(by omega) = maxz) (e_minlon : sgn4 (nAt s 102 4) = minlon) (e_minlat : sgn4 (nAt s 106 4) = minlat) (e_maxlon : sgn4 (nAt s 110 4) = maxlon) (e_maxlat : sgn4 (nAt s 114 4) = maxlat) (e_zoom : s[118]'(by omega) = zoom) (e_lon : sgn4 (nAt s 119 4) = lon) (e_lat : sgn4 (nAt s 123 4) = lat)
    (E : Int) (CK : ∀ w, Hid (Calls Tryz.prog 99 #[.agg (HC r0 r1 m0 m1 l0 l1 d0 d1 adr ent con clu inn.toNat out.toNat kind.toNat minz.toNat maxz.toNat minlon minlat maxlon maxlat zoom.toNat lon lat)] w fun e w' => e = .returned (.int .i64 E) ∧ Up w w')) (w : World) :
    Calls Tryz.prog 41 #[.string ⟨s.toArray⟩] w (DecE w (if E = 0 then (HC r0 r1 m0 m1 l0 l1 d0 d1 adr ent con clu inn.toNat out.toNat kind.toNat minz.toNat maxz.toNat minlon minlat maxlon maxlat zoom.toNat lon lat, 0) else (HZ, E))) := by
  have t0 : ¬ (s.length : Int) < 127 := by omega
  have t7 : (7 : Int) ≤ (s.length : Int) := by omega
  have hss : (⟨s.toArray⟩ : ByteArray).size = s.length := by simp [ByteArray.size]
  have hp := part_mk s 0 7 7 rfl;rw [show Gz.part s 0 7 = s.take 7 from rfl, hm] at hp;have hmb : (([80, 77, 84, 105, 108, 101, 115] : List UInt8) == [80, 77, 84, 105, 108, 101, 115]) = true := by decide
  have hb7 : (⟨s.toArray⟩ : ByteArray)[7]'(by rw [size_mk]; exact Nat.lt_of_lt_of_le (by decide) hl) = 3 := by
    rw [List.getElem?_eq_getElem (Nat.lt_of_lt_of_le (by decide) hl)] at hv;injection hv
  have hb96 : (⟨s.toArray⟩ : ByteArray)[96]'(by rw [size_mk]; exact Nat.lt_of_lt_of_le (by decide) hl) = cl := e_cl;have hb97 : (⟨s.toArray⟩ : ByteArray)[97]'(by rw [size_mk]; exact Nat.lt_of_lt_of_le (by decide) hl) = inn := e_inn;have hb98 : (⟨s.toArray⟩ : ByteArray)[98]'(by rw [size_mk]; exact Nat.lt_of_lt_of_le (by decide) hl) = out := e_out;have hb99 : (⟨s.toArray⟩ : ByteArray)[99]'(by rw [size_mk]; exact Nat.lt_of_lt_of_le (by decide) hl) = kind := e_kind;have hb100 : (⟨s.toArray⟩ : ByteArray)[100]'(by rw [size_mk]; exact Nat.lt_of_lt_of_le (by decide) hl) = minz := e_minz;have hb101 : (⟨s.toArray⟩ : ByteArray)[101]'(by rw [size_mk]; exact Nat.lt_of_lt_of_le (by decide) hl) = maxz := e_maxz;have hb118 : (⟨s.toArray⟩ : ByteArray)[118]'(by rw [size_mk]; exact Nat.lt_of_lt_of_le (by decide) hl) = zoom := e_zoom;have u_minz : IntKind.i64.wrap (minz.toNat : Int) = (minz.toNat : Int) := IntWalk.i64_in _ (by have := minz.toNat_lt; omega);have u_maxz : IntKind.i64.wrap (maxz.toNat : Int) = (maxz.toNat : Int) := IntWalk.i64_in _ (by have := maxz.toNat_lt; omega);have u_zoom : IntKind.i64.wrap (zoom.toNat : Int) = (zoom.toNat : Int) := IntWalk.i64_in _ (by have := zoom.toNat_lt; omega);have h1I : ¬ (1 : Int) < (cl.toNat : Int) := by omega
  have ix7 : (7 : Int) < (s.length : Int) := by omega
  have ix96 : (96 : Int) < (s.length : Int) := by omega
  have ix97 : (97 : Int) < (s.length : Int) := by omega
  have ix98 : (98 : Int) < (s.length : Int) := by omega
  have ix99 : (99 : Int) < (s.length : Int) := by omega
  have ix100 : (100 : Int) < (s.length : Int) := by omega
  have ix101 : (101 : Int) < (s.length : Int) := by omega
  have ix118 : (118 : Int) < (s.length : Int) := by omega
  have C_r0 := fun X => Lib.hid (r6part_any s hs 8 16 rfl (by omega) 8 rfl r0 r1 e_r0 e_r1 X);have C_m0 := fun X => Lib.hid (r6part_any s hs 24 32 rfl (by omega) 24 rfl m0 m1 e_m0 e_m1 X);have C_l0 := fun X => Lib.hid (r6part_any s hs 40 48 rfl (by omega) 40 rfl l0 l1 e_l0 e_l1 X);have C_d0 := fun X => Lib.hid (r6part_any s hs 56 64 rfl (by omega) 56 rfl d0 d1 e_d0 e_d1 X);have C_adr := fun X => Lib.hid (r6at_at s hs 72 8 (by omega) (by omega) 72 8 rfl rfl adr e_adr X);have C_ent := fun X => Lib.hid (r6at_at s hs 80 8 (by omega) (by omega) 80 8 rfl rfl ent e_ent X);have C_con := fun X => Lib.hid (r6at_at s hs 88 8 (by omega) (by omega) 88 8 rfl rfl con e_con X);have C_minlon := fun X => Lib.hid (r6deg_any s hs 102 (by omega) 102 rfl minlon e_minlon X);have C_minlat := fun X => Lib.hid (r6deg_any s hs 106 (by omega) 106 rfl minlat e_minlat X);have C_maxlon := fun X => Lib.hid (r6deg_any s hs 110 (by omega) 110 rfl maxlon e_maxlon X);have C_maxlat := fun X => Lib.hid (r6deg_any s hs 114 (by omega) 114 rfl maxlat e_maxlat X);have C_lon := fun X => Lib.hid (r6deg_any s hs 119 (by omega) 119 rfl lon e_lon X);have C_lat := fun X => Lib.hid (r6deg_any s hs 123 (by omega) 123 rfl lat e_lat X);obtain ⟨R, hR⟩ : ∃ R, (if E = 0 then (HC r0 r1 m0 m1 l0 l1 d0 d1 adr ent con clu inn.toNat out.toNat kind.toNat minz.toNat maxz.toNat minlon minlat maxlon maxlat zoom.toNat lon lat, 0) else (HZ, E)) = R := ⟨_, rfl⟩;rw [hR];have HRR := Lib.hid hR;have RX96 := ix_run s 96 (by omega) cl e_cl 96 rfl;have RX97 := ix_run s 97 (by omega) inn e_inn 97 rfl;have RX98 := ix_run s 98 (by omega) out e_out 98 rfl;have RX99 := ix_run s 99 (by omega) kind e_kind 99 rfl;have RX100 := ix_run s 100 (by omega) minz e_minz 100 rfl;have RX101 := ix_run s 101 (by omega) maxz e_maxz 101 rfl;have RX118 := ix_run s 118 (by omega) zoom e_zoom 118 rfl;clear hR hs h1 hm hv e_cl e_r0 e_r1 e_m0 e_m1 e_l0 e_l1 e_d0 e_d1 e_adr e_ent e_con e_inn e_out e_kind e_minz e_maxz e_minlon e_minlat e_maxlon e_maxlat e_zoom e_lon e_lat
  have hb := heap_alloc_new w (.cells HZ 73);have HB0 := Lib.hid hb;have HU0 := Lib.hid ((Up.refl w).alloc (.cells HZ 73));clear hb;go_enter Tryz.func41, Tryz.ntmps41;go_wp2_with fail;with_reducible refine (C_r0 _).out.mono ?_
  rintro e w1 ⟨rfl, hu⟩;have HB1 := Lib.hid (hu.obj HB0.out);have HU1 := Lib.hid (HU0.out.trans hu);have hsz1 : w.heap.size < w1.heap.size := by have := hu.le; rw [World.size_alloc] at this; omega
  clear hu HB0 HU0 C_r0;go_wp2_with fail;with_reducible refine (C_m0 _).out.mono ?_
  rintro e w2 ⟨rfl, hu⟩;have HB2 := Lib.hid (hu.obj HB1.out);have HU2 := Lib.hid (HU1.out.trans hu);have hsz2 : w.heap.size < w2.heap.size := by have := hu.le; omega
  clear hsz1;clear hu HB1 HU1 C_m0;go_wp2_with fail;with_reducible refine (C_l0 _).out.mono ?_
  rintro e w3 ⟨rfl, hu⟩;have HB3 := Lib.hid (hu.obj HB2.out);have HU3 := Lib.hid (HU2.out.trans hu);have hsz3 : w.heap.size < w3.heap.size := by have := hu.le; omega
  clear hsz2;clear hu HB2 HU2 C_l0;go_wp2_with fail;with_reducible refine (C_d0 _).out.mono ?_
  rintro e w4 ⟨rfl, hu⟩;have HB4 := Lib.hid (hu.obj HB3.out);have HU4 := Lib.hid (HU3.out.trans hu);have hsz4 : w.heap.size < w4.heap.size := by have := hu.le; omega
  clear hsz3;clear hu HB3 HU3 C_d0;have hn := heap_alloc_new w4 (.cells (HC r0 r1 m0 m1 l0 l1 d0 d1 0 0 0 false 0 0 0 0 0 0 0 0 0 0 0 0) 73);have D5 : Hid (DR w (w4.alloc (.cells (HC r0 r1 m0 m1 l0 l1 d0 d1 0 0 0 false 0 0 0 0 0 0 0 0 0 0 0 0) 73)) w4.heap.size (HC r0 r1 m0 m1 l0 l1 d0 d1 0 0 0 false 0 0 0 0 0 0 0 0 0 0 0 0)) := Lib.hid ⟨HU4.out.alloc _, hsz4, hn, ((Up.refl _).alloc _).obj HB4.out⟩;have bh := build_h46 r0 r1 m0 m1 l0 l1 d0 d1 w4;clear hn HB4 HU4 hsz4;go_wp2_with (refine wpList_store_new w4 rfl 73 _ _ rfl HZ (HC r0 r1 m0 m1 l0 l1 d0 d1 0 0 0 false 0 0 0 0 0 0 0 0 0 0 0 0) rfl rfl (by kernel_rfl) rfl (by simp [Value.oneCell']) ?_)
  clear bh;replace D5 := Lib.hid (D5.out.more (Up.refl _).drew);apply merge1 (F := fun Y => DR w Y w4.heap.size (HC r0 r1 m0 m1 l0 l1 d0 d1 adr ent con clu 0 0 0 0 0 0 0 0 0 0 0 0))
  · intro FIN
    go_region_held3 (fun w' => (Instr.index 9 (.string ⟨s.toArray⟩) (.int .i64 96)).run Tryz.prog w' = .ok (.int .u8 (cl.toNat : Int)) w') (exact RX96 _)
      (first
        | (with_reducible refine (C_adr _).out.mono ?_; rintro e y6 ⟨rfl, hu⟩; have D6 := Lib.hid (D5.out.more hu))
        | (with_reducible refine (C_ent _).out.mono ?_; rintro e y7 ⟨rfl, hu⟩; have D7 := Lib.hid (D6.out.more hu))
        | (with_reducible refine (C_con _).out.mono ?_; rintro e y8 ⟨rfl, hu⟩; have D8 := Lib.hid (D7.out.more hu); have E0 := D8.out; have p0 := blkc E0.hh 8 _ rfl; have f0 := blkf E0.hh 8; have E1 := E0.set 8 (.int .u64 (adr : Int)); have p1 := blkc E1.hh 9 _ rfl; have f1 := blkf E1.hh 9; have E2 := E1.set 9 (.int .u64 (ent : Int)); have p2 := blkc E2.hh 10 _ rfl; have f2 := blkf E2.hh 10; have E3 := E2.set 10 (.int .u64 (con : Int)); have p3 := blkc E3.hh 11 _ rfl; have f3 := blkf E3.hh 11; have E4 := E3.set 11 (.bool clu); have D9 := Lib.hid (E4.cs (cs2 := HC r0 r1 m0 m1 l0 l1 d0 d1 adr ent con clu 0 0 0 0 0 0 0 0 0 0 0 0) rfl); clear E0 E1 E2 E3 E4))
    all_goals exact FIN _ D9.out
  intro y9 d9;go_wp2_with fail;clear C_adr C_ent C_con D5;have p0 := blkc d9.hh 12 _ rfl;have f0 := blkf d9.hh 12;have p1 := blkc d9.hh 13 _ rfl;have f1 := blkf d9.hh 13;have p2 := blkc d9.hh 14 _ rfl;have f2 := blkf d9.hh 14;have p3 := blkc d9.hh 15 _ rfl;have f3 := blkf d9.hh 15;have p4 := blkc d9.hh 16 _ rfl;have f4 := blkf d9.hh 16;have D10 := Lib.hid (((((((d9.set 12 (.int .u8 (inn.toNat : Int))).set 13 (.int .u8 (out.toNat : Int))).set 14 (.int .u8 (kind.toNat : Int))).set 15 (.int .i64 (minz.toNat : Int))).set 16 (.int .i64 (maxz.toNat : Int))).cs (cs2 := HC r0 r1 m0 m1 l0 l1 d0 d1 adr ent con clu inn.toNat out.toNat kind.toNat minz.toNat maxz.toNat 0 0 0 0 0 0 0) rfl).more (Up.refl _).drew);clear d9;apply merge1 (F := fun Y => DR w Y w4.heap.size (HC r0 r1 m0 m1 l0 l1 d0 d1 adr ent con clu inn.toNat out.toNat kind.toNat minz.toNat maxz.toNat 0 0 0 0 0 0 0))
  · intro FIN;refine wp_region_held_drew (S := fun w' => (Instr.index 9 (.string ⟨s.toArray⟩) (.int .i64 97)).run Tryz.prog w' = .ok (.int .u8 (inn.toNat : Int)) w' ∧ (Instr.index 9 (.string ⟨s.toArray⟩) (.int .i64 98)).run Tryz.prog w' = .ok (.int .u8 (out.toNat : Int)) w' ∧ (Instr.index 9 (.string ⟨s.toArray⟩) (.int .i64 99)).run Tryz.prog w' = .ok (.int .u8 (kind.toNat : Int)) w' ∧ (Instr.index 9 (.string ⟨s.toArray⟩) (.int .i64 100)).run Tryz.prog w' = .ok (.int .u8 (minz.toNat : Int)) w' ∧ (Instr.index 9 (.string ⟨s.toArray⟩) (.int .i64 101)).run Tryz.prog w' = .ok (.int .u8 (maxz.toNat : Int)) w') (by kernel_rfl) ?_ (fun hHeld => ?_)
    · exact ⟨RX97 _, RX98 _, RX99 _, RX100 _, RX101 _⟩
    refine tk 0 rfl ?_;(try simp only [Act.put, tz1, tz2, tz3]);refine tk 1 rfl ?_;(try simp only [Act.put, tz1, tz2, tz3]);refine tk 2 rfl ?_;(try simp only [Act.put, tz1, tz2, tz3]);refine tk 3 rfl ?_;(try simp only [Act.put, tz1, tz2, tz3]);refine tk 4 rfl ?_;(try simp only [Act.put, tz1, tz2, tz3]);refine tk 5 rfl ?_;(try simp only [Act.put, tz1, tz2, tz3]);refine tk 6 rfl ?_;(try simp only [Act.put, tz1, tz2, tz3]);refine tk 7 rfl ?_;(try simp only [Act.put, tz1, tz2, tz3]);refine tk 8 rfl ?_;(try simp only [Act.put, tz1, tz2, tz3]);refine tk 9 rfl ?_;(try simp only [Act.put, tz1, tz2, tz3]);refine tk 10 rfl ?_;(try simp only [Act.put, tz1, tz2, tz3]);refine tk 11 rfl ?_;(try simp only [Act.put, tz1, tz2, tz3]);refine tk 12 rfl ?_;(try simp only [Act.put, tz1, tz2, tz3]);refine rd1 13 rfl (fun K hK => ?_);go_simp;skip
    refine hK.out _ _ ?_ (fun hHeld2 => ?_)
    · exact ⟨RX97 _, RX98 _, RX99 _, RX100 _, RX101 _⟩
    clear hK K;(try simp only [Act.put, tz1, tz2, tz3]);refine tk 14 rfl ?_;(try simp only [Act.put, tz1, tz2, tz3]);refine rd1 15 rfl (fun K hK => ?_);go_simp;skip
    refine hK.out _ _ ?_ (fun hHeld2 => ?_)
    · exact ⟨RX97 _, RX98 _, RX99 _, RX100 _, RX101 _⟩
    clear hK K;(try simp only [Act.put, tz1, tz2, tz3]);refine tk 16 rfl ?_;(try simp only [Act.put, tz1, tz2, tz3]);refine rd1 17 rfl (fun K hK => ?_);go_simp;skip
    refine hK.out _ _ ?_ (fun hHeld2 => ?_)
    · exact ⟨RX97 _, RX98 _, RX99 _, RX100 _, RX101 _⟩
    clear hK K;(try simp only [Act.put, tz1, tz2, tz3]);refine tk 18 rfl ?_;(try simp only [Act.put, tz1, tz2, tz3]);refine rd1 19 rfl (fun K hK => ?_);go_simp;skip
    refine hK.out _ _ ?_ (fun hHeld2 => ?_)
    · exact ⟨RX97 _, RX98 _, RX99 _, RX100 _, RX101 _⟩
    clear hK K;(try simp only [Act.put, tz1, tz2, tz3]);refine tk 20 rfl ?_;(try simp only [Act.put, tz1, tz2, tz3]);refine rd1 21 rfl (fun K hK => ?_);go_simp;skip
    refine hK.out _ _ ?_ (fun hHeld2 => ?_)
    · exact ⟨RX97 _, RX98 _, RX99 _, RX100 _, RX101 _⟩
    clear hK K;(try simp only [Act.put, tz1, tz2, tz3]);refine wpAnyH_done (by kernel_rfl) ?_ _;all_goals exact FIN _ D10.out
  intro y10 d10;go_wp2_with fail;have D11 := Lib.hid d10;clear d10 D10 p0 f0 p1 f1 p2 f2 p3 f3 p4 f4;with_reducible refine (C_minlon _).out.mono ?_
  rintro e y11 ⟨rfl, hu⟩;have D12 := Lib.hid (D11.out.more hu);clear hu D11 C_minlon;go_wp2_with fail;with_reducible refine (C_minlat _).out.mono ?_
  rintro e y12 ⟨rfl, hu⟩;have D13 := Lib.hid (D12.out.more hu);clear hu D12 C_minlat
  go_wp2_with fail;with_reducible refine (C_maxlon _).out.mono ?_
  rintro e y13 ⟨rfl, hu⟩;have D14 := Lib.hid (D13.out.more hu);clear hu D13 C_maxlon;go_wp2_with fail;with_reducible refine (C_maxlat _).out.mono ?_
  rintro e y14 ⟨rfl, hu⟩;have D15 := Lib.hid (D14.out.more hu);clear hu D14 C_maxlat
  have E0 := D15.out;have p0 := blkc E0.hh 17 _ rfl;have f0 := blkf E0.hh 17;have E1 := E0.set 17 (.int .i64 minlon);have p1 := blkc E1.hh 18 _ rfl;have f1 := blkf E1.hh 18;have E2 := E1.set 18 (.int .i64 minlat);have p2 := blkc E2.hh 19 _ rfl;have f2 := blkf E2.hh 19;have E3 := E2.set 19 (.int .i64 maxlon);have p3 := blkc E3.hh 20 _ rfl;have f3 := blkf E3.hh 20;have E4 := E3.set 20 (.int .i64 maxlat);have D16 := Lib.hid (E4.cs (cs2 := HC r0 r1 m0 m1 l0 l1 d0 d1 adr ent con clu inn.toNat out.toNat kind.toNat minz.toNat maxz.toNat minlon minlat maxlon maxlat 0 0 0) rfl);clear E0 E1 E2 E3 E4;go_wp2_with fail;clear D15 p0 f0 p1 f1 p2 f2 p3 f3;replace D16 := Lib.hid (D16.out.more (Up.refl _).drew);apply merge1 (F := fun Y => DR w Y w4.heap.size (HC r0 r1 m0 m1 l0 l1 d0 d1 adr ent con clu inn.toNat out.toNat kind.toNat minz.toNat maxz.toNat minlon minlat maxlon maxlat zoom.toNat lon lat))
  · intro FIN
    go_region_held3 (fun w' => (Instr.index 9 (.string ⟨s.toArray⟩) (.int .i64 118)).run Tryz.prog w' = .ok (.int .u8 (zoom.toNat : Int)) w') (exact RX118 _)
      (first
        | (with_reducible refine (C_lon _).out.mono ?_; rintro e y17 ⟨rfl, hu⟩; have D17 := Lib.hid (D16.out.more hu))
        | (with_reducible refine (C_lat _).out.mono ?_; rintro e y18 ⟨rfl, hu⟩; have D18 := Lib.hid (D17.out.more hu); have E0 := D18.out; have p0 := blkc E0.hh 21 _ rfl; have f0 := blkf E0.hh 21; have E1 := E0.set 21 (.int .i64 (zoom.toNat : Int)); have p1 := blkc E1.hh 22 _ rfl; have f1 := blkf E1.hh 22; have E2 := E1.set 22 (.int .i64 lon); have p2 := blkc E2.hh 23 _ rfl; have f2 := blkf E2.hh 23; have E3 := E2.set 23 (.int .i64 lat); have D19 := Lib.hid (E3.cs (cs2 := HC r0 r1 m0 m1 l0 l1 d0 d1 adr ent con clu inn.toNat out.toNat kind.toNat minz.toNat maxz.toNat minlon minlat maxlon maxlat zoom.toNat lon lat) rfl); clear E0 E1 E2 E3))
    all_goals exact FIN _ D19.out
  intro y19 dx;have D27 := Lib.hid dx;clear dx D16 C_lon C_lat
  go_wp2_with (refine wpList_load_mid rfl 73 _ rfl w4.heap.size 0 rfl (HC r0 r1 m0 m1 l0 l1 d0 d1 adr ent con clu inn.toNat out.toNat kind.toNat minz.toNat maxz.toNat minlon minlat maxlon maxlat zoom.toNat lon lat).toList _ (rg_blk D27.out.hh) Tryz.underlying73 rfl (by kernel_rfl) ?_)
  refine (CK _).out.mono ?_;rintro e y0 ⟨rfl, hu⟩;have DX := Lib.hid (D27.out.more hu);clear hu D27 CK;by_cases hE0 : E = 0
  rotate_left
  · have hEb : (E == 0) = false := by rw [beq_eq_false_iff_ne]; exact hE0
    obtain rfl : R = (HZ, E) := by rw [← HRR.out, if_neg hE0]
    have bz := build_hz6 y0;have th1 : y0.there w.heap.size 0 24 := show _ from (th_blk DX.out.hr : World.there _ _ _ (HZ).size)
    have hrg := World.rangeAt_setCells_same y0 w.heap.size 0 (HZ).toList th1;have hu2 : Up w (y0.setCells w.heap.size 0 (HZ).toList) := up_setCells _ DX.out.up (Nat.le_refl _);obtain ⟨Y, hY⟩ : ∃ x, y0.setCells w.heap.size 0 (HZ).toList = x := ⟨_, rfl⟩;rw [hY] at hrg hu2;have HU := Lib.hid hu2;clear hu2;go_wp2_with (refine wpList_store_mid rfl 73 _ _ rfl w.heap.size 0 HZ rfl rfl th1 (by kernel_rfl) (by simp [Value.oneCell']) ?_; rw [hY])
    refine bodyPost_ret (results_cell_tmp rfl _ _ w.heap.size (HZ).toList _ rfl hrg Tryz.underlying73 rfl (by kernel_rfl)) rfl ?_;exact ⟨rfl, HU.out⟩
  subst hE0;obtain rfl : R = (HC r0 r1 m0 m1 l0 l1 d0 d1 adr ent con clu inn.toNat out.toNat kind.toNat minz.toNat maxz.toNat minlon minlat maxlon maxlat zoom.toNat lon lat, 0) := by rw [← HRR.out, if_pos rfl]
  have HTH := Lib.hid (th_blk DX.out.hr)
  go_wp2_with (first
    | (refine wpList_load_mid rfl 73 _ rfl w4.heap.size 0 rfl (HC r0 r1 m0 m1 l0 l1 d0 d1 adr ent con clu inn.toNat out.toNat kind.toNat minz.toNat maxz.toNat minlon minlat maxlon maxlat zoom.toNat lon lat).toList _ (rg_blk DX.out.hh) Tryz.underlying73 rfl (by kernel_rfl) ?_)
    | (refine wpList_store_mid rfl 73 _ _ rfl w.heap.size 0 (HC r0 r1 m0 m1 l0 l1 d0 d1 adr ent con clu inn.toNat out.toNat kind.toNat minz.toNat maxz.toNat minlon minlat maxlon maxlat zoom.toNat lon lat) rfl rfl HTH.out (by kernel_rfl) (by simp [Value.oneCell']) ?_))
  refine bodyPost_ret (results_cell_tmp rfl _ _ w.heap.size (HC r0 r1 m0 m1 l0 l1 d0 d1 adr ent con clu inn.toNat out.toNat kind.toNat minz.toNat maxz.toNat minlon minlat maxlon maxlat zoom.toNat lon lat).toList _ rfl (World.rangeAt_setCells_same y0 w.heap.size 0 (HC r0 r1 m0 m1 l0 l1 d0 d1 adr ent con clu inn.toNat out.toNat kind.toNat minz.toNat maxz.toNat minlon minlat maxlon maxlat zoom.toNat lon lat).toList HTH.out) Tryz.underlying73 rfl (by kernel_rfl)) rfl ?_;exact ⟨rfl, up_setCells _ DX.out.up (Nat.le_refl _)⟩
theorem r6dec_any (s : Bs) (hs : s.length ≤ 1000000) (w : World) :
    Calls Tryz.prog 41 #[.string ⟨s.toArray⟩] w (DecE w (decH s)) := by
  by_cases h0 : s.length < 127
  · rw [decH_bad (E := 3) (by unfold hdrDE; rw [if_pos h0]) (by decide)];exact r6dec_short s h0 w
  by_cases h1 : s.take 7 = [80, 77, 84, 105, 108, 101, 115]
  rotate_left
  · rw [decH_bad (E := 12) (by unfold hdrDE; rw [if_neg h0, if_pos h1]) (by decide)];exact r6dec_magic s (by omega) h1 w
  obtain ⟨v, hv⟩ : ∃ v, s[7]? = some v := ⟨_, List.getElem?_eq_getElem (by omega)⟩;have hv1 := ver_iff hv;have hd : ∀ h2 : v = 3, hdrDE s = if 1 < nAt s 96 1 then 4 else hdrE (hdrD s) := fun h2 => by
    unfold hdrDE;rw [if_neg h0, if_neg (fun h => h h1), hv1, h2, if_neg (fun h => h rfl)]
  by_cases h2 : v = 3
  rotate_left
  · rw [decH_bad (E := 13) (by unfold hdrDE; rw [if_neg h0, if_neg (fun h => h h1), hv1, if_pos (by simpa using h2)]) (by decide)];exact r6dec_ver s (by omega) h1 v hv h2 w
  have hl : 127 ≤ s.length := by omega
  by_cases h4 : 1 < nAt s 96 1
  · rw [decH_bad (E := 4) (by rw [hd h2, if_pos h4]) (by decide)];exact r6dec_clu s hl h1 (h2 ▸ hv) _ rfl (by rw [← nAt_one (by omega)]; exact h4) w
  rw [decH_of (E := hdrE (hdrD s)) (by rw [hd h2, if_neg h4])];have CK := fun w => r6chk_any (hdrD s) w;obtain ⟨E, hE⟩ : ∃ E, hdrE (hdrD s) = E := ⟨_, rfl⟩;rw [hE];simp only [hE] at CK;clear hd hE;unfold hdrV hdrD at CK;simp only at CK;have hclu : ((((s[96]'(by omega)).toNat : Nat) : Int) == 1) = (nAt s 96 1 == 1) := by
    rw [nAt_one (by omega), Bool.eq_iff_iff, beq_iff_eq, beq_iff_eq];omega
  rw [nAt_one (p := 96) (by omega)] at h4;rw [nAt_one (p := 97) (by omega)] at CK ⊢;rw [nAt_one (p := 98) (by omega)] at CK ⊢;rw [nAt_one (p := 99) (by omega)] at CK ⊢;rw [nAt_one (p := 100) (by omega)] at CK ⊢;rw [nAt_one (p := 101) (by omega)] at CK ⊢;rw [nAt_one (p := 118) (by omega)] at CK ⊢;exact r6dec_full s hs hl h1 (h2 ▸ hv) (nAt s 8 8) (nAt s 16 8) (nAt s 24 8) (nAt s 32 8) (nAt s 40 8) (nAt s 48 8) (nAt s 56 8) (nAt s 64 8) (nAt s 72 8) (nAt s 80 8) (nAt s 88 8) (s[96]'(by omega)) (s[97]'(by omega)) (s[98]'(by omega)) (s[99]'(by omega)) (s[100]'(by omega)) (s[101]'(by omega)) (sgn4 (nAt s 102 4)) (sgn4 (nAt s 106 4)) (sgn4 (nAt s 110 4)) (sgn4 (nAt s 114 4)) (s[118]'(by omega)) (sgn4 (nAt s 119 4)) (sgn4 (nAt s 123 4)) rfl rfl rfl rfl rfl rfl rfl rfl rfl rfl rfl rfl (by omega) (nAt s 96 1 == 1) hclu rfl rfl rfl rfl rfl rfl rfl rfl rfl rfl rfl rfl E (fun w => Lib.hid (CK w)) w
end Go.Proofs.YtbfieomjobbhoaaGreatDoor
