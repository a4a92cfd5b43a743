/- Walks: what an archive's parts tell. -/
import Derived.Test.YtbfieomjobbhoaaGreatDoorMN28
import Derived.Test.YtbfieomjobbhoaaGreatDoorMN21
import Derived.Test.YtbfieomjobbhoaaGreatDoorMN36
import Derived.Test.YtbfieomjobbhoaaGreatDoorMN10
import Derived.Test.YtbfieomjobbhoaaGreatDoorMN34
import Derived.Laws.IdiomCopy
import Derived.Test.YtbfieomjobbhoaaGreatDoorMN19
namespace Go.Gz
theorem joinGo_len (text : Bs) : ∀ (root out J : Ents), joinGo text root out = (0, J) → out.length ≤ J.length ∧ ∀ x ∈ root, x.run = 0 → (pieceE x text).2.length ≤ J.length := by
  intro root;induction root with
  | nil =>
    intro out J h;unfold joinGo at h;injection h with _ h;subst h;exact ⟨Nat.le_refl _, by simp⟩
  | cons x r ih =>
    intro out J h;unfold joinGo at h;by_cases hr : x.run ≠ 0
    · rw [if_pos hr] at h;obtain ⟨h1, h2⟩ := ih _ _ h;rw [List.length_append] at h1;refine ⟨by omega, fun y hy hy0 => ?_⟩;rcases List.mem_cons.1 hy with rfl | hy
      · exact absurd hy0 hr
      · exact h2 y hy hy0
    · rw [if_neg hr] at h;by_cases hp : (pieceE x text).1 ≠ 0
      · rw [if_pos hp] at h;injection h with h _;exact absurd h hp
      · rw [if_neg hp] at h;obtain ⟨h1, h2⟩ := ih _ _ h;rw [List.length_append] at h1;refine ⟨by omega, fun y hy hy0 => ?_⟩;rcases List.mem_cons.1 hy with rfl | hy
        · omega
        · exact h2 y hy hy0
theorem joinE_go {root : Ents} {text : Bs} {J : Ents} (h : joinE root text = (0, J)) : joinGo text root [] = (0, J) := by
  unfold joinE at h;split at h
  · rename_i g; injection h with h; exact absurd h g
  · split at h
    · rename_i g; injection h with h; exact absurd h g
    · rename_i g1 g2;split at h
      · rename_i g; injection h with h; exact absurd h g
      · injection h with _ h;have : (joinGo text root []).1 = 0 := by omega
        exact Prod.ext this h
theorem sizeL_ge (xs : List Nat) : xs.length ≤ sizeL xs := by
  induction xs with
  | nil => simp [sizeL]
  | cons x r ih =>
    have := vB_pos x;unfold sizeL at *;simp only [List.length_cons, List.map_cons, List.sum_cons];omega
theorem dirB_ge (l : Ents) : 1 + 4 * l.length ≤ (dirB l).length := by
  rw [dirB_len, ← nums_len];exact sizeL_ge _
end Go.Gz
namespace Go.Proofs.YtbfieomjobbhoaaGreatDoor
open Go.RowKit Go.Gz Go.Shelf

set_option maxRecDepth 100000
/-- a pressed archive's header's cells -/
abbrev HW (h : Hdr) (n m : Nat) : Array Value := #[.int .u64 127, .int .u64 (h.r1 : Int), .int .u64 (h.m0 : Int), .int .u64 (h.m1 : Int), .int .u64 (h.l0 : Int), .int .u64 (h.l1 : Int), .int .u64 (h.d0 : Int), .int .u64 (h.d1 : Int), .int .u64 (n : Int), .int .u64 (m : Int), .int .u64 (h.con : Int), .bool true, .int .u8 1, .int .u8 1, .int .u8 (h.kind : Int), .int .i64 h.minz, .int .i64 h.maxz, .int .i64 h.minlon, .int .i64 h.minlat, .int .i64 h.maxlon, .int .i64 h.maxlat, .int .i64 h.zoom, .int .i64 h.lon, .int .i64 h.lat]
end Go.Proofs.YtbfieomjobbhoaaGreatDoor
/- Walks: naive.Rows, naive.Read, given what layout.Cut and leaves.Join tell. -/
namespace Go.Gz
/-- all entries, and the contents -/
def rowsN (E0 : Int) (p0 p2 p3 : Bs) : Int × Ents × Bs := if E0 ≠ 0 then (E0, [], []) else if (decD p0).1 ≠ 0 then ((decD p0).1, [], []) else if (joinE (decD p0).2 p2).1 ≠ 0 then ((joinE (decD p0).2 p2).1, [], []) else (0, (joinE (decD p0).2 p2).2, p3)
end Go.Gz
namespace Go.Proofs.YtbfieomjobbhoaaGreatDoor
open Go.RowKit Go.Gz Go.Shelf

set_option maxRecDepth 100000
def NRowsE (w : World) (r : Int × Ents × Bs) (e : Ending) (w' : World) : Prop := ∃ (v : Value) (t : Bs), e = .returned (.tuple #[v, .string ⟨t.toArray⟩, .int .i64 r.1]) ∧ Up w w' ∧ (r.1 = 0 → t = r.2.2 ∧ ∃ A c, v = .slice A r.2.1.length c ∧ Rd w' 4 A r.2.1.length c (entV r.2.1)) ∧ (r.1 ≠ 0 → v = .slice none 0 0 ∧ t = [])
theorem nrows_bad {w w' : World} {E : Int} (h : E ≠ 0) (hu : Up w w') : NRowsE w (E, [], []) (.returned (.tuple #[.slice none 0 0, .string ⟨#[]⟩, .int .i64 E])) w' :=
  ⟨_, [], rfl, hu, fun h2 => absurd h2 h, fun _ => ⟨rfl, rfl⟩⟩
theorem cut_blocks2 (w : World) (b0 : Nat) (hb0 : w.heap.size = b0) (hc : Array Value) (a b c d : Bs) : ∃ X1 X2, ((w.alloc (.cells HZ 63)).alloc (.cells E4 64)).setCells b0 0 hc.toList = X1 ∧ X1.setCells (b0 + 1) 0 (S4 a b c d).toList = X2 ∧
    ((w.alloc (.cells HZ 63)).alloc (.cells E4 64)).there b0 0 24 ∧ X1.there (b0 + 1) 0 4 ∧ Up w X2 ∧ X2.rangeAt (b0 + 1) 0 (S4 a b c d).toList := by
  subst hb0;have g1 := ((Up.refl _).alloc (.cells E4 64)).obj (heap_alloc_new w (.cells HZ 63));have g2 := heap_alloc_new (w.alloc (.cells HZ 63)) (.cells E4 64);rw [World.size_alloc] at g2;have T1 : ((w.alloc (.cells HZ 63)).alloc (.cells E4 64)).there w.heap.size 0 24 := show _ from (th_blk g1 : World.there _ _ _ (HZ).size)
  have T2 : ((w.alloc (.cells HZ 63)).alloc (.cells E4 64)).there (w.heap.size + 1) 0 4 := show _ from (th_blk g2 : World.there _ _ _ (E4).size)
  have hu : Up w ((w.alloc (.cells HZ 63)).alloc (.cells E4 64)) := ((Up.refl w).alloc _).alloc _;generalize (w.alloc (.cells HZ 63)).alloc (.cells E4 64) = X0 at *;exact ⟨_, _, rfl, rfl, T1, World.there_setCells T2 _ _ _, up_setCells _ (up_setCells _ hu (Nat.le_refl _)) (by omega), World.rangeAt_setCells_same _ _ _ _ (World.there_setCells T2 _ _ _)⟩
set_option maxHeartbeats 16000000 in
theorem nrows_any (s : Bs) (E0 : Int) (hc : Array Value) (hsz : hc.size = 24) (hone : hc.all (·.oneCell') = true) (p0 p1 p2 p3 : Bs) (h0 : p0.length ≤ 1000000000)
    (CT : ∀ w, Hid (Calls Tryz.prog 24 #[.string ⟨s.toArray⟩] w fun e w' => e = .returned (.tuple #[.agg hc, .agg (S4 p0 p1 p2 p3), .int .i64 E0]) ∧ Up w w'))
    (JN : (decD p0).1 = 0 → ∀ A c w, Rd w 4 A (decD p0).2.length c (entV (decD p0).2) → Hid (Calls Tryz.prog 26 #[.slice A (decD p0).2.length c, .string ⟨p2.toArray⟩] w (EntsE w (joinE (decD p0).2 p2)))) (w : World) :
    Calls Tryz.prog 6 #[.string ⟨s.toArray⟩] w (NRowsE w (rowsN E0 p0 p2 p3)) := by
  have DC := fun w => Lib.hid (ddec_any p0 h0 w);unfold DdecE at DC;unfold EntsE at JN;obtain ⟨D, hD⟩ : ∃ D, rowsN E0 p0 p2 p3 = D := ⟨_, rfl⟩;rw [hD];unfold rowsN at hD;generalize decD p0 = R at *;generalize joinE R.2 p2 = J at *;obtain ⟨E1, R⟩ := R;obtain ⟨E2, J⟩ := J;simp only at DC JN hD;go_enter Tryz.func6, Tryz.ntmps6;go_wp2_with fail;with_reducible refine (CT _).out.mono ?_
  rintro e y2 ⟨rfl, hy2⟩;obtain ⟨b5, hb5⟩ : ∃ b, y2.heap.size = b := ⟨_, rfl⟩;obtain ⟨Z1, Z2, hZ1, hZ2, th1, th2, huz, r10⟩ := cut_blocks2 y2 b5 hb5 hc p0 p1 p2 p3;have HU := Lib.hid (hy2.trans huz);have y0 : Z2.cell? ⟨b5 + 1, 0, none⟩ = some (.string ⟨p0.toArray⟩) := r10 0 _ rfl;have y2' : Z2.cell? ⟨b5 + 1, 2, none⟩ = some (.string ⟨p2.toArray⟩) := r10 2 _ rfl;have y3' : Z2.cell? ⟨b5 + 1, 3, none⟩ = some (.string ⟨p3.toArray⟩) := r10 3 _ rfl;clear hy2 huz r10 CT;by_cases hE0 : E0 = 0
  · subst hE0;rw [if_neg (by simp)] at hD
    go_wp2_with (first
      | (refine wpList_store_mid rfl 63 _ _ rfl b5 0 hc rfl rfl (hsz ▸ th1) (by rw [hsz]; kernel_rfl) hone ?_; rw [hZ1])
      | (refine wpList_store_mid rfl 64 _ _ rfl (b5 + 1) 0 (S4 p0 p1 p2 p3) rfl rfl th2 (by kernel_rfl) (by simp [Value.oneCell']) ?_; rw [hZ2]))
    clear hZ1 hZ2 th1 th2 hsz hone;with_reducible refine (DC _).out.mono ?_
    rintro e y4 ⟨v3, at3, rfl, hy4, hv3, _⟩;replace y2' := hy4.cell y2';replace y3' := hy4.cell y3';have HU4 := Lib.hid (HU.out.trans hy4);clear HU y0 hy4 DC;by_cases hE1 : E1 = 0
    · subst hE1;rw [if_neg (by simp)] at hD;obtain ⟨A3, c3, rfl, r3⟩ := hv3 rfl;have JN2 := JN rfl;have R3 := Lib.hid r3;clear hv3 r3;go_wp2_with fail;with_reducible refine (JN2 _ _ _ R3.out).out.mono ?_
      rintro e y5 ⟨v4, rfl, hy5, hv4, _⟩;replace y3' := hy5.cell y3';have HU5 := Lib.hid (HU4.out.trans hy5);clear HU4 y2' hy5 JN R3;by_cases hE2 : E2 = 0
      · subst hE2;rw [if_neg (by simp)] at hD;subst hD;obtain ⟨A4, c4, rfl, r4⟩ := hv4 rfl;have R4 := Lib.hid r4;clear hv4 r4;go_wp2_with fail;refine wp_region_held_drew (S := fun w' => w'.cell? ⟨b5 + 1, 3, none⟩ = some (.string ⟨p3.toArray⟩)) (by kernel_rfl) y3' (fun hHeld => ?_);refine tk 0 rfl ?_;(try simp only [Act.put, tz1, tz2, tz3]);refine tk 1 rfl ?_;(try simp only [Act.put, tz1, tz2, tz3]);refine tk 2 rfl ?_;(try simp only [Act.put, tz1, tz2, tz3]);refine tk 3 rfl ?_;(try simp only [Act.put, tz1, tz2, tz3]);refine tk 4 rfl ?_;(try simp only [Act.put, tz1, tz2, tz3]);refine tk 5 rfl ?_;(try simp only [Act.put, tz1, tz2, tz3]);refine wpAnyH_done (by kernel_rfl) ?_ _;clear hHeld

        go_wp2_with fail;change bodyPost _ _ _ _ _ _;refine bodyPost_ret (v := .tuple #[.slice A4 J.length c4, .string ⟨p3.toArray⟩, .int .i64 0]) (by simp [results, Tryz.results6, go_sem]) rfl ?_

        exact ⟨_, p3, rfl, HU5.out.drew, fun _ => ⟨rfl, A4, c4, rfl, R4.out.up (Up.refl y5).drew⟩, fun h => absurd rfl h⟩
      · rw [if_pos hE2] at hD;subst hD;have hEb : (E2 == 0) = false := by rw [beq_eq_false_iff_ne]; exact hE2
        clear hv4;go_wp2_with fail;change bodyPost _ _ _ _ _ _;refine bodyPost_ret (v := .tuple #[.slice none 0 0, .string ⟨#[]⟩, .int .i64 E2]) (by simp [results, Tryz.results6, go_sem]) rfl ?_

        exact nrows_bad hE2 HU5.out
    · rw [if_pos hE1] at hD;subst hD;have hEb : (E1 == 0) = false := by rw [beq_eq_false_iff_ne]; exact hE1
      clear hv3;go_wp2_with fail;change bodyPost _ _ _ _ _ _;refine bodyPost_ret (v := .tuple #[.slice none 0 0, .string ⟨#[]⟩, .int .i64 E1]) (by simp [results, Tryz.results6, go_sem]) rfl ?_

      exact nrows_bad hE1 HU4.out
  · rw [if_pos hE0] at hD;subst hD;have hEb : (E0 == 0) = false := by rw [beq_eq_false_iff_ne]; exact hE0
    go_wp2_with (first
      | (refine wpList_store_mid rfl 63 _ _ rfl b5 0 hc rfl rfl (hsz ▸ th1) (by rw [hsz]; kernel_rfl) hone ?_; rw [hZ1])
      | (refine wpList_store_mid rfl 64 _ _ rfl (b5 + 1) 0 (S4 p0 p1 p2 p3) rfl rfl th2 (by kernel_rfl) (by simp [Value.oneCell']) ?_; rw [hZ2]))
    change bodyPost _ _ _ _ _ _;refine bodyPost_ret (v := .tuple #[.slice none 0 0, .string ⟨#[]⟩, .int .i64 E0]) (by simp [results, Tryz.results6, go_sem]) rfl ?_

    exact nrows_bad hE0 HU.out
set_option maxHeartbeats 8000000 in
theorem nread_fr (fr : Bool) (s : Bs) (r : Int × Ents × Bs) (RW : ∀ w, Hid (Calls Tryz.prog 6 #[.string ⟨s.toArray⟩] w (NRowsE w r))) (r2 : Int × Items)
    (BK : r.1 = 0 → ∀ A c w, Rd w 4 A r.2.1.length c (entV r.2.1) → Hid (Calls Tryz.prog 30 #[.slice A r.2.1.length c, .string ⟨r.2.2.toArray⟩] w (ChartG fr w r2))) (w : World) :
    Calls Tryz.prog 8 #[.string ⟨s.toArray⟩] w (ChartG fr w (if r.1 ≠ 0 then (r.1, []) else r2)) := by
  obtain ⟨D, hD⟩ : ∃ D, (if r.1 ≠ 0 then (r.1, []) else r2 : Int × Items) = D := ⟨_, rfl⟩;rw [hD];unfold NRowsE at RW;unfold ChartG at BK;obtain ⟨E, L, T⟩ := r;obtain ⟨E2, M⟩ := r2;simp only at RW BK hD;have n1 := new1 w 33 (.slice none 0 0);have HU0 := Lib.hid n1.1;have HB0 := Lib.hid n1.2.2;clear n1;go_enter Tryz.func8, Tryz.ntmps8;go_wp2_with fail;with_reducible refine (RW _).out.mono ?_
  rintro e w1 ⟨v, t, rfl, hu1, h1, h2⟩;have HU1 := Lib.hid (HU0.out.trans hu1);have HB1 := Lib.hid (hu1.obj HB0.out);clear hu1 HU0 HB0 RW;by_cases hE : E = 0
  · subst hE;rw [if_neg (by simp)] at hD;subst hD;obtain ⟨rfl, A, c, rfl, r3⟩ := h1 rfl;have R3 := Lib.hid r3;have BK2 := BK rfl;clear h1 h2 r3;go_wp2_with fail;with_reducible refine (BK2 _ _ _ R3.out).out.mono ?_
    rintro e w2 ⟨v2, rfl, hu2, h3, h4⟩;obtain ⟨A6, n6, c6, hv2⟩ : ∃ A n c, v2 = .slice A n c := by
      by_cases h : E2 = 0
      · obtain ⟨A5, c5, h5, _, _⟩ := h3 h;exact ⟨_, _, _, h5⟩
      · exact ⟨_, _, _, h4 h⟩
    subst hv2;have hb2 := hu2.obj HB1.out;obtain ⟨g0, gz⟩ := blk_one hb2;have HU2 := Lib.hid ((HU1.out.trans hu2).set (p := ⟨w.heap.size, 0, none⟩) (Nat.le_refl _) (.slice A6 n6 c6));have k0 := (blk_one (heap_setCell_same w2 w.heap.size 0 _ _ (.slice A6 n6 c6) hb2)).1;have H3 := Lib.hid h3;have HL1 := Lib.hid HU1.out.le;have H4 := Lib.hid h4;have HB2 := Lib.hid hb2;clear hu2 BK R3 HU1 HB1 h3 h4 hb2;go_wp2_with fail;change bodyPost _ _ _ _ _ _;refine bodyPost_ret (v := .tuple #[.agg #[.slice A6 n6 c6], .int .i64 E2]) (by simp [results, Tryz.results8, go_sem, k0]) rfl ?_;refine ⟨_, rfl, HU2.out, fun h => ?_, fun h => H4.out h⟩;obtain ⟨A5, c5, e5, r5, f5⟩ := H3.out h;exact ⟨A5, c5, e5, Rd.far r5 HB2.out _, fun hf a ha => Nat.le_trans HL1.out (f5 hf a ha)⟩
  · rw [if_pos hE] at hD;subst hD;have hEb : (E == 0) = false := by rw [beq_eq_false_iff_ne]; exact hE
    obtain ⟨g0, gz⟩ := blk_one HB1.out;clear h1 h2 BK;go_wp2_with fail;have k0 := (blk_one (heap_setCell_same w1 w.heap.size 0 _ _ (.slice none 0 0) HB1.out)).1;change bodyPost _ _ _ _ _ _;refine bodyPost_ret (v := .tuple #[.agg #[.slice none 0 0], .int .i64 E]) (by simp [results, Tryz.results8, go_sem, k0]) rfl ?_;exact ⟨_, rfl, HU1.out.set (p := ⟨w.heap.size, 0, none⟩) (Nat.le_refl _) _, fun h => absurd h hE, fun _ => rfl⟩
theorem nread_any (s : Bs) (r : Int × Ents × Bs) (RW : ∀ w, Hid (Calls Tryz.prog 6 #[.string ⟨s.toArray⟩] w (NRowsE w r))) (r2 : Int × Items)
    (BK : r.1 = 0 → ∀ A c w, Rd w 4 A r.2.1.length c (entV r.2.1) → Hid (Calls Tryz.prog 30 #[.slice A r.2.1.length c, .string ⟨r.2.2.toArray⟩] w (ChartE w r2))) (w : World) :
    Calls Tryz.prog 8 #[.string ⟨s.toArray⟩] w (ChartE w (if r.1 ≠ 0 then (r.1, []) else r2)) :=
  (nread_fr false s r RW r2 (fun g A c w hr => Lib.hid ((BK g A c w hr).out.mono fun _ _ h => chartG_of h)) w).mono fun _ _ h => chartE_of h
end Go.Proofs.YtbfieomjobbhoaaGreatDoor
/- copy of a text's bytes into bytes that were just made; bytes that were made. -/
namespace Go.Proofs.YtbfieomjobbhoaaGreatDoor
open Go.RowKit Go.Gz Go.Shelf

set_option maxRecDepth 100000
theorem make_u8 (n : Nat) (hn : n ≤ 1000000000) (w : World) : (Instr.makeSlice 49 (.int .u32 (n : Int)) (.int .u32 (n : Int))).run Tryz.prog w = .ok (.slice (some ⟨w.heap.size, 0, none⟩) n n) (w.alloc (.cells (madeCells #[.int .u8 0] n) 5)) := by
  obtain ⟨i, h1, h2, h3, h4⟩ := info_parts infoU8;have := run_make (P := Tryz.prog) (w := w) 49 5 i _ Tryz.underlying49 h1 h2 .u32 .u32 (n : Int) (n : Int) (by omega) (by omega) (by rw [h4]; omega) (by omega);rw [this, h3, Int.toNat_natCast, Nat.mul_one];rfl
theorem run_copy_str (w : World) (b n : Nat) (t : Bs) (hn : n ≤ t.length) (hth : w.there b 0 n) :
    (Builtin.copy_ #[49, 9] 3 #[.slice (some ⟨b, 0, none⟩) n n, .string ⟨t.toArray⟩]).run Tryz.prog w = .ok (.int .i64 (n : Int)) (w.setCells b 0 (byV (t.take n))) := by
  obtain ⟨i, h1, h2, h3, h4⟩ := info_parts infoU8;have hl : (byV (t.take n)).length = n := by unfold byV; rw [List.length_map, List.length_take]; omega
  have hst := run_storeCells_cells (P := Tryz.prog) b 0 (byV (t.take n)) 0 w (by rw [hl]; intro j hj; simpa using (hth j hj).1) (by rw [hl]; intro j hj; simpa using (hth j hj).2) (by intro v hv; unfold byV at hv; obtain ⟨x, _, rfl⟩ := List.mem_map.1 hv; rfl);have e : byV (t.take n) = List.take n (List.map (fun b => Value.int .u8 (b.toNat : Int)) t) := by unfold byV; rw [List.map_take]
  have hm : Nat.min (⟨t.toArray⟩ : ByteArray).size n = n := by
    rw [size_mk]; exact Nat.min_eq_right hn
  rw [Nat.zero_add] at hst;rw [e] at hst ⊢;simp [Builtin.copy_, run_underlying Tryz.underlying49, Builtin.lenOf, Builtin.firstCells, sizeOf, typeInfo, h1, hm, hst, Result.andThen, goInt]
end Go.Proofs.YtbfieomjobbhoaaGreatDoor
/- Walk: naive.Tile, given what naive.Rows tells. -/
namespace Go.Gz
def tileN (r : Int × Ents × Bs) (id : Nat) : Int × Bool × Bs := if r.1 ≠ 0 then (r.1, false, []) else tileE r.2.1 r.2.2 id
end Go.Gz
namespace Go.Proofs.YtbfieomjobbhoaaGreatDoor
open Go.RowKit Go.Gz Go.Shelf

set_option maxRecDepth 100000
def NTileE (w : World) (r : Int × Bool × Bs) (e : Ending) (w' : World) : Prop := e = .returned (.tuple #[.string ⟨r.2.2.toArray⟩, .bool r.2.1, .int .i64 r.1]) ∧ Up w w'
def TlR (w : World) (l : Ents) (id gk : Nat) (i : Value) (wr : World) : Prop := ∃ k : Nat, k + gk = l.length ∧ i = .int .i64 (k : Int) ∧ (l.drop k).find? (fun e => hasE e id) = l.find? (fun e => hasE e id) ∧ Up w wr
set_option maxHeartbeats 8000000 in
theorem ntile_any (s : Bs) (id : Nat) (r : Int × Ents × Bs) (hr : r.1 = 0 → (∀ e ∈ r.2.1, okE e ∧ chkE e = 0) ∧ r.2.1.length ≤ 1000000 ∧ r.2.2.length ≤ 1000000000) (RW : ∀ w, Hid (Calls Tryz.prog 6 #[.string ⟨s.toArray⟩] w (NRowsE w r))) (w : World) :
    Calls Tryz.prog 10 #[.string ⟨s.toArray⟩, .int .u64 (id : Int)] w (NTileE w (tileN r id)) := by
  obtain ⟨D, hD⟩ : ∃ D, tileN r id = D := ⟨_, rfl⟩;rw [hD];unfold tileN at hD;unfold NRowsE at RW;obtain ⟨E, l, T⟩ := r;simp only at RW hr hD;go_enter Tryz.func10, Tryz.ntmps10;go_wp2_with fail;with_reducible refine (RW _).out.mono ?_
  rintro e w1 ⟨v, t, rfl, hu1, h1, h2⟩;have HU1 := Lib.hid hu1;clear hu1 RW;by_cases hE : E = 0
  · subst hE;rw [if_neg (by simp)] at hD;obtain ⟨rfl, A, c, rfl, r3⟩ := h1 rfl;obtain ⟨hok, hll, htl⟩ := hr rfl;unfold tileE at hD;have HR := Lib.hid r3;clear h1 h2 hr r3;go_wp2_with fail;go_loopg [24] l.length (fun gk i wr => TlR w1 l id gk i wr)
    case atStart => exact ⟨0, by omega, rfl, by rw [List.drop_zero], Up.refl w1⟩
    case round =>
      obtain ⟨k, hk, rfl, hf, hu⟩ := hrel;by_cases hlt : k < l.length
      · obtain ⟨m, rfl⟩ : ∃ y, gk = y + 1 := ⟨gk - 1, by omega⟩;obtain ⟨b, o, rfl, d0, d1, d2, d3⟩ := (HR.out.up hu).ent hlt;have hmem := List.getElem_mem hlt;obtain ⟨hxo, hxc⟩ := hok _ hmem;rw [List.drop_eq_getElem_cons hlt, List.find?_cons] at hf;obtain ⟨x, hx⟩ : ∃ x, l[k] = x := ⟨_, rfl⟩;rw [hx] at d0 d1 d2 d3 hxo hxc hf;obtain ⟨k1, k2, k3⟩ := chk_ok hxc;have HS := fun w => Lib.hid (has_any x hxo id w);simp only [entA] at HS;have kI : (k : Int) < (l.length : Int) := by omega
        obtain ⟨nu, z0, z1, z2, z3⟩ := new4 wr 84 (.int .u64 (x.id : Int)) (.int .u64 (x.off : Int)) (.int .u32 (x.len : Int)) (.int .u32 (x.run : Int));have NU := Lib.hid nu;have HU := Lib.hid hu;clear nu hu hx hmem hxo hxc;go_wp2_with fail;refine (HS _).out.mono ?_;rintro e w2 ⟨rfl, hu2⟩;replace z0 := hu2.cell z0;replace z1 := hu2.cell z1;replace z2 := hu2.cell z2;replace z3 := hu2.cell z3;have HU2 := Lib.hid (HU.out.trans (NU.out.trans hu2));clear HU NU hu2 HS d0 d1 d2 d3;cases hh : hasE x id with
        | false =>
          rw [hh] at hf;have HF := Lib.hid hf;clear hf;go_wp2_with fail;go_roundg m
          case measure => omega
          case rel => exact ⟨k + 1, by omega, by go_num, HF.out, HU2.out⟩
        | true =>
          rw [hh] at hf;have hf2 : l.find? (fun e => hasE e id) = some x := hf.symm;rw [hf2] at hD;simp only at hD;obtain ⟨q, hq⟩ : ∃ q, x.off + x.len = q := ⟨_, rfl⟩;rw [hq] at hD;have e1 : IntKind.u64.wrap (x.len : Int) = (x.len : Int) := IntWalk.u64_in _ (by omega);have e2 : IntKind.u64.wrap ((x.off : Int) + (x.len : Int)) = (q : Int) := by rw [IntWalk.u64_in _ (by omega)]; omega
          have e3 : IntKind.u64.wrap (t.length : Int) = (t.length : Int) := IntWalk.u64_in _ (by omega);by_cases hlong : t.length < q
          · rw [if_pos hlong] at hD;subst hD;have t0 : (t.length : Int) < (q : Int) := by omega
            clear hf hf2;go_wp2_with fail;change bodyPost _ _ _ _ _ _;refine bodyPost_ret (v := .tuple #[.string ⟨#[]⟩, .bool false, .int .i64 8]) (by simp [results, Tryz.results10, go_sem]) rfl ?_

            exact ⟨rfl, HU1.out.trans HU2.out⟩
          · rw [if_neg hlong] at hD;subst hD;have t0 : ¬ (t.length : Int) < (q : Int) := by omega
            have b1 : (0 : Int) ≤ (x.off : Int) := by omega
            have b2 : (x.off : Int) ≤ (t.length : Int) := by omega
            have mk := make_u8 x.len (by omega) w2;have q0 := heap_alloc_new w2 (.cells (madeCells #[.int .u8 0] x.len) 5);have hun := (Up.refl w2).alloc (.cells (madeCells #[.int .u8 0] x.len) 5);obtain ⟨W3, hW3⟩ : ∃ y, w2.alloc (.cells (madeCells #[.int .u8 0] x.len) 5) = y := ⟨_, rfl⟩;rw [hW3] at mk q0 hun;obtain ⟨B, hB⟩ : ∃ y, w2.heap.size = y := ⟨_, rfl⟩;rw [hB] at mk q0;have x0 := drop_mk t x.off;have hdl : (t.drop x.off).length = t.length - x.off := List.length_drop;have hth : W3.there B 0 x.len := by
              have := th_blk q0;rw [size_madeCells] at this;exact this
            have cp := run_copy_str W3 B x.len (t.drop x.off) (by omega) hth;have hnl : (byV ((t.drop x.off).take x.len)).length = x.len := by unfold byV; rw [List.length_map, List.length_take]; omega
            have hrg := World.rangeAt_setCells_same W3 B 0 (byV ((t.drop x.off).take x.len)) (by rw [hnl]; exact hth);have hu4 : Up w2 (W3.setCells B 0 (byV ((t.drop x.off).take x.len))) := up_setCells _ hun (by omega);have htl2 : ((t.drop x.off).take x.len).length = x.len := by rw [List.length_take]; omega
            obtain ⟨W4, hW4⟩ : ∃ y, W3.setCells B 0 (byV ((t.drop x.off).take x.len)) = y := ⟨_, rfl⟩;rw [hW4] at cp hrg hu4;have z1' := hun.cell z1;have hcv : (convert 49 9 (.slice (some ⟨B, 0, none⟩) x.len x.len)).run Tryz.prog W4 = .ok (.string ⟨((t.drop x.off).take x.len).toArray⟩) W4 := by
              have := Rd.str' (w := W4) (A := some ⟨B, 0, none⟩) (c := x.len) (l := (t.drop x.off).take x.len) ⟨by unfold byV; rw [List.length_map]; omega, by omega, by unfold maxLen; omega, fun h => by (cases h), fun _ => ⟨B, 0, rfl, fun j u hj => hrg j u hj⟩⟩;rw [htl2] at this;exact this
            generalize (t.drop x.off).take x.len = T2 at *;generalize t.drop x.off = T1 at *;have HUF := Lib.hid (HU1.out.trans (HU2.out.trans hu4));clear hrg hu4 hun q0 hth hnl htl2 hdl hf hf2 HU1 HU2 hW4;go_wp2_with fail;change bodyPost _ _ _ _ _ _;refine bodyPost_ret (v := .tuple #[.string ⟨T2.toArray⟩, .bool true, .int .i64 0]) (by simp [results, Tryz.results10, go_sem]) rfl ?_

            exact ⟨rfl, HUF.out⟩
      · obtain rfl : gk = 0 := by omega
        have kI : ¬ (k : Int) < (l.length : Int) := by omega
        rw [List.drop_eq_nil_of_le (by omega), List.find?_nil] at hf;rw [← hf] at hD;simp only at hD;subst hD;clear hf;go_wp2_with fail;change bodyPost _ _ _ _ _ _;refine bodyPost_ret (v := .tuple #[.string ⟨#[]⟩, .bool false, .int .i64 0]) (by simp [results, Tryz.results10, go_sem]) rfl ?_

        exact ⟨rfl, HU1.out.trans hu⟩
  · rw [if_pos hE] at hD;subst hD;have hEb : (E == 0) = false := by rw [beq_eq_false_iff_ne]; exact hE
    clear h1 h2 hr;go_wp2_with fail;change bodyPost _ _ _ _ _ _;refine bodyPost_ret (v := .tuple #[.string ⟨#[]⟩, .bool false, .int .i64 E]) (by simp [results, Tryz.results10, go_sem]) rfl ?_

    exact ⟨rfl, HU1.out⟩
end Go.Proofs.YtbfieomjobbhoaaGreatDoor
/- Walks: layout.Cut, naive.Rows, Read, Tile of every text. -/
namespace Go.Gz
theorem hdrDE_ok {s : Bs} (h : hdrDE s = 0) : hdrE (hdrD s) = 0 := by
  unfold hdrDE at h;split at h
  · simp at h
  · split at h
    · simp at h
    · split at h
      · simp at h
      · split at h
        · simp at h
        · exact h
theorem joinGo_okE (text : Bs) : ∀ (l out : Ents), (∀ e ∈ l, okE e) → (∀ e ∈ out, okE e) → (joinGo text l out).1 = 0 → ∀ e ∈ (joinGo text l out).2, okE e
  | [], _, _, ho, _ => ho
  | x :: r, out, hl, ho, h => by
    unfold joinGo at h ⊢;split at h
    · rename_i g1;rw [if_pos g1]
      exact joinGo_okE text r _ (fun e he => hl e (by simp [he])) (fun e he => by
        rcases List.mem_append.1 he with he | he
        · exact ho e he
        · rw [List.mem_singleton] at he; subst he; exact hl e (by simp)) h
    · rename_i g1;rw [if_neg g1];split at h
      · contradiction
      · rename_i g2;rw [if_neg g2]
        exact joinGo_okE text r _ (fun e he => hl e (by simp [he])) (fun e he => by
          rcases List.mem_append.1 he with he | he
          · exact ho e he
          · exact piece_okE (by simpa using g2) e he) h
theorem joinE_ok {root : Ents} {text : Bs} (hok : ∀ e ∈ root, okE e) (h : (joinE root text).1 = 0) : (∀ e ∈ (joinE root text).2, okE e) ∧ rowE (joinE root text).2 = 0 := by
  unfold joinE at h ⊢;split at h
  · contradiction
  · rename_i g1;split at h
    · contradiction
    · rename_i g2;split at h
      · contradiction
      · rename_i g3;rw [if_neg g1, if_neg g2, if_neg g3];exact ⟨joinGo_okE text root [] hok (by simp) (by simpa using g2), by simpa using g3⟩
/-- the parts of a text -/
def partsV (s : Bs) : Bs × Bs × Bs := if cutE s = 0 then (part s (hdrD s).r0 (hdrD s).r1, part s (hdrD s).l0 (hdrD s).l1, part s (hdrD s).d0 (hdrD s).d1) else ([], [], [])
/-- all entries of a text, and its contents -/
def rowsS (s : Bs) : Int × Ents × Bs := rowsN (cutE s) (partsV s).1 (partsV s).2.1 (partsV s).2.2
theorem partsV_len (s : Bs) : (partsV s).1.length ≤ s.length ∧ (partsV s).2.1.length ≤ s.length ∧ (partsV s).2.2.length ≤ s.length := by
  unfold partsV;split
  · exact ⟨part_len _ _ _, part_len _ _ _, part_len _ _ _⟩
  · simp
end Go.Gz
namespace Go.Proofs.YtbfieomjobbhoaaGreatDoor
open Go.RowKit Go.Gz Go.Shelf

set_option maxRecDepth 100000
/-- the cells of a text's header -/
def hcS (s : Bs) : Array Value := if cutE s = 0 then (decH s).1 else HZ
def metaS (s : Bs) : Bs := if cutE s = 0 then Gz.part s (hdrD s).m0 (hdrD s).m1 else []
theorem hcS_size (s : Bs) : (hcS s).size = 24 ∧ (hcS s).all (·.oneCell') = true := by
  unfold hcS decH;split
  · split <;> exact ⟨rfl, by simp [Value.oneCell']⟩
  · exact ⟨rfl, by simp [Value.oneCell']⟩
theorem lcut_any (s : Bs) (hs : s.length ≤ 1000000000) (w : World) :
    Calls Tryz.prog 24 #[.string ⟨s.toArray⟩] w fun e w' => e = .returned (.tuple #[.agg (hcS s), .agg (S4 (partsV s).1 (metaS s) (partsV s).2.1 (partsV s).2.2), .int .i64 (cutE s)]) ∧ Up w w' := by
  have DC := fun w => Lib.hid (hdec_any s hs w);unfold DecE at DC;unfold hcS metaS partsV;by_cases h0 : hdrDE s = 0
  · obtain ⟨e1, e2, e3, e4, e5⟩ := hdr_ok (hdrDE_ok h0);have hd := decH_of h0;rw [if_pos rfl] at hd;rw [hd] at DC ⊢;have := lcut_if s hs _ _ _ _ _ _ _ _ _ _ _ _ _ _ _ _ _ _ _ _ _ _ _ _ e1.1 e1.2.1 e1.2.2.1 e1.2.2.2 DC w;have hc : cutE s = if s.length < (hdrD s).r0 + (hdrD s).r1 ∨ s.length < (hdrD s).m0 + (hdrD s).m1 ∨ s.length < (hdrD s).l0 + (hdrD s).l1 ∨ s.length < (hdrD s).d0 + (hdrD s).d1 then 8 else 0 := by
      unfold cutE;rw [if_neg (by simpa using h0)]
    by_cases h1 : (hdrD s).r0 + (hdrD s).r1 ≤ s.length ∧ (hdrD s).m0 + (hdrD s).m1 ≤ s.length ∧ (hdrD s).l0 + (hdrD s).l1 ≤ s.length ∧ (hdrD s).d0 + (hdrD s).d1 ≤ s.length
    · rw [if_pos h1] at this;rw [if_neg (by omega)] at hc;rw [hc, if_pos rfl, if_pos rfl, if_pos rfl];exact this
    · rw [if_neg h1] at this;rw [if_pos (by omega)] at hc;rw [hc, if_neg (by decide), if_neg (by decide), if_neg (by decide)];exact this
  · have hc : cutE s = hdrDE s := by unfold cutE; rw [if_pos h0]
    rw [hc, if_neg h0, if_neg h0, if_neg h0];rw [decH_bad rfl h0] at DC;exact lcut_bad s _ h0 DC w
theorem rows_every (s : Bs) (hs : s.length ≤ 3000) (w : World) :
    Calls Tryz.prog 6 #[.string ⟨s.toArray⟩] w (NRowsE w (rowsS s)) := by
  obtain ⟨l1, l2, l3⟩ := partsV_len s;refine nrows_any s (cutE s) (hcS s) (hcS_size s).1 (hcS_size s).2 (partsV s).1 (metaS s) (partsV s).2.1 (partsV s).2.2 (by omega) (fun w => Lib.hid (lcut_any s (by omega) w)) ?_ w;intro hd A c w hr;have hn := decD_len (s := (partsV s).1);have hq : (decD (partsV s).1).2.length * (750 + 1) ≤ 750 * 751 := Nat.mul_le_mul (by omega) (by omega);exact Lib.hid (ljoin_any _ (decD_okE hd) (decD_row hd) _ (by omega) 750 (fun x _ _ => by have := pieceE_len x (partsV s).2.1; omega) (by omega) A c w hr)
theorem rowsS_ok {s : Bs} (hs : s.length ≤ 3000) (h : (rowsS s).1 = 0) : (∀ e ∈ (rowsS s).2.1, okE e) ∧ rowE (rowsS s).2.1 = 0 ∧ (rowsS s).2.2.length ≤ 3000 := by
  obtain ⟨l1, l2, l3⟩ := partsV_len s;unfold rowsS rowsN at h ⊢;split at h
  · contradiction
  · rename_i g1;split at h
    · contradiction
    · rename_i g2;split at h
      · contradiction
      · rename_i g3;rw [if_neg g1, if_neg g2, if_neg g3];have g2' : (decD (partsV s).1).1 = 0 := by simpa using g2
        have g3' : (joinE (decD (partsV s).1).2 (partsV s).2.1).1 = 0 := by simpa using g3
        exact ⟨(joinE_ok (decD_okE g2') g3').1, (joinE_ok (decD_okE g2') g3').2, by simp only; omega⟩
end Go.Proofs.YtbfieomjobbhoaaGreatDoor
/- Walks: what naive reads of a pressed archive, with anything behind it. -/
namespace Go.Proofs.YtbfieomjobbhoaaGreatDoor
open Go.RowKit Go.Gz Go.Shelf

set_option maxRecDepth 100000
theorem arch_fr {M : Items} (hg : Gz.Good M) (hl : M.length ≤ 200) (ht : total M ≤ 400000) {b kind : Nat} (hb : 512 ≤ b) (hb2 : b ≤ 16257) (hk : kind ≤ 5) {note : Bs} (hn : note.length ≤ 4096) (t : Bs) (htl : t.length ≤ 1000000) :
    ∃ (L : Ents) (dt : Bs), L = (rowsL M).1 ∧ dt = (rowsL M).2.flatten ∧ (∀ w, Hid (Calls Tryz.prog 6 #[.string ⟨((pressV M b kind note).2 ++ t).toArray⟩] w (NRowsE w (0, L, dt)))) ∧
    (∀ w, Hid (Calls Tryz.prog 8 #[.string ⟨((pressV M b kind note).2 ++ t).toArray⟩] w (ChartG true w (0, M)))) ∧
    (∀ (id : Nat) w, Hid (Calls Tryz.prog 10 #[.string ⟨((pressV M b kind note).2 ++ t).toArray⟩, .int .u64 (id : Int)] w (NTileE w (0, (getL M id).isSome, (getL M id).getD [])))) := by
  obtain ⟨i1, i2, i3, i4, i5, i6, i7, i8⟩ := rows_inv M hg (by omega);have hrow := rows_row hg (by omega);have hok := rows_ok hg (by omega);obtain ⟨s1, s2, s3, s4⟩ := split_ok hb hb2 hrow hok (by omega) (fun e he => (i6 e he).2.1);have hRok : ∀ e ∈ (splitV (rowsL M).1 b).2.1, okE e := by
    rcases s4 with ⟨_, e⟩ | ⟨n, hn, e, _, _⟩
    · rw [e]; exact hok
    · rw [e]; exact root_okE hn hrow hok (by omega)
  have hdec := decD_dirB s2 hRok (by omega);have hjoin := join_split hb hb2 hrow hok (by omega) (fun e he => (i6 e he).2.1);have hback := back_rows hg (by omega : total M ≤ 1099511627776);have htx := split_len hg (by omega) (by omega : total M ≤ 1000000000) hb hb2;have hRl := dirB_ge (splitV (rowsL M).1 b).2.1;have hjl := (joinGo_len _ _ _ _ (joinE_go hjoin)).2;obtain ⟨x1, x2⟩ := rows_expand M hg (by omega);have hexp := x1 [];rw [List.append_nil] at hexp;have CT := fun w => Lib.hid (acut_any hg (by omega) ht hb hb2 hk hn t htl w);have hq : (splitV (rowsL M).1 b).2.1.length * ((rowsL M).1.length + 1) ≤ 4064 * 201 := Nat.mul_le_mul (by omega) (by omega);have RW : ∀ w, Hid (Calls Tryz.prog 6 #[.string ⟨((pressV M b kind note).2 ++ t).toArray⟩] w (NRowsE w (0, (rowsL M).1, (rowsL M).2.flatten))) := by
    intro w
    have := nrows_any ((pressV M b kind note).2 ++ t) 0 (HW (pressH M b kind note) M.length (rowsL M).1.length) rfl (by simp [Value.oneCell']) (dirB (splitV (rowsL M).1 b).2.1) note (splitV (rowsL M).1 b).2.2.1 (rowsL M).2.flatten (by omega) CT (by
      rw [hdec];intro _ A c w hr;exact Lib.hid (ljoin_any _ hRok s2 _ (by omega) (rowsL M).1.length hjl (by omega) A c w hr)) w
    unfold rowsN at this;rw [hdec] at this;simp only [hjoin] at this;exact Lib.hid (by simpa using this)
  refine ⟨(rowsL M).1, (rowsL M).2.flatten, rfl, rfl, RW, fun w => Lib.hid ?_, fun id w => Lib.hid ?_⟩
  · have := nread_fr true ((pressV M b kind note).2 ++ t) (0, (rowsL M).1, (rowsL M).2.flatten) RW (0, M) (fun _ A c w hr => Lib.hid (by
      rw [← hback];exact back_fr _ hok hrow _ (by simp only; omega) (fun _ => by rw [hback]; show M.length ≤ 2048; omega) A c w hr)) w
    simpa using this
  · have := ntile_any ((pressV M b kind note).2 ++ t) id (0, (rowsL M).1, (rowsL M).2.flatten) (fun _ => ⟨fun e he => ⟨hok e he, (i6 e he).1⟩, by simp only; omega, by simp only; omega⟩) RW w;unfold tileN at this;rw [if_neg (by simp), tile_get id (fun e he => (i6 e he).1) (fun e he => ⟨by have := (i6 e he).2.1; omega, x2 e he, (i6 e he).2.2⟩), hexp] at this;exact this
theorem arch_naive {M : Items} (hg : Gz.Good M) (hl : M.length ≤ 200) (ht : total M ≤ 400000) {b kind : Nat} (hb : 512 ≤ b) (hb2 : b ≤ 16257) (hk : kind ≤ 5) {note : Bs} (hn : note.length ≤ 4096) (t : Bs) (htl : t.length ≤ 1000000) :
    ∃ (L : Ents) (dt : Bs), L = (rowsL M).1 ∧ dt = (rowsL M).2.flatten ∧ (∀ w, Hid (Calls Tryz.prog 6 #[.string ⟨((pressV M b kind note).2 ++ t).toArray⟩] w (NRowsE w (0, L, dt)))) ∧
    (∀ w, Hid (Calls Tryz.prog 8 #[.string ⟨((pressV M b kind note).2 ++ t).toArray⟩] w (ChartE w (0, M)))) ∧
    (∀ (id : Nat) w, Hid (Calls Tryz.prog 10 #[.string ⟨((pressV M b kind note).2 ++ t).toArray⟩, .int .u64 (id : Int)] w (NTileE w (0, (getL M id).isSome, (getL M id).getD [])))) := by
  obtain ⟨L, dt, h1, h2, h3, h4, h5⟩ := arch_fr hg hl ht hb hb2 hk hn t htl;exact ⟨L, dt, h1, h2, h3, fun w => Lib.hid ((h4 w).out.mono fun _ _ h => chartE_of h), h5⟩
end Go.Proofs.YtbfieomjobbhoaaGreatDoor
