/- Walks: gazetteerref20.Rows, Read, Tile of every text. -/
import Derived.Test.YtbfieomjobbhoaaGreatDoorMN38
import Derived.Test.YtbfieomjobbhoaaGreatDoorMN40
import Derived.Test.YtbfieomjobbhoaaGreatDoorMN41
import Derived.Test.YtbfieomjobbhoaaGreatDoorMN44
import Derived.Test.YtbfieomjobbhoaaGreatDoorMN10
import Derived.Test.YtbfieomjobbhoaaGreatDoorMN08
namespace Go.Gz
theorem backGo_bad (data : Bs) : ∀ (l : Ents) (many : Nat) (out : Items), (backGo data l many out).1 ≠ 0 → (backGo data l many out).2 = []
  | [], _, _, h => absurd rfl h
  | x :: r, many, out, h => by
    unfold backGo at h ⊢;split at h
    · rename_i g;rw [if_pos g]
    · rename_i g;rw [if_neg g];exact backGo_bad data r _ _ h
theorem backE_bad {l : Ents} {data : Bs} (h : (backE l data).1 ≠ 0) : (backE l data).2 = [] := by
  unfold backE at h ⊢;split at h
  · rename_i g;rw [if_pos g]
  · rename_i g;rw [if_neg g];exact backGo_bad data l _ _ h
end Go.Gz
namespace Go.Proofs.YtbfieomjobbhoaaGreatDoor
open Go.RowKit Go.Gz Go.Shelf
set_option maxRecDepth 100000
theorem rd_nil4 (w : World) : Rd w 4 none 0 0 (entV []) := ⟨by simp [entV_nil], Nat.le_refl _, Nat.zero_le _, fun _ => rfl, fun h => absurd h (by simp)⟩
theorem rd_nil2 (w : World) : Rd w 2 none 0 0 (itV []) := ⟨by simp [itV], Nat.le_refl _, Nat.zero_le _, fun _ => rfl, fun h => absurd h (by simp)⟩
def RRowsE (w : World) (r : Int × Ents × Bs) (e : Ending) (w' : World) : Prop := ∃ A c, e = .returned (.tuple #[.slice A r.2.1.length c, .string ⟨r.2.2.toArray⟩, .int .i64 r.1]) ∧ Rd w' 4 A r.2.1.length c (entV r.2.1) ∧ Up w w'
theorem rrows_bad {w w' : World} {E : Int} (hu : Up w w') : RRowsE w (E, [], []) (.returned (.tuple #[.slice none 0 0, .string ⟨#[]⟩, .int .i64 E])) w' := ⟨none, 0, rfl, rd_nil4 _, hu⟩
theorem r20blocks (w : World) (b0 : Nat) (hb0 : w.heap.size = b0) (hc : Array Value) (a b c d : Bs) : ∃ X1 X2, ((w.alloc (.cells HZ 73)).alloc (.cells E4 64)).setCells b0 0 hc.toList = X1 ∧ X1.setCells (b0 + 1) 0 (S4 a b c d).toList = X2 ∧
    ((w.alloc (.cells HZ 73)).alloc (.cells E4 64)).there b0 0 24 ∧ X1.there (b0 + 1) 0 4 ∧ Up w X2 ∧ X2.rangeAt (b0 + 1) 0 (S4 a b c d).toList := by
  subst hb0;have g1 := ((Up.refl _).alloc (.cells E4 64)).obj (heap_alloc_new w (.cells HZ 73));have g2 := heap_alloc_new (w.alloc (.cells HZ 73)) (.cells E4 64);rw [World.size_alloc] at g2;have T1 : ((w.alloc (.cells HZ 73)).alloc (.cells E4 64)).there w.heap.size 0 24 := show _ from (th_blk g1 : World.there _ _ _ (HZ).size)
  have T2 : ((w.alloc (.cells HZ 73)).alloc (.cells E4 64)).there (w.heap.size + 1) 0 4 := show _ from (th_blk g2 : World.there _ _ _ (E4).size)
  have hu : Up w ((w.alloc (.cells HZ 73)).alloc (.cells E4 64)) := ((Up.refl w).alloc _).alloc _;generalize (w.alloc (.cells HZ 73)).alloc (.cells E4 64) = X0 at *;exact ⟨_, _, rfl, rfl, T1, World.there_setCells T2 _ _ _, up_setCells _ (up_setCells _ hu (Nat.le_refl _)) (by omega), World.rangeAt_setCells_same _ _ _ _ (World.there_setCells T2 _ _ _)⟩
set_option maxHeartbeats 16000000 in
theorem rrows_any (s : Bs) (E0 : Int) (hc : Array Value) (hsz : hc.size = 24) (hone : hc.all (·.oneCell') = true) (p0 p1 p2 p3 : Bs) (h0 : p0.length ≤ 1000000)
    (CT : ∀ w, Hid (Calls Tryz.prog 27 #[.string ⟨s.toArray⟩] w fun e w' => e = .returned (.tuple #[.agg hc, .agg (S4 p0 p1 p2 p3), .int .i64 E0]) ∧ Up w w'))
    (JN : (decD p0).1 = 0 → ∀ A c w, Rd w 4 A (decD p0).2.length c (entV (decD p0).2) → Hid (Calls Tryz.prog 29 #[.slice A (decD p0).2.length c, .string ⟨p2.toArray⟩] w (EntsE w (joinE (decD p0).2 p2)))) (w : World) :
    Calls Tryz.prog 7 #[.string ⟨s.toArray⟩] w (RRowsE w (rowsN E0 p0 p2 p3)) := by
  have DC := fun w => Lib.hid (r8dec_any p0 h0 w);unfold DecRE at DC;unfold EntsE at JN;obtain ⟨D, hD⟩ : ∃ D, rowsN E0 p0 p2 p3 = D := ⟨_, rfl⟩;rw [hD];unfold rowsN at hD;generalize decD p0 = R at *;generalize joinE R.2 p2 = J at *;obtain ⟨E1, R⟩ := R;obtain ⟨E2, J⟩ := J;simp only at DC JN hD;go_enter Tryz.func7, Tryz.ntmps7;go_wp2_with fail;with_reducible refine (CT _).out.mono ?_
  rintro e y2 ⟨rfl, hy2⟩;obtain ⟨b5, hb5⟩ : ∃ b, y2.heap.size = b := ⟨_, rfl⟩;obtain ⟨Z1, Z2, hZ1, hZ2, th1, th2, huz, r10⟩ := r20blocks y2 b5 hb5 hc p0 p1 p2 p3;have HU := Lib.hid (hy2.trans huz);have y0 : Z2.cell? ⟨b5 + 1, 0, none⟩ = some (.string ⟨p0.toArray⟩) := r10 0 _ rfl;have y2' : Z2.cell? ⟨b5 + 1, 2, none⟩ = some (.string ⟨p2.toArray⟩) := r10 2 _ rfl;have y3' : Z2.cell? ⟨b5 + 1, 3, none⟩ = some (.string ⟨p3.toArray⟩) := r10 3 _ rfl;clear hy2 huz r10 CT;by_cases hE0 : E0 = 0
  rotate_left
  · rw [if_pos hE0] at hD;subst hD;have hEb : (E0 == 0) = false := by rw [beq_eq_false_iff_ne]; exact hE0
    go_wp2_with (first
      | (refine wpList_store_mid rfl 73 _ _ rfl b5 0 hc rfl rfl (hsz ▸ th1) (by rw [hsz]; kernel_rfl) hone ?_; rw [hZ1])
      | (refine wpList_store_mid rfl 64 _ _ rfl (b5 + 1) 0 (S4 p0 p1 p2 p3) rfl rfl th2 (by kernel_rfl) (by simp [Value.oneCell']) ?_; rw [hZ2]))
    change bodyPost _ _ _ _ _ _;refine bodyPost_ret (v := .tuple #[.slice none 0 0, .string ⟨#[]⟩, .int .i64 E0]) (by simp [results, Tryz.results7, go_sem]) rfl ?_;exact rrows_bad HU.out
  subst hE0;rw [if_neg (by simp)] at hD
  go_wp2_with (first
    | (refine wpList_store_mid rfl 73 _ _ rfl b5 0 hc rfl rfl (hsz ▸ th1) (by rw [hsz]; kernel_rfl) hone ?_; rw [hZ1])
    | (refine wpList_store_mid rfl 64 _ _ rfl (b5 + 1) 0 (S4 p0 p1 p2 p3) rfl rfl th2 (by kernel_rfl) (by simp [Value.oneCell']) ?_; rw [hZ2]))
  clear hZ1 hZ2 th1 th2 hsz hone;with_reducible refine (DC _).out.mono ?_
  rintro e y4 ⟨A3, c3, at3, rfl, r3, hy4⟩;replace y2' := hy4.cell y2';replace y3' := hy4.cell y3';have HU4 := Lib.hid (HU.out.trans hy4);have R3 := Lib.hid r3;clear HU y0 hy4 DC r3;by_cases hE1 : E1 = 0
  rotate_left
  · rw [if_pos hE1] at hD;subst hD;have hEb : (E1 == 0) = false := by rw [beq_eq_false_iff_ne]; exact hE1
    go_wp2_with fail;change bodyPost _ _ _ _ _ _;refine bodyPost_ret (v := .tuple #[.slice none 0 0, .string ⟨#[]⟩, .int .i64 E1]) (by simp [results, Tryz.results7, go_sem]) rfl ?_;exact rrows_bad HU4.out
  subst hE1;rw [if_neg (by simp)] at hD;have JN2 := JN rfl;go_wp2_with fail;with_reducible refine (JN2 _ _ _ R3.out).out.mono ?_
  rintro e y5 ⟨v4, rfl, hy5, hv4, _⟩;replace y3' := hy5.cell y3';have HU5 := Lib.hid (HU4.out.trans hy5);clear HU4 y2' hy5 JN JN2 R3;by_cases hE2 : E2 = 0
  rotate_left
  · rw [if_pos hE2] at hD;subst hD;have hEb : (E2 == 0) = false := by rw [beq_eq_false_iff_ne]; exact hE2
    clear hv4;go_wp2_with fail;change bodyPost _ _ _ _ _ _;refine bodyPost_ret (v := .tuple #[.slice none 0 0, .string ⟨#[]⟩, .int .i64 E2]) (by simp [results, Tryz.results7, go_sem]) rfl ?_;exact rrows_bad HU5.out
  subst hE2;rw [if_neg (by simp)] at hD;subst hD;obtain ⟨A4, c4, rfl, r4⟩ := hv4 rfl;have R4 := Lib.hid r4;clear hv4 r4;go_wp2_with fail;refine wp_region_held_drew (S := fun w' => w'.cell? ⟨b5 + 1, 3, none⟩ = some (.string ⟨p3.toArray⟩)) (by kernel_rfl) ?_ (fun hHeld => ?_)
  · exact y3'
  refine tk 0 rfl ?_;(try simp only [Act.put, tz1, tz2, tz3]);refine tk 1 rfl ?_;(try simp only [Act.put, tz1, tz2, tz3]);refine tk 2 rfl ?_;(try simp only [Act.put, tz1, tz2, tz3]);refine tk 3 rfl ?_;(try simp only [Act.put, tz1, tz2, tz3]);refine tk 4 rfl ?_;(try simp only [Act.put, tz1, tz2, tz3]);refine tk 5 rfl ?_;(try simp only [Act.put, tz1, tz2, tz3]);refine wpAnyH_done (by kernel_rfl) ?_ _;go_wp2_with fail;change bodyPost _ _ _ _ _ _;refine bodyPost_ret (v := .tuple #[.slice A4 J.length c4, .string ⟨p3.toArray⟩, .int .i64 0]) (by simp [results, Tryz.results7, go_sem]) rfl ?_;exact ⟨A4, c4, rfl, R4.out.up (Up.refl y5).drew, HU5.out.drew⟩
theorem rrows_every (s : Bs) (hs : s.length ≤ 3000) (w : World) :
    Calls Tryz.prog 7 #[.string ⟨s.toArray⟩] w (RRowsE w (rowsS s)) := by
  obtain ⟨l1, l2, l3⟩ := partsV_len s;refine rrows_any s (cutE s) (hcS s) (hcS_size s).1 (hcS_size s).2 (partsV s).1 (metaS s) (partsV s).2.1 (partsV s).2.2 (by omega) (fun w => Lib.hid (r15cut_any s (by omega) w)) ?_ w;intro hd A c w hr;have hn := decD_len (s := (partsV s).1);have hq : (decD (partsV s).1).2.length * (750 + 1) ≤ 750 * 751 := Nat.mul_le_mul (by omega) (by omega);exact Lib.hid (r14join_any _ (decD_okE hd) (decD_row hd) _ (by omega) 750 (fun x _ _ => by have := pieceE_len x (partsV s).2.1; omega) (by omega) A c w hr)
set_option maxHeartbeats 8000000 in
theorem rread_every (s : Bs) (hs : s.length ≤ 3000) (w : World) :
    Calls Tryz.prog 9 #[.string ⟨s.toArray⟩] w (RItE w (readS s)) := by
  have RW := fun w => Lib.hid (rrows_every s hs w);have BK : (rowsS s).1 = 0 → ∀ A c w, Rd w 4 A (rowsS s).2.1.length c (entV (rowsS s).2.1) → Hid (Calls Tryz.prog 31 #[.slice A (rowsS s).2.1.length c, .string ⟨(rowsS s).2.2.toArray⟩] w (RItE w (backE (rowsS s).2.1 (rowsS s).2.2))) := fun h A c w hr => by
    obtain ⟨h1, h2, h3⟩ := rowsS_ok hs h;exact Lib.hid (r13back_any _ h1 h2 _ (by omega) A c w hr)
  unfold RRowsE at RW;obtain ⟨D, hD⟩ : ∃ D, readS s = D := ⟨_, rfl⟩;rw [hD];unfold readS at hD;generalize rowsS s = R at *;obtain ⟨E, L, T⟩ := R;simp only at RW BK hD;go_enter Tryz.func9, Tryz.ntmps9;go_wp2_with fail;with_reducible refine (RW _).out.mono ?_
  rintro e w1 ⟨A, c, rfl, r1, hu1⟩;have R1 := Lib.hid r1;have HU1 := Lib.hid hu1;clear r1 hu1 RW;by_cases hE : E = 0
  rotate_left
  · rw [if_pos hE] at hD;subst hD;have hEb : (E == 0) = false := by rw [beq_eq_false_iff_ne]; exact hE
    clear BK;go_wp2_with fail;change bodyPost _ _ _ _ _ _;refine bodyPost_ret (v := .tuple #[.slice none 0 0, .int .i64 E]) (by simp [results, Tryz.results9, go_sem]) rfl ?_;exact ⟨none, 0, rfl, rd_nil2 _, HU1.out⟩
  subst hE;rw [if_neg (by simp)] at hD;have BK2 := BK rfl;unfold RItE at BK2 ⊢;subst hD;clear BK;go_wp2_with fail;with_reducible refine (BK2 _ _ _ R1.out).out.mono ?_
  rintro e w2 ⟨A2, c2, rfl, r2, hu2⟩;have R2 := Lib.hid r2;have HU2 := Lib.hid (HU1.out.trans hu2);clear r2 hu2 BK2 R1 HU1;generalize backE L T = M at *;obtain ⟨E2, M⟩ := M;go_wp2_with fail;change bodyPost _ _ _ _ _ _;refine bodyPost_ret (v := .tuple #[.slice A2 M.length c2, .int .i64 E2]) (by simp [results, Tryz.results9, go_sem]) rfl ?_;exact ⟨A2, c2, rfl, R2.out, HU2.out⟩
set_option maxHeartbeats 8000000 in
theorem rtile_every (s : Bs) (hs : s.length ≤ 3000) (id : Nat) (w : World) :
    Calls Tryz.prog 11 #[.string ⟨s.toArray⟩, .int .u64 (id : Int)] w (NTileE w (tileN (rowsS s) id)) := by
  have RW := fun w => Lib.hid (rrows_every s hs w);have hr : (rowsS s).1 = 0 → (∀ e ∈ (rowsS s).2.1, okE e ∧ chkE e = 0) ∧ (rowsS s).2.1.length ≤ 1000000 ∧ (rowsS s).2.2.length ≤ 1000000000 := fun h => by
    obtain ⟨h1, h2, h3⟩ := rowsS_ok hs h;have := row_len h2;exact ⟨fun e he => ⟨h1 e he, row_chk h2 he⟩, by omega, by omega⟩
  unfold RRowsE at RW;obtain ⟨D, hD⟩ : ∃ D, tileN (rowsS s) id = D := ⟨_, rfl⟩;rw [hD];unfold tileN at hD;generalize rowsS s = R at *;obtain ⟨E, l, T⟩ := R;simp only at RW hr hD;have hss : (⟨T.toArray⟩ : ByteArray).size = T.length := by simp [ByteArray.size]
  go_enter Tryz.func11, Tryz.ntmps11;go_wp2_with fail;with_reducible refine (RW _).out.mono ?_
  rintro e w1 ⟨A, c, rfl, r3, hu1⟩;have HU1 := Lib.hid hu1;have HR := Lib.hid r3;clear hu1 r3 RW;by_cases hE : E = 0
  rotate_left
  · rw [if_pos hE] at hD;subst hD;have hEb : (E == 0) = false := by rw [beq_eq_false_iff_ne]; exact hE
    clear hr;go_wp2_with fail;change bodyPost _ _ _ _ _ _;refine bodyPost_ret (v := .tuple #[.string ⟨#[]⟩, .bool false, .int .i64 E]) (by simp [results, Tryz.results11, go_sem]) rfl ?_;exact ⟨rfl, HU1.out⟩
  subst hE;rw [if_neg (by simp)] at hD;obtain ⟨hok, hll, htl⟩ := hr rfl;unfold tileE at hD;clear hr;go_wp2_with fail;go_loopg [10] l.length (fun gk i wr => TlR w1 l id gk i wr)
  case atStart => exact ⟨0, by omega, rfl, by rw [List.drop_zero], Up.refl w1⟩
  case round =>
    obtain ⟨k, hk, rfl, hf, hu⟩ := hrel;by_cases hlt : k < l.length
    · obtain ⟨m, rfl⟩ : ∃ y, gk = y + 1 := ⟨gk - 1, by omega⟩;obtain ⟨b, o, rfl, d0, d1, d2, d3⟩ := (HR.out.up hu).ent hlt;have hmem := List.getElem_mem hlt;obtain ⟨hxo, hxc⟩ := hok _ hmem;rw [List.drop_eq_getElem_cons hlt, List.find?_cons] at hf;obtain ⟨x, hx⟩ : ∃ x, l[k] = x := ⟨_, rfl⟩;rw [hx] at d0 d1 d2 d3 hxo hxc hf;obtain ⟨k1, k2, k3⟩ := chk_ok hxc;have HS := fun w => Lib.hid (r7has_any x hxo id w);simp only [entA] at HS;have kI : (k : Int) < (l.length : Int) := by omega
      have HU := Lib.hid hu;have hxl := hxo.2.2.1;clear hu hx hmem hxo hxc;go_wp2_with fail;refine (HS _).out.mono ?_;rintro e w2 ⟨rfl, hu2⟩;replace d1 := hu2.cell d1;replace d2 := hu2.cell d2;have HU2 := Lib.hid (HU.out.trans hu2);clear HU hu2 HS d0 d3;cases hh : hasE x id with
      | false =>
        rw [hh] at hf;have HF := Lib.hid hf;clear hf;go_wp2_with fail;go_roundg m
        case measure => omega
        case rel => exact ⟨k + 1, by omega, by go_num, HF.out, HU2.out⟩
      | true =>
        rw [hh] at hf;have hf2 : l.find? (fun e => hasE e id) = some x := hf.symm;rw [hf2] at hD;simp only at hD;obtain ⟨q, hq⟩ : ∃ q, x.off + x.len = q := ⟨_, rfl⟩;rw [hq] at hD;have e1 : IntKind.u64.wrap (x.len : Int) = (x.len : Int) := IntWalk.u64_in _ (by omega);have e2 : IntKind.u64.wrap ((x.off : Int) + (x.len : Int)) = (q : Int) := by rw [IntWalk.u64_in _ (by omega)]; omega
        have e3 : IntKind.u64.wrap (T.length : Int) = (T.length : Int) := IntWalk.u64_in _ (by omega);have g1 : w2.drew.cell? ⟨b, o + k * 4 + 1, none⟩ = some (.int .u64 (x.off : Int)) := d1;have g2 : w2.drew.cell? ⟨b, o + k * 4 + 2, none⟩ = some (.int .u32 (x.len : Int)) := d2;clear hf hf2 hh;go_wp2_with fail;refine wp_region_held_drew (S := fun w' => w'.cell? ⟨b, o + k * 4 + 1, none⟩ = some (.int .u64 (x.off : Int)) ∧ w'.cell? ⟨b, o + k * 4 + 2, none⟩ = some (.int .u32 (x.len : Int))) (by kernel_rfl) ?_ (fun hHeld => ?_)
        · exact ⟨g1, g2⟩
        refine tk 0 rfl ?_;(try simp only [Act.put, tz1, tz2, tz3]);refine tk 1 rfl ?_;(try simp only [Act.put, tz1, tz2, tz3]);refine tk 2 rfl ?_;(try simp only [Act.put, tz1, tz2, tz3]);refine tk 3 rfl ?_;(try simp only [Act.put, tz1, tz2, tz3]);refine tk 4 rfl ?_;(try simp only [Act.put, tz1, tz2, tz3]);refine tk 5 rfl ?_;(try simp only [Act.put, tz1, tz2, tz3]);refine tk 6 rfl ?_;(try simp only [Act.put, tz1, tz2, tz3]);refine tk 7 rfl ?_;(try simp only [Act.put, tz1, tz2, tz3]);refine tk 8 rfl ?_;(try simp only [Act.put, tz1, tz2, tz3]);refine tk 9 rfl ?_;(try simp only [Act.put, tz1, tz2, tz3]);refine tk 10 rfl ?_;(try simp only [Act.put, tz1, tz2, tz3]);refine tk 11 rfl ?_;(try simp only [Act.put, tz1, tz2, tz3]);refine tk 12 rfl ?_;(try simp only [Act.put, tz1, tz2, tz3]);refine wpAnyH_done (by kernel_rfl) ?_ _;clear hHeld;by_cases hlong : T.length < q
        · rw [if_pos hlong] at hD;subst hD;have t0 : (T.length : Int) < (q : Int) := by omega
          go_wp2_with fail;go_ret3
          exact ⟨rfl, HU1.out.trans HU2.out.drew⟩
        · rw [if_neg hlong] at hD;subst hD;have t0 : ¬ (T.length : Int) < (q : Int) := by omega
          have b1 : (0 : Int) ≤ (x.off : Int) := by omega
          have b2 : (x.off : Int) ≤ (q : Int) := by omega
          have b3 : (q : Int) ≤ (T.length : Int) := by omega
          have hp := part_mk T x.off x.len q hq;rw [show Gz.part T x.off x.len = (T.drop x.off).take x.len from rfl] at hp;generalize (T.drop x.off).take x.len = T2 at *;clear hq e2;go_wp2_with fail;go_ret3
          exact ⟨rfl, HU1.out.trans HU2.out.drew⟩
    · obtain rfl : gk = 0 := by omega
      have kI : ¬ (k : Int) < (l.length : Int) := by omega
      rw [List.drop_eq_nil_of_le (by omega), List.find?_nil] at hf;rw [← hf] at hD;simp only at hD;subst hD;clear hf;go_wp2_with fail;go_ret3
      exact ⟨rfl, HU1.out.trans hu⟩
end Go.Proofs.YtbfieomjobbhoaaGreatDoor
/- Walk: gazetteerlaw20.NaiveTells, given the references' answers. -/
namespace Go.Proofs.YtbfieomjobbhoaaGreatDoor
open Go.RowKit Go.Gz
set_option maxRecDepth 100000
theorem rd_nil0 (w : World) (size : Nat) : Rd w size none 0 0 [] := ⟨by simp, Nat.le_refl _, Nat.zero_le _, fun _ => rfl, fun h => absurd h (by omega)⟩
theorem rowsS_bad {s : Bs} (h : (rowsS s).1 ≠ 0) : (rowsS s).2.1 = [] ∧ (rowsS s).2.2 = [] := by
  unfold rowsS rowsN at h ⊢;split
  · exact ⟨rfl, rfl⟩
  · split
    · exact ⟨rfl, rfl⟩
    · split
      · exact ⟨rfl, rfl⟩
      · rename_i g1 g2 g3;rw [if_neg g1, if_neg g2, if_neg g3] at h;exact absurd rfl h
theorem readS_bad {s : Bs} (h : (readS s).1 ≠ 0) : (readS s).2 = [] := by
  unfold readS at h ⊢;split
  · rfl
  · rename_i g;rw [if_neg g] at h;exact backE_bad h
/-- both kinds of answers in one form -/
theorem nrows_all {w w' : World} {s : Bs} {e : Ending} (h : NRowsE w (rowsS s) e w') : ∃ A c, e = .returned (.tuple #[.slice A (rowsS s).2.1.length c, .string ⟨(rowsS s).2.2.toArray⟩, .int .i64 (rowsS s).1]) ∧ Rd w' 4 A (rowsS s).2.1.length c (entV (rowsS s).2.1) ∧ Up w w' := by
  obtain ⟨v, t, rfl, hu, h1, h2⟩ := h;by_cases h0 : (rowsS s).1 = 0
  · obtain ⟨rfl, A, c, rfl, hr⟩ := h1 h0;exact ⟨A, c, rfl, hr, hu⟩
  · obtain ⟨rfl, rfl⟩ := h2 h0;obtain ⟨e1, e2⟩ := rowsS_bad h0;rw [e1, e2];exact ⟨none, 0, rfl, rd_nil0 _ _, hu⟩
theorem nread_all {w w' : World} {s : Bs} {e : Ending} (h : ChartE w (readS s) e w') : ∃ A c, e = .returned (.tuple #[.agg #[.slice A (readS s).2.length c], .int .i64 (readS s).1]) ∧ Rd w' 2 A (readS s).2.length c (itV (readS s).2) ∧ Up w w' := by
  obtain ⟨v, rfl, hu, h1, h2⟩ := h;by_cases h0 : (readS s).1 = 0
  · obtain ⟨A, c, rfl, hr⟩ := h1 h0;exact ⟨A, c, rfl, hr, hu⟩
  · obtain rfl := h2 h0;rw [readS_bad h0];exact ⟨none, 0, rfl, rd_nil0 _ _, hu⟩
set_option maxHeartbeats 64000000 in
theorem ntells20 (s : Bs) (id : Nat) (w : World) (hg : Gl w) :
    Calls Tryz.prog 3 #[.string ⟨s.toArray⟩, .int .u64 (id : Int)] w (NTilesOK w) := by
  have AW := fun w hg => Lib.hid (awake20 w hg);have HG := Lib.hid hg;have hss : (⟨s.toArray⟩ : ByteArray).size = s.length := by simp [ByteArray.size]
  clear hg;by_cases hn : 3000 < s.length
  · have hnI : (3000 : Int) < (s.length : Int) := by omega
    go_enter Tryz.func3, Tryz.ntmps3;go_wp2_with fail;with_reducible refine (AW _ HG.out).out.mono ?_
    rintro e w2 ⟨rfl, hu2⟩;go_wp2_with fail;go_ret;exact ⟨rfl, hu2⟩
  have hs : s.length ≤ 3000 := by omega
  have hnI : ¬ (3000 : Int) < (s.length : Int) := by omega
  have N1 := fun w => Lib.hid (rows_every s hs w);have N2 := fun w => Lib.hid (rrows_every s hs w);have N3 := fun w => Lib.hid (read_every s hs w);have N4 := fun w => Lib.hid (rread_every s hs w);have N5 := fun w => Lib.hid (tile_every s hs id w);have N6 := fun w => Lib.hid (rtile_every s hs id w);have hll : (rowsS s).2.1.length ≤ 4096 := by
    by_cases h0 : (rowsS s).1 = 0
    · obtain ⟨h1, h2, h3⟩ := rowsS_ok hs h0;exact row_len h2
    · rw [(rowsS_bad h0).1]; exact Nat.zero_le _
  have hil : (readS s).2.length ≤ 2048 := by
    by_cases h0 : (readS s).1 = 0
    · exact (read_ok h0).2.1
    · rw [readS_bad h0]; exact Nat.zero_le _
  have B7 := fun A c w hr => Lib.hid (back07_any (rowsS s).2.1 (by omega) A c w hr);have S7 := fun A1 c1 A2 c2 w h1 h2 => Lib.hid (rsame07_any (rowsS s).2.1 (by omega) A1 c1 A2 c2 w h1 h2);have IT := fun A c w hr => Lib.hid (items_any (readS s).2 (by omega) A c w hr);have B2 := fun A c w hr => Lib.hid (back12_any (readS s).2 (by omega) A c w hr);have S2 := fun A1 c1 A2 c2 w h1 h2 => Lib.hid (rsame12_any (readS s).2 (by omega) A1 c1 A2 c2 w h1 h2);unfold NTileE at N5 N6;unfold RRowsE at N2;unfold RItE at N4;clear hn hll hil;go_enter Tryz.func3, Tryz.ntmps3;go_wp2_with fail;with_reducible refine (N1 _).out.mono ?_
  rintro e w1 h1;obtain ⟨A1, c1, rfl, r1, hu1⟩ := nrows_all h1;have HU1 := Lib.hid hu1;have R1 := Lib.hid r1;clear h1 hu1 r1 N1;go_wp2_with fail;with_reducible refine (N2 _).out.mono ?_
  rintro e w2 ⟨A2, c2, rfl, r2, hu2⟩;have HU2 := Lib.hid (HU1.out.trans hu2);have R1' := Lib.hid (R1.out.up hu2);have R2 := Lib.hid r2;clear hu2 r2 N2 R1 HU1;go_wp2_with fail;with_reducible refine (N3 _).out.mono ?_
  rintro e w3 h3;obtain ⟨A3, c3, rfl, r3, hu3⟩ := nread_all h3;have n3 := new1 w3 33 (.slice A3 (readS s).2.length c3);have hu3' := hu3.trans n3.1;have HU3 := Lib.hid (HU2.out.trans hu3');have R1a := Lib.hid (R1'.out.up hu3');have R2a := Lib.hid (R2.out.up hu3');have R3 := Lib.hid (r3.up n3.1);have C3 := n3.2.1;clear h3 hu3 r3 N3 R1' R2 HU2 n3 hu3';go_wp2_with fail;with_reducible refine (N4 _).out.mono ?_
  rintro e w4 ⟨A4, c4, rfl, r4, hu4⟩;have HU4 := Lib.hid (HU3.out.trans hu4);have R1b := Lib.hid (R1a.out.up hu4);have R2b := Lib.hid (R2a.out.up hu4);have R3b := Lib.hid (R3.out.up hu4);have R4 := Lib.hid r4;replace C3 := hu4.cell C3;clear hu4 r4 N4 R1a R2a R3 HU3;go_wp2_with fail;with_reducible refine (N5 _).out.mono ?_
  rintro e w5 ⟨rfl, hu5⟩;have HU5 := Lib.hid (HU4.out.trans hu5);have R1c := Lib.hid (R1b.out.up hu5);have R2c := Lib.hid (R2b.out.up hu5);have R3c := Lib.hid (R3b.out.up hu5);have R4c := Lib.hid (R4.out.up hu5);replace C3 := hu5.cell C3;clear hu5 N5 R1b R2b R3b R4 HU4;go_wp2_with fail;with_reducible refine (N6 _).out.mono ?_
  rintro e w6 ⟨rfl, hu6⟩;have HU6 := Lib.hid (HU5.out.trans hu6);have R1d := Lib.hid (R1c.out.up hu6);have R2d := Lib.hid (R2c.out.up hu6);have R3d := Lib.hid (R3c.out.up hu6);have R4d := Lib.hid (R4c.out.up hu6);replace C3 := hu6.cell C3;clear hu6 N6 R1c R2c R3c R4c HU5;generalize tileN (rowsS s) id = TD at *;generalize rowsS s = RS at *;generalize readS s = DS at *;clear hs hss hnI;go_wp2_with fail;with_reducible refine (B7 _ _ _ R1d.out).out.mono ?_
  rintro e w7 ⟨v7, rfl, o7, hu⟩;obtain ⟨A7, c7, rfl, p7⟩ := Rd.of_own o7;have HU7 := Lib.hid (HU6.out.trans hu);have P7 := Lib.hid p7;have R2e := Lib.hid (R2d.out.up hu);have R3e := Lib.hid (R3d.out.up hu);have R4e := Lib.hid (R4d.out.up hu);replace C3 := hu.cell C3;clear hu o7 p7 HU6 R1d R2d R3d R4d B7;go_wp2_with fail;with_reducible refine (S7 _ _ _ _ _ P7.out R2e.out).out.mono ?_
  rintro e w8 ⟨rfl, hu⟩;have HU8 := Lib.hid (HU7.out.trans hu);have R3f := Lib.hid (R3e.out.up hu);have R4f := Lib.hid (R4e.out.up hu);replace C3 := hu.cell C3;clear hu HU7 P7 R2e R3e R4e S7;go_wp2_with fail;with_reducible refine (IT _ _ _ R3f.out).out.mono ?_
  rintro e w9 ⟨v9, rfl, o9, hu⟩;obtain ⟨A9, c9, rfl, p9⟩ := Rd.of_own o9;have HU9 := Lib.hid (HU8.out.trans hu);have P9 := Lib.hid p9;have R4g := Lib.hid (R4f.out.up hu);clear hu o9 p9 HU8 R3f R4f IT C3;go_wp2_with fail;with_reducible refine (B2 _ _ _ P9.out).out.mono ?_
  rintro e wa ⟨va, rfl, oa, hu⟩;obtain ⟨Aa, ca, rfl, pa⟩ := Rd.of_own oa;have HUa := Lib.hid (HU9.out.trans hu);have Pa := Lib.hid pa;have R4h := Lib.hid (R4g.out.up hu);clear hu oa pa HU9 P9 R4g B2;go_wp2_with fail;with_reducible refine (S2 _ _ _ _ _ Pa.out R4h.out).out.mono ?_
  rintro e wb ⟨rfl, hu⟩;have HUb := Lib.hid (HUa.out.trans hu);clear hu HUa Pa R4h S2;go_wp2_with fail;with_reducible refine (AW _ (HG.out.up HUb.out)).out.mono ?_
  rintro e wc ⟨rfl, hu⟩;go_wp2_with fail;go_ret;exact ⟨rfl, HUb.out.trans hu⟩
end Go.Proofs.YtbfieomjobbhoaaGreatDoor
