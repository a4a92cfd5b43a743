/- Walk: the reference's Spans of rectangles of at most 300 tiles each. -/
import Derived.Test.YtjhgaildbeokkaaGreatDoorGT38
import Derived.Test.YtjhgaildbeokkaaGreatDoorGT26
namespace Go.Gz
theorem ids_pb {r : Rc} (h : chkR r = 0) : PB ((idsR r).map fun i => (i, i)) := by
  obtain ⟨n, hn, h26⟩ := chk_zoom h;have h5 := four_pow_le27 (z := n) (by omega);have h6 := baseN_eq n;intro x hx;obtain ⟨i, hi, rfl⟩ := List.mem_map.1 hx;have := ((ids_iff h hn i).1 hi).1;unfold PBs;simp only;omega
end Go.Gz
namespace Go.Proofs.YtjhgaildbeokkaaGreatDoor
open Go.RowKit Go.Gz Go.Shelf

set_option maxRecDepth 100000
set_option maxHeartbeats 8000000 in
theorem r38spans_any (l : Rcs) (hl : l.length ≤ 8) (hs : ∀ r ∈ l, chkR r = 0 → (idsR r).length ≤ 300) (A : Option Addr) (c : Nat) (w : World) (hr : Rd w 5 A l.length c (rcV l)) :
    Calls Tryz.prog 43 #[.slice A l.length c] w (RspE w (refS l [])) := by
  obtain ⟨F, hF⟩ : ∃ F, refS l [] = F := ⟨_, rfl⟩;rw [hF];have HR := Lib.hid hr;clear hr;go_enter Tryz.func43, Tryz.ntmps43;go_wp2_with fail;go_loopg [4, 5] l.length (fun gk v i wr => ∃ (k : Nat) (L : Sps) (A : Option Addr) (c : Nat), k + gk = l.length ∧ i = .int .i64 (k : Int) ∧ v = .slice A L.length c ∧ Rd wr 2 A L.length c (spV L) ∧ refS (l.drop k) L = F ∧ PB L ∧ L.length ≤ k * 300 ∧ Up w wr)
  case atStart => exact ⟨0, [], none, 0, by omega, rfl, rfl, Rd.nil_ _ _, by rw [List.drop_zero]; exact hF, pb_nil, Nat.le_refl _, Up.refl w⟩
  case round =>
    obtain ⟨k, L, A2, c2, hk, rfl, rfl, ho, hf, hpb, hll, hu⟩ := hrel;have HO := Lib.hid ho;have HU := Lib.hid hu;by_cases hlt : k < l.length
    · obtain ⟨g, rfl⟩ : ∃ g, gk = g + 1 := ⟨gk - 1, by omega⟩;have hltI : (k : Int) < (l.length : Int) := by omega
      rw [List.drop_eq_getElem_cons hlt] at hf;obtain ⟨b, o, rfl, j0, j1, j2, j3, j4⟩ := (HR.out.up hu).rect hlt;have hs1 := hs _ (List.getElem_mem hlt);have SP := fun w => Lib.hid (r5spans_any l[k] hs1 w);have hib := ids_pb (r := l[k]);unfold refS at hf;obtain ⟨r, hrr⟩ : ∃ x, l[k] = x := ⟨_, rfl⟩;rw [hrr] at j0 j1 j2 j3 j4 hs1 SP hib hf;clear hrr hu ho;by_cases h0 : chkR r = 0
      · have hq := hs1 h0;obtain ⟨f1, f2⟩ := fold_pb ((idsR r).map fun i => (i, i)) [] pb_nil (hib h0);rw [List.length_map] at f2;simp only [List.length_nil] at f2;rw [if_neg (by simpa using h0)] at hf SP;generalize ((idsR r).map fun i => (i, i)).foldl putR [] = S at *;have UN := fun A c A2 c2 w h1 h2 => Lib.hid (runion_any L S (by omega) (by omega) hpb f1 A c A2 c2 w h1 h2);obtain ⟨n1, n2⟩ := fold_pb (L ++ S) [] pb_nil (pb_app hpb f1);rw [List.length_append] at n2;simp only [List.length_nil] at n2;generalize (L ++ S).foldl putR [] = N at *;unfold RspE at SP;unfold RsE at UN;simp only at SP;obtain ⟨z, x0, y0, x1, y1⟩ := r;simp only at j0 j1 j2 j3 j4;have HF := Lib.hid hf;have HN := Lib.hid n1;have hN : N.length ≤ (k + 1) * 300 := by omega
        clear hs1 hib hf h0 hq f1 f2 n1 n2 hpb;go_wp2_with fail;refine (SP _).out.mono ?_;rintro e w2 ⟨A3, c3, rfl, r3, hu2⟩;have HR3 := Lib.hid r3;have HO3 := Lib.hid (HO.out.up hu2);clear r3;go_wp2_with fail;refine (UN _ _ _ _ _ HO3.out HR3.out).out.mono ?_;rintro e w3 ⟨A4, c4, rfl, r4, hu3⟩;go_wp2_with fail;go_roundg g
        case measure => omega
        case rel => exact ⟨k + 1, N, A4, c4, by omega, by go_num, rfl, r4, HF.out, HN.out, hN, HU.out.trans (hu2.trans hu3)⟩
      · rw [if_pos h0] at hf SP;subst hf;unfold RspE at SP;simp only at SP;generalize chkR r = E at *;have hEb : (E == 0) = false := by rw [beq_eq_false_iff_ne]; exact h0
        obtain ⟨z, x0, y0, x1, y1⟩ := r;simp only at j0 j1 j2 j3 j4;clear hs1 hib hpb;go_wp2_with fail;refine (SP _).out.mono ?_;rintro e w2 ⟨A3, c3, rfl, r3, hu2⟩;clear r3 j0 j1 j2 j3 j4;go_wp2_with fail;go_ret2
        exact ⟨none, 0, rfl, Rd.nil_ _ _, HU.out.trans hu2⟩
    · obtain rfl : k = l.length := by omega
      rw [List.drop_length] at hf;have hF2 : (L, 0) = F := hf;subst hF2;clear hu ho hf hlt;go_wp2_with fail;go_ret2
      exact ⟨A2, c2, rfl, HO.out, HU.out⟩
end Go.Proofs.YtjhgaildbeokkaaGreatDoor
/- Walk: the reference's Zooms of a chart's items. -/
namespace Go.Proofs.YtjhgaildbeokkaaGreatDoor
open Go.RowKit Go.Gz Go.Shelf

set_option maxRecDepth 100000
/-- items come back -/
def RiE (w : World) (L : Items) (e : Ending) (w' : World) : Prop := ∃ A c, e = .returned (.slice A L.length c) ∧ Rd w' 2 A L.length c (itV L) ∧ Up w w'
set_option maxHeartbeats 8000000 in
theorem rzooms38_any (L : Items) (hl : L.length ≤ 100000) (gid : ∀ x ∈ L, x.1 < 6004799503160661) (lo hj : Int) (A : Option Addr) (c : Nat) (w : World) (hr : Rd w 2 A L.length c (itV L)) :
    Calls Tryz.prog 40 #[.slice A L.length c, .int .i64 lo, .int .i64 hj] w (RiE w (keepL L (zoomR lo hj))) := by
  obtain ⟨i0, hi, hz0, hz1, hz2⟩ := info_parts infoIt;have HR := Lib.hid hr;clear hr;go_enter Tryz.func40, Tryz.ntmps40;go_wp2_with fail;go_loopg [7, 8] L.length (fun gk v i wr => ∃ k : Nat, k + gk = L.length ∧ i = .int .i64 (k : Int) ∧ wr.ownsRow w.heap.size 100 2 v (keepL (L.take k) (zoomR lo hj)).length (itV (keepL (L.take k) (zoomR lo hj))) ∧ Up w wr)
  case atStart => exact ⟨0, by omega, rfl, by simpa [keepL, itV] using World.ownsRow_nil _ _ _ _, Up.refl w⟩
  case round =>
    obtain ⟨k, hk, rfl, ho, hu⟩ := hrel;have HO := Lib.hid ho;have HU := Lib.hid hu;by_cases hlt : k < L.length
    · obtain ⟨m, rfl⟩ : ∃ m, gk = m + 1 := ⟨gk - 1, by omega⟩;have hltI : (k : Int) < (L.length : Int) := by omega
      obtain ⟨b, o, rfl, j0, j1⟩ := (HR.out.up hu).item hlt;have ZM := fun w => Lib.hid (rzoom_any L[k].1 (gid _ (List.getElem_mem hlt)) w);have hst := keep_succ L (zoomR lo hj) hlt;have hkl : (keepL (L.take k) (zoomR lo hj)).length ≤ 100000 := by have := keep_len (L.take k) (zoomR lo hj); rw [List.length_take] at this; omega
      generalize L[k] = x at *;obtain ⟨id, s⟩ := x;simp only at j0 j1 ZM hst;have hcond : zoomR lo hj (zoomN id : Int) ((tileXY id).1 : Int) ((tileXY id).2 : Int) = (decide (lo ≤ (zoomN id : Int)) && decide ((zoomN id : Int) ≤ hj)) := rfl;rw [hcond] at hst;clear hcond;generalize (zoomN id : Int) = z at *;by_cases h1 : lo ≤ z
      case neg =>
        rw [if_neg (by simp [h1])] at hst;rw [List.append_nil] at hst;have HST := Lib.hid hst;clear hst hkl ho hu;go_wp2_with fail;refine (ZM _).out.mono ?_;rintro e w2 ⟨rfl, rfl⟩;go_wp2_with fail;go_roundg m
        case measure => omega
        case rel => exact ⟨k + 1, by omega, by go_num, by rw [HST.out]; exact HO.out, HU.out⟩
      by_cases h2 : z ≤ hj
      case neg =>
        rw [if_neg (by simp [h2])] at hst;rw [List.append_nil] at hst;have HST := Lib.hid hst;clear hst hkl ho hu;go_wp2_with fail;refine (ZM _).out.mono ?_;rintro e w2 ⟨rfl, rfl⟩;go_wp2_with fail;go_roundg m
        case measure => omega
        case rel => exact ⟨k + 1, by omega, by go_num, by rw [HST.out]; exact HO.out, HU.out⟩
      rw [if_pos (by simp [h1, h2])] at hst;have HST := Lib.hid hst;clear hst ho hu;go_wp2_with fail;refine (ZM _).out.mono ?_;rintro e w2 ⟨rfl, rfl⟩;go_wp2_with (at_builtin; refine app_one wr rfl _ _ 22 rfl w.heap.size 100 i0 _ 2 24 Tryz.underlying22 hi hz0 hz1 hz2 rfl (by decide) _ _ _ HO.out rfl #[.int .u64 (id : Int), .string ⟨s.toArray⟩] rfl rfl (by simp [Value.oneCell']) (by omega) (by omega) (by have := HU.out.le; omega) ?_; intro v3 w3 ho3 hg3 hb3)
      go_roundg m
      case measure => omega
      case rel =>
        refine ⟨k + 1, by omega, by go_num, ?_, Up.of (Below.trans HU.out.below hb3)⟩;rw [HST.out, itV_app, List.length_append];exact ho3
    · obtain rfl : k = L.length := by omega
      rw [List.take_length] at ho;obtain ⟨A2, c2, rfl, r2⟩ := Rd.of_own ho;have HR2 := Lib.hid r2;clear ho hu r2 hlt HO;go_wp2_with fail;go_ret;exact ⟨_, _, rfl, HR2.out, HU.out⟩
end Go.Proofs.YtjhgaildbeokkaaGreatDoor
/- Walk: the reference's Of: the items in any of some rectangles. -/
namespace Go.Proofs.YtjhgaildbeokkaaGreatDoor
open Go.RowKit Go.Gz Go.Shelf

set_option maxRecDepth 100000
set_option maxHeartbeats 16000000 in
theorem rof38_any (L : Items) (hl : L.length ≤ 100000) (gid : ∀ x ∈ L, x.1 < 6004799503160661) (r : Rcs) (A : Option Addr) (c : Nat) (A2 : Option Addr) (c2 : Nat) (w : World) (hr : Rd w 2 A L.length c (itV L)) (hr2 : Rd w 5 A2 r.length c2 (rcV r)) :
    Calls Tryz.prog 38 #[.slice A L.length c, .slice A2 r.length c2] w (RiE w (keepL L (anyR r))) := by
  obtain ⟨i0, hi, hz0, hz1, hz2⟩ := info_parts infoIt;have HR := Lib.hid hr;have HR2 := Lib.hid hr2;have hrl : r.length ≤ 9223372036854775807 := by have := hr2.2.1; have := hr2.2.2.1; unfold maxLen at this; omega
  clear hr hr2;go_enter Tryz.func38, Tryz.ntmps38;go_wp2_with fail;go_loopg [5, 6] L.length (fun gk v i wr => ∃ k : Nat, k + gk = L.length ∧ i = .int .i64 (k : Int) ∧ wr.ownsRow w.heap.size 100 2 v (keepL (L.take k) (anyR r)).length (itV (keepL (L.take k) (anyR r))) ∧ Up w wr)
  case atStart => exact ⟨0, by omega, rfl, by simpa [keepL, itV] using World.ownsRow_nil _ _ _ _, Up.refl w⟩
  case round =>
    obtain ⟨k, hk, rfl, ho, hu⟩ := hrel;have HO := Lib.hid ho;have HU := Lib.hid hu;by_cases hlt : k < L.length
    · obtain ⟨m, rfl⟩ : ∃ m, gk = m + 1 := ⟨gk - 1, by omega⟩;have hltI : (k : Int) < (L.length : Int) := by omega
      obtain ⟨b, o, rfl, j0, j1⟩ := (HR.out.up hu).item hlt;have OF := fun w => Lib.hid (rof_any L[k].1 (gid _ (List.getElem_mem hlt)) w);have hst := keep_succ L (anyR r) hlt;have hkl : (keepL (L.take k) (anyR r)).length ≤ 100000 := by have := keep_len (L.take k) (anyR r); rw [List.length_take] at this; omega
      generalize L[k] = it at *;obtain ⟨id, s⟩ := it;simp only at j0 j1 OF hst;generalize (zoomN id : Int) = z at *;generalize ((tileXY id).1 : Int) = x at *;generalize ((tileXY id).2 : Int) = y at *;have HST := Lib.hid hst;have HKL := Lib.hid hkl;clear hst hkl ho hu;go_wp2_with fail;refine (OF _).out.mono ?_;rintro e w2 ⟨rfl, hu2⟩;have hb := heap_alloc_new w2 (rtC z x y);have hu3 := hu2.trans ((Up.refl w2).alloc (rtC z x y));obtain ⟨t0, t1, t2⟩ := rti_cells hb;replace j0 := hu3.cell j0;replace j1 := hu3.cell j1;replace HO := Lib.hid (own_up HO.out hu3);replace HU := Lib.hid (HU.out.trans hu3);obtain ⟨W, hW⟩ : ∃ W, w2.alloc (rtC z x y) = W := ⟨_, rfl⟩;rw [hW] at t0 t1 t2 j0 j1 HO HU;obtain ⟨TB, hTB⟩ : ∃ TB, w2.heap.size = TB := ⟨_, rfl⟩;rw [hTB] at t0 t1 t2;clear hb hu2 hu3 OF;go_wp2_with fail;(try rw [hW]);(try rw [hTB]);clear hW hTB;go_loopg [9, 10] r.length (fun gj v i wx => ∃ j : Nat, j + gj = r.length ∧ i = .int .i64 (j : Int) ∧ v = .bool (anyR (r.take j) z x y) ∧ Up W wx)
      case atStart => exact ⟨0, by omega, rfl, rfl, Up.refl _⟩
      case round =>
        rename World => wx
        obtain ⟨j, hj, rfl, rfl, hux⟩ := hrel;replace t0 := hux.cell t0;replace t1 := hux.cell t1;replace t2 := hux.cell t2;have HUX := Lib.hid hux;by_cases hlx : j < r.length
        · obtain ⟨gx, rfl⟩ : ∃ gx, gk = gx + 1 := ⟨gk - 1, by omega⟩;have hjI : (j : Int) < (r.length : Int) := by omega
          obtain ⟨b2, o2, rfl, q0, q1, q2, q3, q4⟩ := (HR2.out.up (HU.out.trans hux)).rect hlx;have HS := fun w => Lib.hid (r5has_any r[j] z x y w);have hsn := any_succ r z x y hlx;obtain ⟨q, hq⟩ : ∃ q, r[j] = q := ⟨_, rfl⟩;rw [hq] at q0 q1 q2 q3 q4 HS hsn;generalize anyR (r.take j) z x y = a at *;generalize hasR q z x y = h at *;obtain ⟨r0, r1, r2, r3, r4⟩ := q;simp only at q0 q1 q2 q3 q4;have HSN := Lib.hid hsn;clear hsn hq hux;cases a with
          | false =>
            go_wp2_with fail;have MK := Lib.hid (fun w' (h : Up wx w') => (⟨h.cell q0, h.cell q1, h.cell q2, h.cell q3, h.cell q4, h.cell t0, h.cell t1, h.cell t2⟩ : w'.cell? ⟨b2, o2 + j * 5, none⟩ = some (.int .i64 r0) ∧ w'.cell? ⟨b2, o2 + j * 5 + 1, none⟩ = some (.int .i64 r1) ∧ w'.cell? ⟨b2, o2 + j * 5 + 2, none⟩ = some (.int .i64 r2) ∧ w'.cell? ⟨b2, o2 + j * 5 + 3, none⟩ = some (.int .i64 r3) ∧ w'.cell? ⟨b2, o2 + j * 5 + 4, none⟩ = some (.int .i64 r4) ∧ w'.cell? ⟨TB, 0, none⟩ = some (.int .i64 z) ∧ w'.cell? ⟨TB, 1, none⟩ = some (.int .i64 x) ∧ w'.cell? ⟨TB, 2, none⟩ = some (.int .i64 y)));refine wp_region_held_drew (S := fun w' => w'.cell? ⟨b2, o2 + j * 5, none⟩ = some (.int .i64 r0) ∧ w'.cell? ⟨b2, o2 + j * 5 + 1, none⟩ = some (.int .i64 r1) ∧ w'.cell? ⟨b2, o2 + j * 5 + 2, none⟩ = some (.int .i64 r2) ∧ w'.cell? ⟨b2, o2 + j * 5 + 3, none⟩ = some (.int .i64 r3) ∧ w'.cell? ⟨b2, o2 + j * 5 + 4, none⟩ = some (.int .i64 r4) ∧ w'.cell? ⟨TB, 0, none⟩ = some (.int .i64 z) ∧ w'.cell? ⟨TB, 1, none⟩ = some (.int .i64 x) ∧ w'.cell? ⟨TB, 2, none⟩ = some (.int .i64 y)) (by kernel_rfl) (MK.out _ (Up.refl _).drew) (fun hHeld => ?_);have hU := (Up.refl wx).drew;generalize World.drew wx = y0 at *;refine tk 0 rfl ?_;(try simp only [Act.put, tz1, tz2, tz3]);refine tk 1 rfl ?_;(try simp only [Act.put, tz1, tz2, tz3]);refine tk 2 rfl ?_;(try simp only [Act.put, tz1, tz2, tz3]);refine tk 3 rfl ?_;(try simp only [Act.put, tz1, tz2, tz3]);refine tk 4 rfl ?_;(try simp only [Act.put, tz1, tz2, tz3]);refine tk 5 rfl ?_;(try simp only [Act.put, tz1, tz2, tz3]);refine tk 6 rfl ?_;(try simp only [Act.put, tz1, tz2, tz3]);refine rd1 7 rfl (fun K hK => ?_);go_simp;go_at_call 90;with_reducible refine (HS _).out.mono ?_
            rintro e y1 ⟨rfl, hu⟩;refine hK.out _ _ (MK.out _ (hU.trans hu)) (fun hHeld => ?_);clear hK K;(try simp only [Act.put, tz1, tz2, tz3]);replace hU := hU.trans hu;clear hu;refine tk 8 rfl ?_;(try simp only [Act.put, tz1, tz2, tz3]);refine tk 9 rfl ?_;(try simp only [Act.put, tz1, tz2, tz3]);refine wpAnyH_done (by kernel_rfl) ?_ _;clear hHeld MK;go_wp2_with fail;go_roundg gx
            case measure => omega
            case rel => exact ⟨j + 1, by omega, by go_num, by rw [HSN.out, Bool.false_or], HUX.out.trans hU⟩
          | true =>
            go_wp2_with fail;have MK := Lib.hid (fun w' (h : Up wx w') => (⟨h.cell q0, h.cell q1, h.cell q2, h.cell q3, h.cell q4, h.cell t0, h.cell t1, h.cell t2⟩ : w'.cell? ⟨b2, o2 + j * 5, none⟩ = some (.int .i64 r0) ∧ w'.cell? ⟨b2, o2 + j * 5 + 1, none⟩ = some (.int .i64 r1) ∧ w'.cell? ⟨b2, o2 + j * 5 + 2, none⟩ = some (.int .i64 r2) ∧ w'.cell? ⟨b2, o2 + j * 5 + 3, none⟩ = some (.int .i64 r3) ∧ w'.cell? ⟨b2, o2 + j * 5 + 4, none⟩ = some (.int .i64 r4) ∧ w'.cell? ⟨TB, 0, none⟩ = some (.int .i64 z) ∧ w'.cell? ⟨TB, 1, none⟩ = some (.int .i64 x) ∧ w'.cell? ⟨TB, 2, none⟩ = some (.int .i64 y)));refine wp_region_held_drew (S := fun w' => w'.cell? ⟨b2, o2 + j * 5, none⟩ = some (.int .i64 r0) ∧ w'.cell? ⟨b2, o2 + j * 5 + 1, none⟩ = some (.int .i64 r1) ∧ w'.cell? ⟨b2, o2 + j * 5 + 2, none⟩ = some (.int .i64 r2) ∧ w'.cell? ⟨b2, o2 + j * 5 + 3, none⟩ = some (.int .i64 r3) ∧ w'.cell? ⟨b2, o2 + j * 5 + 4, none⟩ = some (.int .i64 r4) ∧ w'.cell? ⟨TB, 0, none⟩ = some (.int .i64 z) ∧ w'.cell? ⟨TB, 1, none⟩ = some (.int .i64 x) ∧ w'.cell? ⟨TB, 2, none⟩ = some (.int .i64 y)) (by kernel_rfl) (MK.out _ (Up.refl _).drew) (fun hHeld => ?_);have hU := (Up.refl wx).drew;generalize World.drew wx = y0 at *;refine tk 0 rfl ?_;(try simp only [Act.put, tz1, tz2, tz3]);refine tk 1 rfl ?_;(try simp only [Act.put, tz1, tz2, tz3]);refine tk 2 rfl ?_;(try simp only [Act.put, tz1, tz2, tz3]);refine tk 3 rfl ?_;(try simp only [Act.put, tz1, tz2, tz3]);refine tk 4 rfl ?_;(try simp only [Act.put, tz1, tz2, tz3]);refine tk 5 rfl ?_;(try simp only [Act.put, tz1, tz2, tz3]);refine tk 6 rfl ?_;(try simp only [Act.put, tz1, tz2, tz3]);refine tk 7 rfl ?_;(try simp only [Act.put, tz1, tz2, tz3]);refine tk 8 rfl ?_;(try simp only [Act.put, tz1, tz2, tz3]);refine tk 9 rfl ?_;(try simp only [Act.put, tz1, tz2, tz3]);refine wpAnyH_done (by kernel_rfl) ?_ _;clear hHeld MK;go_wp2_with fail;go_roundg gx
            case measure => omega
            case rel => exact ⟨j + 1, by omega, by go_num, by rw [HSN.out, Bool.true_or], HUX.out.trans hU⟩
        · obtain rfl : j = r.length := by omega
          rw [List.take_length];have l0 := hux.cell j0;have l1 := hux.cell j1;replace HO := Lib.hid (own_up HO.out hux);replace HU := Lib.hid (HU.out.trans hux);have HK := HKL.out;generalize anyR r z x y = a at *;clear hux t0 t1 t2 j0 j1 HKL;cases a with
          | false =>
            rw [if_neg (by simp), List.append_nil] at HST;go_wp2_with fail;go_roundg m
            case measure => omega
            case rel => exact ⟨k + 1, by omega, by go_num, by rw [HST.out]; exact HO.out, HU.out⟩
          | true =>
            rw [if_pos rfl] at HST;go_wp2_with (at_builtin; refine app_one wx rfl _ _ 22 rfl w.heap.size 100 i0 _ 2 24 Tryz.underlying22 hi hz0 hz1 hz2 rfl (by decide) _ _ _ HO.out rfl #[.int .u64 (id : Int), .string ⟨s.toArray⟩] rfl rfl (by simp [Value.oneCell']) (by omega) (by omega) (by have := HU.out.le; omega) ?_; intro v3 w3 ho3 hg3 hb3)
            go_roundg m
            case measure => omega
            case rel =>
              refine ⟨k + 1, by omega, by go_num, ?_, Up.of (Below.trans HU.out.below hb3)⟩;rw [HST.out, itV_app, List.length_append];exact ho3
    · obtain rfl : k = L.length := by omega
      rw [List.take_length] at ho;obtain ⟨A3, c3, rfl, r3⟩ := Rd.of_own ho;have HR3 := Lib.hid r3;clear ho hu r3 hlt HO;go_wp2_with fail;go_ret;exact ⟨_, _, rfl, HR3.out, HU.out⟩
end Go.Proofs.YtjhgaildbeokkaaGreatDoor
