/- Walks: the reference's Union; Same of a list and itself; gazetteerlaw05.Back. -/
import Derived.Test.YtjhgaildbeokkaaGreatDoorGT37
namespace Go.Gz
/-- an interval, intervals that may be put -/
def PBs (s : Sp) : Prop := s.1 < 18446744073709551616 ∧ s.2 < 18446744073709551615
def PB (l : Sps) : Prop := ∀ x ∈ l, PBs x
theorem pb_nil : PB [] := fun x h => by simp at h
theorem pb_app {a b : Sps} (ha : PB a) (hb : PB b) : PB (a ++ b) := fun x h => by
  rcases List.mem_append.1 h with h | h
  · exact ha x h
  · exact hb x h
theorem abs_pb : ∀ (l o : Sps) (s : Sp), PB o → PB l → PBs s → PB (l.foldl absF (o, s)).1 ∧ PBs (l.foldl absF (o, s)).2 ∧ (l.foldl absF (o, s)).1.length ≤ o.length + l.length
  | [], o, s, ho, _, hs => ⟨ho, hs, Nat.le_refl _⟩
  | x :: t, o, s, ho, hl, hs => by
    have hx := hl x (by simp);have ht : PB t := fun y hy => hl y (by simp [hy]);rw [List.foldl_cons, abs_step];split
    · obtain ⟨a, b, c⟩ := abs_pb t o (min x.1 s.1, max x.2 s.2) ho ht ⟨by have := hx.1; have := hs.1; simp only; omega, by have := hx.2; have := hs.2; simp only; omega⟩;exact ⟨a, b, by rw [List.length_cons]; omega⟩
    · obtain ⟨a, b, c⟩ := abs_pb t (o ++ [x]) s (pb_app ho (fun y hy => by simp at hy; subst hy; exact hx)) ht hs;exact ⟨a, b, by rw [List.length_append] at c; simp only [List.length_cons, List.length_nil] at *; omega⟩
theorem put_pb {l : Sps} {s : Sp} (hl : PB l) (hs : PBs s) : PB (putR l s) ∧ (putR l s).length ≤ l.length + 1 := by
  unfold putR;split
  · exact ⟨hl, Nat.le_succ _⟩
  · obtain ⟨a, b, c⟩ := abs_pb l [] s pb_nil hl hs;generalize (l.foldl absF ([], s)).1 = o at *;generalize (l.foldl absF ([], s)).2 = m at *;refine ⟨pb_app (fun x hx => a x (List.mem_of_mem_take hx)) (fun x hx => ?_), ?_⟩
    · rcases List.mem_cons.1 hx with rfl | hx
      · exact b
      · exact a x (List.mem_of_mem_drop hx)
    · rw [List.length_append, List.length_cons, List.length_take, List.length_drop];simp only [List.length_nil] at c;omega
theorem fold_pb : ∀ (M l : Sps), PB l → PB M → PB (M.foldl putR l) ∧ (M.foldl putR l).length ≤ l.length + M.length
  | [], l, hl, _ => ⟨hl, Nat.le_refl _⟩
  | s :: t, l, hl, hm => by
    obtain ⟨a, b⟩ := put_pb hl (hm s (by simp));obtain ⟨c, d⟩ := fold_pb t (putR l s) a (fun x hx => hm x (by simp [hx]));rw [List.foldl_cons];exact ⟨c, by rw [List.length_cons]; omega⟩
theorem fold_succ (M l : Sps) {k : Nat} (h : k < M.length) : (M.take (k + 1)).foldl putR l = putR ((M.take k).foldl putR l) M[k] := by
  rw [List.take_succ_eq_append_getElem h, List.foldl_append]; rfl
theorem pb_take {l : Sps} (h : PB l) (k : Nat) : PB (l.take k) := fun x hx => h x (List.mem_of_mem_take hx)
end Go.Gz
namespace Go.Proofs.YtjhgaildbeokkaaGreatDoor
open Go.RowKit Go.Gz Go.Shelf

set_option maxRecDepth 100000
def RuR (w : World) (L0 M : Sps) (gk : Nat) (v i : Value) (wr : World) : Prop := ∃ (k : Nat) (A : Option Addr) (c : Nat), k + gk = M.length ∧ i = .int .i64 (k : Int) ∧ v = .slice A ((M.take k).foldl putR L0).length c ∧ Rd wr 2 A ((M.take k).foldl putR L0).length c (spV ((M.take k).foldl putR L0)) ∧ Up w wr
set_option maxHeartbeats 8000000 in
theorem runion_any (a b : Sps) (ha : a.length ≤ 40000) (hb : b.length ≤ 40000) (pa : PB a) (pb : PB b) (Aa : Option Addr) (ca : Nat) (Ab : Option Addr) (cb : Nat) (w : World) (hra : Rd w 2 Aa a.length ca (spV a)) (hrb : Rd w 2 Ab b.length cb (spV b)) :
    Calls Tryz.prog 97 #[.slice Aa a.length ca, .slice Ab b.length cb] w (RsE w ((a ++ b).foldl putR [])) := by
  have HA := Lib.hid hra;have HB := Lib.hid hrb;clear hra hrb;go_enter Tryz.func97, Tryz.ntmps97;go_wp2_with fail;go_loopg [5, 6] a.length (fun gk v i wr => RuR w [] a gk v i wr)
  case atStart => exact ⟨0, none, 0, by omega, rfl, rfl, Rd.nil_ _ _, Up.refl w⟩
  case round =>
    obtain ⟨k, A, c, hk, rfl, rfl, hr, hu⟩ := hrel;by_cases hlt : k < a.length
    · obtain ⟨g, rfl⟩ : ∃ g, gk = g + 1 := ⟨gk - 1, by omega⟩;have hltI : (k : Int) < (a.length : Int) := by omega
      have hs := fold_succ a [] hlt;obtain ⟨p1, p2⟩ := fold_pb (a.take k) [] pb_nil (pb_take pa k);rw [List.length_take] at p2;simp only [List.length_nil] at p2;have px := pa _ (List.getElem_mem hlt);obtain ⟨bo, oo, rfl, j0, j1⟩ := (HA.out.up hu).span hlt;have PU := fun A c w hr => Lib.hid (rput5_any ((a.take k).foldl putR []) a[k] (by omega) p1 px A c w hr);rw [← hs] at PU;unfold RsE at PU;have HR := Lib.hid hr;have HU := Lib.hid hu;obtain ⟨N, hN⟩ : ∃ N, (a.take (k + 1)).foldl putR [] = N := ⟨_, rfl⟩;rw [hN] at PU;have HN := Lib.hid hN;generalize a[k] = x at *;obtain ⟨x0, x1⟩ := x;generalize (a.take k).foldl putR [] = L at *;simp only at j0 j1;clear hs hN hr hu p1 p2 px;go_wp2_with fail;refine (PU _ _ _ HR.out).out.mono ?_;rintro e w2 ⟨A2, c2, rfl, r2, hu2⟩;go_wp2_with fail;go_roundg g
      case measure => omega
      case rel => exact ⟨k + 1, A2, c2, by omega, by go_num, by rw [HN.out], by rw [HN.out]; exact r2, HU.out.trans hu2⟩
    · obtain rfl : k = a.length := by omega
      rw [List.take_length] at hr ⊢;obtain ⟨p1, p2⟩ := fold_pb a [] pb_nil pa;simp only [List.length_nil] at p2;have hEq : (a ++ b).foldl putR [] = b.foldl putR (a.foldl putR []) := List.foldl_append;generalize a.foldl putR [] = L0 at *;have HEQ := Lib.hid hEq;clear hEq;have HB2 := Lib.hid (HB.out.up hu);have HU1 := Lib.hid hu;have HR0 := Lib.hid hr;clear hr hu hlt HA HB;go_wp2_with fail;go_loopg [5, 7] b.length (fun gk v i wx => RuR wr L0 b gk v i wx)
      case atStart => exact ⟨0, A, c, by omega, rfl, rfl, HR0.out, Up.refl _⟩
      case round =>
        rename World => wx
        obtain ⟨k, A, c, hk, rfl, rfl, hr, hu⟩ := hrel;by_cases hlt : k < b.length
        · obtain ⟨g, rfl⟩ : ∃ g, gk = g + 1 := ⟨gk - 1, by omega⟩;have hltI : (k : Int) < (b.length : Int) := by omega
          have hs := fold_succ b L0 hlt;obtain ⟨q1, q2⟩ := fold_pb (b.take k) L0 p1 (pb_take pb k);rw [List.length_take] at q2;have px := pb _ (List.getElem_mem hlt);obtain ⟨bo, oo, rfl, j0, j1⟩ := (HB2.out.up hu).span hlt;have PU := fun A c w hr => Lib.hid (rput5_any ((b.take k).foldl putR L0) b[k] (by omega) q1 px A c w hr);rw [← hs] at PU;unfold RsE at PU;have HR := Lib.hid hr;have HU := Lib.hid hu;obtain ⟨N, hN⟩ : ∃ N, (b.take (k + 1)).foldl putR L0 = N := ⟨_, rfl⟩;rw [hN] at PU;have HN := Lib.hid hN;generalize b[k] = x at *;obtain ⟨x0, x1⟩ := x;generalize (b.take k).foldl putR L0 = L at *;simp only at j0 j1;clear hs hN hr hu q1 q2 px;go_wp2_with fail;refine (PU _ _ _ HR.out).out.mono ?_;rintro e w2 ⟨A2, c2, rfl, r2, hu2⟩;go_wp2_with fail;go_roundg g
          case measure => omega
          case rel => exact ⟨k + 1, A2, c2, by omega, by go_num, by rw [HN.out], by rw [HN.out]; exact r2, HU.out.trans hu2⟩
        · obtain rfl : k = b.length := by omega
          rw [List.take_length] at hr ⊢;have HR := Lib.hid hr;have HU := Lib.hid (HU1.out.trans hu);clear hr hu hlt;go_wp2_with fail;go_ret;exact ⟨A, c, by rw [HEQ.out]; rfl, by rw [HEQ.out]; exact HR.out, HU.out⟩
end Go.Proofs.YtjhgaildbeokkaaGreatDoor
/- Walks: gazetteerlaw05.Back; the reference's Same of a list and itself. -/
namespace Go.Proofs.YtjhgaildbeokkaaGreatDoor
open Go.RowKit Go.Gz Go.Shelf

set_option maxRecDepth 100000
set_option maxHeartbeats 4000000 in
theorem sback_any (l : Sps) (hl : l.length ≤ 100000) (A : Option Addr) (c : Nat) (w : World) (hr : Rd w 2 A l.length c (spV l)) :
    Calls Tryz.prog 45 #[.slice A l.length c] w (RsE w l) := by
  obtain ⟨i0, hi, hz0, hz1, hz2⟩ := info_parts infoRs;have HR := Lib.hid hr;clear hr;go_enter Tryz.func45, Tryz.ntmps45;go_wp2_with fail;go_loopg [3, 4] l.length (fun gk v i wr => ∃ k : Nat, k + gk = l.length ∧ i = .int .i64 k ∧ wr.ownsRow w.heap.size 185 2 v (l.take k).length (spV (l.take k)) ∧ Up w wr)
  case atStart => exact ⟨0, by omega, rfl, World.ownsRow_nil _ _ _ _, Up.refl w⟩
  case round =>
    obtain ⟨k, hk, rfl, ho, hu⟩ := hrel;have HO := Lib.hid ho;have HU := Lib.hid hu;clear ho;by_cases hlt : k < l.length
    · obtain ⟨m, rfl⟩ : ∃ m, gk = m + 1 := ⟨gk - 1, by omega⟩;have hd : l.take (k + 1) = l.take k ++ [l[k]] := List.take_succ_eq_append_getElem hlt;obtain ⟨b, o, rfl, c0, c1⟩ := (HR.out.up hu).span hlt;obtain ⟨r, hx⟩ : ∃ x, l[k]'hlt = x := ⟨_, rfl⟩;rw [hx] at c0 c1 hd;obtain ⟨x0, x1⟩ := r;simp only at c0 c1;have hltI : (k : Int) < (l.length : Int) := by omega
      have hml : (l.take k).length ≤ k := by rw [List.length_take]; omega
      have HD := Lib.hid hd;clear hx hu hd;go_wp2_with (at_builtin; refine app_one wr rfl _ _ 93 rfl w.heap.size 185 i0 _ 2 16 Tryz.underlying93 hi hz0 hz1 hz2 rfl (by decide) _ _ _ HO.out rfl #[.int .u64 (x0 : Int), .int .u64 (x1 : Int)] rfl rfl (by simp [Value.oneCell']) (by omega) (by omega) (by have := HU.out.le; omega) ?_; intro v3 w3 ho3 hg3 hb3)
      go_roundg m
      case measure => omega
      case rel =>
        refine ⟨k + 1, by omega, by go_num, ?_, Up.of (Below.trans HU.out.below hb3)⟩;rw [HD.out, spV_app, List.length_append];exact ho3
    · obtain rfl : k = l.length := by omega
      have hO := HO.out;rw [List.take_length] at hO;obtain ⟨A2, c2, rfl, r2⟩ := Rd.of_own hO;have HR2 := Lib.hid r2;clear hO hu hlt HO r2;go_wp2_with fail;go_ret;exact ⟨_, _, rfl, HR2.out, HU.out⟩
set_option maxHeartbeats 4000000 in
theorem rsame5_any (l : Sps) (hl : l.length ≤ 100000) (A : Option Addr) (c : Nat) (A2 : Option Addr) (c2 : Nat) (w : World) (hr : Rd w 2 A l.length c (spV l)) (hr2 : Rd w 2 A2 l.length c2 (spV l)) :
    Calls Tryz.prog 44 #[.slice A l.length c, .slice A2 l.length c2] w fun e w' => e = .returned (.bool true) ∧ Up w w' := by
  have HR := Lib.hid hr;have HR2 := Lib.hid hr2;clear hr hr2;go_enter Tryz.func44, Tryz.ntmps44;go_wp2_with fail;go_loopg [5] l.length (fun gk i wr => ∃ k : Nat, k + gk = l.length ∧ i = .int .i64 (k : Int) ∧ Up w wr)
  case atStart => exact ⟨0, by omega, rfl, Up.refl w⟩
  case round =>
    obtain ⟨k, hk, rfl, hu⟩ := hrel;by_cases hlt : k < l.length
    · obtain ⟨m, rfl⟩ : ∃ m, gk = m + 1 := ⟨gk - 1, by omega⟩;have hltI : (k : Int) < (l.length : Int) := by omega
      obtain ⟨b, o, rfl, j0, j1⟩ := (HR.out.up hu).span hlt;obtain ⟨b2, o2, rfl, q0, q1⟩ := (HR2.out.up hu).span hlt;obtain ⟨⟨x0, x1⟩, hx⟩ : ∃ x, l[k]'hlt = x := ⟨_, rfl⟩;rw [hx] at j0 j1 q0 q1;simp only at j0 j1 q0 q1;have HU := Lib.hid hu;clear hx hu;go_wp2_with fail;refine wp_region_held_drew (S := fun w' => w'.cell? ⟨b, o + k * 2, none⟩ = some (.int .u64 (x0 : Int)) ∧ w'.cell? ⟨b, o + k * 2 + 1, none⟩ = some (.int .u64 (x1 : Int)) ∧ w'.cell? ⟨b2, o2 + k * 2, none⟩ = some (.int .u64 (x0 : Int)) ∧ w'.cell? ⟨b2, o2 + k * 2 + 1, none⟩ = some (.int .u64 (x1 : Int))) (by kernel_rfl) ⟨(Up.refl wr).drew.cell j0, (Up.refl wr).drew.cell j1, (Up.refl wr).drew.cell q0, (Up.refl wr).drew.cell q1⟩ (fun hHeld => ?_);have hU := (Up.refl wr).drew;generalize World.drew wr = y0 at *;refine tk 0 rfl ?_;(try simp only [Act.put, tz1, tz2, tz3]);refine tk 1 rfl ?_;(try simp only [Act.put, tz1, tz2, tz3]);refine tk 2 rfl ?_;(try simp only [Act.put, tz1, tz2, tz3]);refine tk 3 rfl ?_;(try simp only [Act.put, tz1, tz2, tz3]);refine tk 4 rfl ?_;(try simp only [Act.put, tz1, tz2, tz3]);refine tk 5 rfl ?_;(try simp only [Act.put, tz1, tz2, tz3]);refine tk 6 rfl ?_;(try simp only [Act.put, tz1, tz2, tz3]);refine tk 7 rfl ?_;(try simp only [Act.put, tz1, tz2, tz3]);refine tk 8 rfl ?_;(try simp only [Act.put, tz1, tz2, tz3]);refine wpAnyH_done (by kernel_rfl) ?_ _;clear hHeld;go_wp2_with fail;go_roundg m
      case measure => omega
      case rel => exact ⟨k + 1, by omega, by go_num, HU.out.trans hU⟩
    · obtain rfl : k = l.length := by omega
      go_wp2_with fail;go_ret;exact ⟨rfl, hu⟩
end Go.Proofs.YtjhgaildbeokkaaGreatDoor
/- Walk: the reference's Spans of a rectangle of at most 300 tiles: tile by tile. -/
namespace Go.Gz
/-- the first k rows, and j of the next one -/
def rowsP (f : Nat → Nat → Sp) (Y X nx k j : Nat) : Sps := ((List.range' Y k).flatMap fun y => (List.range' X nx).map fun x => f y x) ++ (List.range' X j).map fun x => f (Y + k) x
theorem rowsP_next (f : Nat → Nat → Sp) (Y X nx k j : Nat) : rowsP f Y X nx k (j + 1) = rowsP f Y X nx k j ++ [f (Y + k) (X + j)] := by
  unfold rowsP;rw [List.range'_1_concat, List.map_append, ← List.append_assoc]; rfl
theorem rowsP_row (f : Nat → Nat → Sp) (Y X nx k : Nat) : rowsP f Y X nx (k + 1) 0 = rowsP f Y X nx k nx := by
  unfold rowsP;rw [List.range'_1_concat, List.flatMap_append];simp
theorem rowsP_len (f : Nat → Nat → Sp) (Y X nx k j : Nat) : (rowsP f Y X nx k j).length = k * nx + j := by
  unfold rowsP;rw [List.length_append, List.length_map, List.length_range'];congr 1
  induction k generalizing Y with
  | zero => simp
  | succ k ih => rw [List.range'_succ, List.flatMap_cons, List.length_append, ih, List.length_map, List.length_range', Nat.add_mul, Nat.one_mul, Nat.add_comm]
theorem rowsP_mem {f : Nat → Nat → Sp} {Y X nx k j ny : Nat} {p : Sp → Prop} (h : ∀ y x, Y ≤ y → y < Y + ny → X ≤ x → x < X + nx → p (f y x)) (hk : k ≤ ny) (hj : j ≤ nx) (hkj : j = 0 ∨ k < ny) : ∀ s ∈ rowsP f Y X nx k j, p s := by
  intro s hs;unfold rowsP at hs;rcases List.mem_append.1 hs with hs | hs
  · obtain ⟨y, hy, hs⟩ := List.mem_flatMap.1 hs;obtain ⟨x, hx, rfl⟩ := List.mem_map.1 hs;rw [List.mem_range'_1] at hx hy;exact h y x (by omega) (by omega) (by omega) (by omega)
  · obtain ⟨x, hx, rfl⟩ := List.mem_map.1 hs;rw [List.mem_range'_1] at hx;exact h _ x (by omega) (by omega) (by omega) (by omega)
theorem ids_rows (r : Rc) : (idsR r).map (fun i => (i, i)) = rowsP (fun y x => (baseN r.z.toNat + hil r.z.toNat x y, baseN r.z.toNat + hil r.z.toNat x y)) r.y0.toNat r.x0.toNat (r.x1 - r.x0 + 1).toNat (r.y1 - r.y0 + 1).toNat 0 := by
  unfold idsR rowsP;rw [List.map_flatMap];simp;rfl
end Go.Gz
namespace Go.Proofs.YtjhgaildbeokkaaGreatDoor
open Go.RowKit Go.Gz Go.Shelf

set_option maxRecDepth 100000
def RspE (w : World) (p : Sps × Int) (e : Ending) (w' : World) : Prop := ∃ A c, e = .returned (.tuple #[.slice A p.1.length c, .int .i64 p.2]) ∧ Rd w' 2 A p.1.length c (spV p.1) ∧ Up w w'
def onesV (z : Nat) (y x : Nat) : Sp := (baseN z + hil z x y, baseN z + hil z x y)
def RowR (w : World) (f : Nat → Nat → Sp) (Y X nx k j : Nat) (v : Value) (wr : World) : Prop := ∃ (A : Option Addr) (c : Nat), v = .slice A ((rowsP f Y X nx k j).foldl putR []).length c ∧ Rd wr 2 A ((rowsP f Y X nx k j).foldl putR []).length c (spV ((rowsP f Y X nx k j).foldl putR [])) ∧ Up w wr
set_option maxHeartbeats 16000000 in
theorem r5spans_any (r : Rc) (hs : chkR r = 0 → (idsR r).length ≤ 300) (w : World) :
    Calls Tryz.prog 96 #[rcA r, .int .i64 4096] w (RspE w (if chkR r ≠ 0 then ([], chkR r) else (((idsR r).map fun i => (i, i)).foldl putR [], 0))) := by
  have CK := fun w => Lib.hid (r5check_any r w);have hin := chk_in (r := r);have hrows := ids_rows r;have hlen := idsR_len r;obtain ⟨E, hE⟩ : ∃ E, chkR r = E := ⟨_, rfl⟩;rw [hE] at CK hin hs ⊢;have HQ := Lib.hid (heap_alloc_new w (rrC r));have HU0 := Lib.hid ((Up.refl w).alloc (rrC r));obtain ⟨c0, c1, c2, c3, c4⟩ := rrc_cells (r := r) HQ.out;by_cases h0 : E = 0
  case neg =>
    rw [if_pos h0];have hEb : (E == 0) = false := by rw [beq_eq_false_iff_ne]; exact h0
    obtain ⟨z, x0, y0, x1, y1⟩ := r;simp only at c0 c1 c2 c3 c4;clear hin hrows hlen hs hE;go_enter Tryz.func96, Tryz.ntmps96;go_wp2_with fail;refine (CK _).out.mono ?_;rintro e w1 ⟨rfl, hu1⟩;clear c0 c1 c2 c3 c4;go_wp2_with fail;go_ret2
    exact ⟨none, 0, rfl, Rd.nil_ _ _, HU0.out.trans hu1⟩
  subst h0;rw [if_neg (by simp), hrows];replace hs := hs rfl;rw [hlen] at hs;obtain ⟨n, hzn, hn, a1, a2, a3, b1, b2, b3⟩ := hin rfl;clear hin hrows hlen hE;obtain ⟨z, x0, y0, x1, y1⟩ := r;simp only at *;subst hzn;obtain ⟨X, rfl⟩ : ∃ X : Nat, x0 = (X : Int) := ⟨x0.toNat, by omega⟩;obtain ⟨Y, rfl⟩ : ∃ Y : Nat, y0 = (Y : Int) := ⟨y0.toNat, by omega⟩;obtain ⟨nx, hnx⟩ : ∃ nx, (x1 - (X : Int) + 1).toNat = nx := ⟨_, rfl⟩;obtain ⟨ny, hny⟩ : ∃ ny, (y1 - (Y : Int) + 1).toNat = ny := ⟨_, rfl⟩;rw [hnx, hny] at hs;simp only [Int.toNat_natCast, hnx, hny];rw [show (fun y x => (baseN n + hil n x y, baseN n + hil n x y)) = onesV n from rfl];have hp := two_pow_le26 hn;have e1 : ((2 : Int) ^ n) = ((2 ^ n : Nat) : Int) := by simp
  rw [e1] at a3 b3;have hx1 : (X : Int) + (nx : Int) = x1 + 1 := by omega
  have hy1 : (Y : Int) + (ny : Int) = y1 + 1 := by omega
  have hb : ∀ y x, Y ≤ y → y < Y + ny → X ≤ x → x < X + nx → placeE (n : Int) ((x : Nat) : Int) ((y : Nat) : Int) = 0 ∧ idV (n : Int) ((x : Nat) : Int) ((y : Nat) : Int) = (onesV n y x).1 ∧ PBs (onesV n y x) := by
    intro y x h1 h2 h3 h4;have hx2 : x < 2 ^ n := by omega
    have hy2 : y < 2 ^ n := by omega
    have hpe : placeE (n : Int) ((x : Nat) : Int) ((y : Nat) : Int) = 0 := by
      unfold placeE;rw [if_neg (by omega), Int.toNat_natCast, if_neg (by omega)]
    have hh := hil_lt n x y hx2 hy2;have h5 := four_pow_le27 (z := n) (by omega);have h6 := baseN_eq n;refine ⟨hpe, ?_, ?_⟩
    · unfold idV onesV;rw [if_pos hpe];simp only [Int.toNat_natCast]
    · unfold PBs onesV;simp only;omega
  have hbm : ∀ k j, k ≤ ny → j ≤ nx → (j = 0 ∨ k < ny) → PB (rowsP (onesV n) Y X nx k j) := fun k j h1 h2 h3 => rowsP_mem (p := PBs) (fun y x a b c d => (hb y x a b c d).2.2) h1 h2 h3;have hxb : x1 < 67108864 := by omega
  have hyb : y1 < 67108864 := by omega
  have HB := Lib.hid hb;have HBM := Lib.hid hbm;have HX1 := Lib.hid hx1;have HY1 := Lib.hid hy1;have HS := Lib.hid hs;clear hb hbm hx1 hy1 hs hnx hny e1 a3 b3 a1 a2 b1 b2;go_enter Tryz.func96, Tryz.ntmps96;go_wp2_with fail;refine (CK _).out.mono ?_;rintro e w1 ⟨rfl, hu1⟩;have HU1 := Lib.hid (HU0.out.trans hu1);have HQ1 := Lib.hid (hu1.obj HQ.out);obtain ⟨g0, g1, g2, g3, g4⟩ := rrc_cells (r := ⟨n, X, Y, x1, y1⟩) HQ1.out;simp only at g0 g1 g2 g3 g4;clear c0 c1 c2 c3 c4 hu1 HQ HU0 CK;go_wp2_with fail;go_loopg [7, 8] ny (fun gk v i wr => ∃ k : Nat, k + gk = ny ∧ i = .int .i64 ((Y + k : Nat) : Int) ∧ RowR w1 (onesV n) Y X nx k 0 v wr)
  case atStart => exact ⟨0, by omega, rfl, none, 0, rfl, Rd.nil_ _ _, Up.refl _⟩
  case round =>
    obtain ⟨k, hk, rfl, A, c, rfl, hr, hu⟩ := hrel;replace g0 := hu.cell g0;replace g1 := hu.cell g1;replace g2 := hu.cell g2;replace g3 := hu.cell g3;replace g4 := hu.cell g4;have HU := Lib.hid hu;have HR := Lib.hid hr;clear hu hr;by_cases hlt : k < ny
    · obtain ⟨g, rfl⟩ : ∃ g, gk = g + 1 := ⟨gk - 1, by omega⟩;have kI : ((Y + k : Nat) : Int) ≤ y1 := by have := HY1.out; omega
      obtain ⟨yy, hyy⟩ : ∃ q, Y + k = q := ⟨_, rfl⟩;rw [hyy] at kI ⊢;have HYY := Lib.hid hyy;have yB : (yy : Int) < 9223372036854775807 := by omega
      clear hyy;go_wp2_with fail;go_loopg [7, 9] nx (fun gj v i wx => ∃ j : Nat, j + gj = nx ∧ i = .int .i64 ((X + j : Nat) : Int) ∧ RowR wr (onesV n) Y X nx k j v wx)
      case atStart => exact ⟨0, by omega, rfl, A, c, rfl, HR.out, Up.refl _⟩
      case round =>
        rename World => wx
        obtain ⟨j, hj, rfl, A, c, rfl, hr, hux⟩ := hrel;have i0 := hux.cell g0;have i3 := hux.cell g3;have HUX := Lib.hid hux;have HRX := Lib.hid hr;clear hux hr;by_cases hlx : j < nx
        · obtain ⟨gx, rfl⟩ : ∃ gx, gk = gx + 1 := ⟨gk - 1, by omega⟩;have jI : ((X + j : Nat) : Int) ≤ x1 := by have := HX1.out; omega
          obtain ⟨p1, p2, p3⟩ := HB.out yy (X + j) (by have := HYY.out; omega) (by have := HYY.out; omega) (by omega) (by omega);have ID := fun w => Lib.hid (rid_any (n : Int) ((X + j : Nat) : Int) ((yy : Nat) : Int) w);rw [p1, p2] at ID;obtain ⟨q1, q2⟩ := fold_pb (rowsP (onesV n) Y X nx k j) [] pb_nil (HBM.out k j (by omega) (by omega) (Or.inr (by omega)));rw [rowsP_len] at q2;simp only [List.length_nil] at q2;have hle : k * nx + j ≤ 300 := by
            have h1 := Nat.mul_le_mul_right nx (show k + 1 ≤ ny by omega);rw [Nat.add_mul, Nat.one_mul] at h1;have := HS.out;omega
          have PU := fun A c w hr => Lib.hid (rput5_any ((rowsP (onesV n) Y X nx k j).foldl putR []) (onesV n yy (X + j)) (by omega) q1 p3 A c w hr);have hst : (rowsP (onesV n) Y X nx k (j + 1)).foldl putR [] = putR ((rowsP (onesV n) Y X nx k j).foldl putR []) (onesV n yy (X + j)) := by rw [rowsP_next, List.foldl_append, HYY.out]; rfl
          rw [← hst] at PU;obtain ⟨N, hN⟩ : ∃ N, (rowsP (onesV n) Y X nx k (j + 1)).foldl putR [] = N := ⟨_, rfl⟩;rw [hN] at PU;unfold RsE at PU;have HN := Lib.hid hN;obtain ⟨id, hid⟩ : ∃ id, onesV n yy (X + j) = (id, id) := ⟨_, rfl⟩;rw [hid] at ID PU;simp only at ID;have xBn : X + j < 67108864 := by omega
          obtain ⟨xx, hxx⟩ : ∃ q, X + j = q := ⟨_, rfl⟩;have hxn : X + (j + 1) = xx + 1 := by omega
          rw [hxx] at xBn;rw [hxx] at ID jI ⊢;have HXN := Lib.hid hxn;have xB : (xx : Int) < 9223372036854775807 := by omega
          clear xBn hst hN hid p1 p2 p3 q1 q2 hxn hxx g0 g1 g2 g3 g4 hle kI;go_wp2_with fail;refine (ID _).out.mono ?_;rintro e w2 ⟨rfl, hu2⟩;go_wp2_with fail;refine (PU _ _ _ (HRX.out.up hu2)).out.mono ?_;rintro e w3 ⟨A3, c3, rfl, r3, hu3⟩;go_wp2_with fail;go_roundg gx
          case measure => omega
          case rel => exact ⟨j + 1, by omega, by rw [HXN.out]; go_num, A3, c3, by rw [HN.out], by rw [HN.out]; exact r3, HUX.out.trans (hu2.trans hu3)⟩
        · obtain rfl : j = nx := by omega
          obtain ⟨xe, hxe⟩ : ∃ q, X + j = q := ⟨_, rfl⟩;rw [hxe];have jI : ¬ (xe : Int) ≤ x1 := by have := HX1.out; omega
          have hyn : Y + (k + 1) = yy + 1 := by have := HYY.out; omega
          have HYN := Lib.hid hyn;clear hyn hxe;go_wp2_with fail;go_roundg g
          case measure => omega
          case rel => exact ⟨k + 1, by omega, by rw [HYN.out]; go_num, A, c, by rw [rowsP_row], by rw [rowsP_row]; exact HRX.out, HU.out.trans HUX.out⟩
    · obtain rfl : k = ny := by omega
      have kI : ¬ ((Y + k : Nat) : Int) ≤ y1 := by have := HY1.out; omega
      obtain ⟨q1, q2⟩ := fold_pb (rowsP (onesV n) Y X nx k 0) [] pb_nil (HBM.out k 0 (Nat.le_refl _) (Nat.zero_le _) (Or.inl rfl));rw [rowsP_len] at q2;simp only [List.length_nil] at q2;have hM : ¬ (4096 : Int) < ((((rowsP (onesV n) Y X nx k 0).foldl putR []).length : Nat) : Int) := by have := HS.out; omega
      generalize (rowsP (onesV n) Y X nx k 0).foldl putR [] = L at *;clear q1 q2;go_wp2_with fail;go_ret2
      exact ⟨A, c, rfl, HR.out, HU1.out.trans HU.out⟩
end Go.Proofs.YtjhgaildbeokkaaGreatDoor
