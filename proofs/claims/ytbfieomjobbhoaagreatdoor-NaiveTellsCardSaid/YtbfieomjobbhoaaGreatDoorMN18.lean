/- Walks: varint.bad, varint.Get, of any text. -/
import Derived.Test.YtbfieomjobbhoaaGreatDoorMN17
import Derived.Test.YtbfieomjobbhoaaGreatDoorMN10
namespace Go.Proofs.YtbfieomjobbhoaaGreatDoor
open Go.RowKit Go.Gz Go.Shelf

set_option maxRecDepth 100000
/-- a scan's cells -/
def ScB (w : World) (B : Nat) (s : Bs) (a : Nat) (E : Int) : Prop := w.heap[B]? = some (.cells #[.string ⟨s.toArray⟩, .int .i64 (a : Int), .int .i64 E] 136 (0, 0))
theorem and7 : ∀ b : Nat, b < 256 → bits BinOp.and IntKind.u8 (b : Int) 127 = ((b % 128 : Nat) : Int) := by decide +kernel
theorem or7 (x b k : Nat) (hx : x < 128 ^ k) (hb : b < 128) (hk : k ≤ 9) (h9 : k = 9 → b ≤ 1) : bits BinOp.or IntKind.u64 (x : Int) (IntKind.u64.wrap ((b : Int) * 2 ^ (7 * k))) = ((x + b * 128 ^ k : Nat) : Int) := by
  have e : (128 : Nat) ^ k = 2 ^ (7 * k) := by rw [Nat.pow_mul]
  have hm : b * 2 ^ (7 * k) ≤ 9223372036854775808 := by
    by_cases h : k = 9
    · subst h;have := h9 rfl;have h1 : b * 2 ^ (7 * 9) ≤ 1 * 2 ^ (7 * 9) := Nat.mul_le_mul_right _ this;have h2 : (2 : Nat) ^ (7 * 9) = 9223372036854775808 := by decide
      omega
    · have hp : (2 : Nat) ^ (7 * k) ≤ 2 ^ 56 := Nat.pow_le_pow_right (by decide) (by omega);have := Nat.mul_le_mul (show b ≤ 127 by omega) hp;omega
  have hx2 : x < 9223372036854775808 := by
    have hp : (128 : Nat) ^ k ≤ 128 ^ 9 := Nat.pow_le_pow_right (by decide) hk;have h2 : (128 : Nat) ^ 9 = 9223372036854775808 := by decide
    omega
  rw [e] at hx ⊢;have e2 : (b : Int) * 2 ^ (7 * k) = ((b * 2 ^ (7 * k) : Nat) : Int) := by simp
  rw [e2, IntWalk.u64_in _ (by omega), bits_or_u64_nat _ _ (by omega) (by omega)];have h3 := Nat.shiftLeft_add_eq_or_of_lt hx b;rw [Nat.shiftLeft_eq] at h3;rw [Nat.or_comm, ← h3, Nat.add_comm]
theorem or7m (x b k : Nat) (hx : x < 128 ^ k) (hk : k ≤ 8) : bits BinOp.or IntKind.u64 (x : Int) (IntKind.u64.wrap ((b : Int) % 128 * 2 ^ (7 * k))) = ((x + b % 128 * 128 ^ k : Nat) : Int) := by
  have := or7 x (b % 128) k hx (by omega) (by omega) (by omega);rw [show ((b % 128 : Nat) : Int) = (b : Int) % 128 by omega] at this;exact this
def BadE (w : World) (s : Bs) (a : Nat) (E : Int) (e : Ending) (w' : World) : Prop := e = .returned (.tuple #[.int .u64 0, .agg #[.string ⟨s.toArray⟩, .int .i64 (a : Int), .int .i64 E]]) ∧ Up w w'
set_option maxHeartbeats 4000000 in
theorem vbad_any (s : Bs) (a : Nat) (E0 E : Int) (w : World) :
    Calls Tryz.prog 126 #[.agg #[.string ⟨s.toArray⟩, .int .i64 (a : Int), .int .i64 E0], .int .i64 E] w (BadE w s a E) := by
  have g1 := ((Up.refl _).alloc (.cells #[.string ⟨#[]⟩, .int .i64 0, .int .i64 0] 136)).obj (heap_alloc_new w (.cells #[.string ⟨s.toArray⟩, .int .i64 (a : Int), .int .i64 E0] 136));have g2 := heap_alloc_new (w.alloc (.cells #[.string ⟨s.toArray⟩, .int .i64 (a : Int), .int .i64 E0] 136)) (.cells #[.string ⟨#[]⟩, .int .i64 0, .int .i64 0] 136);rw [World.size_alloc] at g2;have hu := ((Up.refl w).alloc (.cells #[.string ⟨s.toArray⟩, .int .i64 (a : Int), .int .i64 E0] 136)).alloc (.cells #[.string ⟨#[]⟩, .int .i64 0, .int .i64 0] 136);obtain ⟨W0, hW⟩ : ∃ y, (w.alloc (.cells #[.string ⟨s.toArray⟩, .int .i64 (a : Int), .int .i64 E0] 136)).alloc (.cells #[.string ⟨#[]⟩, .int .i64 0, .int .i64 0] 136) = y := ⟨_, rfl⟩;rw [hW] at g1 g2 hu;have G1 := Lib.hid g1;have G2 := Lib.hid g2;have HU := Lib.hid hu;clear g1 g2 hu;go_enter Tryz.func126, Tryz.ntmps126;have p2 := blkc G1.out 2 _ rfl;have q2 := blkf G1.out 2;have H1 := heap_setCell_same W0 w.heap.size 2 _ _ (.int .i64 E) G1.out;have H2 : (W0.setCell ⟨w.heap.size, 2, none⟩ (.int .i64 E)).heap[w.heap.size + 1]? = _ := (heap_setCell_other W0 ⟨w.heap.size, 2, none⟩ (w.heap.size + 1) (.int .i64 E) (by simp)).trans G2.out;have d0 := blkc H1 0 (.string ⟨s.toArray⟩) rfl;have d1 := blkc H1 1 (.int .i64 (a : Int)) rfl;have d2 := blkc H1 2 (.int .i64 E) rfl;have y0 := blkc H2 0 _ rfl;have y1 := blkc H2 1 _ rfl;have y2 := blkc H2 2 _ rfl;have z0 := blkf H2 0;have z1 := blkf H2 1;have z2 := blkf H2 2;have H2' := Lib.hid H2;have HU2 := Lib.hid (HU.out.set (p := ⟨w.heap.size, 2, none⟩) (Nat.le_refl _) (.int .i64 E));clear H1 H2 G1 G2 HU;go_wp2_with fail;try rw [hW]
  clear p2 q2 hW;obtain ⟨Y, hY⟩ : ∃ y, W0.setCell ⟨w.heap.size, 2, none⟩ (.int .i64 E) = y := ⟨_, rfl⟩;rw [hY] at d0 d1 d2 y0 y1 y2 z0 z1 z2 H2' HU2 ⊢;clear hY;go_region_law (fail)
  all_goals
    go_wp2_with fail;have f0 := heap_setCell_same Y (w.heap.size + 1) 0 _ _ (.string ⟨s.toArray⟩) H2'.out;have f1 := heap_setCell_same _ (w.heap.size + 1) 1 _ _ (.int .i64 (a : Int)) f0;have f2 := heap_setCell_same _ (w.heap.size + 1) 2 _ _ (.int .i64 E) f1;have hu2 := ((HU2.out.set (p := ⟨w.heap.size + 1, 0, none⟩) (by simp) (.string ⟨s.toArray⟩)).set (p := ⟨w.heap.size + 1, 1, none⟩) (by simp) (.int .i64 (a : Int))).set (p := ⟨w.heap.size + 1, 2, none⟩) (by simp) (.int .i64 E);generalize ((Y.setCell ⟨w.heap.size + 1, 0, none⟩ (.string ⟨s.toArray⟩)).setCell ⟨w.heap.size + 1, 1, none⟩ (.int .i64 (a : Int))).setCell ⟨w.heap.size + 1, 2, none⟩ (.int .i64 E) = Z at *;have k0 := blkc f2 0 (.string ⟨s.toArray⟩) rfl;have k1 := blkc f2 1 (.int .i64 (a : Int)) rfl;have k2 := blkc f2 2 (.int .i64 E) rfl;refine bodyPost_ret (v := .tuple #[.int .u64 0, .agg #[.string ⟨s.toArray⟩, .int .i64 (a : Int), .int .i64 E]]) (by simp [results, Tryz.results126, go_sem, k0, k1, k2]) rfl ?_;exact ⟨rfl, hu2.drew⟩

theorem get_res (w y Y : World) (s : Bs) (a : Nat) (X E : Int) (tmps : Array Value) (h2 : tmps.getD 2 undef = .int .u64 X) (h3 : tmps.getD 3 undef = .pointer (some ⟨w.heap.size + 1, 0, none⟩)) (hg : y.heap[w.heap.size + 1]? = some (.cells #[.string ⟨#[]⟩, .int .i64 0, .int .i64 0] 136 (0, 0)))
    (hY : Y.heap = (((y.setCell ⟨w.heap.size + 1, 0, none⟩ (.string ⟨s.toArray⟩)).setCell ⟨w.heap.size + 1, 1, none⟩ (.int .i64 (a : Int))).setCell ⟨w.heap.size + 1, 2, none⟩ (.int .i64 E)).heap) :
    (results Tryz.f61 tmps).run Tryz.prog Y = .ok (.tuple #[.int .u64 X, .agg #[.string ⟨s.toArray⟩, .int .i64 (a : Int), .int .i64 E]]) Y := by
  have f0 := heap_setCell_same y (w.heap.size + 1) 0 _ _ (.string ⟨s.toArray⟩) hg;have f1 := heap_setCell_same _ (w.heap.size + 1) 1 _ _ (.int .i64 (a : Int)) f0;have f2 := heap_setCell_same _ (w.heap.size + 1) 2 _ _ (.int .i64 E) f1;rw [← hY] at f2;have k0 := blkc f2 0 (.string ⟨s.toArray⟩) rfl;have k1 := blkc f2 1 (.int .i64 (a : Int)) rfl;have k2 := blkc f2 2 (.int .i64 E) rfl;have h2' : tmps[2]?.getD undef = .int .u64 X := by simpa using h2
  have h3' : tmps[3]?.getD undef = .pointer (some ⟨w.heap.size + 1, 0, none⟩) := by simpa using h3
  simp [results, Tryz.results61, go_sem, h2', h3', k0, k1, k2]
theorem get_up (w y Y : World) (s : Bs) (a : Nat) (E : Int) (hu : Up w y)
    (hY : Y = ((y.setCell ⟨w.heap.size + 1, 0, none⟩ (.string ⟨s.toArray⟩)).setCell ⟨w.heap.size + 1, 1, none⟩ (.int .i64 (a : Int))).setCell ⟨w.heap.size + 1, 2, none⟩ (.int .i64 E)) : Up w Y := by
  rw [hY];exact ((hu.set (p := ⟨w.heap.size + 1, 0, none⟩) (by simp) (.string ⟨s.toArray⟩)).set (p := ⟨w.heap.size + 1, 1, none⟩) (by simp) (.int .i64 (a : Int))).set (p := ⟨w.heap.size + 1, 2, none⟩) (by simp) (.int .i64 E)

def GetE (w : World) (s : Bs) (a : Nat) (r : Int × Nat × Nat) (e : Ending) (w' : World) : Prop := e = .returned (.tuple #[.int .u64 (r.2.1 : Int), .agg #[.string ⟨s.toArray⟩, .int .i64 ((a + r.2.2 : Nat) : Int), .int .i64 r.1]]) ∧ Up w w'
def GRel (T : Bs) (r : Int × Nat × Nat) (gk : Nat) (x n wh i : Value) : Prop := ∃ (k : Nat) (X : Int), k + gk = T.length ∧ x = .int .u64 X ∧ n = .int .i64 (k : Int) ∧ wh = .bool false ∧ i = .int .i64 (k : Int) ∧ ((k ≤ 9 ∧ ∃ Y : Nat, X = (Y : Int) ∧ Y < 128 ^ k ∧ vGo k Y (T.drop k) = r) ∨ (k = 10 ∧ r = (11, 0, 0)))
theorem vGo_ten (x : Nat) (l : Bs) : vGo 10 x l = (11, 0, 0) := by
  cases l <;> simp [vGo]
set_option maxHeartbeats 8000000 in
theorem get_any (s : Bs) (hs : s.length ≤ 1000000000) (a : Nat) (ha : a ≤ s.length) (w : World) :
    Calls Tryz.prog 61 #[.agg #[.string ⟨s.toArray⟩, .int .i64 (a : Int), .int .i64 0]] w (GetE w s a (getV (s.drop a))) := by
  have BD := fun E w => Lib.hid (vbad_any s a 0 E w);have x0 := drop_mk s a;have hTl : (s.drop a).length = s.length - a := List.length_drop;obtain ⟨r, hr⟩ : ∃ r, getV (s.drop a) = r := ⟨_, rfl⟩;rw [hr];generalize s.drop a = T at *;have hTb : T.length ≤ 1000000000 := by omega
  have t0 : decide ((a : Int) < 0) = false := decide_eq_false (by omega);have t1 : decide ((s.length : Int) < (a : Int)) = false := decide_eq_false (by omega);have t1' : decide (s.length < a) = false := decide_eq_false (by omega);have t2 : (0 : Int) ≤ (a : Int) := by omega
  have t3 : (a : Int) ≤ (s.length : Int) := by omega
  have g1 := ((Up.refl _).alloc (.cells #[.string ⟨#[]⟩, .int .i64 0, .int .i64 0] 136)).obj (heap_alloc_new w (.cells #[.string ⟨s.toArray⟩, .int .i64 (a : Int), .int .i64 0] 136));have g2 := heap_alloc_new (w.alloc (.cells #[.string ⟨s.toArray⟩, .int .i64 (a : Int), .int .i64 0] 136)) (.cells #[.string ⟨#[]⟩, .int .i64 0, .int .i64 0] 136);rw [World.size_alloc] at g2;have hu := ((Up.refl w).alloc (.cells #[.string ⟨s.toArray⟩, .int .i64 (a : Int), .int .i64 0] 136)).alloc (.cells #[.string ⟨#[]⟩, .int .i64 0, .int .i64 0] 136);obtain ⟨W0, hW⟩ : ∃ y, (w.alloc (.cells #[.string ⟨s.toArray⟩, .int .i64 (a : Int), .int .i64 0] 136)).alloc (.cells #[.string ⟨#[]⟩, .int .i64 0, .int .i64 0] 136) = y := ⟨_, rfl⟩;rw [hW] at g1 g2 hu;have G1 := Lib.hid g1;have G2 := Lib.hid g2;have HU := Lib.hid hu;have d0 := blkc g1 0 (.string ⟨s.toArray⟩) rfl;have d1 := blkc g1 1 (.int .i64 (a : Int)) rfl;have d2 := blkc g1 2 (.int .i64 0) rfl;have q1 := blkf g1 1;clear g1 g2 hu hTl;go_enter Tryz.func61, Tryz.ntmps61;go_wp2_with fail;go_step3
  go_wp2_with fail;go_step3
  go_wp2_with fail;have hab : a ≤ 1000000000 := by omega
  clear x0 hW t0 t1 t1' t2 t3 ha hs;go_loopg [4, 5, 6, 36] T.length (fun gk x n wh i wr => GRel T r gk x n wh i ∧ wr = W0)
  case atStart => exact ⟨⟨0, 0, by omega, rfl, rfl, rfl, rfl, .inl ⟨by omega, 0, rfl, by simp, hr⟩⟩, rfl⟩
  case round =>
    obtain ⟨⟨k, X, hg, rfl, rfl, rfl, rfl, hcase⟩, hwr⟩ := hrel;subst hwr;clear hr;have c0 : (0 : Int) ≤ (k : Int) := by omega
    have b3 : IntKind.i64.wrap (7 * (k : Int)) = 7 * (k : Int) := IntWalk.i64_in _ (by omega);have b4 : (0 : Int) ≤ 7 * (k : Int) := by omega
    rcases hcase with ⟨hk9, Y, rfl, hY, hv⟩ | ⟨hk10, hr⟩
    · have e10 : ((k : Int) == 10) = false := by rw [beq_eq_false_iff_ne]; omega
      by_cases hlt : k < T.length
      · obtain ⟨m, rfl⟩ : ∃ m, gk = m + 1 := ⟨gk - 1, by omega⟩;obtain ⟨b, hb⟩ : ∃ b, (⟨T.toArray⟩ : ByteArray)[k]'(by rw [size_mk]; exact hlt) = b := ⟨_, rfl⟩;have hbk : T[k] = b := hb;have hbl := b.toNat_lt;rw [List.drop_eq_getElem_cons hlt, hbk] at hv;unfold vGo at hv;rw [if_neg (by omega)] at hv;have c1 : (k : Int) < (T.length : Int) := by omega
        by_cases hs128 : b.toNat < 128
        · rw [if_pos hs128] at hv;have c2 : (b.toNat : Int) < 128 := by omega
          by_cases h9 : k = 9
          · have e9 : ((k : Int) + 1 == 10) = true := by rw [beq_iff_eq]; omega
            have c5 : (1 : Int) < (k : Int) + 1 := by omega
            by_cases hb1 : 1 < b.toNat
            · rw [if_pos ⟨h9, hb1⟩] at hv;subst hv;have c4 : (1 : Int) < (b.toNat : Int) := by omega
              clear hbk hY h9;go_wp2_with fail;refine (BD 11 _).out.mono ?_;rintro e w1 ⟨rfl, hu⟩;have g := hu.obj G2.out;have y0 := blkc g 0 _ rfl;have y1 := blkc g 1 _ rfl;have y2 := blkc g 2 _ rfl;have z0 := blkf g 0;have z1 := blkf g 1;have z2 := blkf g 2;have HG := Lib.hid g;have HU3 := Lib.hid (HU.out.trans hu);clear hu g d0 d1 d2 q1;go_wp2_with fail;refine bodyPost_ret (get_res w w1 _ s a 0 11 _ ?_ ?_ HG.out rfl) rfl ⟨rfl, get_up w w1 _ s a 11 HU3.out rfl⟩
              · rfl
              · rfl
            · rw [if_neg (fun h => hb1 h.2)] at hv;have c4 : ¬ (1 : Int) < (b.toNat : Int) := by omega
              by_cases hb0 : b.toNat = 0
              · rw [if_pos ⟨by omega, hb0⟩] at hv;subst hv;have e0 : ((b.toNat : Int) == 0) = true := by rw [beq_iff_eq]; omega
                clear hbk hY hb0 h9;go_wp2_with fail;refine (BD 4 _).out.mono ?_;rintro e w1 ⟨rfl, hu⟩;have g := hu.obj G2.out;have y0 := blkc g 0 _ rfl;have y1 := blkc g 1 _ rfl;have y2 := blkc g 2 _ rfl;have z0 := blkf g 0;have z1 := blkf g 1;have z2 := blkf g 2;have HG := Lib.hid g;have HU3 := Lib.hid (HU.out.trans hu);clear hu g d0 d1 d2 q1;go_wp2_with fail;refine bodyPost_ret (get_res w w1 _ s a 0 4 _ ?_ ?_ HG.out rfl) rfl ⟨rfl, get_up w w1 _ s a 4 HU3.out rfl⟩
                · rfl
                · rfl
              · rw [if_neg (fun h => hb0 h.2)] at hv;have e0 : ((b.toNat : Int) == 0) = false := by rw [beq_eq_false_iff_ne]; omega
                have ho := or7 Y b.toNat k hY hs128 hk9 (fun _ => by omega);clear h9;generalize Y + b.toNat * 128 ^ k = Z at *;subst hv;obtain ⟨m2, hm2⟩ : ∃ m, a + (k + 1) = m := ⟨_, rfl⟩;have e26 : (a : Int) + ((k : Int) + 1) = (m2 : Int) := by omega
                have H1 := heap_setCell_same wr w.heap.size 1 _ _ (.int .i64 (m2 : Int)) G1.out;have H2 := (heap_setCell_other wr ⟨w.heap.size, 1, none⟩ (w.heap.size + 1) (.int .i64 (m2 : Int)) (by simp)).trans G2.out;have v0 := blkc H1 0 (.string ⟨s.toArray⟩) rfl;have v1 := blkc H1 1 (.int .i64 (m2 : Int)) rfl;have v2 := blkc H1 2 (.int .i64 0) rfl;have y0 := blkc H2 0 _ rfl;have y1 := blkc H2 1 _ rfl;have y2 := blkc H2 2 _ rfl;have z0 := blkf H2 0;have z1 := blkf H2 1;have z2 := blkf H2 2;have HG := Lib.hid H2;have HU3 := Lib.hid (HU.out.set (p := ⟨w.heap.size, 1, none⟩) (Nat.le_refl _) (.int .i64 (m2 : Int)));clear H1 H2 hbk hY;go_wp2_with fail;try rw [e26]
                obtain ⟨V, hV⟩ : ∃ y, wr.setCell ⟨w.heap.size, 1, none⟩ (.int .i64 (m2 : Int)) = y := ⟨_, rfl⟩;rw [hV] at v0 v1 v2 y0 y1 y2 z0 z1 z2 HG HU3 ⊢;clear hV d0 d1 d2 q1;go_region_law (fail)
                all_goals
                  go_wp2_with fail;refine bodyPost_ret (get_res w V _ s m2 Z 0 _ ?_ ?_ HG.out rfl) rfl ⟨by rw [← hm2], (get_up w V _ s m2 0 HU3.out rfl).drew⟩
                  · rfl
                  · rfl
          · have e9 : ((k : Int) + 1 == 10) = false := by rw [beq_eq_false_iff_ne]; omega
            rw [if_neg (fun h => h9 h.1)] at hv;by_cases hk0 : 0 < k
            · have c5 : (1 : Int) < (k : Int) + 1 := by omega
              by_cases hb0 : b.toNat = 0
              · rw [if_pos ⟨hk0, hb0⟩] at hv;subst hv;have e0 : ((b.toNat : Int) == 0) = true := by rw [beq_iff_eq]; omega
                clear hbk hY hb0;go_wp2_with fail;refine (BD 4 _).out.mono ?_;rintro e w1 ⟨rfl, hu⟩;have g := hu.obj G2.out;have y0 := blkc g 0 _ rfl;have y1 := blkc g 1 _ rfl;have y2 := blkc g 2 _ rfl;have z0 := blkf g 0;have z1 := blkf g 1;have z2 := blkf g 2;have HG := Lib.hid g;have HU3 := Lib.hid (HU.out.trans hu);clear hu g d0 d1 d2 q1;go_wp2_with fail;refine bodyPost_ret (get_res w w1 _ s a 0 4 _ ?_ ?_ HG.out rfl) rfl ⟨rfl, get_up w w1 _ s a 4 HU3.out rfl⟩
                · rfl
                · rfl
              · rw [if_neg (fun h => hb0 h.2)] at hv;have e0 : ((b.toNat : Int) == 0) = false := by rw [beq_eq_false_iff_ne]; omega
                have ho := or7 Y b.toNat k hY hs128 hk9 (fun h => absurd h h9);generalize Y + b.toNat * 128 ^ k = Z at *;subst hv;obtain ⟨m2, hm2⟩ : ∃ m, a + (k + 1) = m := ⟨_, rfl⟩;have e26 : (a : Int) + ((k : Int) + 1) = (m2 : Int) := by omega
                have H1 := heap_setCell_same wr w.heap.size 1 _ _ (.int .i64 (m2 : Int)) G1.out;have H2 := (heap_setCell_other wr ⟨w.heap.size, 1, none⟩ (w.heap.size + 1) (.int .i64 (m2 : Int)) (by simp)).trans G2.out;have v0 := blkc H1 0 (.string ⟨s.toArray⟩) rfl;have v1 := blkc H1 1 (.int .i64 (m2 : Int)) rfl;have v2 := blkc H1 2 (.int .i64 0) rfl;have y0 := blkc H2 0 _ rfl;have y1 := blkc H2 1 _ rfl;have y2 := blkc H2 2 _ rfl;have z0 := blkf H2 0;have z1 := blkf H2 1;have z2 := blkf H2 2;have HG := Lib.hid H2;have HU3 := Lib.hid (HU.out.set (p := ⟨w.heap.size, 1, none⟩) (Nat.le_refl _) (.int .i64 (m2 : Int)));clear H1 H2 hbk hY;go_wp2_with fail;try rw [e26]
                obtain ⟨V, hV⟩ : ∃ y, wr.setCell ⟨w.heap.size, 1, none⟩ (.int .i64 (m2 : Int)) = y := ⟨_, rfl⟩;rw [hV] at v0 v1 v2 y0 y1 y2 z0 z1 z2 HG HU3 ⊢;clear hV d0 d1 d2 q1;go_region_law (fail)
                all_goals
                  go_wp2_with fail;refine bodyPost_ret (get_res w V _ s m2 Z 0 _ ?_ ?_ HG.out rfl) rfl ⟨by rw [← hm2], (get_up w V _ s m2 0 HU3.out rfl).drew⟩
                  · rfl
                  · rfl
            · have c5 : ¬ (1 : Int) < (k : Int) + 1 := by omega
              rw [if_neg (fun h => hk0 h.1)] at hv;have ho := or7 Y b.toNat k hY hs128 hk9 (fun h => absurd h h9);generalize Y + b.toNat * 128 ^ k = Z at *;subst hv;obtain ⟨m2, hm2⟩ : ∃ m, a + (k + 1) = m := ⟨_, rfl⟩;have e26 : (a : Int) + ((k : Int) + 1) = (m2 : Int) := by omega
              have H1 := heap_setCell_same wr w.heap.size 1 _ _ (.int .i64 (m2 : Int)) G1.out;have H2 := (heap_setCell_other wr ⟨w.heap.size, 1, none⟩ (w.heap.size + 1) (.int .i64 (m2 : Int)) (by simp)).trans G2.out;have v0 := blkc H1 0 (.string ⟨s.toArray⟩) rfl;have v1 := blkc H1 1 (.int .i64 (m2 : Int)) rfl;have v2 := blkc H1 2 (.int .i64 0) rfl;have y0 := blkc H2 0 _ rfl;have y1 := blkc H2 1 _ rfl;have y2 := blkc H2 2 _ rfl;have z0 := blkf H2 0;have z1 := blkf H2 1;have z2 := blkf H2 2;have HG := Lib.hid H2;have HU3 := Lib.hid (HU.out.set (p := ⟨w.heap.size, 1, none⟩) (Nat.le_refl _) (.int .i64 (m2 : Int)));clear H1 H2 hbk hY;go_wp2_with fail;try rw [e26]
              obtain ⟨V, hV⟩ : ∃ y, wr.setCell ⟨w.heap.size, 1, none⟩ (.int .i64 (m2 : Int)) = y := ⟨_, rfl⟩;rw [hV] at v0 v1 v2 y0 y1 y2 z0 z1 z2 HG HU3 ⊢;clear hV d0 d1 d2 q1;go_region_law (fail)
              all_goals
                go_wp2_with fail;refine bodyPost_ret (get_res w V _ s m2 Z 0 _ ?_ ?_ HG.out rfl) rfl ⟨by rw [← hm2], (get_up w V _ s m2 0 HU3.out rfl).drew⟩
                · rfl
                · rfl
        · rw [if_neg hs128] at hv;have c2 : ¬ (b.toNat : Int) < 128 := by omega
          have ha := and7 b.toNat hbl;have hbm : b.toNat - 128 = b.toNat % 128 := by omega
          rw [hbm] at hv;by_cases h9 : k = 9
          · have hr : r = (11, 0, 0) := by rw [← hv, h9]; exact vGo_ten _ _
            have HK := Lib.hid h9;clear hbk hY hv h9;go_wp2_with fail;go_roundg m
            case measure => omega
            case rel => exact ⟨⟨k + 1, bits BinOp.or IntKind.u64 (Y : Int) (IntKind.u64.wrap ((b.toNat : Int) % 128 * 2 ^ (7 * k))), by omega, rfl, by go_num, rfl, by go_num, .inr ⟨by have := HK.out; omega, hr⟩⟩, rfl⟩
          · have ho := or7m Y b.toNat k hY (by omega);have hY2 : Y + b.toNat % 128 * 128 ^ k < 128 ^ (k + 1) := by
              have h1 : (b.toNat % 128) * 128 ^ k ≤ 127 * 128 ^ k := Nat.mul_le_mul_right _ (by omega);rw [Nat.pow_succ]; omega
            generalize Y + b.toNat % 128 * 128 ^ k = Z at *;have HV := Lib.hid hv;have HY := Lib.hid hY2;clear hbk hY hv hY2;go_wp2_with fail;go_roundg m
            case measure => omega
            case rel => exact ⟨⟨k + 1, (Z : Int), by omega, rfl, by go_num, rfl, by go_num, .inl ⟨by omega, Z, rfl, HY.out, HV.out⟩⟩, rfl⟩
      · obtain rfl : gk = 0 := by omega
        have c1 : ¬ (k : Int) < (T.length : Int) := by omega
        rw [List.drop_eq_nil_of_le (by omega)] at hv;unfold vGo at hv;rw [if_neg (by omega)] at hv;subst hv;clear hY;go_wp2_with fail;refine (BD 3 _).out.mono ?_;rintro e w1 ⟨rfl, hu⟩;have g := hu.obj G2.out;have y0 := blkc g 0 _ rfl;have y1 := blkc g 1 _ rfl;have y2 := blkc g 2 _ rfl;have z0 := blkf g 0;have z1 := blkf g 1;have z2 := blkf g 2;have HG := Lib.hid g;have HU3 := Lib.hid (HU.out.trans hu);clear hu g d0 d1 d2 q1;go_wp2_with fail;refine bodyPost_ret (get_res w w1 _ s a 0 3 _ ?_ ?_ HG.out rfl) rfl ⟨rfl, get_up w w1 _ s a 3 HU3.out rfl⟩
        · rfl
        · rfl
    · have e10 : ((k : Int) == 10) = true := by rw [beq_iff_eq]; omega
      subst hr;clear hk10;by_cases hlt : k < T.length
      focus
        obtain ⟨b, hb⟩ : ∃ b, (⟨T.toArray⟩ : ByteArray)[k]'(by rw [size_mk]; exact hlt) = b := ⟨_, rfl⟩;have c1 : (k : Int) < (T.length : Int) := by omega
      rotate_left;focus
        obtain rfl : gk = 0 := by omega
        have c1 : ¬ (k : Int) < (T.length : Int) := by omega
      rotate_left;all_goals
        go_wp2_with fail;refine (BD 11 _).out.mono ?_;rintro e w1 ⟨rfl, hu⟩;have g := hu.obj G2.out;have y0 := blkc g 0 _ rfl;have y1 := blkc g 1 _ rfl;have y2 := blkc g 2 _ rfl;have z0 := blkf g 0;have z1 := blkf g 1;have z2 := blkf g 2;have HG := Lib.hid g;have HU3 := Lib.hid (HU.out.trans hu);clear hu g d0 d1 d2 q1;go_wp2_with fail;refine bodyPost_ret (get_res w w1 _ s a 0 11 _ ?_ ?_ HG.out rfl) rfl ⟨rfl, get_up w w1 _ s a 11 HU3.out rfl⟩
        · rfl
        · rfl
end Go.Proofs.YtbfieomjobbhoaaGreatDoor
/- Walks: gazetteerref01.Number, gazetteerref02.wrong. -/
namespace Go.Proofs.YtbfieomjobbhoaaGreatDoor
open Go.RowKit Go.Gz
set_option maxRecDepth 100000
set_option maxHeartbeats 4000000 in
/-- Number -/
theorem r1num_any (t : Bs) (ht : t.length ≤ 8) (w : World) :
    Calls Tryz.prog 150 #[.string ⟨t.toArray⟩] w fun e w' => e = .returned (.int .u64 (leV t : Int)) ∧ Up w w' := by
  have hss : (⟨t.toArray⟩ : ByteArray).size = t.length := by simp [ByteArray.size]
  have s1 : IntKind.i64.wrap ((t.length : Int) - 1) = (t.length : Int) - 1 := IntWalk.i64_in _ (by omega);go_enter Tryz.func150, Tryz.ntmps150;go_wp2_with fail;go_loopg [3, 4] t.length (fun gk n i wr => ∃ k : Nat, k = gk ∧ k ≤ t.length ∧ n = .int .u64 (leV (t.drop k) : Int) ∧ i = .int .i64 ((k : Int) - 1) ∧ Up w wr)
  case atStart => exact ⟨t.length, rfl, Nat.le_refl _, by rw [List.drop_length]; rfl, rfl, Up.refl _⟩
  case round =>
    obtain ⟨k, rfl, hkl, rfl, rfl, hup⟩ := hrel;have HU := Lib.hid hup;clear hup s1;match k, hkl with
    | 0, _ =>
      go_wp2_with fail;go_ret;exact ⟨by simp, HU.out⟩
    | k + 1, hkl =>
      have hlt : k < t.length := by omega
      have c0 : (0 : Int) ≤ (k : Int) := by omega
      have c1 : (k : Int) < (t.length : Int) := by omega
      have e1 : ((k + 1 : Nat) : Int) - 1 = (k : Int) := by omega
      have e2 : IntKind.i64.wrap ((k : Int) - 1) = (k : Int) - 1 := IntWalk.i64_in _ (by omega);obtain ⟨b, hb⟩ : ∃ b, (⟨t.toArray⟩ : ByteArray)[k]'(by rw [size_mk]; exact hlt) = b := ⟨_, rfl⟩;have hbk : t[k] = b := hb;have hbl := b.toNat_lt;have hd : leV (t.drop k) = b.toNat + 256 * leV (t.drop (k + 1)) := by rw [List.drop_eq_getElem_cons hlt, hbk]; rfl
      have hlv := leV_lt (t.drop k);have hp : (256 : Nat) ^ (t.drop k).length ≤ 256 ^ 8 := Nat.pow_le_pow_right (by decide) (by rw [List.length_drop]; omega);have h8 : (256 : Nat) ^ 8 = 18446744073709551616 := by decide
      have w1 : IntKind.u64.wrap (256 * (leV (t.drop (k + 1)) : Int)) = 256 * (leV (t.drop (k + 1)) : Int) := IntWalk.u64_in _ (by omega);have w2 : IntKind.u64.wrap (b.toNat : Int) = (b.toNat : Int) := IntWalk.u64_in _ (by omega);have w3 : IntKind.u64.wrap (256 * (leV (t.drop (k + 1)) : Int) + (b.toNat : Int)) = 256 * (leV (t.drop (k + 1)) : Int) + (b.toNat : Int) := IntWalk.u64_in _ (by omega);have HD := Lib.hid (show (leV (t.drop k) : Int) = 256 * (leV (t.drop (k + 1)) : Int) + (b.toNat : Int) by omega);rw [e1];clear hbk hd hlv hp h8 e1;generalize leV (t.drop (k + 1)) = V at *;go_wp2_with fail;go_roundg k
      case measure => omega
      case rel => exact ⟨k, rfl, by omega, by rw [HD.out], rfl, HU.out⟩
/-- wrong -/
def WrE (w : World) (t : Bs) (e : Ending) (w' : World) : Prop := e = .returned (.tuple #[.int .i64 (getV t).1, .int .i64 ((if (getV t).1 = 0 then (getV t).2.2 else 0 : Nat) : Int)]) ∧ Up w w'
set_option maxHeartbeats 4000000 in
theorem r2wrong_any (t : Bs) (ht : t.length ≤ 1000000) (w : World) :
    Calls Tryz.prog 129 #[.string ⟨t.toArray⟩] w (WrE w t) := by
  have hss : (⟨t.toArray⟩ : ByteArray).size = t.length := by simp [ByteArray.size]
  obtain ⟨NN, hNN⟩ : ∃ x : Nat, (if (getV t).1 = 0 then (getV t).2.2 else 0) = x := ⟨_, rfl⟩;obtain ⟨EE, hEE⟩ : ∃ x, (getV t).1 = x := ⟨_, rfl⟩;unfold WrE;rw [hNN, hEE];have HE := Lib.hid hEE;have HN := Lib.hid hNN;clear hEE hNN;go_enter Tryz.func129, Tryz.ntmps129;go_wp2_with fail;go_loopg [4] t.length (fun gk n wr => ∃ k : Nat, k + gk = t.length ∧ n = .int .i64 (k : Int) ∧ HighAt t k ∧ Up w wr)
  case atStart => exact ⟨0, by omega, rfl, high_0 t, Up.refl _⟩
  case round =>
    obtain ⟨k, hk, rfl, hh, hup⟩ := hrel;have HH := Lib.hid hh;have HU := Lib.hid hup;have hk10 := hh.1;clear hh hup;have c0 : (0 : Int) ≤ (k : Int) := by omega
    by_cases hlt : k < t.length
    · have c1 : (k : Int) < (t.length : Int) := by omega
      by_cases h10 : k < 10
      · have c2 : (k : Int) < 10 := by omega
        have e10 : ((k : Int) == 10) = false := by rw [beq_eq_false_iff_ne]; omega
        have eln : ((k : Int) == (t.length : Int)) = false := by rw [beq_eq_false_iff_ne]; omega
        obtain ⟨b, hb⟩ : ∃ b, (⟨t.toArray⟩ : ByteArray)[k]'(by rw [size_mk]; exact hlt) = b := ⟨_, rfl⟩;have hbk : t[k] = b := hb;have hbl := b.toNat_lt;by_cases hb128 : 128 ≤ b.toNat
        · have c3 : (128 : Int) ≤ (b.toNat : Int) := by omega
          obtain ⟨m, rfl⟩ : ∃ m, gk = m + 1 := ⟨gk - 1, by omega⟩;have HS := Lib.hid (high_step HH.out hlt h10 (by rw [hbk]; exact hb128));clear hbk HH HE HN;go_wp2_with fail;go_roundg m
          case measure => omega
          case rel => exact ⟨k + 1, by omega, by go_num, HS.out, HU.out⟩
        · have c3 : ¬ (128 : Int) ≤ (b.toNat : Int) := by omega
          obtain ⟨q1, q2⟩ := high_out HH.out hlt h10 (by rw [hbk]; omega);rw [hbk] at q1;by_cases h9 : k = 9 ∧ 1 < b.toNat
          · rw [if_pos h9] at q1;obtain rfl : EE = 11 := by rw [← HE.out, q1]
            obtain rfl : NN = 0 := by rw [← HN.out, q1]; rfl
            have e9 : ((k : Int) == 9) = true := by rw [beq_iff_eq]; omega
            have c4 : (1 : Int) < (b.toNat : Int) := by omega
            clear q1 q2 hbk HH h9 HE HN;go_wp2_with fail;go_ret2
            exact ⟨rfl, HU.out⟩
          rw [if_neg h9] at q1;have HQ : RowKit.Hid (k = 9 → b.toNat ≤ 1) := Lib.hid (fun h => by omega);by_cases h0 : 0 < k ∧ b.toNat = 0
          · rw [if_pos h0] at q1;obtain rfl : EE = 4 := by rw [← HE.out, q1]
            obtain rfl : NN = 0 := by rw [← HN.out, q1]; rfl
            have e0 : ((b.toNat : Int) == 0) = true := by rw [beq_iff_eq]; omega
            have c4 : (0 : Int) < (k : Int) := by omega
            have c5 : ¬ (1 : Int) < (b.toNat : Int) := by omega
            clear q1 q2 hbk HH h9 h0 HE HN HQ;by_cases hk9 : k = 9
            · have e9 : ((k : Int) == 9) = true := by rw [beq_iff_eq]; omega
              clear hk9;go_wp2_with fail;go_ret2
              exact ⟨rfl, HU.out⟩
            · have e9 : ((k : Int) == 9) = false := by rw [beq_eq_false_iff_ne]; omega
              clear hk9;go_wp2_with fail;go_ret2
              exact ⟨rfl, HU.out⟩
          rw [if_neg h0] at q1;obtain rfl : EE = 0 := by rw [← HE.out, q1]
          obtain rfl : NN = k + 1 := by rw [← HN.out, if_pos q1, q2 q1]
          clear q1 q2 hbk HH HE HN;by_cases hk9 : k = 9
          · have e9 : ((k : Int) == 9) = true := by rw [beq_iff_eq]; omega
            have c5 : ¬ (1 : Int) < (b.toNat : Int) := by have := HQ.out hk9; omega
            have c4 : (0 : Int) < (k : Int) := by omega
            have e0 : ((b.toNat : Int) == 0) = false := by rw [beq_eq_false_iff_ne]; omega
            clear h9 h0 HQ hk9;go_wp2_with fail;go_ret2
            exact ⟨rfl, HU.out⟩
          · have e9 : ((k : Int) == 9) = false := by rw [beq_eq_false_iff_ne]; omega
            by_cases hk0 : 0 < k
            · have c4 : (0 : Int) < (k : Int) := by omega
              have e0 : ((b.toNat : Int) == 0) = false := by rw [beq_eq_false_iff_ne]; omega
              clear h9 h0 HQ hk9;go_wp2_with fail;go_ret2
              exact ⟨rfl, HU.out⟩
            · have c4 : ¬ (0 : Int) < (k : Int) := by omega
              clear h9 h0 HQ hk9;go_wp2_with fail;go_ret2
              exact ⟨rfl, HU.out⟩
      · obtain rfl : k = 10 := by omega
        have q1 := high_ten HH.out;obtain rfl : EE = 11 := by rw [← HE.out, q1]
        obtain rfl : NN = 0 := by rw [← HN.out, q1]; rfl
        clear q1 HH HE HN;go_wp2_with fail;go_ret2
        exact ⟨rfl, HU.out⟩
    · obtain rfl : k = t.length := by omega
      by_cases h10 : t.length < 10
      · have q1 := high_end HH.out rfl h10;obtain rfl : EE = 3 := by rw [← HE.out, q1]
        obtain rfl : NN = 0 := by rw [← HN.out, q1]; rfl
        have e10 : ((t.length : Int) == 10) = false := by rw [beq_eq_false_iff_ne]; omega
        clear q1 HH HE HN;go_wp2_with fail;go_ret2
        exact ⟨rfl, HU.out⟩
      · have hl10 : t.length = 10 := by omega
        have q1 := high_ten (hl10 ▸ HH.out);obtain rfl : EE = 11 := by rw [← HE.out, q1]
        obtain rfl : NN = 0 := by rw [← HN.out, q1]; rfl
        have e10 : ((t.length : Int) == 10) = true := by rw [beq_iff_eq]; omega
        clear q1 HH HE HN;go_wp2_with fail;go_ret2
        exact ⟨rfl, HU.out⟩
end Go.Proofs.YtbfieomjobbhoaaGreatDoor
/- Walk: gazetteerref02.Get. -/
namespace Go.Proofs.YtbfieomjobbhoaaGreatDoor
open Go.RowKit Go.Gz
set_option maxRecDepth 100000
theorem r2get_res (w y Y : World) (s : Bs) (a : Nat) (X E : Int) (tmps : Array Value) (h2 : tmps.getD 2 undef = .int .u64 X) (h3 : tmps.getD 3 undef = .pointer (some ⟨w.heap.size + 1, 0, none⟩)) (hg : y.heap[w.heap.size + 1]? = some (.cells #[.string ⟨#[]⟩, .int .i64 0, .int .i64 0] 146 (0, 0)))
    (hY : Y.heap = (((y.setCell ⟨w.heap.size + 1, 0, none⟩ (.string ⟨s.toArray⟩)).setCell ⟨w.heap.size + 1, 1, none⟩ (.int .i64 (a : Int))).setCell ⟨w.heap.size + 1, 2, none⟩ (.int .i64 E)).heap) :
    (results Tryz.f66 tmps).run Tryz.prog Y = .ok (.tuple #[.int .u64 X, .agg #[.string ⟨s.toArray⟩, .int .i64 (a : Int), .int .i64 E]]) Y := by
  have f0 := heap_setCell_same y (w.heap.size + 1) 0 _ _ (.string ⟨s.toArray⟩) hg;have f1 := heap_setCell_same _ (w.heap.size + 1) 1 _ _ (.int .i64 (a : Int)) f0;have f2 := heap_setCell_same _ (w.heap.size + 1) 2 _ _ (.int .i64 E) f1;rw [← hY] at f2;have k0 := blkc f2 0 (.string ⟨s.toArray⟩) rfl;have k1 := blkc f2 1 (.int .i64 (a : Int)) rfl;have k2 := blkc f2 2 (.int .i64 E) rfl;have h2' : tmps[2]?.getD undef = .int .u64 X := by simpa using h2
  have h3' : tmps[3]?.getD undef = .pointer (some ⟨w.heap.size + 1, 0, none⟩) := by simpa using h3
  simp [results, Tryz.results66, go_sem, h2', h3', k0, k1, k2]
set_option maxHeartbeats 8000000 in
theorem r2get_any (s : Bs) (hs : s.length ≤ 1000000) (a : Nat) (ha : a ≤ s.length) (w : World) :
    Calls Tryz.prog 66 #[.agg #[.string ⟨s.toArray⟩, .int .i64 (a : Int), .int .i64 0]] w (GetE w s a (getV (s.drop a))) := by
  have WR := fun w => Lib.hid (r2wrong_any (s.drop a) (by rw [List.length_drop]; omega) w);unfold WrE at WR;have x0 := drop_mk s a;have hss : (⟨s.toArray⟩ : ByteArray).size = s.length := by simp [ByteArray.size]
  have hTl : (s.drop a).length = s.length - a := List.length_drop;have hok := fun h => getV_ok (t := s.drop a) h;have hval := fun h => getV_val (t := s.drop a) h;have hbad := fun h => getV_bad (t := s.drop a) h;have hix : ∀ k, (s.drop a)[k]? = s[a + k]? := fun k => List.getElem?_drop;obtain ⟨⟨E, X, n⟩, hr⟩ : ∃ r, getV (s.drop a) = r := ⟨_, rfl⟩;rw [hr] at WR hok hval hbad ⊢;simp only at WR hok hval hbad;generalize s.drop a = T at *;have t0 : ¬ (a : Int) < 0 := by omega
  have t1 : ¬ (s.length : Int) < (a : Int) := by omega
  have t2 : (0 : Int) ≤ (a : Int) := by omega
  have t3 : (a : Int) ≤ (s.length : Int) := by omega
  have g1 := ((Up.refl _).alloc (.cells #[.string ⟨#[]⟩, .int .i64 0, .int .i64 0] 146)).obj (heap_alloc_new w (.cells #[.string ⟨s.toArray⟩, .int .i64 (a : Int), .int .i64 0] 146));have g2 := heap_alloc_new (w.alloc (.cells #[.string ⟨s.toArray⟩, .int .i64 (a : Int), .int .i64 0] 146)) (.cells #[.string ⟨#[]⟩, .int .i64 0, .int .i64 0] 146);rw [World.size_alloc] at g2;have hu := ((Up.refl w).alloc (.cells #[.string ⟨s.toArray⟩, .int .i64 (a : Int), .int .i64 0] 146)).alloc (.cells #[.string ⟨#[]⟩, .int .i64 0, .int .i64 0] 146);have G1 := Lib.hid g1;have G2 := Lib.hid g2;have HU := Lib.hid hu;have d0 := blkc g1 0 (.string ⟨s.toArray⟩) rfl;have d1 := blkc g1 1 (.int .i64 (a : Int)) rfl;have d2 := blkc g1 2 (.int .i64 0) rfl;clear g1 g2 hu;go_enter Tryz.func66, Tryz.ntmps66;go_wp2_with fail;with_reducible refine (WR _).out.mono ?_
  rintro e w1 ⟨rfl, hu1⟩;have H1 := Lib.hid (hu1.obj G1.out);have H2 := Lib.hid (hu1.obj G2.out);have HU1 := Lib.hid (HU.out.trans hu1);replace d0 := hu1.cell d0;replace d1 := hu1.cell d1;replace d2 := hu1.cell d2;clear hu1 G1 G2 HU WR;by_cases hE : E = 0
  · subst hE;simp only [if_true];obtain ⟨o1, o2, o3⟩ := hok rfl;have hv := hval rfl;clear hok hval hbad;have s1 : IntKind.i64.wrap ((n : Int) - 1) = (n : Int) - 1 := IntWalk.i64_in _ (by omega);have HV := Lib.hid hv;have HIX := Lib.hid hix;have e4 : IntKind.i64.wrap ((a : Int) + (n : Int)) = (a : Int) + (n : Int) := IntWalk.i64_in _ (by omega);clear hv hix x0 t0 t1;go_wp2_with fail;go_loopg [6, 7] n (fun gk x i wr => ∃ k : Nat, k = gk ∧ k ≤ n ∧ x = .int .u64 (v128 ((T.take n).drop k) : Int) ∧ i = .int .i64 ((k : Int) - 1) ∧ wr = w1)
    case atStart => exact ⟨n, rfl, Nat.le_refl _, by rw [List.drop_of_length_le (by rw [List.length_take]; omega)]; rfl, rfl, rfl⟩
    case round =>
      obtain ⟨k, rfl, hkl, rfl, rfl, hwr⟩ := hrel;have hwr := hwr.symm;subst hwr;match k, hkl with
      | 0, _ =>
        have hX : v128 ((T.take n).drop 0) = X := by rw [List.drop_zero, ← HV.out]
        rw [hX];have q1 := blkf H1.out 1;have K1 := heap_setCell_same w1 w.heap.size 1 _ _ (.int .i64 ((a : Int) + (n : Int))) H1.out;have K2 : (w1.setCell ⟨w.heap.size, 1, none⟩ (.int .i64 ((a : Int) + (n : Int)))).heap[w.heap.size + 1]? = _ := (heap_setCell_other w1 ⟨w.heap.size, 1, none⟩ (w.heap.size + 1) (.int .i64 ((a : Int) + (n : Int))) (by simp)).trans H2.out;have y0 := blkc K1 0 (.string ⟨s.toArray⟩) rfl;have y1 := blkc K1 1 (.int .i64 ((a : Int) + (n : Int))) rfl;have y2 := blkc K1 2 (.int .i64 0) rfl;have z0 := blkc K2 0 _ rfl;have z1 := blkc K2 1 _ rfl;have z2 := blkc K2 2 _ rfl;have f0 := blkf K2 0;have f1 := blkf K2 1;have f2 := blkf K2 2;have KK := Lib.hid K2;have HU2 := Lib.hid (HU1.out.set (p := ⟨w.heap.size, 1, none⟩) (Nat.le_refl _) (.int .i64 ((a : Int) + (n : Int))));clear K1 K2 H1 H2 HU1 hX HV HIX s1 o1 o2 o3;go_wp2_with fail;clear d0 d1 d2 q1;obtain ⟨Y, hY⟩ : ∃ y, w1.setCell ⟨w.heap.size, 1, none⟩ (.int .i64 ((a : Int) + (n : Int))) = y := ⟨_, rfl⟩;rw [hY] at y0 y1 y2 z0 z1 z2 f0 f1 f2 KK HU2 ⊢;clear hY;clear e4;go_region_law (fail)
        all_goals
          go_wp2_with fail;refine bodyPost_ret (r2get_res w Y _ s (a + n) X 0 _ ?_ ?_ KK.out rfl) rfl ⟨rfl, (get_up w Y _ s (a + n) 0 HU2.out rfl).drew⟩
          · rfl
          · rfl
      | k + 1, hkl =>
        have hlt : k < T.length := by omega
        have hlt2 : a + k < s.length := by omega
        have hTk : (T[k]'hlt) = s[a + k]'hlt2 := by
          have := HIX.out k;rw [List.getElem?_eq_getElem hlt, List.getElem?_eq_getElem hlt2] at this;injection this
        have hd := v128_take_drop T n k (by omega) o3;have hle := v128_drop_le (T.take n) k;rw [← HV.out] at hle;obtain ⟨b, hb⟩ : ∃ b, (⟨s.toArray⟩ : ByteArray)[a + k]'(by rw [size_mk]; exact hlt2) = b := ⟨_, rfl⟩;have hbk : s[a + k] = b := hb;rw [hTk, hbk] at hd;have hbl := b.toNat_lt;have c0 : (0 : Int) ≤ (k : Int) := by omega
        have e1 : ((k + 1 : Nat) : Int) - 1 = (k : Int) := by omega
        have e2 : IntKind.i64.wrap ((k : Int) - 1) = (k : Int) - 1 := IntWalk.i64_in _ (by omega);have e3 : IntKind.i64.wrap ((a : Int) + (k : Int)) = ((a + k : Nat) : Int) := by rw [IntWalk.i64_in _ (by omega)]; omega
        have c1 : ((a + k : Nat) : Int) < (s.length : Int) := by omega
        have w1a : IntKind.u64.wrap (128 * (v128 ((T.take n).drop (k + 1)) : Int)) = 128 * (v128 ((T.take n).drop (k + 1)) : Int) := IntWalk.u64_in _ (by omega);have w2a : IntKind.u64.wrap ((b.toNat : Int) % 128) = (b.toNat : Int) % 128 := IntWalk.u64_in _ (by omega);have w2b : IntKind.u8.wrap ((b.toNat : Int) % 128) = (b.toNat : Int) % 128 := IntWalk.u8_in _ (by omega);have w3 : IntKind.u64.wrap (128 * (v128 ((T.take n).drop (k + 1)) : Int) + (b.toNat : Int) % 128) = 128 * (v128 ((T.take n).drop (k + 1)) : Int) + (b.toNat : Int) % 128 := IntWalk.u64_in _ (by omega);have HD := Lib.hid (show (v128 ((T.take n).drop k) : Int) = 128 * (v128 ((T.take n).drop (k + 1)) : Int) + (b.toNat : Int) % 128 by omega);rw [e1];clear hbk hd hle hTk e1 s1 e4;generalize v128 ((T.take n).drop (k + 1)) = V at *;go_wp2_with fail;go_roundg k
        case measure => omega
        case rel => exact ⟨k, rfl, by omega, by rw [HD.out], rfl, rfl⟩
  · rw [if_neg hE];obtain ⟨rfl, rfl⟩ := hbad hE;have eE : (E != 0) = true := by rw [bne_iff_ne]; exact hE
    have q2 := blkf H1.out 2;have K1 := heap_setCell_same w1 w.heap.size 2 _ _ (.int .i64 E) H1.out;have K2 : (w1.setCell ⟨w.heap.size, 2, none⟩ (.int .i64 E)).heap[w.heap.size + 1]? = _ := (heap_setCell_other w1 ⟨w.heap.size, 2, none⟩ (w.heap.size + 1) (.int .i64 E) (by simp)).trans H2.out;have y0 := blkc K1 0 (.string ⟨s.toArray⟩) rfl;have y1 := blkc K1 1 (.int .i64 (a : Int)) rfl;have y2 := blkc K1 2 (.int .i64 E) rfl;have z0 := blkc K2 0 _ rfl;have z1 := blkc K2 1 _ rfl;have z2 := blkc K2 2 _ rfl;have f0 := blkf K2 0;have f1 := blkf K2 1;have f2 := blkf K2 2;have KK := Lib.hid K2;have HU2 := Lib.hid (HU1.out.set (p := ⟨w.heap.size, 2, none⟩) (Nat.le_refl _) (.int .i64 E));clear hok hval hbad K1 K2 H1 H2 HU1 hE;go_wp2_with fail;clear d0 d1 d2 q2;obtain ⟨Y, hY⟩ : ∃ y, w1.setCell ⟨w.heap.size, 2, none⟩ (.int .i64 E) = y := ⟨_, rfl⟩;rw [hY] at y0 y1 y2 z0 z1 z2 f0 f1 f2 KK HU2 ⊢;clear hY;go_region_law (fail)
    all_goals
      go_wp2_with fail;refine bodyPost_ret (r2get_res w Y _ s a 0 E _ ?_ ?_ KK.out rfl) rfl ⟨rfl, (get_up w Y _ s a E HU2.out rfl).drew⟩
      · rfl
      · rfl
end Go.Proofs.YtbfieomjobbhoaaGreatDoor
