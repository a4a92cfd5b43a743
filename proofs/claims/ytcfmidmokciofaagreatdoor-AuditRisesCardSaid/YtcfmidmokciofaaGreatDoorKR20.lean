/- Walks: varint.bad, varint.Get, of any text. -/
import Derived.Test.YtcfmidmokciofaaGreatDoorKR19
import Derived.Test.YtcfmidmokciofaaGreatDoorKR04
import Derived.Test.YtcfmidmokciofaaGreatDoorKR08
import Derived.Laws.MakeOwn
namespace Go.Proofs.YtcfmidmokciofaaGreatDoor
open Go.RowKit Go.Gz Go.Shelf

set_option maxRecDepth 100000
/-- a scan's cells -/
def ScB (w : World) (B : Nat) (s : Bs) (a : Nat) (E : Int) : Prop := w.heap[B]? = some (.cells #[.string ⟨s.toArray⟩, .int .i64 (a : Int), .int .i64 E] 152 (0, 0))
theorem and7 : ∀ b : Nat, b < 256 → bits BinOp.and IntKind.u8 (b : Int) 127 = ((b % 128 : Nat) : Int) := by decide +kernel
theorem or7 (x b k : Nat) (hx : x < 128 ^ k) (hb : b < 128) (hk : k ≤ 9) (h9 : k = 9 → b ≤ 1) : bits BinOp.or IntKind.u64 (x : Int) (IntKind.u64.wrap ((b : Int) * 2 ^ (7 * k))) = ((x + b * 128 ^ k : Nat) : Int) := by
  have e : (128 : Nat) ^ k = 2 ^ (7 * k) := by rw [Nat.pow_mul]
  have hm : b * 2 ^ (7 * k) ≤ 9223372036854775808 := by
    by_cases h : k = 9
    · subst h;have := h9 rfl;have h1 : b * 2 ^ (7 * 9) ≤ 1 * 2 ^ (7 * 9) := Nat.mul_le_mul_right _ this;have h2 : (2 : Nat) ^ (7 * 9) = 9223372036854775808 := by decide
      omega
    · have hp : (2 : Nat) ^ (7 * k) ≤ 2 ^ 56 := Nat.pow_le_pow_right (by decide) (by omega);have := Nat.mul_le_mul (show b ≤ 127 by omega) hp;omega
  have hx2 : x < 9223372036854775808 := by
    have hp : (128 : Nat) ^ k ≤ 128 ^ 9 := Nat.pow_le_pow_right (by decide) hk;have h2 : (128 : Nat) ^ 9 = 9223372036854775808 := by decide
    omega
  rw [e] at hx ⊢;have e2 : (b : Int) * 2 ^ (7 * k) = ((b * 2 ^ (7 * k) : Nat) : Int) := by simp
  rw [e2, IntWalk.u64_in _ (by omega), bits_or_u64_nat _ _ (by omega) (by omega)];have h3 := Nat.shiftLeft_add_eq_or_of_lt hx b;rw [Nat.shiftLeft_eq] at h3;rw [Nat.or_comm, ← h3, Nat.add_comm]
theorem or7m (x b k : Nat) (hx : x < 128 ^ k) (hk : k ≤ 8) : bits BinOp.or IntKind.u64 (x : Int) (IntKind.u64.wrap ((b : Int) % 128 * 2 ^ (7 * k))) = ((x + b % 128 * 128 ^ k : Nat) : Int) := by
  have := or7 x (b % 128) k hx (by omega) (by omega) (by omega);rw [show ((b % 128 : Nat) : Int) = (b : Int) % 128 by omega] at this;exact this
def BadE (w : World) (s : Bs) (a : Nat) (E : Int) (e : Ending) (w' : World) : Prop := e = .returned (.tuple #[.int .u64 0, .agg #[.string ⟨s.toArray⟩, .int .i64 (a : Int), .int .i64 E]]) ∧ Up w w'
set_option maxHeartbeats 4000000 in
theorem vbad_any (s : Bs) (a : Nat) (E0 E : Int) (w : World) :
    Calls Tryz.prog 180 #[.agg #[.string ⟨s.toArray⟩, .int .i64 (a : Int), .int .i64 E0], .int .i64 E] w (BadE w s a E) := by
  have g1 := ((Up.refl _).alloc (.cells #[.string ⟨#[]⟩, .int .i64 0, .int .i64 0] 152)).obj (heap_alloc_new w (.cells #[.string ⟨s.toArray⟩, .int .i64 (a : Int), .int .i64 E0] 152));have g2 := heap_alloc_new (w.alloc (.cells #[.string ⟨s.toArray⟩, .int .i64 (a : Int), .int .i64 E0] 152)) (.cells #[.string ⟨#[]⟩, .int .i64 0, .int .i64 0] 152);rw [World.size_alloc] at g2;have hu := ((Up.refl w).alloc (.cells #[.string ⟨s.toArray⟩, .int .i64 (a : Int), .int .i64 E0] 152)).alloc (.cells #[.string ⟨#[]⟩, .int .i64 0, .int .i64 0] 152);obtain ⟨W0, hW⟩ : ∃ y, (w.alloc (.cells #[.string ⟨s.toArray⟩, .int .i64 (a : Int), .int .i64 E0] 152)).alloc (.cells #[.string ⟨#[]⟩, .int .i64 0, .int .i64 0] 152) = y := ⟨_, rfl⟩;rw [hW] at g1 g2 hu;have G1 := Lib.hid g1;have G2 := Lib.hid g2;have HU := Lib.hid hu;clear g1 g2 hu;go_enter Tryz.func180, Tryz.ntmps180;have p2 := blkc G1.out 2 _ rfl;have q2 := blkf G1.out 2;have H1 := heap_setCell_same W0 w.heap.size 2 _ _ (.int .i64 E) G1.out;have H2 : (W0.setCell ⟨w.heap.size, 2, none⟩ (.int .i64 E)).heap[w.heap.size + 1]? = _ := (heap_setCell_other W0 ⟨w.heap.size, 2, none⟩ (w.heap.size + 1) (.int .i64 E) (by simp)).trans G2.out;have d0 := blkc H1 0 (.string ⟨s.toArray⟩) rfl;have d1 := blkc H1 1 (.int .i64 (a : Int)) rfl;have d2 := blkc H1 2 (.int .i64 E) rfl;have y0 := blkc H2 0 _ rfl;have y1 := blkc H2 1 _ rfl;have y2 := blkc H2 2 _ rfl;have z0 := blkf H2 0;have z1 := blkf H2 1;have z2 := blkf H2 2;have H2' := Lib.hid H2;have HU2 := Lib.hid (HU.out.set (p := ⟨w.heap.size, 2, none⟩) (Nat.le_refl _) (.int .i64 E));clear H1 H2 G1 G2 HU;go_wp2_with fail;try rw [hW]
  clear p2 q2 hW;obtain ⟨Y, hY⟩ : ∃ y, W0.setCell ⟨w.heap.size, 2, none⟩ (.int .i64 E) = y := ⟨_, rfl⟩;rw [hY] at d0 d1 d2 y0 y1 y2 z0 z1 z2 H2' HU2 ⊢;clear hY;go_region_law (fail)
  all_goals
    go_wp2_with fail;have f0 := heap_setCell_same Y (w.heap.size + 1) 0 _ _ (.string ⟨s.toArray⟩) H2'.out;have f1 := heap_setCell_same _ (w.heap.size + 1) 1 _ _ (.int .i64 (a : Int)) f0;have f2 := heap_setCell_same _ (w.heap.size + 1) 2 _ _ (.int .i64 E) f1;have hu2 := ((HU2.out.set (p := ⟨w.heap.size + 1, 0, none⟩) (by simp) (.string ⟨s.toArray⟩)).set (p := ⟨w.heap.size + 1, 1, none⟩) (by simp) (.int .i64 (a : Int))).set (p := ⟨w.heap.size + 1, 2, none⟩) (by simp) (.int .i64 E);generalize ((Y.setCell ⟨w.heap.size + 1, 0, none⟩ (.string ⟨s.toArray⟩)).setCell ⟨w.heap.size + 1, 1, none⟩ (.int .i64 (a : Int))).setCell ⟨w.heap.size + 1, 2, none⟩ (.int .i64 E) = Z at *;have k0 := blkc f2 0 (.string ⟨s.toArray⟩) rfl;have k1 := blkc f2 1 (.int .i64 (a : Int)) rfl;have k2 := blkc f2 2 (.int .i64 E) rfl;refine bodyPost_ret (v := .tuple #[.int .u64 0, .agg #[.string ⟨s.toArray⟩, .int .i64 (a : Int), .int .i64 E]]) (by simp [results, Tryz.results180, go_sem, k0, k1, k2]) rfl ?_;exact ⟨rfl, hu2.drew⟩

theorem get_res (w y Y : World) (s : Bs) (a : Nat) (X E : Int) (tmps : Array Value) (h2 : tmps.getD 2 undef = .int .u64 X) (h3 : tmps.getD 3 undef = .pointer (some ⟨w.heap.size + 1, 0, none⟩)) (hg : y.heap[w.heap.size + 1]? = some (.cells #[.string ⟨#[]⟩, .int .i64 0, .int .i64 0] 152 (0, 0)))
    (hY : Y.heap = (((y.setCell ⟨w.heap.size + 1, 0, none⟩ (.string ⟨s.toArray⟩)).setCell ⟨w.heap.size + 1, 1, none⟩ (.int .i64 (a : Int))).setCell ⟨w.heap.size + 1, 2, none⟩ (.int .i64 E)).heap) :
    (results Tryz.f128 tmps).run Tryz.prog Y = .ok (.tuple #[.int .u64 X, .agg #[.string ⟨s.toArray⟩, .int .i64 (a : Int), .int .i64 E]]) Y := by
  have f0 := heap_setCell_same y (w.heap.size + 1) 0 _ _ (.string ⟨s.toArray⟩) hg;have f1 := heap_setCell_same _ (w.heap.size + 1) 1 _ _ (.int .i64 (a : Int)) f0;have f2 := heap_setCell_same _ (w.heap.size + 1) 2 _ _ (.int .i64 E) f1;rw [← hY] at f2;have k0 := blkc f2 0 (.string ⟨s.toArray⟩) rfl;have k1 := blkc f2 1 (.int .i64 (a : Int)) rfl;have k2 := blkc f2 2 (.int .i64 E) rfl;have h2' : tmps[2]?.getD undef = .int .u64 X := by simpa using h2
  have h3' : tmps[3]?.getD undef = .pointer (some ⟨w.heap.size + 1, 0, none⟩) := by simpa using h3
  simp [results, Tryz.results128, go_sem, h2', h3', k0, k1, k2]
theorem get_up (w y Y : World) (s : Bs) (a : Nat) (E : Int) (hu : Up w y)
    (hY : Y = ((y.setCell ⟨w.heap.size + 1, 0, none⟩ (.string ⟨s.toArray⟩)).setCell ⟨w.heap.size + 1, 1, none⟩ (.int .i64 (a : Int))).setCell ⟨w.heap.size + 1, 2, none⟩ (.int .i64 E)) : Up w Y := by
  rw [hY];exact ((hu.set (p := ⟨w.heap.size + 1, 0, none⟩) (by simp) (.string ⟨s.toArray⟩)).set (p := ⟨w.heap.size + 1, 1, none⟩) (by simp) (.int .i64 (a : Int))).set (p := ⟨w.heap.size + 1, 2, none⟩) (by simp) (.int .i64 E)

def GetE (w : World) (s : Bs) (a : Nat) (r : Int × Nat × Nat) (e : Ending) (w' : World) : Prop := e = .returned (.tuple #[.int .u64 (r.2.1 : Int), .agg #[.string ⟨s.toArray⟩, .int .i64 ((a + r.2.2 : Nat) : Int), .int .i64 r.1]]) ∧ Up w w'
def GRel (T : Bs) (r : Int × Nat × Nat) (gk : Nat) (x n wh i : Value) : Prop := ∃ (k : Nat) (X : Int), k + gk = T.length ∧ x = .int .u64 X ∧ n = .int .i64 (k : Int) ∧ wh = .bool false ∧ i = .int .i64 (k : Int) ∧ ((k ≤ 9 ∧ ∃ Y : Nat, X = (Y : Int) ∧ Y < 128 ^ k ∧ vGo k Y (T.drop k) = r) ∨ (k = 10 ∧ r = (11, 0, 0)))
theorem vGo_ten (x : Nat) (l : Bs) : vGo 10 x l = (11, 0, 0) := by
  cases l <;> simp [vGo]
set_option maxHeartbeats 8000000 in
theorem get_any (s : Bs) (hs : s.length ≤ 1000000000) (a : Nat) (ha : a ≤ s.length) (w : World) :
    Calls Tryz.prog 128 #[.agg #[.string ⟨s.toArray⟩, .int .i64 (a : Int), .int .i64 0]] w (GetE w s a (getV (s.drop a))) := by
  have BD := fun E w => Lib.hid (vbad_any s a 0 E w);have x0 := drop_mk s a;have hTl : (s.drop a).length = s.length - a := List.length_drop;obtain ⟨r, hr⟩ : ∃ r, getV (s.drop a) = r := ⟨_, rfl⟩;rw [hr];generalize s.drop a = T at *;have hTb : T.length ≤ 1000000000 := by omega
  have t0 : decide ((a : Int) < 0) = false := decide_eq_false (by omega);have t1 : decide ((s.length : Int) < (a : Int)) = false := decide_eq_false (by omega);have t1' : decide (s.length < a) = false := decide_eq_false (by omega);have t2 : (0 : Int) ≤ (a : Int) := by omega
  have t3 : (a : Int) ≤ (s.length : Int) := by omega
  have g1 := ((Up.refl _).alloc (.cells #[.string ⟨#[]⟩, .int .i64 0, .int .i64 0] 152)).obj (heap_alloc_new w (.cells #[.string ⟨s.toArray⟩, .int .i64 (a : Int), .int .i64 0] 152));have g2 := heap_alloc_new (w.alloc (.cells #[.string ⟨s.toArray⟩, .int .i64 (a : Int), .int .i64 0] 152)) (.cells #[.string ⟨#[]⟩, .int .i64 0, .int .i64 0] 152);rw [World.size_alloc] at g2;have hu := ((Up.refl w).alloc (.cells #[.string ⟨s.toArray⟩, .int .i64 (a : Int), .int .i64 0] 152)).alloc (.cells #[.string ⟨#[]⟩, .int .i64 0, .int .i64 0] 152);obtain ⟨W0, hW⟩ : ∃ y, (w.alloc (.cells #[.string ⟨s.toArray⟩, .int .i64 (a : Int), .int .i64 0] 152)).alloc (.cells #[.string ⟨#[]⟩, .int .i64 0, .int .i64 0] 152) = y := ⟨_, rfl⟩;rw [hW] at g1 g2 hu;have G1 := Lib.hid g1;have G2 := Lib.hid g2;have HU := Lib.hid hu;have d0 := blkc g1 0 (.string ⟨s.toArray⟩) rfl;have d1 := blkc g1 1 (.int .i64 (a : Int)) rfl;have d2 := blkc g1 2 (.int .i64 0) rfl;have q1 := blkf g1 1;clear g1 g2 hu hTl;go_enter Tryz.func128, Tryz.ntmps128;go_wp2_with fail;go_step3
  go_wp2_with fail;go_step3
  go_wp2_with fail;have hab : a ≤ 1000000000 := by omega
  clear x0 hW t0 t1 t1' t2 t3 ha hs;go_loopg [4, 5, 6, 36] T.length (fun gk x n wh i wr => GRel T r gk x n wh i ∧ wr = W0)
  case atStart => exact ⟨⟨0, 0, by omega, rfl, rfl, rfl, rfl, .inl ⟨by omega, 0, rfl, by simp, hr⟩⟩, rfl⟩
  case round =>
    obtain ⟨⟨k, X, hg, rfl, rfl, rfl, rfl, hcase⟩, hwr⟩ := hrel;subst hwr;clear hr;have c0 : (0 : Int) ≤ (k : Int) := by omega
    have b3 : IntKind.i64.wrap (7 * (k : Int)) = 7 * (k : Int) := IntWalk.i64_in _ (by omega);have b4 : (0 : Int) ≤ 7 * (k : Int) := by omega
    rcases hcase with ⟨hk9, Y, rfl, hY, hv⟩ | ⟨hk10, hr⟩
    · have e10 : ((k : Int) == 10) = false := by rw [beq_eq_false_iff_ne]; omega
      by_cases hlt : k < T.length
      · obtain ⟨m, rfl⟩ : ∃ m, gk = m + 1 := ⟨gk - 1, by omega⟩;obtain ⟨b, hb⟩ : ∃ b, (⟨T.toArray⟩ : ByteArray)[k]'(by rw [size_mk]; exact hlt) = b := ⟨_, rfl⟩;have hbk : T[k] = b := hb;have hbl := b.toNat_lt;rw [List.drop_eq_getElem_cons hlt, hbk] at hv;unfold vGo at hv;rw [if_neg (by omega)] at hv;have c1 : (k : Int) < (T.length : Int) := by omega
        by_cases hs128 : b.toNat < 128
        · rw [if_pos hs128] at hv;have c2 : (b.toNat : Int) < 128 := by omega
          by_cases h9 : k = 9
          · have e9 : ((k : Int) + 1 == 10) = true := by rw [beq_iff_eq]; omega
            have c5 : (1 : Int) < (k : Int) + 1 := by omega
            by_cases hb1 : 1 < b.toNat
            · rw [if_pos ⟨h9, hb1⟩] at hv;subst hv;have c4 : (1 : Int) < (b.toNat : Int) := by omega
              clear hbk hY h9;go_wp2_with fail;refine (BD 11 _).out.mono ?_;rintro e w1 ⟨rfl, hu⟩;have g := hu.obj G2.out;have y0 := blkc g 0 _ rfl;have y1 := blkc g 1 _ rfl;have y2 := blkc g 2 _ rfl;have z0 := blkf g 0;have z1 := blkf g 1;have z2 := blkf g 2;have HG := Lib.hid g;have HU3 := Lib.hid (HU.out.trans hu);clear hu g d0 d1 d2 q1;go_wp2_with fail;refine bodyPost_ret (get_res w w1 _ s a 0 11 _ ?_ ?_ HG.out rfl) rfl ⟨rfl, get_up w w1 _ s a 11 HU3.out rfl⟩
              · rfl
              · rfl
            · rw [if_neg (fun h => hb1 h.2)] at hv;have c4 : ¬ (1 : Int) < (b.toNat : Int) := by omega
              by_cases hb0 : b.toNat = 0
              · rw [if_pos ⟨by omega, hb0⟩] at hv;subst hv;have e0 : ((b.toNat : Int) == 0) = true := by rw [beq_iff_eq]; omega
                clear hbk hY hb0 h9;go_wp2_with fail;refine (BD 4 _).out.mono ?_;rintro e w1 ⟨rfl, hu⟩;have g := hu.obj G2.out;have y0 := blkc g 0 _ rfl;have y1 := blkc g 1 _ rfl;have y2 := blkc g 2 _ rfl;have z0 := blkf g 0;have z1 := blkf g 1;have z2 := blkf g 2;have HG := Lib.hid g;have HU3 := Lib.hid (HU.out.trans hu);clear hu g d0 d1 d2 q1;go_wp2_with fail;refine bodyPost_ret (get_res w w1 _ s a 0 4 _ ?_ ?_ HG.out rfl) rfl ⟨rfl, get_up w w1 _ s a 4 HU3.out rfl⟩
                · rfl
                · rfl
              · rw [if_neg (fun h => hb0 h.2)] at hv;have e0 : ((b.toNat : Int) == 0) = false := by rw [beq_eq_false_iff_ne]; omega
                have ho := or7 Y b.toNat k hY hs128 hk9 (fun _ => by omega);clear h9;generalize Y + b.toNat * 128 ^ k = Z at *;subst hv;obtain ⟨m2, hm2⟩ : ∃ m, a + (k + 1) = m := ⟨_, rfl⟩;have e26 : (a : Int) + ((k : Int) + 1) = (m2 : Int) := by omega
                have H1 := heap_setCell_same wr w.heap.size 1 _ _ (.int .i64 (m2 : Int)) G1.out;have H2 := (heap_setCell_other wr ⟨w.heap.size, 1, none⟩ (w.heap.size + 1) (.int .i64 (m2 : Int)) (by simp)).trans G2.out;have v0 := blkc H1 0 (.string ⟨s.toArray⟩) rfl;have v1 := blkc H1 1 (.int .i64 (m2 : Int)) rfl;have v2 := blkc H1 2 (.int .i64 0) rfl;have y0 := blkc H2 0 _ rfl;have y1 := blkc H2 1 _ rfl;have y2 := blkc H2 2 _ rfl;have z0 := blkf H2 0;have z1 := blkf H2 1;have z2 := blkf H2 2;have HG := Lib.hid H2;have HU3 := Lib.hid (HU.out.set (p := ⟨w.heap.size, 1, none⟩) (Nat.le_refl _) (.int .i64 (m2 : Int)));clear H1 H2 hbk hY;go_wp2_with fail;try rw [e26]
                obtain ⟨V, hV⟩ : ∃ y, wr.setCell ⟨w.heap.size, 1, none⟩ (.int .i64 (m2 : Int)) = y := ⟨_, rfl⟩;rw [hV] at v0 v1 v2 y0 y1 y2 z0 z1 z2 HG HU3 ⊢;clear hV d0 d1 d2 q1;go_region_law (fail)
                all_goals
                  go_wp2_with fail;refine bodyPost_ret (get_res w V _ s m2 Z 0 _ ?_ ?_ HG.out rfl) rfl ⟨by rw [← hm2], (get_up w V _ s m2 0 HU3.out rfl).drew⟩
                  · rfl
                  · rfl
          · have e9 : ((k : Int) + 1 == 10) = false := by rw [beq_eq_false_iff_ne]; omega
            rw [if_neg (fun h => h9 h.1)] at hv;by_cases hk0 : 0 < k
            · have c5 : (1 : Int) < (k : Int) + 1 := by omega
              by_cases hb0 : b.toNat = 0
              · rw [if_pos ⟨hk0, hb0⟩] at hv;subst hv;have e0 : ((b.toNat : Int) == 0) = true := by rw [beq_iff_eq]; omega
                clear hbk hY hb0;go_wp2_with fail;refine (BD 4 _).out.mono ?_;rintro e w1 ⟨rfl, hu⟩;have g := hu.obj G2.out;have y0 := blkc g 0 _ rfl;have y1 := blkc g 1 _ rfl;have y2 := blkc g 2 _ rfl;have z0 := blkf g 0;have z1 := blkf g 1;have z2 := blkf g 2;have HG := Lib.hid g;have HU3 := Lib.hid (HU.out.trans hu);clear hu g d0 d1 d2 q1;go_wp2_with fail;refine bodyPost_ret (get_res w w1 _ s a 0 4 _ ?_ ?_ HG.out rfl) rfl ⟨rfl, get_up w w1 _ s a 4 HU3.out rfl⟩
                · rfl
                · rfl
              · rw [if_neg (fun h => hb0 h.2)] at hv;have e0 : ((b.toNat : Int) == 0) = false := by rw [beq_eq_false_iff_ne]; omega
                have ho := or7 Y b.toNat k hY hs128 hk9 (fun h => absurd h h9);generalize Y + b.toNat * 128 ^ k = Z at *;subst hv;obtain ⟨m2, hm2⟩ : ∃ m, a + (k + 1) = m := ⟨_, rfl⟩;have e26 : (a : Int) + ((k : Int) + 1) = (m2 : Int) := by omega
                have H1 := heap_setCell_same wr w.heap.size 1 _ _ (.int .i64 (m2 : Int)) G1.out;have H2 := (heap_setCell_other wr ⟨w.heap.size, 1, none⟩ (w.heap.size + 1) (.int .i64 (m2 : Int)) (by simp)).trans G2.out;have v0 := blkc H1 0 (.string ⟨s.toArray⟩) rfl;have v1 := blkc H1 1 (.int .i64 (m2 : Int)) rfl;have v2 := blkc H1 2 (.int .i64 0) rfl;have y0 := blkc H2 0 _ rfl;have y1 := blkc H2 1 _ rfl;have y2 := blkc H2 2 _ rfl;have z0 := blkf H2 0;have z1 := blkf H2 1;have z2 := blkf H2 2;have HG := Lib.hid H2;have HU3 := Lib.hid (HU.out.set (p := ⟨w.heap.size, 1, none⟩) (Nat.le_refl _) (.int .i64 (m2 : Int)));clear H1 H2 hbk hY;go_wp2_with fail;try rw [e26]
                obtain ⟨V, hV⟩ : ∃ y, wr.setCell ⟨w.heap.size, 1, none⟩ (.int .i64 (m2 : Int)) = y := ⟨_, rfl⟩;rw [hV] at v0 v1 v2 y0 y1 y2 z0 z1 z2 HG HU3 ⊢;clear hV d0 d1 d2 q1;go_region_law (fail)
                all_goals
                  go_wp2_with fail;refine bodyPost_ret (get_res w V _ s m2 Z 0 _ ?_ ?_ HG.out rfl) rfl ⟨by rw [← hm2], (get_up w V _ s m2 0 HU3.out rfl).drew⟩
                  · rfl
                  · rfl
            · have c5 : ¬ (1 : Int) < (k : Int) + 1 := by omega
              rw [if_neg (fun h => hk0 h.1)] at hv;have ho := or7 Y b.toNat k hY hs128 hk9 (fun h => absurd h h9);generalize Y + b.toNat * 128 ^ k = Z at *;subst hv;obtain ⟨m2, hm2⟩ : ∃ m, a + (k + 1) = m := ⟨_, rfl⟩;have e26 : (a : Int) + ((k : Int) + 1) = (m2 : Int) := by omega
              have H1 := heap_setCell_same wr w.heap.size 1 _ _ (.int .i64 (m2 : Int)) G1.out;have H2 := (heap_setCell_other wr ⟨w.heap.size, 1, none⟩ (w.heap.size + 1) (.int .i64 (m2 : Int)) (by simp)).trans G2.out;have v0 := blkc H1 0 (.string ⟨s.toArray⟩) rfl;have v1 := blkc H1 1 (.int .i64 (m2 : Int)) rfl;have v2 := blkc H1 2 (.int .i64 0) rfl;have y0 := blkc H2 0 _ rfl;have y1 := blkc H2 1 _ rfl;have y2 := blkc H2 2 _ rfl;have z0 := blkf H2 0;have z1 := blkf H2 1;have z2 := blkf H2 2;have HG := Lib.hid H2;have HU3 := Lib.hid (HU.out.set (p := ⟨w.heap.size, 1, none⟩) (Nat.le_refl _) (.int .i64 (m2 : Int)));clear H1 H2 hbk hY;go_wp2_with fail;try rw [e26]
              obtain ⟨V, hV⟩ : ∃ y, wr.setCell ⟨w.heap.size, 1, none⟩ (.int .i64 (m2 : Int)) = y := ⟨_, rfl⟩;rw [hV] at v0 v1 v2 y0 y1 y2 z0 z1 z2 HG HU3 ⊢;clear hV d0 d1 d2 q1;go_region_law (fail)
              all_goals
                go_wp2_with fail;refine bodyPost_ret (get_res w V _ s m2 Z 0 _ ?_ ?_ HG.out rfl) rfl ⟨by rw [← hm2], (get_up w V _ s m2 0 HU3.out rfl).drew⟩
                · rfl
                · rfl
        · rw [if_neg hs128] at hv;have c2 : ¬ (b.toNat : Int) < 128 := by omega
          have ha := and7 b.toNat hbl;have hbm : b.toNat - 128 = b.toNat % 128 := by omega
          rw [hbm] at hv;by_cases h9 : k = 9
          · have hr : r = (11, 0, 0) := by rw [← hv, h9]; exact vGo_ten _ _
            have HK := Lib.hid h9;clear hbk hY hv h9;go_wp2_with fail;go_roundg m
            case measure => omega
            case rel => exact ⟨⟨k + 1, bits BinOp.or IntKind.u64 (Y : Int) (IntKind.u64.wrap ((b.toNat : Int) % 128 * 2 ^ (7 * k))), by omega, rfl, by go_num, rfl, by go_num, .inr ⟨by have := HK.out; omega, hr⟩⟩, rfl⟩
          · have ho := or7m Y b.toNat k hY (by omega);have hY2 : Y + b.toNat % 128 * 128 ^ k < 128 ^ (k + 1) := by
              have h1 : (b.toNat % 128) * 128 ^ k ≤ 127 * 128 ^ k := Nat.mul_le_mul_right _ (by omega);rw [Nat.pow_succ]; omega
            generalize Y + b.toNat % 128 * 128 ^ k = Z at *;have HV := Lib.hid hv;have HY := Lib.hid hY2;clear hbk hY hv hY2;go_wp2_with fail;go_roundg m
            case measure => omega
            case rel => exact ⟨⟨k + 1, (Z : Int), by omega, rfl, by go_num, rfl, by go_num, .inl ⟨by omega, Z, rfl, HY.out, HV.out⟩⟩, rfl⟩
      · obtain rfl : gk = 0 := by omega
        have c1 : ¬ (k : Int) < (T.length : Int) := by omega
        rw [List.drop_eq_nil_of_le (by omega)] at hv;unfold vGo at hv;rw [if_neg (by omega)] at hv;subst hv;clear hY;go_wp2_with fail;refine (BD 3 _).out.mono ?_;rintro e w1 ⟨rfl, hu⟩;have g := hu.obj G2.out;have y0 := blkc g 0 _ rfl;have y1 := blkc g 1 _ rfl;have y2 := blkc g 2 _ rfl;have z0 := blkf g 0;have z1 := blkf g 1;have z2 := blkf g 2;have HG := Lib.hid g;have HU3 := Lib.hid (HU.out.trans hu);clear hu g d0 d1 d2 q1;go_wp2_with fail;refine bodyPost_ret (get_res w w1 _ s a 0 3 _ ?_ ?_ HG.out rfl) rfl ⟨rfl, get_up w w1 _ s a 3 HU3.out rfl⟩
        · rfl
        · rfl
    · have e10 : ((k : Int) == 10) = true := by rw [beq_iff_eq]; omega
      subst hr;clear hk10;by_cases hlt : k < T.length
      focus
        obtain ⟨b, hb⟩ : ∃ b, (⟨T.toArray⟩ : ByteArray)[k]'(by rw [size_mk]; exact hlt) = b := ⟨_, rfl⟩;have c1 : (k : Int) < (T.length : Int) := by omega
      rotate_left;focus
        obtain rfl : gk = 0 := by omega
        have c1 : ¬ (k : Int) < (T.length : Int) := by omega
      rotate_left;all_goals
        go_wp2_with fail;refine (BD 11 _).out.mono ?_;rintro e w1 ⟨rfl, hu⟩;have g := hu.obj G2.out;have y0 := blkc g 0 _ rfl;have y1 := blkc g 1 _ rfl;have y2 := blkc g 2 _ rfl;have z0 := blkf g 0;have z1 := blkf g 1;have z2 := blkf g 2;have HG := Lib.hid g;have HU3 := Lib.hid (HU.out.trans hu);clear hu g d0 d1 d2 q1;go_wp2_with fail;refine bodyPost_ret (get_res w w1 _ s a 0 11 _ ?_ ?_ HG.out rfl) rfl ⟨rfl, get_up w w1 _ s a 11 HU3.out rfl⟩
        · rfl
        · rfl
end Go.Proofs.YtcfmidmokciofaaGreatDoor
/- Walk: dirs.set. -/
namespace Go.Proofs.YtcfmidmokciofaaGreatDoor
open Go.RowKit Go.Gz Go.Shelf

set_option maxRecDepth 100000
theorem entV_set (L : Ents) : ∀ (i : Nat) (hi : i < L.length) (e' : Ent) (f : Nat) (_ : f < 4) (v : Value) (_ : entC e' = (entC L[i]).set f v), (entV L).set (i * 4 + f) v = entV (L.set i e') := by
  induction L with
  | nil => intro i hi; simp at hi
  | cons x r ih =>
    intro i hi e' f hf v hv;cases i with
    | zero =>
      have e1 : entV (x :: r) = entC x ++ entV r := rfl;have e2 : entV ((x :: r).set 0 e') = entC e' ++ entV r := rfl;rw [e1, e2, hv, List.set_append_left _ _ (by simp [entC]; omega)];simp
    | succ i =>
      have e1 : entV (x :: r) = entC x ++ entV r := rfl;have e2 : entV ((x :: r).set (i + 1) e') = entC x ++ entV (r.set i e') := rfl;have hl : (entC x).length = 4 := rfl;rw [e1, e2, List.set_append_right _ _ (by rw [hl]; omega), hl, show (i + 1) * 4 + f - 4 = i * 4 + f by omega, ih i (by simpa using hi) e' f hf v (by simpa using hv)]
/-- a row of entries that fills its block -/
def EB (w : World) (B : Nat) (L : Ents) : Prop := w.heap[B]? = some (.cells (entV L).toArray 72 (0, 0))
theorem EB.cell {w : World} {B : Nat} {L : Ents} (h : EB w B L) {i : Nat} (hi : i < L.length) : w.cell? ⟨B, i * 4, none⟩ = some (.int .u64 (L[i].id : Int)) ∧ w.cell? ⟨B, i * 4 + 1, none⟩ = some (.int .u64 (L[i].off : Int)) ∧ w.cell? ⟨B, i * 4 + 2, none⟩ = some (.int .u32 (L[i].len : Int)) ∧ w.cell? ⟨B, i * 4 + 3, none⟩ = some (.int .u32 (L[i].run : Int)) ∧ ∀ k, w.frozen? ⟨B, k, none⟩ = false := by
  obtain ⟨g0, g1, g2, g3⟩ := entV_get L i hi;exact ⟨blkc h _ _ (by simpa using g0), blkc h _ _ (by simpa using g1), blkc h _ _ (by simpa using g2), blkc h _ _ (by simpa using g3), fun k => blkf h k⟩
theorem EB.set {w : World} {B : Nat} {L : Ents} (h : EB w B L) {i : Nat} (hi : i < L.length) (e' : Ent) (f : Nat) (hf : f < 4) (v : Value) (hv : entC e' = (entC L[i]).set f v) : EB (w.setCell ⟨B, i * 4 + f, none⟩ v) B (L.set i e') := by
  have := heap_setCell_same w B (i * 4 + f) _ _ v h;unfold EB;rw [this, ← entV_set L i hi e' f hf v hv];simp
/-- what setting a field leaves -/
def SetE (w : World) (B : Nat) (L : Ents) (i : Nat) (r : Int × Ent) (en : Ending) (w' : World) : Prop := en = .returned (.int .i64 r.1) ∧ RK B w w' ∧ (r.1 = 0 → EB w' B (L.set i r.2))
set_option maxHeartbeats 4000000 in
theorem dset0 (i : Nat) (a : Ent) (B : Nat) (L : Ents) (hi : i < L.length) (x : Nat) (w : World) (hb : EB w B L) :
    Calls Tryz.prog 129 #[.int .i64 0, .int .i64 (i : Int), .agg #[.int .u64 (a.id : Int), .int .u64 (a.off : Int), .int .u32 (a.len : Int), .int .u32 (a.run : Int)], .pointer (some ⟨B, i * 4, none⟩), .int .u64 (x : Int)] w (SetE w B L i (setE 0 i a L[i] x)) := by
  have hE : setE 0 i a L[i] x = (if (a.id + x) % 18446744073709551616 < x then 11 else 0, { L[i] with id := (a.id + x) % 18446744073709551616 }) := rfl;rw [hE];obtain ⟨q, hq⟩ : ∃ q, (a.id + x) % 18446744073709551616 = q := ⟨_, rfl⟩;rw [hq];have eq : IntKind.u64.wrap ((a.id : Int) + (x : Int)) = (q : Int) := by rw [IntKind.wrap_u64]; omega
  have hBl : B < w.heap.size := (Array.getElem?_eq_some_iff.1 hb).1;have n4 := new4 w 72 (.int .u64 (a.id : Int)) (.int .u64 (a.off : Int)) (.int .u32 (a.len : Int)) (.int .u32 (a.run : Int));have HB : Hid (EB (w.alloc (.cells #[.int .u64 (a.id : Int), .int .u64 (a.off : Int), .int .u32 (a.len : Int), .int .u32 (a.run : Int)] 72)) B L) := Lib.hid (n4.1.obj hb);have HU := Lib.hid n4.1;obtain ⟨c0, c1, c2, c3, cz⟩ := HB.out.cell hi;have z0 := cz (i * 4);have s0 := EB.set HB.out hi { L[i] with id := q } 0 (by decide) (.int .u64 (q : Int)) rfl;have S0 := Lib.hid s0;have k0 := (EB.cell s0 (i := i) (by simpa using hi)).1;simp only [Nat.add_zero, List.getElem_set_self] at k0;obtain ⟨d0, d1, d2, d3⟩ := n4.2;obtain ⟨W, hW⟩ : ∃ y, w.alloc (.cells #[.int .u64 (a.id : Int), .int .u64 (a.off : Int), .int .u32 (a.len : Int), .int .u32 (a.run : Int)] 72) = y := ⟨_, rfl⟩;rw [hW] at HU c0 z0 k0 S0 d0 d1 d2 d3;clear n4 hb s0 hE hq cz c1 c2 c3 HB;go_enter Tryz.func129, Tryz.ntmps129;by_cases hlt : q < x
  · have t0 : (q : Int) < (x : Int) := by omega
    go_wp2_with fail;go_ret;exact ⟨rfl, ((RK.up HU.out).trans (RK.set B (i * 4) _ _)), fun h => by simp at h⟩
  · have t0 : ¬ (q : Int) < (x : Int) := by omega
    go_wp2_with fail;go_ret;exact ⟨rfl, ((RK.up HU.out).trans (RK.set B (i * 4) _ _)), fun _ => S0.out⟩
set_option maxHeartbeats 4000000 in
theorem dset1 (i : Nat) (a : Ent) (B : Nat) (L : Ents) (hi : i < L.length) (x : Nat) (w : World) (hb : EB w B L) :
    Calls Tryz.prog 129 #[.int .i64 1, .int .i64 (i : Int), .agg #[.int .u64 (a.id : Int), .int .u64 (a.off : Int), .int .u32 (a.len : Int), .int .u32 (a.run : Int)], .pointer (some ⟨B, i * 4, none⟩), .int .u64 (x : Int)] w (SetE w B L i (setE 1 i a L[i] x)) := by
  have hE : setE 1 i a L[i] x = (if 4294967296 ≤ x then (11, L[i]) else (0, { L[i] with run := x })) := rfl;rw [hE];have n4 := new4 w 72 (.int .u64 (a.id : Int)) (.int .u64 (a.off : Int)) (.int .u32 (a.len : Int)) (.int .u32 (a.run : Int));have HB : Hid (EB (w.alloc (.cells #[.int .u64 (a.id : Int), .int .u64 (a.off : Int), .int .u32 (a.len : Int), .int .u32 (a.run : Int)] 72)) B L) := Lib.hid (n4.1.obj hb);have HU := Lib.hid n4.1;obtain ⟨c0, c1, c2, c3, cz⟩ := HB.out.cell hi;have z0 := cz (i * 4 + 3);have S0 := Lib.hid (EB.set HB.out hi { L[i] with run := x } 3 (by decide) (.int .u32 (x : Int)) rfl);obtain ⟨W, hW⟩ : ∃ y, w.alloc (.cells #[.int .u64 (a.id : Int), .int .u64 (a.off : Int), .int .u32 (a.len : Int), .int .u32 (a.run : Int)] 72) = y := ⟨_, rfl⟩;rw [hW] at HU c3 z0 S0;clear n4 hb hE cz HB;go_enter Tryz.func129, Tryz.ntmps129;by_cases hlt : 4294967296 ≤ x
  · have t0 : (4294967296 : Int) ≤ (x : Int) := by omega
    rw [if_pos hlt];go_wp2_with fail;go_ret;exact ⟨rfl, RK.up HU.out, fun h => by simp at h⟩
  · have t0 : ¬ (4294967296 : Int) ≤ (x : Int) := by omega
    have e1 : IntKind.u32.wrap (x : Int) = (x : Int) := by rw [IntKind.wrap_u32]; omega
    rw [if_neg hlt];go_wp2_with fail;go_ret;exact ⟨rfl, ((RK.up HU.out).trans (RK.set B (i * 4 + 3) _ _)), fun _ => S0.out⟩
set_option maxHeartbeats 4000000 in
theorem dset2 (i : Nat) (a : Ent) (B : Nat) (L : Ents) (hi : i < L.length) (x : Nat) (w : World) (hb : EB w B L) :
    Calls Tryz.prog 129 #[.int .i64 2, .int .i64 (i : Int), .agg #[.int .u64 (a.id : Int), .int .u64 (a.off : Int), .int .u32 (a.len : Int), .int .u32 (a.run : Int)], .pointer (some ⟨B, i * 4, none⟩), .int .u64 (x : Int)] w (SetE w B L i (setE 2 i a L[i] x)) := by
  have hE : setE 2 i a L[i] x = (if 4294967296 ≤ x then (11, L[i]) else (0, { L[i] with len := x })) := rfl;rw [hE];have n4 := new4 w 72 (.int .u64 (a.id : Int)) (.int .u64 (a.off : Int)) (.int .u32 (a.len : Int)) (.int .u32 (a.run : Int));have HB : Hid (EB (w.alloc (.cells #[.int .u64 (a.id : Int), .int .u64 (a.off : Int), .int .u32 (a.len : Int), .int .u32 (a.run : Int)] 72)) B L) := Lib.hid (n4.1.obj hb);have HU := Lib.hid n4.1;obtain ⟨c0, c1, c2, c3, cz⟩ := HB.out.cell hi;have z0 := cz (i * 4 + 2);have S0 := Lib.hid (EB.set HB.out hi { L[i] with len := x } 2 (by decide) (.int .u32 (x : Int)) rfl);obtain ⟨W, hW⟩ : ∃ y, w.alloc (.cells #[.int .u64 (a.id : Int), .int .u64 (a.off : Int), .int .u32 (a.len : Int), .int .u32 (a.run : Int)] 72) = y := ⟨_, rfl⟩;rw [hW] at HU c2 z0 S0;clear n4 hb hE cz HB;go_enter Tryz.func129, Tryz.ntmps129;by_cases hlt : 4294967296 ≤ x
  · have t0 : (4294967296 : Int) ≤ (x : Int) := by omega
    rw [if_pos hlt];go_wp2_with fail;go_ret;exact ⟨rfl, RK.up HU.out, fun h => by simp at h⟩
  · have t0 : ¬ (4294967296 : Int) ≤ (x : Int) := by omega
    have e1 : IntKind.u32.wrap (x : Int) = (x : Int) := by rw [IntKind.wrap_u32]; omega
    rw [if_neg hlt];go_wp2_with fail;go_ret;exact ⟨rfl, ((RK.up HU.out).trans (RK.set B (i * 4 + 2) _ _)), fun _ => S0.out⟩
theorem nextW_any (e : Ent) (w : World) :
    Calls Tryz.prog 181 #[.agg #[.int .u64 (e.id : Int), .int .u64 (e.off : Int), .int .u32 (e.len : Int), .int .u32 (e.run : Int)]] w fun en w' => en = .returned (.int .u64 ((nextE e : Nat) : Int)) ∧ Up w w' := by
  obtain ⟨id, off, len, run⟩ := e;obtain ⟨q, hq⟩ : ∃ q, nextE ⟨id, off, len, run⟩ = q := ⟨_, rfl⟩;rw [hq];unfold nextE at hq;simp only at hq ⊢;have e1 : IntKind.u64.wrap (len : Int) = ((len % 18446744073709551616 : Nat) : Int) := by rw [IntKind.wrap_u64]; omega
  have e2 : IntKind.u64.wrap ((off : Int) + ((len % 18446744073709551616 : Nat) : Int)) = (q : Int) := by rw [IntKind.wrap_u64]; omega
  have n4 := new4 w 72 (.int .u64 (id : Int)) (.int .u64 (off : Int)) (.int .u32 (len : Int)) (.int .u32 (run : Int));obtain ⟨nu, d0, d1, d2, d3⟩ := n4;have HU := Lib.hid nu;clear nu hq;generalize len % 18446744073709551616 = l2 at *;go_enter Tryz.func181, Tryz.ntmps181;go_wp2_with fail;go_ret;exact ⟨rfl, HU.out⟩
/-- the last column -/
theorem RK.drew' {R : Nat} {w w' : World} (h : RK R w w') : RK R w w'.drew := h.trans (RK.drew R w')
set_option maxHeartbeats 8000000 in
theorem dset3 (i : Nat) (a : Ent) (B : Nat) (L : Ents) (hi : i < L.length) (x : Nat) (hx : x < 18446744073709551616) (w : World) (hb : EB w B L) :
    Calls Tryz.prog 129 #[.int .i64 3, .int .i64 (i : Int), .agg #[.int .u64 (a.id : Int), .int .u64 (a.off : Int), .int .u32 (a.len : Int), .int .u32 (a.run : Int)], .pointer (some ⟨B, i * 4, none⟩), .int .u64 (x : Int)] w (SetE w B L i (setE 3 i a L[i] x)) := by
  have hE : setE 3 i a L[i] x = (if i = 0 ∧ x = 0 ∨ 0 < i ∧ 0 < x ∧ (x + 18446744073709551615) % 18446744073709551616 = nextE a then (4, L[i]) else (0, { L[i] with off := if x = 0 then nextE a else (x + 18446744073709551615) % 18446744073709551616 })) := rfl;rw [hE];have NX := fun w => Lib.hid (nextW_any a w);obtain ⟨y, hy⟩ : ∃ y, (x + 18446744073709551615) % 18446744073709551616 = y := ⟨_, rfl⟩;rw [hy];have e1 : IntKind.u64.wrap ((x : Int) - 1) = (y : Int) := by rw [IntKind.wrap_u64]; omega
  have hBl : B < w.heap.size := (Array.getElem?_eq_some_iff.1 hb).1;have n4 := new4 w 72 (.int .u64 (a.id : Int)) (.int .u64 (a.off : Int)) (.int .u32 (a.len : Int)) (.int .u32 (a.run : Int));have HB : Hid (EB (w.alloc (.cells #[.int .u64 (a.id : Int), .int .u64 (a.off : Int), .int .u32 (a.len : Int), .int .u32 (a.run : Int)] 72)) B L) := Lib.hid (n4.1.obj hb);have HU := Lib.hid n4.1;have bx := heap_alloc_new w (.cells #[.int .u64 (a.id : Int), .int .u64 (a.off : Int), .int .u32 (a.len : Int), .int .u32 (a.run : Int)] 72);obtain ⟨c0, c1, c2, c3, cz⟩ := HB.out.cell hi;have z1 := cz (i * 4 + 1);obtain ⟨W, hW⟩ : ∃ y, w.alloc (.cells #[.int .u64 (a.id : Int), .int .u64 (a.off : Int), .int .u32 (a.len : Int), .int .u32 (a.run : Int)] 72) = y := ⟨_, rfl⟩;rw [hW] at HU c1 z1 bx HB;have S0 := EB.set HB.out hi { L[i] with off := y } 1 (by decide) (.int .u64 (y : Int)) rfl;have by2 := (heap_setCell_other W ⟨B, i * 4 + 1, none⟩ w.heap.size (.int .u64 (y : Int)) (by simp; omega)).trans bx;have hk1 : RK B w (W.setCell ⟨B, i * 4 + 1, none⟩ (.int .u64 (y : Int))) := (RK.up HU.out).trans (RK.set B (i * 4 + 1) _ _);obtain ⟨Y, hY⟩ : ∃ y2, W.setCell ⟨B, i * 4 + 1, none⟩ (.int .u64 (y : Int)) = y2 := ⟨_, rfl⟩;rw [hY] at S0 by2 hk1;have hil : i < (L.set i { L[i] with off := y }).length := by simpa using hi
  have k1 := (EB.cell S0 hil).2.1;have kz := (EB.cell S0 hil).2.2.2.2 (i * 4 + 1);have S1 := fun W2 (h : EB W2 B (L.set i { L[i] with off := y })) => EB.set h hil { L[i] with off := nextE a } 1 (by decide) (.int .u64 (nextE a : Int)) (by simp [entC]);simp only [List.getElem_set_self] at k1;have SS := Lib.hid S0;have SN := Lib.hid S1;have HK := Lib.hid hk1;have d0 := blkc by2 0 (.int .u64 (a.id : Int)) rfl;have d1 := blkc by2 1 (.int .u64 (a.off : Int)) rfl;have d2 := blkc by2 2 (.int .u32 (a.len : Int)) rfl;have d3 := blkc by2 3 (.int .u32 (a.run : Int)) rfl;clear n4 hb hE hy cz c0 c2 c3 HB bx by2 S0 S1 hk1 hil;obtain ⟨q, hq⟩ : ∃ q, nextE a = q := ⟨_, rfl⟩;rw [hq] at NX SN ⊢;clear hq;go_enter Tryz.func129, Tryz.ntmps129;by_cases hi0 : i = 0
  · have i0 : ((i : Int) == 0) = true := by rw [beq_iff_eq]; omega
    have i1 : decide ((0 : Int) < (i : Int)) = false := decide_eq_false (by omega);have i2 : decide (0 < i) = false := decide_eq_false (by omega);by_cases hx0 : x = 0
    · have x0 : ((x : Int) == 0) = true := by rw [beq_iff_eq]; omega
      rw [if_pos (.inl ⟨hi0, hx0⟩)];clear hi0 hx0;go_wp2_with fail;try rw [hY]
      refine wp_region_held_drew (S := fun w' => (w'.cell? ⟨w.heap.size, 0, none⟩ = some (.int .u64 (a.id : Int)) ∧ w'.cell? ⟨w.heap.size, 1, none⟩ = some (.int .u64 (a.off : Int)) ∧ w'.cell? ⟨w.heap.size, 2, none⟩ = some (.int .u32 (a.len : Int)) ∧ w'.cell? ⟨w.heap.size, 3, none⟩ = some (.int .u32 (a.run : Int)) ∧ w'.cell? ⟨B, i * 4 + 1, none⟩ = some (.int .u64 (y : Int)))) (by kernel_rfl) ⟨d0, d1, d2, d3, k1⟩ (fun hHeld => ?_);refine tk 0 rfl ?_;(try simp only [Act.put, tz1, tz2, tz3]);refine tk 1 rfl ?_;(try simp only [Act.put, tz1, tz2, tz3]);refine tk 2 rfl ?_;(try simp only [Act.put, tz1, tz2, tz3]);refine tk 3 rfl ?_;(try simp only [Act.put, tz1, tz2, tz3]);refine tk 4 rfl ?_;(try simp only [Act.put, tz1, tz2, tz3]);refine tk 5 rfl ?_;(try simp only [Act.put, tz1, tz2, tz3]);refine tk 6 rfl ?_;(try simp only [Act.put, tz1, tz2, tz3]);refine tk 7 rfl ?_;(try simp only [Act.put, tz1, tz2, tz3]);refine tk 8 rfl ?_;(try simp only [Act.put, tz1, tz2, tz3]);refine tk 9 rfl ?_;(try simp only [Act.put, tz1, tz2, tz3]);refine tk 10 rfl ?_;(try simp only [Act.put, tz1, tz2, tz3]);refine tk 11 rfl ?_;(try simp only [Act.put, tz1, tz2, tz3]);refine tk 12 rfl ?_;(try simp only [Act.put, tz1, tz2, tz3]);refine tk 13 rfl ?_;(try simp only [Act.put, tz1, tz2, tz3]);refine tk 14 rfl ?_;(try simp only [Act.put, tz1, tz2, tz3]);refine tk 15 rfl ?_;(try simp only [Act.put, tz1, tz2, tz3]);refine tk 16 rfl ?_;(try simp only [Act.put, tz1, tz2, tz3]);refine tk 17 rfl ?_;(try simp only [Act.put, tz1, tz2, tz3]);refine tk 18 rfl ?_;(try simp only [Act.put, tz1, tz2, tz3]);refine tk 19 rfl ?_;(try simp only [Act.put, tz1, tz2, tz3]);refine tk 20 rfl ?_;(try simp only [Act.put, tz1, tz2, tz3]);refine tk 21 rfl ?_;(try simp only [Act.put, tz1, tz2, tz3]);refine tk 22 rfl ?_;(try simp only [Act.put, tz1, tz2, tz3]);refine wpAnyH_done (by kernel_rfl) ?_ _;clear hHeld;go_wp2_with fail;go_ret;exact ⟨rfl, HK.out.drew', fun h => by simp at h⟩
    · have x0 : ((x : Int) == 0) = false := by rw [beq_eq_false_iff_ne]; omega
      have x1 : decide ((0 : Int) < (x : Int)) = true := decide_eq_true (by omega);have x2 : decide (0 < x) = true := decide_eq_true (by omega);rw [if_neg (by omega), if_neg hx0];clear hi0 hx0;go_wp2_with fail;try rw [hY]
      refine wp_region_held_drew (S := fun w' => (w'.cell? ⟨w.heap.size, 0, none⟩ = some (.int .u64 (a.id : Int)) ∧ w'.cell? ⟨w.heap.size, 1, none⟩ = some (.int .u64 (a.off : Int)) ∧ w'.cell? ⟨w.heap.size, 2, none⟩ = some (.int .u32 (a.len : Int)) ∧ w'.cell? ⟨w.heap.size, 3, none⟩ = some (.int .u32 (a.run : Int)) ∧ w'.cell? ⟨B, i * 4 + 1, none⟩ = some (.int .u64 (y : Int)))) (by kernel_rfl) ⟨d0, d1, d2, d3, k1⟩ (fun hHeld => ?_);refine tk 0 rfl ?_;(try simp only [Act.put, tz1, tz2, tz3]);refine tk 1 rfl ?_;(try simp only [Act.put, tz1, tz2, tz3]);refine tk 2 rfl ?_;(try simp only [Act.put, tz1, tz2, tz3]);refine tk 3 rfl ?_;(try simp only [Act.put, tz1, tz2, tz3]);refine tk 4 rfl ?_;(try simp only [Act.put, tz1, tz2, tz3]);refine tk 5 rfl ?_;(try simp only [Act.put, tz1, tz2, tz3]);refine tk 6 rfl ?_;(try simp only [Act.put, tz1, tz2, tz3]);refine tk 7 rfl ?_;(try simp only [Act.put, tz1, tz2, tz3]);refine tk 8 rfl ?_;(try simp only [Act.put, tz1, tz2, tz3]);refine tk 9 rfl ?_;(try simp only [Act.put, tz1, tz2, tz3]);refine tk 10 rfl ?_;(try simp only [Act.put, tz1, tz2, tz3]);refine tk 11 rfl ?_;(try simp only [Act.put, tz1, tz2, tz3]);refine tk 12 rfl ?_;(try simp only [Act.put, tz1, tz2, tz3]);refine tk 13 rfl ?_;(try simp only [Act.put, tz1, tz2, tz3]);refine tk 14 rfl ?_;(try simp only [Act.put, tz1, tz2, tz3]);refine tk 15 rfl ?_;(try simp only [Act.put, tz1, tz2, tz3]);refine tk 16 rfl ?_;(try simp only [Act.put, tz1, tz2, tz3]);refine tk 17 rfl ?_;(try simp only [Act.put, tz1, tz2, tz3]);refine tk 18 rfl ?_;(try simp only [Act.put, tz1, tz2, tz3]);refine tk 19 rfl ?_;(try simp only [Act.put, tz1, tz2, tz3]);refine tk 20 rfl ?_;(try simp only [Act.put, tz1, tz2, tz3]);refine tk 21 rfl ?_;(try simp only [Act.put, tz1, tz2, tz3]);refine tk 22 rfl ?_;(try simp only [Act.put, tz1, tz2, tz3]);refine wpAnyH_done (by kernel_rfl) ?_ _;clear hHeld;go_wp2_with fail;go_ret;exact ⟨rfl, HK.out.drew', fun _ => SS.out⟩
  · have i0 : ((i : Int) == 0) = false := by rw [beq_eq_false_iff_ne]; omega
    have i1 : decide ((0 : Int) < (i : Int)) = true := decide_eq_true (by omega);have i2 : decide (0 < i) = true := decide_eq_true (by omega);by_cases hx0 : x = 0
    · have x0 : ((x : Int) == 0) = true := by rw [beq_iff_eq]; omega
      have x1 : decide ((0 : Int) < (x : Int)) = false := decide_eq_false (by omega);have x2 : decide (0 < x) = false := decide_eq_false (by omega);rw [if_neg (by omega), if_pos hx0];clear hi0 hx0;go_wp2_with fail;try rw [hY]
      refine wp_region_held_drew (S := fun w' => (w'.cell? ⟨w.heap.size, 0, none⟩ = some (.int .u64 (a.id : Int)) ∧ w'.cell? ⟨w.heap.size, 1, none⟩ = some (.int .u64 (a.off : Int)) ∧ w'.cell? ⟨w.heap.size, 2, none⟩ = some (.int .u32 (a.len : Int)) ∧ w'.cell? ⟨w.heap.size, 3, none⟩ = some (.int .u32 (a.run : Int)) ∧ w'.cell? ⟨B, i * 4 + 1, none⟩ = some (.int .u64 (y : Int)))) (by kernel_rfl) ⟨d0, d1, d2, d3, k1⟩ (fun hHeld => ?_);refine tk 0 rfl ?_;(try simp only [Act.put, tz1, tz2, tz3]);refine tk 1 rfl ?_;(try simp only [Act.put, tz1, tz2, tz3]);refine tk 2 rfl ?_;(try simp only [Act.put, tz1, tz2, tz3]);refine tk 3 rfl ?_;(try simp only [Act.put, tz1, tz2, tz3]);refine tk 4 rfl ?_;(try simp only [Act.put, tz1, tz2, tz3]);refine tk 5 rfl ?_;(try simp only [Act.put, tz1, tz2, tz3]);refine tk 6 rfl ?_;(try simp only [Act.put, tz1, tz2, tz3]);refine tk 7 rfl ?_;(try simp only [Act.put, tz1, tz2, tz3]);refine tk 8 rfl ?_;(try simp only [Act.put, tz1, tz2, tz3]);refine tk 9 rfl ?_;(try simp only [Act.put, tz1, tz2, tz3]);refine tk 10 rfl ?_;(try simp only [Act.put, tz1, tz2, tz3]);refine tk 11 rfl ?_;(try simp only [Act.put, tz1, tz2, tz3]);refine tk 12 rfl ?_;(try simp only [Act.put, tz1, tz2, tz3]);refine tk 13 rfl ?_;(try simp only [Act.put, tz1, tz2, tz3]);refine tk 14 rfl ?_;(try simp only [Act.put, tz1, tz2, tz3]);refine tk 15 rfl ?_;(try simp only [Act.put, tz1, tz2, tz3]);refine tk 16 rfl ?_;(try simp only [Act.put, tz1, tz2, tz3]);refine tk 17 rfl ?_;(try simp only [Act.put, tz1, tz2, tz3]);refine tk 18 rfl ?_;(try simp only [Act.put, tz1, tz2, tz3]);refine tk 19 rfl ?_;(try simp only [Act.put, tz1, tz2, tz3]);refine tk 20 rfl ?_;(try simp only [Act.put, tz1, tz2, tz3]);refine tk 21 rfl ?_;(try simp only [Act.put, tz1, tz2, tz3]);refine tk 22 rfl ?_;(try simp only [Act.put, tz1, tz2, tz3]);refine wpAnyH_done (by kernel_rfl) ?_ _;clear hHeld;go_wp2_with fail;refine (NX _).out.mono ?_;rintro e w5 ⟨rfl, hu5⟩;have H5 : EB w5 B (L.set i { L[i] with off := y }) := hu5.obj SS.out;have z5 := blkf H5 (i * 4 + 1);have p5 := hu5.cell k1;have S5 := Lib.hid (SN.out _ H5);have HK5 := Lib.hid ((HK.out.drew').trans (RK.up hu5));clear hu5 H5 d0 d1 d2 d3;go_wp2_with fail;go_ret;exact ⟨rfl, HK5.out.trans (RK.set B (i * 4 + 1) _ _), fun _ => by
        have := S5.out;rw [List.set_set] at this;exact this⟩
    · have x0 : ((x : Int) == 0) = false := by rw [beq_eq_false_iff_ne]; omega
      have x1 : decide ((0 : Int) < (x : Int)) = true := decide_eq_true (by omega);have x2 : decide (0 < x) = true := decide_eq_true (by omega);rw [if_neg hx0];by_cases hyq : y = q
      · rw [if_pos (by omega)];have yq : ((y : Int) == (q : Int)) = true := by rw [beq_iff_eq]; omega
        clear hi0 hx0 hyq;go_wp2_with fail;try rw [hY]
        refine wp_region_held_drew (S := fun w' => (w'.cell? ⟨w.heap.size, 0, none⟩ = some (.int .u64 (a.id : Int)) ∧ w'.cell? ⟨w.heap.size, 1, none⟩ = some (.int .u64 (a.off : Int)) ∧ w'.cell? ⟨w.heap.size, 2, none⟩ = some (.int .u32 (a.len : Int)) ∧ w'.cell? ⟨w.heap.size, 3, none⟩ = some (.int .u32 (a.run : Int)) ∧ w'.cell? ⟨B, i * 4 + 1, none⟩ = some (.int .u64 (y : Int)))) (by kernel_rfl) ⟨d0, d1, d2, d3, k1⟩ (fun hHeld => ?_);refine tk 0 rfl ?_;(try simp only [Act.put, tz1, tz2, tz3]);refine tk 1 rfl ?_;(try simp only [Act.put, tz1, tz2, tz3]);refine tk 2 rfl ?_;(try simp only [Act.put, tz1, tz2, tz3]);refine tk 3 rfl ?_;(try simp only [Act.put, tz1, tz2, tz3]);refine tk 4 rfl ?_;(try simp only [Act.put, tz1, tz2, tz3]);refine tk 5 rfl ?_;(try simp only [Act.put, tz1, tz2, tz3]);refine tk 6 rfl ?_;(try simp only [Act.put, tz1, tz2, tz3]);refine tk 7 rfl ?_;(try simp only [Act.put, tz1, tz2, tz3]);refine tk 8 rfl ?_;(try simp only [Act.put, tz1, tz2, tz3]);refine tk 9 rfl ?_;(try simp only [Act.put, tz1, tz2, tz3]);refine tk 10 rfl ?_;(try simp only [Act.put, tz1, tz2, tz3]);refine tk 11 rfl ?_;(try simp only [Act.put, tz1, tz2, tz3]);refine tk 12 rfl ?_;(try simp only [Act.put, tz1, tz2, tz3]);refine tk 13 rfl ?_;(try simp only [Act.put, tz1, tz2, tz3]);refine tk 14 rfl ?_;(try simp only [Act.put, tz1, tz2, tz3]);refine tk 15 rfl ?_;(try simp only [Act.put, tz1, tz2, tz3]);refine tk 16 rfl ?_;(try simp only [Act.put, tz1, tz2, tz3]);refine tk 17 rfl ?_;(try simp only [Act.put, tz1, tz2, tz3]);refine tk 18 rfl ?_;(try simp only [Act.put, tz1, tz2, tz3]);refine rd1 19 rfl (fun K hK => ?_);clear hHeld;go_simp;go_at_call 181;refine (NX _).out.mono ?_;rintro e w5 ⟨rfl, hu5⟩;refine hK.out _ _ ⟨hu5.cell d0, hu5.cell d1, hu5.cell d2, hu5.cell d3, hu5.cell k1⟩ (fun hHeld => ?_);clear hK K;(try simp only [Act.put, tz1, tz2, tz3]);refine tk 20 rfl ?_;(try simp only [Act.put, tz1, tz2, tz3]);refine tk 21 rfl ?_;(try simp only [Act.put, tz1, tz2, tz3]);refine tk 22 rfl ?_;(try simp only [Act.put, tz1, tz2, tz3]);refine wpAnyH_done (by kernel_rfl) ?_ _;clear hHeld;go_wp2_with fail;go_ret;exact ⟨rfl, (HK.out.drew').trans (RK.up hu5), fun h => by simp at h⟩
      · rw [if_neg (by omega)];have yq : ((y : Int) == (q : Int)) = false := by rw [beq_eq_false_iff_ne]; omega
        clear hi0 hx0 hyq;go_wp2_with fail;try rw [hY]
        refine wp_region_held_drew (S := fun w' => (w'.cell? ⟨w.heap.size, 0, none⟩ = some (.int .u64 (a.id : Int)) ∧ w'.cell? ⟨w.heap.size, 1, none⟩ = some (.int .u64 (a.off : Int)) ∧ w'.cell? ⟨w.heap.size, 2, none⟩ = some (.int .u32 (a.len : Int)) ∧ w'.cell? ⟨w.heap.size, 3, none⟩ = some (.int .u32 (a.run : Int)) ∧ w'.cell? ⟨B, i * 4 + 1, none⟩ = some (.int .u64 (y : Int)))) (by kernel_rfl) ⟨d0, d1, d2, d3, k1⟩ (fun hHeld => ?_);refine tk 0 rfl ?_;(try simp only [Act.put, tz1, tz2, tz3]);refine tk 1 rfl ?_;(try simp only [Act.put, tz1, tz2, tz3]);refine tk 2 rfl ?_;(try simp only [Act.put, tz1, tz2, tz3]);refine tk 3 rfl ?_;(try simp only [Act.put, tz1, tz2, tz3]);refine tk 4 rfl ?_;(try simp only [Act.put, tz1, tz2, tz3]);refine tk 5 rfl ?_;(try simp only [Act.put, tz1, tz2, tz3]);refine tk 6 rfl ?_;(try simp only [Act.put, tz1, tz2, tz3]);refine tk 7 rfl ?_;(try simp only [Act.put, tz1, tz2, tz3]);refine tk 8 rfl ?_;(try simp only [Act.put, tz1, tz2, tz3]);refine tk 9 rfl ?_;(try simp only [Act.put, tz1, tz2, tz3]);refine tk 10 rfl ?_;(try simp only [Act.put, tz1, tz2, tz3]);refine tk 11 rfl ?_;(try simp only [Act.put, tz1, tz2, tz3]);refine tk 12 rfl ?_;(try simp only [Act.put, tz1, tz2, tz3]);refine tk 13 rfl ?_;(try simp only [Act.put, tz1, tz2, tz3]);refine tk 14 rfl ?_;(try simp only [Act.put, tz1, tz2, tz3]);refine tk 15 rfl ?_;(try simp only [Act.put, tz1, tz2, tz3]);refine tk 16 rfl ?_;(try simp only [Act.put, tz1, tz2, tz3]);refine tk 17 rfl ?_;(try simp only [Act.put, tz1, tz2, tz3]);refine tk 18 rfl ?_;(try simp only [Act.put, tz1, tz2, tz3]);refine rd1 19 rfl (fun K hK => ?_);clear hHeld;go_simp;go_at_call 181;refine (NX _).out.mono ?_;rintro e w5 ⟨rfl, hu5⟩;refine hK.out _ _ ⟨hu5.cell d0, hu5.cell d1, hu5.cell d2, hu5.cell d3, hu5.cell k1⟩ (fun hHeld => ?_);clear hK K;(try simp only [Act.put, tz1, tz2, tz3]);refine tk 20 rfl ?_;(try simp only [Act.put, tz1, tz2, tz3]);refine tk 21 rfl ?_;(try simp only [Act.put, tz1, tz2, tz3]);refine tk 22 rfl ?_;(try simp only [Act.put, tz1, tz2, tz3]);refine wpAnyH_done (by kernel_rfl) ?_ _;clear hHeld;go_wp2_with fail;go_ret;exact ⟨rfl, (HK.out.drew').trans (RK.up hu5), fun _ => hu5.obj SS.out⟩
end Go.Proofs.YtcfmidmokciofaaGreatDoor
/- Walk: dirs.Decode. -/
namespace Go.Proofs.YtcfmidmokciofaaGreatDoor
open Go.RowKit Go.Gz Go.Shelf

set_option maxRecDepth 100000
theorem infoEn' : (Tryz.prog.info? 72).map (fun i => (i.zero, i.size, i.bytes)) = some (some (.agg #[.int .u64 0, .int .u64 0, .int .u32 0, .int .u32 0]), 4, 24) := by kernel_rfl
theorem made_ent (n : Nat) : madeCells (Value.agg #[.int .u64 0, .int .u64 0, .int .u32 0, .int .u32 0]).cells (n * 4) = (entV (List.replicate n zE)).toArray := by
  apply Array.ext';apply List.ext_getElem?;intro j;have hl : (entV (List.replicate n zE)).length = n * 4 := by rw [entV_len, List.length_replicate]
  have hz : (Value.agg #[.int .u64 0, .int .u64 0, .int .u32 0, .int .u32 0]).cells = #[.int .u64 0, .int .u64 0, .int .u32 0, .int .u32 0] := rfl;rw [hz];rcases Nat.lt_or_ge j (n * 4) with h | h
  · obtain ⟨k, f, hf, rfl⟩ : ∃ k f, f < 4 ∧ j = k * 4 + f := ⟨j / 4, j % 4, Nat.mod_lt _ (by omega), by omega⟩;have hk : k < (List.replicate n zE).length := by rw [List.length_replicate]; omega
    obtain ⟨g0, g1, g2, g3⟩ := entV_get (List.replicate n zE) k hk;simp only [List.getElem_replicate] at g0 g1 g2 g3;have hm : (k * 4 + f) % 4 = f := by omega
    have e : (madeCells #[.int .u64 0, .int .u64 0, .int .u32 0, .int .u32 0] (n * 4)).toList[k * 4 + f]? = some (#[Value.int .u64 0, .int .u64 0, .int .u32 0, .int .u32 0][f]!) := by
      unfold madeCells;simp only [Array.toList_map, List.getElem?_map, Array.toList_range];rw [List.getElem?_range h];show some (#[Value.int .u64 0, .int .u64 0, .int .u32 0, .int .u32 0][(k * 4 + f) % 4]!) = _
      rw [hm]
    rw [e];rcases (by omega : f = 0 ∨ f = 1 ∨ f = 2 ∨ f = 3) with rfl | rfl | rfl | rfl
    · exact g0.symm
    · exact g1.symm
    · exact g2.symm
    · exact g3.symm
  · rw [List.getElem?_eq_none (by rw [Array.length_toList, size_madeCells]; exact h), List.getElem?_eq_none (by simp only []; rw [hl]; exact h)]
theorem make_ent (n : Nat) (hn : n ≤ 4096) (w : World) : (Instr.makeSlice 38 (.int .u64 (n : Int)) (.int .u64 (n : Int))).run Tryz.prog w = .ok (.slice (some ⟨w.heap.size, 0, none⟩) n n) (w.alloc (.cells (entV (List.replicate n zE)).toArray 72)) := by
  obtain ⟨i, h1, h2, h3, h4⟩ := info_parts infoEn';have := run_makeSlice (P := Tryz.prog) (w := w) 38 72 i _ Tryz.underlying38 h1 h2 .u64 .u64 (n : Int) (n : Int) (by omega) (by omega) (by rw [h3]; omega) (by rw [h4]; omega) (by omega);rw [this, h3, Int.toNat_natCast, made_ent]
/-- where the walk stands: the scan's block T, the block H of the entry ahead, the row's B -/
structure DD (w X : World) (T H B : Nat) (s : Bs) (a : Nat) (e : Ent) (L : Ents) : Prop where
  up : Up w X
  hT : w.heap.size ≤ T
  hH : w.heap.size ≤ H
  hB : w.heap.size ≤ B
  th : T ≠ H
  tB : T ≠ B
  hb : H ≠ B
  tb : ScB X T s a 0
  ah : X.heap[H]? = some (.cells #[.int .u64 (e.id : Int), .int .u64 (e.off : Int), .int .u32 (e.len : Int), .int .u32 (e.run : Int)] 72 (0, 0))
  all : EB X B L
theorem DD.more {w X Y : World} {T H B : Nat} {s : Bs} {a : Nat} {e : Ent} {L : Ents} (h : DD w X T H B s a e L) (hu : Up X Y) : DD w Y T H B s a e L :=
  ⟨h.up.trans hu, h.hT, h.hH, h.hB, h.th, h.tB, h.hb, hu.obj h.tb, hu.obj h.ah, hu.obj h.all⟩
theorem DD.row {w X Y : World} {T H B : Nat} {s : Bs} {a : Nat} {e : Ent} {L L2 : Ents} (h : DD w X T H B s a e L) (hk : RK B X Y) (hb : EB Y B L2) : DD w Y T H B s a e L2 :=
  have hTl := (Array.getElem?_eq_some_iff.1 h.tb).1;have hHl := (Array.getElem?_eq_some_iff.1 h.ah).1
  ⟨Up.of (h.up.below.grown hk h.up.le (fun j e => by cases e; exact h.hB)), h.hT, h.hH, h.hB, h.th, h.tB, h.hb, (hk.block _ hTl (by intro e; injection e with e; exact h.tB e)).trans h.tb, (hk.block _ hHl (by intro e; injection e with e; exact h.hb e)).trans h.ah, hb⟩
theorem sc4 {w : World} {b : Nat} {x0 x1 x2 x3 : Value} {t : TypeId} (h : w.heap[b]? = some (.cells #[x0, x1, x2, x3] t (0, 0))) (v0 v1 v2 v3 : Value) : (w.setCells b 0 [v0, v1, v2, v3]).heap[b]? = some (.cells #[v0, v1, v2, v3] t (0, 0)) := by
  have f0 := heap_setCell_same w b 0 _ _ v0 h;have f1 := heap_setCell_same _ b 1 _ _ v1 f0;have f2 := heap_setCell_same _ b 2 _ _ v2 f1;exact heap_setCell_same _ b 3 _ _ v3 f2
theorem sc3 {w : World} {b : Nat} {x0 x1 x2 : Value} {t : TypeId} (h : w.heap[b]? = some (.cells #[x0, x1, x2] t (0, 0))) (v0 v1 v2 : Value) : (w.setCells b 0 [v0, v1, v2]).heap[b]? = some (.cells #[v0, v1, v2] t (0, 0)) := by
  have f0 := heap_setCell_same w b 0 _ _ v0 h;have f1 := heap_setCell_same _ b 1 _ _ v1 f0;exact heap_setCell_same _ b 2 _ _ v2 f1
theorem sc_other {b : Nat} : ∀ (vs : List Value) (w : World) (o k : Nat), k ≠ b → (w.setCells b o vs).heap[k]? = w.heap[k]?
  | [], _, _, _, _ => rfl
  | v :: r, w, o, k, h => (sc_other r _ (o + 1) k h).trans (heap_setCell_other w ⟨b, o, none⟩ k v h)
theorem DD.step {w X : World} {T H B : Nat} {s : Bs} {a : Nat} {e : Ent} {L : Ents} (h : DD w X T H B s a e L) (e' : Ent) (a' : Nat) :
    DD w ((X.setCells H 0 [.int .u64 (e'.id : Int), .int .u64 (e'.off : Int), .int .u32 (e'.len : Int), .int .u32 (e'.run : Int)]).setCells T 0 [.string ⟨s.toArray⟩, .int .i64 (a' : Int), .int .i64 0]) T H B s a' e' L :=
  ⟨up_setCells _ (up_setCells _ h.up h.hH) h.hT, h.hT, h.hH, h.hB, h.th, h.tB, h.hb, sc3 ((sc_other _ X 0 T h.th).trans h.tb) _ _ _, (sc_other _ _ 0 H (fun e => h.th e.symm)).trans (sc4 h.ah _ _ _ _), ((sc_other _ _ 0 B (fun e => h.tB e.symm)).trans (sc_other _ X 0 B (fun e => h.hb e.symm))).trans h.all⟩
theorem setE_ok {c i : Nat} {a e : Ent} {x : Nat} (he : okE e) : okE (setE c i a e x).2 := by
  unfold okE at he ⊢;unfold setE;unfold nextE at *;split
  · exact ⟨Nat.mod_lt _ (by decide), he.2⟩
  · split
    · split
      · exact he
      · exact ⟨he.1, he.2.1, he.2.2.1, by simp only; omega⟩
    · split
      · split
        · exact he
        · exact ⟨he.1, he.2.1, by simp only; omega, he.2.2.2⟩
      · split
        · exact he
        · refine ⟨he.1, ?_, he.2.2⟩;simp only;split <;> exact Nat.mod_lt _ (by decide)
theorem dset_any (c : Nat) (hc : c < 4) (i : Nat) (a : Ent) (B : Nat) (L : Ents) (hi : i < L.length) (x : Nat) (hx : x < 18446744073709551616) (w : World) (hb : EB w B L) :
    Calls Tryz.prog 129 #[.int .i64 (c : Int), .int .i64 (i : Int), .agg #[.int .u64 (a.id : Int), .int .u64 (a.off : Int), .int .u32 (a.len : Int), .int .u32 (a.run : Int)], .pointer (some ⟨B, i * 4, none⟩), .int .u64 (x : Int)] w (SetE w B L i (setE c i a L[i] x)) := by
  rcases (by omega : c = 0 ∨ c = 1 ∨ c = 2 ∨ c = 3) with rfl | rfl | rfl | rfl
  · exact dset0 i a B L hi x w hb
  · exact dset1 i a B L hi x w hb
  · exact dset2 i a B L hi x w hb
  · exact dset3 i a B L hi x hx w hb
end Go.Proofs.YtcfmidmokciofaaGreatDoor
/- Walk: dirs.Decode, of any text. -/
namespace Go.Gz
theorem colD_err1 {c i : Nat} {a e : Ent} {r : Ents} {t : Bs} (h : (getV t).1 ≠ 0) : colD c i a (e :: r) t = ((getV t).1, [], []) := by
  conv => lhs; unfold colD
  rw [if_pos h]
theorem colD_err2 {c i : Nat} {a e : Ent} {r : Ents} {t : Bs} (h : (getV t).1 = 0) (h2 : (setE c i a e (getV t).2.1).1 ≠ 0) : colD c i a (e :: r) t = ((setE c i a e (getV t).2.1).1, [], []) := by
  conv => lhs; unfold colD
  rw [if_neg (by omega), if_pos h2]
theorem colD_go {c i : Nat} {a e : Ent} {r : Ents} {t : Bs} (h : (getV t).1 = 0) (h2 : (setE c i a e (getV t).2.1).1 = 0) :
    colD c i a (e :: r) t = ((colD c (i + 1) (setE c i a e (getV t).2.1).2 r (t.drop (getV t).2.2)).1, (setE c i a e (getV t).2.1).2 :: (colD c (i + 1) (setE c i a e (getV t).2.1).2 r (t.drop (getV t).2.2)).2.1, (colD c (i + 1) (setE c i a e (getV t).2.1).2 r (t.drop (getV t).2.2)).2.2) := by
  conv => lhs; unfold colD
  rw [if_neg (by omega), if_neg (by omega)]
theorem cols_err {c m : Nat} {l : Ents} {t : Bs} {q : Int × Ents × Bs} (hq : colD c 0 zE l t = q) (h : q.1 ≠ 0) : colsD c (m + 1) l t = (q.1, [], []) := by
  unfold colsD;rw [hq, if_pos h]
theorem cols_go {c m : Nat} {l : Ents} {t : Bs} {q : Int × Ents × Bs} (hq : colD c 0 zE l t = q) (h : q.1 = 0) : colsD c (m + 1) l t = colsD (c + 1) m q.2.1 q.2.2 := by
  conv => lhs; unfold colsD
  rw [hq, if_neg (by omega)]
theorem decD_go {s : Bs} {n m : Nat} (h1 : ¬ 65536 < s.length) (h2 : getV s = (0, n, m)) (h3 : ¬ 4096 < n) : decD s = endD (colsD 0 4 (List.replicate n zE) (s.drop m)) := by
  unfold decD;rw [if_neg h1, h2, if_neg (by simp), if_neg h3]
theorem endD_err {q : Int × Ents × Bs} (h : q.1 ≠ 0) : endD q = (q.1, []) := by
  unfold endD;rw [if_pos h]
end Go.Gz
namespace Go.Proofs.YtcfmidmokciofaaGreatDoor
open Go.RowKit Go.Gz Go.Shelf

set_option maxRecDepth 100000
def DdecE (w : World) (r : Int × Ents) (e : Ending) (w' : World) : Prop := ∃ (v : Value) (at' : Int), e = .returned (.tuple #[v, .int .i64 at', .int .i64 r.1]) ∧ Up w w' ∧ (r.1 = 0 → ∃ A c, v = .slice A r.2.length c ∧ Rd w' 4 A r.2.length c (entV r.2)) ∧ (r.1 ≠ 0 → v = .slice none 0 0)
theorem ddec_bad {w w' : World} {E : Int} {l : Ents} (h : E ≠ 0) (a : Int) (hu : Up w w') : DdecE w (E, l) (.returned (.tuple #[.slice none 0 0, .int .i64 a, .int .i64 E])) w' :=
  ⟨_, a, rfl, hu, fun h2 => absurd h2 h, fun _ => rfl⟩
def OutR (w : World) (s : Bs) (T B n : Nat) (R : Int × Ents × Bs) (gk : Nat) (i : Value) (wr : World) : Prop := ∃ (c a : Nat) (L : Ents), c + gk = 4 ∧ i = .int .i64 (c : Int) ∧ L.length = n ∧ a ≤ s.length ∧ (∀ x ∈ L, okE x) ∧ colsD c (4 - c) L (s.drop a) = R ∧ Up w wr ∧ ScB wr T s a 0 ∧ EB wr B L
def InR (w : World) (s : Bs) (T H B n c : Nat) (L : Ents) (Q : Int × Ents × Bs) (gj : Nat) (j : Value) (wx : World) : Prop := ∃ (k a : Nat) (e : Ent) (L' : Ents), k + gj = n ∧ j = .int .i64 (k : Int) ∧ L'.length = n ∧ a ≤ s.length ∧ (∀ x ∈ L', okE x) ∧ L'.drop k = L.drop k ∧
  Q = ((colD c k e (L.drop k) (s.drop a)).1, L'.take k ++ (colD c k e (L.drop k) (s.drop a)).2.1, (colD c k e (L.drop k) (s.drop a)).2.2) ∧ DD w wx T H B s a e L'
theorem setCell_self {w : World} {b k : Nat} {cs : Array Value} {v : Value} {t : TypeId} (h : w.heap[b]? = some (.cells cs t (0, 0))) (hv : cs[k]? = some v) : w.setCell ⟨b, k, none⟩ v = w := by
  have e : cs.setIfInBounds k v = cs := by
    apply Array.ext';rw [Array.toList_setIfInBounds];apply List.ext_getElem?;intro i;rw [List.getElem?_set];split
    · rename_i hi;subst hi;have hv' : cs.toList[k]? = some v := by simpa using hv
      obtain ⟨h1, h2⟩ := List.getElem?_eq_some_iff.1 hv';rw [if_pos h1, hv']
    · rfl
  have h2 := heap_setCell_same w b k cs t v h;rw [e] at h2;have hx : (w.setCell ⟨b, k, none⟩ v).heap = w.heap := by
    apply Array.ext_getElem?;intro i;by_cases hi : i = b
    · subst hi; rw [h2, h]
    · exact heap_setCell_other w ⟨b, k, none⟩ i v hi
  exact show ({ w.setCell ⟨b, k, none⟩ v with heap := (w.setCell ⟨b, k, none⟩ v).heap } : World) = w by rw [hx]; rfl
theorem EB.rd {w : World} {B : Nat} {L : Ents} (h : EB w B L) (hl : L.length ≤ 1000000) : Rd w 4 (some ⟨B, 0, none⟩) L.length L.length (entV L) := by
  refine ⟨by rw [entV_len], Nat.le_refl _, by unfold maxLen; omega, fun h => by (cases h), fun _ => ⟨_, 0, rfl, fun j u hj => ?_⟩⟩;rw [Nat.zero_add];exact blkc h j u (by simpa using hj)
set_option maxHeartbeats 16000000 in
theorem ddec_any (s : Bs) (hs : s.length ≤ 1000000000) (w : World) :
    Calls Tryz.prog 75 #[.string ⟨s.toArray⟩] w (DdecE w (decD s)) := by
  have GT := fun a ha w => Lib.hid (get_any s hs a ha w);unfold GetE at GT;obtain ⟨D, hDD⟩ : ∃ D, decD s = D := ⟨_, rfl⟩;rw [hDD];by_cases hlong : 65536 < s.length
  · have hD : decD s = (5, []) := by unfold decD; rw [if_pos hlong]
    obtain rfl := hDD.symm.trans hD;have t0 : (65536 : Int) < (s.length : Int) := by omega
    go_enter Tryz.func75, Tryz.ntmps75;go_wp2_with fail;change bodyPost _ _ _ _ _ _;refine bodyPost_ret (v := .tuple #[.slice none 0 0, .int .i64 0, .int .i64 5]) (by simp [results, Tryz.results75, go_sem]) rfl ?_; exact ddec_bad (by decide) 0 (Up.refl w)
  have t0 : ¬ (65536 : Int) < (s.length : Int) := by omega
  have G0 := GT 0 (Nat.zero_le _);rw [List.drop_zero] at G0;obtain ⟨⟨E0, n, m⟩, hr⟩ : ∃ r, getV s = r := ⟨_, rfl⟩;rw [hr] at G0;simp only [Nat.zero_add, show ((0 : Nat) : Int) = 0 from rfl] at G0;go_enter Tryz.func75, Tryz.ntmps75;go_wp2_with fail;with_reducible refine (G0 _).out.mono ?_
  rintro e w1 ⟨rfl, hu1⟩;have q0 := heap_alloc_new w1 (.cells #[.string ⟨s.toArray⟩, .int .i64 (m : Int), .int .i64 E0] 152);have HU1 := Lib.hid (hu1.trans ((Up.refl w1).alloc (.cells #[.string ⟨s.toArray⟩, .int .i64 (m : Int), .int .i64 E0] 152)));obtain ⟨T, hT⟩ : ∃ b, w1.heap.size = b := ⟨_, rfl⟩;have hTw : w.heap.size ≤ T := by rw [← hT]; exact hu1.le
  have hX1s : (w1.alloc (.cells #[.string ⟨s.toArray⟩, .int .i64 (m : Int), .int .i64 E0] 152)).heap.size = T + 1 := by rw [World.size_alloc, hT]
  obtain ⟨X1, hX1⟩ : ∃ x, w1.alloc (.cells #[.string ⟨s.toArray⟩, .int .i64 (m : Int), .int .i64 E0] 152) = x := ⟨_, rfl⟩;rw [hX1] at q0 HU1 hX1s;rw [hT] at q0;have q1 := blkc q0 1 (.int .i64 (m : Int)) rfl;have q2 := blkc q0 2 (.int .i64 E0) rfl;have z2 := blkf q0 2;by_cases hE : E0 = 0
  · subst hE;have hok := getV_ok (t := s) (by rw [hr]);rw [hr] at hok;have hself := setCell_self q0 (k := 2) (v := .int .i64 0) rfl;by_cases hn : 4096 < n
    · have hD : decD s = (21, []) := by unfold decD; rw [if_neg hlong, hr, if_neg (by simp), if_pos hn]
      obtain rfl := hDD.symm.trans hD;have t1 : (4096 : Int) < (n : Int) := by omega
      go_wp2_with fail;change bodyPost _ _ _ _ _ _;refine bodyPost_ret (v := .tuple #[.slice none 0 0, .int .i64 0, .int .i64 21]) (by simp [results, Tryz.results75, go_sem]) rfl ?_; exact ddec_bad (by decide) 0 HU1.out
    · have t1 : ¬ (4096 : Int) < (n : Int) := by omega
      have hD := decD_go hlong hr hn;obtain ⟨R, hR⟩ : ∃ R, colsD 0 4 (List.replicate n zE) (s.drop m) = R := ⟨_, rfl⟩;rw [hR] at hD;obtain rfl := hDD.symm.trans hD;have mk := make_ent n (by omega) X1;have bq := heap_alloc_new X1 (.cells (entV (List.replicate n zE)).toArray 72);have hu2 := (Up.refl X1).alloc (.cells (entV (List.replicate n zE)).toArray 72);obtain ⟨X2, hX2⟩ : ∃ x, X1.alloc (.cells (entV (List.replicate n zE)).toArray 72) = x := ⟨_, rfl⟩;obtain ⟨B, hB⟩ : ∃ b, X1.heap.size = b := ⟨_, rfl⟩;rw [hX2] at mk bq hu2;rw [hB] at mk bq;have hTB : T ≠ B := by omega
      have hBw : w.heap.size ≤ B := by omega
      have ST : OutR w s T B n R 4 (.int .i64 0) X2 := ⟨0, m, List.replicate n zE, by omega, rfl, List.length_replicate, hok.2.2, fun x hx => by
        rw [List.eq_of_mem_replicate hx]; exact ⟨by decide, by decide, by decide, by decide⟩, hR, HU1.out.trans hu2, hu2.obj q0, bq⟩
      have STH := Lib.hid ST;clear bq hu2 HU1 ST hD hDD hR hok hX1s hr G0 hu1 q0;go_wp2_with fail;clear mk q1 q2 z2 hself hX1 hX2 hB hT;go_loopg [35] 4 (fun gk i wr => OutR w s T B n R gk i wr)
      case atStart => exact STH.out
      case round =>
        obtain ⟨c, a, L, hg, rfl, hLn, ha, hok, hR, hu, htb, hal⟩ := hrel;have HTB := Lib.hid htb;have HAL := Lib.hid hal;have HU := Lib.hid hu;have HOK := Lib.hid hok;have HR := Lib.hid hR;clear hu htb hal hok hR;by_cases hc4 : c < 4
        · obtain ⟨m', rfl⟩ : ∃ x, gk = x + 1 := ⟨gk - 1, by omega⟩;obtain ⟨Q, hQ⟩ : ∃ Q, colD c 0 zE L (s.drop a) = Q := ⟨_, rfl⟩;have nh := heap_alloc_new wr (.cells #[.int .u64 0, .int .u64 0, .int .u32 0, .int .u32 0] 72);have hun := (Up.refl wr).alloc (.cells #[.int .u64 0, .int .u64 0, .int .u32 0, .int .u32 0] 72);have hTl := (Array.getElem?_eq_some_iff.1 HTB.out).1;have hBl := (Array.getElem?_eq_some_iff.1 HAL.out).1;have hwl := HU.out.le;obtain ⟨H, hH⟩ : ∃ b, wr.heap.size = b := ⟨_, rfl⟩;obtain ⟨Wa, hWa⟩ : ∃ x, wr.alloc (.cells #[.int .u64 0, .int .u64 0, .int .u32 0, .int .u32 0] 72) = x := ⟨_, rfl⟩;rw [hWa] at nh hun;rw [hH] at nh hTl hBl hwl;have IN : InR w s T H B n c L Q n (.int .i64 0) Wa := ⟨0, a, zE, L, by omega, rfl, hLn, ha, HOK.out, rfl, by rw [List.drop_zero, hQ]; simp, HU.out.trans hun, hTw, hwl, hBw, by omega, hTB, by omega, hun.obj HTB.out, nh, hun.obj HAL.out⟩;have INH := Lib.hid IN;have c1 : (c : Int) < 4 := by omega
          clear IN nh hun hTl hBl hwl HTB HAL HU HOK;go_wp2_with fail;clear hWa hH;go_loopg [40] n (fun gj j wx => InR w s T H B n c L Q gj j wx)
          case atStart => exact INH.out
          case round =>
            rename World => wx
            obtain ⟨k, a2, e, L', hk, rfl, hLn', ha2, hok', hdr, hq, hd⟩ := hrel;have HD := Lib.hid hd;have HDR := Lib.hid hdr;have HQ := Lib.hid hq;have HOK' := Lib.hid hok';clear hd hdr hq hok';by_cases hlt : k < n
            · obtain ⟨j2, rfl⟩ : ∃ x, gk = x + 1 := ⟨gk - 1, by omega⟩;have hkl : k < L'.length := by omega
              have hdx : L.drop k = L'[k] :: L'.drop (k + 1) := by rw [← HDR.out]; exact List.drop_eq_getElem_cons hkl
              have hdx2 : L'.drop (k + 1) = L.drop (k + 1) := by
                have := congrArg (List.drop 1) HDR.out;rw [List.drop_drop, List.drop_drop] at this;exact this
              obtain ⟨⟨E1, v, m1⟩, hr1⟩ : ∃ r, getV (s.drop a2) = r := ⟨_, rfl⟩;have G1 := GT a2 ha2 wx;rw [hr1] at G1;simp only at G1;obtain ⟨a3, ha3⟩ : ∃ x, a2 + m1 = x := ⟨_, rfl⟩;rw [ha3] at G1;have u0 := blkc HD.out.tb 0 (.string ⟨s.toArray⟩) rfl;have u1 := blkc HD.out.tb 1 (.int .i64 (a2 : Int)) rfl;have u2 := blkc HD.out.tb 2 (.int .i64 0) rfl;have kI : (k : Int) < (n : Int) := by omega
              go_wp2_with fail;refine G1.out.mono ?_;rintro e5 w5 ⟨rfl, hu5⟩;have hu6 := (Up.refl w5).alloc (.cells #[.string ⟨s.toArray⟩, .int .i64 (a3 : Int), .int .i64 E1] 152);have q0 := heap_alloc_new w5 (.cells #[.string ⟨s.toArray⟩, .int .i64 (a3 : Int), .int .i64 E1] 152);obtain ⟨U, hU⟩ : ∃ b, w5.heap.size = b := ⟨_, rfl⟩;have hd5 := HD.out.more hu5;have hTU : T < U := by rw [← hU]; exact (Array.getElem?_eq_some_iff.1 hd5.tb).1
              have hHU : H < U := by rw [← hU]; exact (Array.getElem?_eq_some_iff.1 hd5.ah).1
              have hBU : B < U := by rw [← hU]; exact (Array.getElem?_eq_some_iff.1 hd5.all).1
              obtain ⟨X, hX⟩ : ∃ x, w5.alloc (.cells #[.string ⟨s.toArray⟩, .int .i64 (a3 : Int), .int .i64 E1] 152) = x := ⟨_, rfl⟩;rw [hX] at q0 hu6;rw [hU] at q0;have HD6 := Lib.hid (hd5.more hu6);have Q0 := Lib.hid q0;have p2 := blkc q0 2 (.int .i64 E1) rfl;have y2 := blkf q0 2;have u1' := blkc HD6.out.tb 1 (.int .i64 (a2 : Int)) rfl;clear hd5 hu5 hu6 u0 u1 u2 G1 HD;by_cases hE1 : E1 = 0
              · subst hE1;have hself := setCell_self q0 (k := 2) (v := .int .i64 0) rfl;have hvo := getV_ok (t := s.drop a2) (by rw [hr1]);rw [hr1] at hvo;simp only [List.length_drop] at hvo;obtain ⟨⟨E2, e2⟩, hS⟩ : ∃ r, setE c k e L'[k] v = r := ⟨_, rfl⟩;have DS := Lib.hid (dset_any c hc4 k e B L' hkl v hvo.1 X.drew HD6.out.all);unfold SetE at DS;rw [hS] at DS;simp only at DS;have h0 := blkc HD6.out.ah 0 (.int .u64 (e.id : Int)) rfl;have h1 := blkc HD6.out.ah 1 (.int .u64 (e.off : Int)) rfl;have h2 := blkc HD6.out.ah 2 (.int .u32 (e.len : Int)) rfl;have h3 := blkc HD6.out.ah 3 (.int .u32 (e.run : Int)) rfl;clear q0;go_wp2_with fail;clear hself p2 y2 hX hU;refine wp_region_held_drew (S := fun w' => (w'.cell? ⟨H, 0, none⟩ = some (.int .u64 (e.id : Int)) ∧ w'.cell? ⟨H, 1, none⟩ = some (.int .u64 (e.off : Int)) ∧ w'.cell? ⟨H, 2, none⟩ = some (.int .u32 (e.len : Int)) ∧ w'.cell? ⟨H, 3, none⟩ = some (.int .u32 (e.run : Int)))) (by kernel_rfl) ⟨h0, h1, h2, h3⟩ (fun hHeld => ?_);refine tk 0 rfl ?_;(try simp only [Act.put, tz1, tz2, tz3]);refine tk 1 rfl ?_;(try simp only [Act.put, tz1, tz2, tz3]);refine tk 2 rfl ?_;(try simp only [Act.put, tz1, tz2, tz3]);refine tk 3 rfl ?_;(try simp only [Act.put, tz1, tz2, tz3]);refine tk 4 rfl ?_;(try simp only [Act.put, tz1, tz2, tz3]);refine tk 5 rfl ?_;(try simp only [Act.put, tz1, tz2, tz3]);refine tk 6 rfl ?_;(try simp only [Act.put, tz1, tz2, tz3])

                refine rd1 7 rfl (fun K hK => ?_);clear hHeld;go_simp;go_at_call 129;refine DS.out.mono ?_;rintro e6 w6 ⟨rfl, hk6, hb6⟩;have hah6 := (hk6.block H (Array.getElem?_eq_some_iff.1 HD6.out.ah).1 (by intro e; injection e with e; exact HD6.out.hb e)).trans HD6.out.ah;have htb6 := (hk6.block T (Array.getElem?_eq_some_iff.1 HD6.out.tb).1 (by intro e; injection e with e; exact HD6.out.tB e)).trans HD6.out.tb;have hq6 := (hk6.block U (Array.getElem?_eq_some_iff.1 Q0.out).1 (by intro e; injection e with e; omega)).trans Q0.out;have hup6 := Up.of ((HD6.out.up.drew).below.grown hk6 (HD6.out.up.drew).le (fun j e => by cases e; exact HD6.out.hB));refine hK.out _ _ ⟨blkc hah6 0 _ rfl, blkc hah6 1 _ rfl, blkc hah6 2 _ rfl, blkc hah6 3 _ rfl⟩ (fun hHeld => ?_);clear hK K;(try simp only [Act.put, tz1, tz2, tz3]);refine tk 8 rfl ?_;(try simp only [Act.put, tz1, tz2, tz3])

                refine wpAnyH_done (by kernel_rfl) ?_ _;clear hHeld h0 h1 h2 h3 DS;by_cases hE2 : E2 = 0
                · subst hE2;have hd7 := (HD6.out.more (Up.refl X).drew).row hk6 (hb6 rfl);have HD7 := Lib.hid hd7;have hkl2 : k < (L'.set k e2).length := by simpa using hkl
                  obtain ⟨f0, f1, f2, f3, fz⟩ := EB.cell hd7.all hkl2;simp only [List.getElem_set_self] at f0 f1 f2 f3;have g0 := blkc hq6 0 (.string ⟨s.toArray⟩) rfl;have g1 := blkc hq6 1 (.int .i64 (a3 : Int)) rfl;have g2 := blkc hq6 2 (.int .i64 0) rfl;have th1 : w6.drew.there H 0 4 := (World.there_drew _ _ _ _).2 (th_blk hd7.ah : World.there _ _ _ (#[.int .u64 (e.id : Int), .int .u64 (e.off : Int), .int .u32 (e.len : Int), .int .u32 (e.run : Int)] : Array Value).size);have th2 := World.there_setCells (n := 3) ((World.there_drew _ _ _ _).2 (th_blk hd7.tb : World.there _ _ _ (#[.string ⟨s.toArray⟩, .int .i64 (a2 : Int), .int .i64 0] : Array Value).size)) H 0 [.int .u64 (e2.id : Int), .int .u64 (e2.off : Int), .int .u32 (e2.len : Int), .int .u32 (e2.run : Int)];have HD8 := Lib.hid ((hd7.more (Up.refl w6).drew).step e2 a3);have sb : ∀ (j : Nat) (v : Value), w6.drew.cell? ⟨B, j, none⟩ = some v → (w6.drew.setCells H 0 [.int .u64 (e2.id : Int), .int .u64 (e2.off : Int), .int .u32 (e2.len : Int), .int .u32 (e2.run : Int)]).cell? ⟨B, j, none⟩ = some v := fun j v h => (World.cell?_of_block (sc_other _ _ 0 B (fun e => hd7.hb e.symm))).trans h;have su : ∀ (j : Nat) (v : Value), w6.drew.cell? ⟨U, j, none⟩ = some v → (w6.drew.setCells H 0 [.int .u64 (e2.id : Int), .int .u64 (e2.off : Int), .int .u32 (e2.len : Int), .int .u32 (e2.run : Int)]).cell? ⟨U, j, none⟩ = some v := fun j v h => (World.cell?_of_block (sc_other _ _ 0 U (by omega))).trans h;obtain ⟨Y1, hY1⟩ : ∃ y, w6.drew.setCells H 0 [.int .u64 (e2.id : Int), .int .u64 (e2.off : Int), .int .u32 (e2.len : Int), .int .u32 (e2.run : Int)] = y := ⟨_, rfl⟩;rw [hY1] at th2 sb su HD8;have sb2 : ∀ (j : Nat) (v : Value), Y1.cell? ⟨B, j, none⟩ = some v → (Y1.setCells T 0 [.string ⟨s.toArray⟩, .int .i64 (a3 : Int), .int .i64 0]).cell? ⟨B, j, none⟩ = some v := fun j v h => (World.cell?_of_block (sc_other _ _ 0 B (fun e => hd7.tB e.symm))).trans h;have su2 : ∀ (j : Nat) (v : Value), Y1.cell? ⟨U, j, none⟩ = some v → (Y1.setCells T 0 [.string ⟨s.toArray⟩, .int .i64 (a3 : Int), .int .i64 0]).cell? ⟨U, j, none⟩ = some v := fun j v h => (World.cell?_of_block (sc_other _ _ 0 U (by omega))).trans h;obtain ⟨Y2, hY2⟩ : ∃ y, Y1.setCells T 0 [.string ⟨s.toArray⟩, .int .i64 (a3 : Int), .int .i64 0] = y := ⟨_, rfl⟩;rw [hY2] at sb2 su2 HD8;have SB := Lib.hid sb;have SU := Lib.hid su;have SB2 := Lib.hid sb2;have SU2 := Lib.hid su2;have HY1 := Lib.hid hY1;have HY2 := Lib.hid hY2;clear sb su sb2 su2 hd7 hah6 htb6 hq6 hk6 hb6 hY1 hY2 fz;go_wp2_with fail;refine wp_region_held_drew (S := fun w' => (w'.cell? ⟨B, k * 4, none⟩ = some (.int .u64 (e2.id : Int)) ∧ w'.cell? ⟨B, k * 4 + 1, none⟩ = some (.int .u64 (e2.off : Int)) ∧ w'.cell? ⟨B, k * 4 + 2, none⟩ = some (.int .u32 (e2.len : Int)) ∧ w'.cell? ⟨B, k * 4 + 3, none⟩ = some (.int .u32 (e2.run : Int)) ∧ w'.cell? ⟨U, 0, none⟩ = some (.string ⟨s.toArray⟩) ∧ w'.cell? ⟨U, 1, none⟩ = some (.int .i64 (a3 : Int)) ∧ w'.cell? ⟨U, 2, none⟩ = some (.int .i64 0))) (by kernel_rfl) ⟨f0, f1, f2, f3, g0, g1, g2⟩ (fun hHeld => ?_);refine tk 0 rfl ?_;(try simp only [Act.put, tz1, tz2, tz3]);refine tk 1 rfl ?_;(try simp only [Act.put, tz1, tz2, tz3]);refine tk 2 rfl ?_;(try simp only [Act.put, tz1, tz2, tz3]);refine tk 3 rfl ?_;(try simp only [Act.put, tz1, tz2, tz3]);refine tk 4 rfl ?_;(try simp only [Act.put, tz1, tz2, tz3])

                  refine rd1 5 rfl (fun K hK => ?_);clear hHeld;refine wp_store_mid 72 _ _ rfl H 0 #[.int .u64 (e2.id : Int), .int .u64 (e2.off : Int), .int .u32 (e2.len : Int), .int .u32 (e2.run : Int)] rfl rfl th1 (by kernel_rfl) (by simp [Value.oneCell']) ?_;rw [HY1.out];have r0 := SB.out _ _ f0;have r1 := SB.out _ _ f1;have r2 := SB.out _ _ f2;have r3 := SB.out _ _ f3;have x0 := SU.out _ _ g0;have x1 := SU.out _ _ g1;have x2 := SU.out _ _ g2;refine hK.out _ _ ⟨r0, r1, r2, r3, x0, x1, x2⟩ (fun hHeld => ?_);clear hK K hHeld;(try simp only [Act.put]);refine rd1 6 rfl (fun K hK => ?_);refine wp_store_mid 152 _ _ rfl T 0 #[.string ⟨s.toArray⟩, .int .i64 (a3 : Int), .int .i64 0] rfl rfl th2 (by kernel_rfl) (by simp [Value.oneCell']) ?_;rw [HY2.out];refine hK.out _ _ ⟨SB2.out _ _ r0, SB2.out _ _ r1, SB2.out _ _ r2, SB2.out _ _ r3, SU2.out _ _ x0, SU2.out _ _ x1, SU2.out _ _ x2⟩ (fun hHeld => ?_);clear hK K hHeld r0 r1 r2 r3 x0 x1 x2 f0 f1 f2 f3 g0 g1 g2 th1 th2;(try simp only [Act.put]);refine wpAnyH_done (by kernel_rfl) ?_ _;have hgo := colD_go (r := L'.drop (k + 1)) (t := s.drop a2) (by rw [hr1]) (by rw [hr1]; show (setE c k e L'[k] v).1 = 0; rw [hS]);rw [hr1] at hgo;simp only at hgo;rw [hS] at hgo;simp only at hgo;rw [List.drop_drop, ha3] at hgo;have hq2 := HQ.out;rw [hdx, hgo] at hq2;have NEW : InR w s T H B n c L Q j2 (.int .i64 ((k + 1 : Nat) : Int)) Y2 := by
                    refine ⟨k + 1, a3, e2, L'.set k e2, by omega, rfl, by simpa using hLn', by omega, fun z hz => ?_, by rw [List.drop_set_of_lt (by omega)]; exact hdx2, ?_, HD8.out⟩
                    · rcases List.mem_or_eq_of_mem_set hz with h | h
                      · exact HOK'.out z h
                      · rw [h];have := setE_ok (c := c) (i := k) (a := e) (x := v) (HOK'.out _ (List.getElem_mem hkl));rw [hS] at this;exact this
                    · rw [hq2, ← hdx2];simp only;rw [List.take_succ_eq_append_getElem (by simpa using hkl), List.take_set_of_le (by omega), List.getElem_set_self, List.append_assoc];rfl
                  have NEWH := Lib.hid NEW;clear NEW hq2 hgo;go_wp2_with fail;go_roundg j2
                  case measure => omega
                  case rel => exact NEWH.out
                · have hEb : (E2 == 0) = false := by rw [beq_eq_false_iff_ne]; exact hE2
                  have t61 := blkc htb6 1 (.int .i64 (a2 : Int)) rfl;go_wp2_with fail;refine wp_region_held_drew (S := fun w' => w'.cell? ⟨T, 1, none⟩ = some (.int .i64 (a2 : Int))) (by kernel_rfl) t61 (fun hHeld => ?_);refine tk 0 rfl ?_;(try simp only [Act.put, tz1, tz2, tz3]);refine tk 1 rfl ?_;(try simp only [Act.put, tz1, tz2, tz3]);refine tk 2 rfl ?_;(try simp only [Act.put, tz1, tz2, tz3]);refine tk 3 rfl ?_;(try simp only [Act.put, tz1, tz2, tz3]);refine tk 4 rfl ?_;(try simp only [Act.put, tz1, tz2, tz3]);refine tk 5 rfl ?_;(try simp only [Act.put, tz1, tz2, tz3]);refine wpAnyH_done (by kernel_rfl) ?_ _;clear hHeld

                  go_wp2_with fail;change bodyPost _ _ _ _ _ _;refine bodyPost_ret (v := .tuple #[.slice none 0 0, .int .i64 (a2 : Int), .int .i64 E2]) (by simp [results, Tryz.results75, go_sem]) rfl ?_

                  have hRE : R = (E2, [], []) := by
                    have h1 := HQ.out;rw [hdx, colD_err2 (by rw [hr1]) (by rw [hr1]; show (setE c k e L'[k] v).1 ≠ 0; rw [hS]; exact hE2), hr1] at h1;simp only at h1;rw [hS] at h1;rw [← HR.out, show 4 - c = (3 - c) + 1 by omega, cols_err hQ (by rw [h1]; exact hE2), h1]
                  rw [hRE, endD_err hE2];exact ddec_bad hE2 _ hup6.drew
              · have hEb : (E1 == 0) = false := by rw [beq_eq_false_iff_ne]; exact hE1
                clear q0;go_wp2_with fail;refine wp_region_held_drew (S := fun w' => (w'.cell? ⟨T, 1, none⟩ = some (.int .i64 (a2 : Int)) ∧ w'.cell? ⟨U, 2, none⟩ = some (.int .i64 E1))) (by kernel_rfl) ⟨u1', p2⟩ (fun hHeld => ?_);refine tk 0 rfl ?_;(try simp only [Act.put, tz1, tz2, tz3]);refine tk 1 rfl ?_;(try simp only [Act.put, tz1, tz2, tz3]);refine tk 2 rfl ?_;(try simp only [Act.put, tz1, tz2, tz3]);refine tk 3 rfl ?_;(try simp only [Act.put, tz1, tz2, tz3]);refine tk 4 rfl ?_;(try simp only [Act.put, tz1, tz2, tz3]);refine tk 5 rfl ?_;(try simp only [Act.put, tz1, tz2, tz3]);refine tk 6 rfl ?_;(try simp only [Act.put, tz1, tz2, tz3]);refine wpAnyH_done (by kernel_rfl) ?_ _;clear hHeld

                go_wp2_with fail;change bodyPost _ _ _ _ _ _;refine bodyPost_ret (v := .tuple #[.slice none 0 0, .int .i64 (a2 : Int), .int .i64 E1]) (by simp [results, Tryz.results75, go_sem]) rfl ?_

                have hRE : R = (E1, [], []) := by
                  have h1 := HQ.out;rw [hdx, colD_err1 (by rw [hr1]; exact hE1), hr1] at h1;rw [← HR.out, show 4 - c = (3 - c) + 1 by omega, cols_err hQ (by rw [h1]; exact hE1), h1]
                rw [hRE, endD_err hE1];exact ddec_bad hE1 _ HD6.out.up.drew
            · obtain rfl : gk = 0 := by omega
              have kI : ¬ (k : Int) < (n : Int) := by omega
              have h1 := HQ.out;rw [List.drop_eq_nil_of_le (by omega : L.length ≤ k)] at h1;have hz : colD c k e [] (s.drop a2) = (0, [], s.drop a2) := rfl;rw [hz] at h1;simp only [List.append_nil] at h1;rw [List.take_of_length_le (by omega)] at h1;have NEW : OutR w s T B n R m' (.int .i64 ((c + 1 : Nat) : Int)) wx := by
                refine ⟨c + 1, a2, L', by omega, rfl, hLn', ha2, HOK'.out, ?_, HD.out.up, HD.out.tb, HD.out.all⟩;rw [← HR.out, show 4 - c = (4 - (c + 1)) + 1 by omega, cols_go hQ (by rw [h1]), h1]
              have NEWH := Lib.hid NEW;clear NEW h1 hz;go_wp2_with fail;go_roundg m'
              case measure => omega
              case rel => exact NEWH.out
        · obtain rfl : gk = 0 := by omega
          have hc : c = 4 := by omega
          have c1 : ¬ (c : Int) < 4 := by omega
          have hR2 := HR.out;rw [hc] at hR2;have hz : colsD 4 (4 - 4) L (s.drop a) = (0, L, s.drop a) := rfl;rw [hz] at hR2;subst hR2;have u1 := blkc HTB.out 1 (.int .i64 (a : Int)) rfl;clear hc hz HR;by_cases hal : a < s.length
          · have t5 : (a : Int) < (s.length : Int) := by omega
            have hD : endD (0, L, s.drop a) = (4, []) := by
              unfold endD;rw [if_neg (by simp), if_pos];intro h;have := congrArg List.length h;simp only [List.length_drop, List.length_nil] at this;omega
            go_wp2_with fail;refine wp_region_held_drew (S := fun w' => w'.cell? ⟨T, 1, none⟩ = some (.int .i64 (a : Int))) (by kernel_rfl) u1 (fun hHeld => ?_);refine tk 0 rfl ?_;(try simp only [Act.put, tz1, tz2, tz3]);refine tk 1 rfl ?_;(try simp only [Act.put, tz1, tz2, tz3]);refine tk 2 rfl ?_;(try simp only [Act.put, tz1, tz2, tz3]);refine tk 3 rfl ?_;(try simp only [Act.put, tz1, tz2, tz3]);refine tk 4 rfl ?_;(try simp only [Act.put, tz1, tz2, tz3]);refine wpAnyH_done (by kernel_rfl) ?_ _;clear hHeld

            go_wp2_with fail;change bodyPost _ _ _ _ _ _;refine bodyPost_ret (v := .tuple #[.slice none 0 0, .int .i64 (a : Int), .int .i64 4]) (by simp [results, Tryz.results75, go_sem]) rfl ?_

            rw [hD];exact ddec_bad (by decide) _ HU.out.drew
          · have t5 : ¬ (a : Int) < (s.length : Int) := by omega
            have hdn : s.drop a = [] := List.drop_eq_nil_of_le (by omega);have RW := fun w hr => Lib.hid (row_any L HOK.out (by omega) (some ⟨B, 0, none⟩) L.length w hr);rw [hLn] at RW;obtain ⟨E3, hE3d⟩ : ∃ x, rowE L = x := ⟨_, rfl⟩;rw [hE3d] at RW;have hrd := HAL.out.rd (by omega);rw [hLn] at hrd;have HRD := Lib.hid hrd;clear hrd;go_wp2_with fail;refine (RW _ HRD.out).out.mono ?_;rintro e7 w7 ⟨rfl, hu7⟩;by_cases hE3 : E3 = 0
            · subst hE3;have hD : endD (0, L, s.drop a) = (0, L) := by
                unfold endD;rw [if_neg (by simp), if_neg (by simp [hdn]), if_neg (by simp [hE3d])]
              go_wp2_with fail;change bodyPost _ _ _ _ _ _;refine bodyPost_ret (v := .tuple #[.slice (some ⟨B, 0, none⟩) n n, .int .i64 (s.length : Int), .int .i64 0]) (by simp [results, Tryz.results75, go_sem]) rfl ?_;rw [hD];exact ⟨_, _, rfl, HU.out.trans hu7, fun _ => ⟨_, n, by rw [hLn], by show Rd w7 4 _ L.length _ _; rw [hLn]; exact HRD.out.up hu7⟩, fun h => absurd rfl h⟩
            · have hEb : (E3 == 0) = false := by rw [beq_eq_false_iff_ne]; exact hE3
              have hD : endD (0, L, s.drop a) = (E3, []) := by
                unfold endD;rw [if_neg (by simp), if_neg (by simp [hdn]), if_pos (by simp [hE3d]; exact hE3)];simp [hE3d]
              go_wp2_with fail;change bodyPost _ _ _ _ _ _;refine bodyPost_ret (v := .tuple #[.slice none 0 0, .int .i64 (s.length : Int), .int .i64 E3]) (by simp [results, Tryz.results75, go_sem]) rfl ?_

              rw [hD];exact ddec_bad hE3 _ (HU.out.trans hu7)
  · have hD : decD s = (E0, []) := by unfold decD; rw [if_neg hlong, hr, if_pos (by simpa using hE)]
    obtain rfl := hDD.symm.trans hD;have hEb : (E0 == 0) = false := by rw [beq_eq_false_iff_ne]; exact hE
    go_wp2_with fail;refine wp_region_held_drew (S := fun w' => w'.cell? ⟨T, 2, none⟩ = some (.int .i64 E0)) (by kernel_rfl) q2 (fun hHeld => ?_);refine tk 0 rfl ?_;(try simp only [Act.put, tz1, tz2, tz3]);refine tk 1 rfl ?_;(try simp only [Act.put, tz1, tz2, tz3]);refine tk 2 rfl ?_;(try simp only [Act.put, tz1, tz2, tz3]);refine tk 3 rfl ?_;(try simp only [Act.put, tz1, tz2, tz3]);refine tk 4 rfl ?_;(try simp only [Act.put, tz1, tz2, tz3]);refine wpAnyH_done (by kernel_rfl) ?_ _;clear hHeld

    go_wp2_with fail;change bodyPost _ _ _ _ _ _;refine bodyPost_ret (v := .tuple #[.slice none 0 0, .int .i64 0, .int .i64 E0]) (by simp [results, Tryz.results75, go_sem]) rfl ?_; exact ddec_bad hE 0 HU1.out.drew
end Go.Proofs.YtcfmidmokciofaaGreatDoor
/- Plain: the entries of a directory are in bounds. -/
namespace Go.Gz
theorem setE_ok2 {c i : Nat} {a e : Ent} {x : Nat} (he : okE e) : okE (setE c i a e x).2 := by
  unfold okE at he ⊢;unfold setE nextE;split
  · exact ⟨Nat.mod_lt _ (by decide), he.2⟩
  · split
    · split
      · exact he
      · exact ⟨he.1, he.2.1, he.2.2.1, by simp only; omega⟩
    · split
      · split
        · exact he
        · exact ⟨he.1, he.2.1, by simp only; omega, he.2.2.2⟩
      · split
        · exact he
        · refine ⟨he.1, ?_, he.2.2⟩;simp only;split <;> exact Nat.mod_lt _ (by decide)
theorem colD_okE (c : Nat) : ∀ (l : Ents) (i : Nat) (a : Ent) (t : Bs), (∀ e ∈ l, okE e) → (colD c i a l t).1 = 0 → ∀ e ∈ (colD c i a l t).2.1, okE e := by
  intro l;induction l with
  | nil => intro i a t _ _ e he; simp [colD] at he
  | cons x r ih =>
    intro i a t hok h;by_cases h1 : (getV t).1 = 0
    · by_cases h2 : (setE c i a x (getV t).2.1).1 = 0
      · rw [colD_go h1 h2] at h ⊢;simp only at h ⊢;intro e he;rcases List.mem_cons.1 he with rfl | he
        · exact setE_ok2 (hok x (by simp))
        · exact ih _ _ _ (fun e he => hok e (by simp [he])) h e he
      · rw [colD_err2 h1 h2] at h;exact absurd h h2
    · rw [colD_err1 h1] at h;exact absurd h h1
theorem colsD_okE : ∀ (k c : Nat) (l : Ents) (t : Bs), (∀ e ∈ l, okE e) → (colsD c k l t).1 = 0 → ∀ e ∈ (colsD c k l t).2.1, okE e := by
  intro k;induction k with
  | zero => intro c l t hok _ e he; exact hok e he
  | succ k ih =>
    intro c l t hok h;by_cases hq : (colD c 0 zE l t).1 = 0
    · rw [cols_go rfl hq] at h ⊢;exact ih _ _ _ (colD_okE c l 0 zE t hok hq) h
    · rw [cols_err rfl hq] at h;exact absurd h hq
theorem decD_okE {s : Bs} (h : (decD s).1 = 0) : ∀ e ∈ (decD s).2, okE e := by
  unfold decD at h ⊢;split at h
  · simp at h
  · rename_i g1;split at h
    · contradiction
    · rename_i g2;split at h
      · simp at h
      · rename_i g3;rw [if_neg g1, if_neg g2, if_neg g3];have hz : ∀ e ∈ List.replicate (getV s).2.1 zE, okE e := fun e he => by
          rw [List.eq_of_mem_replicate he]; exact ⟨by decide, by decide, by decide, by decide⟩
        unfold endD at h ⊢;split at h
        · contradiction
        · rename_i g4;split at h
          · simp at h
          · rename_i g5;split at h
            · contradiction
            · rename_i g6;rw [if_neg g4, if_neg g5, if_neg g6];exact colsD_okE 4 0 _ _ hz (by omega)
end Go.Gz
