/- Walks: extract.File of no text. -/
import Derived.Test.YtjhgaildbeokkaaGreatDoorGT34
import Derived.Test.YtjhgaildbeokkaaGreatDoorGT45
namespace Go.Proofs.YtjhgaildbeokkaaGreatDoor
open Go.RowKit Go.Gz Go.Shelf

set_option maxRecDepth 100000
set_option maxHeartbeats 16000000 in
theorem xrows_short (w : World) :
    Calls Tryz.prog 19 #[.string ⟨#[]⟩] w fun e w' => e = .returned (.tuple #[.slice none 0 0, .string ⟨#[]⟩, .int .i64 3]) ∧ Up w w' := by
  have CT := fun w => Lib.hid (lcut_bad [] 3 (by decide) (fun w => Lib.hid (hdec_short [] (by decide) w)) w);go_enter Tryz.func19, Tryz.ntmps19;go_wp2_with fail;with_reducible refine (CT _).out.mono ?_
  rintro e y2 ⟨rfl, hy2⟩;obtain ⟨b5, hb5⟩ : ∃ b, y2.heap.size = b := ⟨_, rfl⟩;have g1 := ((Up.refl _).alloc (.cells E4 112)).obj (heap_alloc_new y2 (.cells HZ 44));have g2 := heap_alloc_new (y2.alloc (.cells HZ 44)) (.cells E4 112);rw [World.size_alloc] at g2;rw [hb5] at g1 g2;have th1 : ((y2.alloc (.cells HZ 44)).alloc (.cells E4 112)).there b5 0 24 := show _ from (th_blk g1 : World.there _ _ _ (HZ).size)
  have th2 : ((y2.alloc (.cells HZ 44)).alloc (.cells E4 112)).there (b5 + 1) 0 4 := show _ from (th_blk g2 : World.there _ _ _ (E4).size)
  have hu : Up w ((y2.alloc (.cells HZ 44)).alloc (.cells E4 112)) := hy2.trans (((Up.refl y2).alloc _).alloc _);have hbw : w.heap.size ≤ b5 := by rw [← hb5]; exact hy2.le
  obtain ⟨Z0, hZ0⟩ : ∃ Z, (y2.alloc (.cells HZ 44)).alloc (.cells E4 112) = Z := ⟨_, rfl⟩;rw [hZ0] at th1 th2 hu;obtain ⟨Z1, hZ1⟩ : ∃ Z, Z0.setCells b5 0 (HZ).toList = Z := ⟨_, rfl⟩;replace th2 := World.there_setCells th2 b5 0 (HZ).toList;have hu1 := up_setCells (HZ).toList (o := 0) hu hbw;rw [hZ1] at th2 hu1;obtain ⟨Z2, hZ2⟩ : ∃ Z, Z1.setCells (b5 + 1) 0 (E4).toList = Z := ⟨_, rfl⟩;have hu2 := up_setCells (E4).toList (o := 0) (b := b5 + 1) hu1 (by omega);rw [hZ2] at hu2;have HU := Lib.hid hu2;clear hy2 g1 g2 hu hu1 hu2 CT hbw
  go_wp2_with (first
    | (refine wpList_store_mid rfl 44 _ _ rfl b5 0 HZ rfl rfl th1 (by kernel_rfl) (by simp [Value.oneCell']) ?_; rw [hZ1])
    | (refine wpList_store_mid rfl 112 _ _ rfl (b5 + 1) 0 E4 rfl rfl th2 (by kernel_rfl) (by simp [Value.oneCell']) ?_; rw [hZ2]))
  change bodyPost _ _ _ _ _ _;refine bodyPost_ret (v := .tuple #[.slice none 0 0, .string ⟨#[]⟩, .int .i64 3]) (by simp [results, Tryz.results19, go_sem]) rfl ?_;exact ⟨rfl, HU.out⟩
set_option maxHeartbeats 8000000 in
theorem xread_short (w : World) :
    Calls Tryz.prog 21 #[.string ⟨#[]⟩] w fun e w' => e = .returned (.tuple #[.agg #[.slice none 0 0], .int .i64 3]) ∧ Up w w' := by
  have RW := fun w => Lib.hid (xrows_short w);have n1 := (Up.refl w).alloc (.cells #[.slice none 0 0] 29);have HU0 := Lib.hid n1;have HB0 := Lib.hid (heap_alloc_new w (.cells #[.slice none 0 0] 29));clear n1;go_enter Tryz.func21, Tryz.ntmps21;go_wp2_with fail;with_reducible refine (RW _).out.mono ?_
  rintro e w1 ⟨rfl, hu1⟩;have hb2 := hu1.obj HB0.out;have HB2 := Lib.hid hb2;obtain ⟨g0, gz⟩ := blk_one hb2;have HU2 := Lib.hid ((HU0.out.trans hu1).set (p := ⟨w.heap.size, 0, none⟩) (Nat.le_refl _) (.slice none 0 0));have k0 := (blk_one (heap_setCell_same w1 w.heap.size 0 _ _ (.slice none 0 0) hb2)).1;clear hu1 hb2;go_wp2_with fail;change bodyPost _ _ _ _ _ _;refine bodyPost_ret (v := .tuple #[.agg #[.slice none 0 0], .int .i64 3]) (by simp [results, Tryz.results21, go_sem, k0]) rfl ?_;exact ⟨rfl, HU2.out⟩
theorem exfile_short (w : World) :
    Calls Tryz.prog 34 #[.string ⟨#[]⟩, .slice none 0 0, .agg #[.int .i64 0, .int .u8 0, .string ⟨#[]⟩]] w fun e w' => e = .returned (.tuple #[.string ⟨#[]⟩, .int .i64 3]) ∧ Up w w' := by
  have RD := fun w => Lib.hid (xread_short w);have HU0 := Lib.hid ((Up.refl w).alloc (.cells #[.int .i64 0, .int .u8 0, .string ⟨#[]⟩] 35));go_enter Tryz.func34, Tryz.ntmps34;go_wp2_with fail;with_reducible refine (RD _).out.mono ?_
  rintro e w1 ⟨rfl, hu1⟩;have HU := Lib.hid (HU0.out.trans (hu1.trans ((Up.refl w1).alloc (.cells #[.slice none 0 0] 29))));clear hu1;go_wp2_with fail;go_ret2
  exact ⟨rfl, HU.out⟩
end Go.Proofs.YtjhgaildbeokkaaGreatDoor
/- Walk: gazetteerlaw38.awake. -/
namespace Go.Gz
def L38 : Items := [(0, [97]), (1, [98]), (5, [99])]
theorem good38 : Good L38 := ⟨by
  intro i j hi hj h;have hi : i < 3 := hi;have hj : j < 3 := hj;have hc : (i = 0 ∧ j = 1) ∨ (i = 0 ∧ j = 2) ∨ (i = 1 ∧ j = 2) := by omega
  rcases hc with ⟨rfl, rfl⟩ | ⟨rfl, rfl⟩ | ⟨rfl, rfl⟩
  · exact (by decide : (0 : Nat) < 1)
  · exact (by decide : (0 : Nat) < 5)
  · exact (by decide : (1 : Nat) < 5), by decide, by decide, by decide, by decide⟩
abbrev r0 : Rc := ⟨0, 0, 0, 0, 0⟩
abbrev r1 : Rc := ⟨1, 0, 0, 1, 1⟩
abbrev r27 : Rc := ⟨27, 0, 0, 0, 0⟩
theorem keep38a : keepL L38 (anyR [r0]) = [(0, [97])] := by decide +kernel
theorem keep38c : keepL L38 (anyR []) = [] := by decide +kernel
theorem spans38a : spansV r0 4096 = ([(0, 0)], 0) := by decide +kernel
theorem spans38b : spansV r1 4096 = ([(1, 4)], 0) := by decide +kernel
theorem spans38c : spansV r27 4096 = ([], 2) := by decide +kernel
theorem uni_one {s : Sp} {R : Sps} (h : uniP [] [s] R) : R = [s] := by
  obtain ⟨M, hp, _, rfl⟩ := h;rw [List.nil_append] at hp;rw [List.perm_singleton.1 hp]; rfl
theorem uni_two {a b : Sp} {R : Sps} (hab : a.1 < b.1) (h : uniP [a] [b] R) : R = joinL [a] b := by
  obtain ⟨M, hp, hs, rfl⟩ := h;have hl := hp.length_eq;match M, hp, hs, hl with
  | [x, y], hp, hs, _ =>
    have hxy : x.1 ≤ y.1 := hs 0 1 (by simp) (by simp) (by omega);have hx : x = a ∨ x = b := by have := hp.subset (List.mem_cons_self); simpa using this
    have hy : y = a ∨ y = b := by have := hp.subset (List.mem_cons_of_mem x List.mem_cons_self); simpa using this
    have ha : a = x ∨ a = y := by have := hp.symm.subset (show a ∈ [a] ++ [b] by simp); simpa using this
    have hb : b = x ∨ b = y := by have := hp.symm.subset (show b ∈ [a] ++ [b] by simp); simpa using this
    have hxa : x = a := by
      rcases hx with h | h
      · exact h
      · subst h;rcases ha with h1 | h1
        · subst h1; exact rfl
        · subst h1; omega
    subst hxa;have hyb : y = b := by
      rcases hb with h1 | h1
      · subst h1; omega
      · exact h1.symm
    subst hyb;rfl
theorem exs38 {p : Sps × Int} (h : exsP [r0, r1] [] p) : p = ([(0, 4)], 0) := by
  simp only [exs_cons, spans38a, spans38b] at h;simp only [ne_eq, not_true_eq_false, if_false] at h;obtain ⟨R, h1, R2, h2, h3⟩ := h;rw [uni_one h1] at h2;rw [uni_two (by decide) h2] at h3;exact h3
theorem exs38b {p : Sps × Int} (h : exsP [r27] [] p) : p = ([], 2) := by
  simp only [exs_cons, spans38c] at h;simpa using h
end Go.Gz
namespace Go.Proofs.YtjhgaildbeokkaaGreatDoor
open Go.RowKit Go.Gz Go.Shelf

set_option maxRecDepth 100000
theorem keep38b : keepL L38 (zoomR 1 2) = [(1, [98]), (5, [99])] := by decide +kernel
abbrev CA38 : Array Value := #[.int .u64 0, .string ⟨#[97]⟩, .int .u64 1, .string ⟨#[98]⟩, .int .u64 5, .string ⟨#[99]⟩]
theorem of38_any (b : Nat) (w : World) (h : w.heap[b]? = some (.cells CA38 102 (0, 0))) :
    Calls Tryz.prog 46 #[.slice (some ⟨b, 0, none⟩) 3 3] w (OfEnd w L38) := by
  refine (of_any L38 (good_fit good38) (by decide) (some ⟨b, 0, none⟩) 3 w ?_).mono ?_
  · exact ⟨rfl, by decide, by unfold maxLen; omega, fun h => by (cases h), fun _ => ⟨b, 0, rfl, fun j u hj => by
      rw [cell_of_row w b (0 + j) _ _ (0, 0) h, Nat.zero_add];simpa [itV, L38] using hj⟩⟩
  · rintro e w' ⟨M, hp, hs, A, c, he, hr, hu⟩;obtain rfl := srt_perm good38.srt hs hp;exact ⟨A, c, he, hr, hu⟩
theorem rd_rects {w : World} {b n : Nat} {cs : Array Value} {l : Rcs} (h : w.heap[b]? = some (.cells cs 166 (0, 0))) (hc : cs.toList = rcV l) (hn : l.length = n) (hm : n ≤ 1000) : Rd w 5 (some ⟨b, 0, none⟩) n n (rcV l) :=
  ⟨by rw [rcV_len, hn], Nat.le_refl _, by unfold maxLen; omega, fun h => by (cases h), fun _ => ⟨b, 0, rfl, fun j u hj => by
      rw [cell_of_row w b (0 + j) _ _ (0, 0) h, Nat.zero_add, ← Array.getElem?_toList, hc];exact hj⟩⟩
set_option maxHeartbeats 16000000 in
theorem awake38 (w : World) :
    Calls Tryz.prog 33 #[] w fun e w' => e = .returned (.bool true) ∧ Up w w' := by
  have OF := fun b w h => Lib.hid (of38_any b w h);have E1 : ∀ A1 c1 A2 c2 w, Rd w 2 A1 3 c1 (itV L38) → Rd w 5 A2 1 c2 (rcV [r0]) → Hid (Calls Tryz.prog 37 #[.agg #[.slice A1 3 c1], .slice A2 1 c2] w (ChaE w [(0, [97])])) := fun A1 c1 A2 c2 w h1 h2 => by
    rw [← keep38a]; exact Lib.hid (eof_any L38 good38 [r0] (by decide) A1 c1 A2 c2 w h1 h2)
  have E2 : ∀ A1 c1 w, Rd w 2 A1 3 c1 (itV L38) → Hid (Calls Tryz.prog 39 #[.agg #[.slice A1 3 c1], .int .i64 1, .int .i64 2] w (ChaE w [(1, [98]), (5, [99])])) := fun A1 c1 w h1 => by
    rw [← keep38b]; exact Lib.hid (ezooms_any L38 good38 1 2 A1 c1 w h1)
  have E3 : ∀ A1 c1 w, Rd w 2 A1 3 c1 (itV L38) → Hid (Calls Tryz.prog 37 #[.agg #[.slice A1 3 c1], .slice none 0 0] w (ChaE w [])) := fun A1 c1 w h1 => by
    rw [← keep38c]; exact Lib.hid (eof_any L38 good38 [] (by decide) A1 c1 none 0 w h1 (Rd.nil_ _ _))
  have S1 : ∀ A c w, Rd w 5 A 2 c (rcV [r0, r1]) → Hid (Calls Tryz.prog 42 #[.slice A 2 c] w (SpnE w ([(0, 4)], 0))) := fun A c w h => Lib.hid ((exspans_any [r0, r1] (by decide) A c w h).mono fun _ _ ⟨p, hp, he⟩ => by rw [exs38 hp] at he; exact he);have S2 : ∀ A c w, Rd w 5 A 1 c (rcV [r27]) → Hid (Calls Tryz.prog 42 #[.slice A 1 c] w (SpnE w ([], 2))) := fun A c w h => Lib.hid ((exspans_any [r27] (by decide) A c w h).mono fun _ _ ⟨p, hp, he⟩ => by rw [exs38b hp] at he; exact he);have FL := fun w => Lib.hid (exfile_short w);have GT : ∀ A c w, Rd w 2 A 1 c (itV [(0, [97])]) → Hid (Calls Tryz.prog 76 #[.agg #[.slice A 1 c], .int .u64 0] w fun e w' => e = .returned (.tuple #[.string ⟨#[97]⟩, .bool true]) ∧ Up w w') := fun A c w hr => Lib.hid (cget12_any [(0, [97])] (by decide) 0 A c (by rw [← keep38a]; exact (good_keep good38 _).srt) w hr);have LN := fun A (n : Nat) c w => Lib.hid (len_any A n c w);unfold OfEnd at OF;unfold ChaE at E1 E2 E3;unfold SpnE at S1 S2;simp only [show L38.length = 3 from rfl, List.length_cons, List.length_nil, Nat.zero_add, Nat.reduceAdd] at OF E1 E2 E3 S1 S2;have n0 := heap_alloc_new w (.cells CA38 102);have HU := Lib.hid ((Up.refl w).alloc (.cells CA38 102));go_enter Tryz.func33, Tryz.ntmps33;go_wp2_with fail;with_reducible refine (OF _ _ n0).out.mono ?_
  rintro e w1 ⟨A1, c1, rfl, r1, hu⟩;have n1 := new1 w1 29 (.slice A1 3 c1);have HR1 := Lib.hid (r1.up n1.1);have k1 := n1.2.1;replace HU := Lib.hid (HU.out.trans (hu.trans n1.1));clear r1 hu n0 n1 OF
  --W
  have n0 := heap_alloc_new (w1.alloc (.cells #[.slice A1 3 c1] 29)) (.cells #[.int .i64 0, .int .i64 0, .int .i64 0, .int .i64 0, .int .i64 0] 166);rw [World.size_alloc] at n0;have hv := (Up.refl (w1.alloc (.cells #[.slice A1 3 c1] 29))).alloc (.cells #[.int .i64 0, .int .i64 0, .int .i64 0, .int .i64 0, .int .i64 0] 166);go_wp2_with fail;with_reducible refine (E1 _ _ _ _ _ (HR1.out.up hv) (rd_rects n0 rfl rfl (by decide))).out.mono ?_
  rintro e w2 ⟨A2, c2, rfl, r2, hu⟩;have n2 := new1 w2 29 (.slice A2 1 c2);have hw := hv.trans (hu.trans n2.1);replace k1 := hw.cell k1;replace HR1 := Lib.hid (HR1.out.up hw);replace HU := Lib.hid (HU.out.trans hw);have HR2 := Lib.hid (r2.up n2.1);have k2 := n2.2.1;clear r2 hu n0 n2 E1 hv hw;go_wp2_with fail;with_reducible refine (E2 _ _ _ HR1.out).out.mono ?_
  rintro e w3 ⟨A3, c3, rfl, r3, hu⟩;have n3 := new1 w3 29 (.slice A3 2 c3);have hw := hu.trans n3.1;replace k1 := hw.cell k1;replace k2 := hw.cell k2;replace HR1 := Lib.hid (HR1.out.up hw);replace HR2 := Lib.hid (HR2.out.up hw);replace HU := Lib.hid (HU.out.trans hw);have k3 := n3.2.1;clear r3 hu n3 E2 hw;have n0 := heap_alloc_new (w3.alloc (.cells #[.slice A3 2 c3] 29)) (.cells #[.int .i64 0, .int .i64 0, .int .i64 0, .int .i64 0, .int .i64 0, .int .i64 1, .int .i64 0, .int .i64 0, .int .i64 1, .int .i64 1] 166);rw [World.size_alloc] at n0;have hv := (Up.refl (w3.alloc (.cells #[.slice A3 2 c3] 29))).alloc (.cells #[.int .i64 0, .int .i64 0, .int .i64 0, .int .i64 0, .int .i64 0, .int .i64 1, .int .i64 0, .int .i64 0, .int .i64 1, .int .i64 1] 166);go_wp2_with fail;refine (S1 _ _ _ (rd_rects n0 rfl rfl (by decide))).out.mono ?_;rintro e w4 ⟨A4, c4, rfl, r4, hu⟩;have hw := hv.trans hu;replace k1 := hw.cell k1;replace k2 := hw.cell k2;replace k3 := hw.cell k3;replace HR1 := Lib.hid (HR1.out.up hw);replace HR2 := Lib.hid (HR2.out.up hw);replace HU := Lib.hid (HU.out.trans hw);obtain ⟨b4, o4, rfl, l0, l1⟩ := Rd.span r4 (k := 0) (by decide);rw [Nat.zero_mul, Nat.add_zero] at l0 l1;simp only [List.getElem_cons_zero] at l0 l1;clear r4 hu n0 S1 hv hw;have n0 := heap_alloc_new w4 (.cells #[.int .i64 27, .int .i64 0, .int .i64 0, .int .i64 0, .int .i64 0] 166);have hv := (Up.refl w4).alloc (.cells #[.int .i64 27, .int .i64 0, .int .i64 0, .int .i64 0, .int .i64 0] 166);go_wp2_with fail;refine (S2 _ _ _ (rd_rects n0 rfl rfl (by decide))).out.mono ?_;rintro e w5 ⟨A5, c5, rfl, r5, hu⟩;have hw := hv.trans hu;replace k1 := hw.cell k1;replace k2 := hw.cell k2;replace k3 := hw.cell k3;replace l0 := hw.cell l0;replace l1 := hw.cell l1;replace HR1 := Lib.hid (HR1.out.up hw);replace HR2 := Lib.hid (HR2.out.up hw);replace HU := Lib.hid (HU.out.trans hw);clear r5 hu n0 S2 hv hw;go_wp2_with fail;refine (FL _).out.mono ?_;rintro e w6 ⟨rfl, hu⟩;replace k1 := hu.cell k1;replace k2 := hu.cell k2;replace k3 := hu.cell k3;replace l0 := hu.cell l0;replace l1 := hu.cell l1;replace HR1 := Lib.hid (HR1.out.up hu);replace HR2 := Lib.hid (HR2.out.up hu);replace HU := Lib.hid (HU.out.trans hu);clear hu FL;go_wp2_with fail;refine (GT _ _ _ HR2.out).out.mono ?_;rintro e w7 ⟨rfl, hu⟩;replace k1 := hu.cell k1;replace k2 := hu.cell k2;replace k3 := hu.cell k3;replace l0 := hu.cell l0;replace l1 := hu.cell l1;replace HR1 := Lib.hid (HR1.out.up hu);replace HR2 := Lib.hid (HR2.out.up hu);replace HU := Lib.hid (HU.out.trans hu);clear hu GT;go_wp2_with fail;refine (LN _ _ _ _).out.mono ?_;rintro e w8 ⟨rfl, hu⟩;replace k1 := hu.cell k1;replace k2 := hu.cell k2;replace k3 := hu.cell k3;replace l0 := hu.cell l0;replace l1 := hu.cell l1;replace HR1 := Lib.hid (HR1.out.up hu);replace HR2 := Lib.hid (HR2.out.up hu);replace HU := Lib.hid (HU.out.trans hu);clear hu;go_wp2_with fail;refine (LN _ _ _ _).out.mono ?_;rintro e w9 ⟨rfl, hu⟩;replace k1 := hu.cell k1;replace k2 := hu.cell k2;replace k3 := hu.cell k3;replace l0 := hu.cell l0;replace l1 := hu.cell l1;replace HR1 := Lib.hid (HR1.out.up hu);replace HR2 := Lib.hid (HR2.out.up hu);replace HU := Lib.hid (HU.out.trans hu);clear hu;go_wp2_with fail;refine (E3 _ _ _ HR1.out).out.mono ?_;rintro e w10 ⟨A6, c6, rfl, r6, hu⟩;replace k1 := hu.cell k1;replace HU := Lib.hid (HU.out.trans hu);clear hu r6 k2 k3 l0 l1 HR1 HR2;go_wp2_with fail;refine (LN _ _ _ _).out.mono ?_;rintro e w11 ⟨rfl, hu⟩;replace k1 := hu.cell k1;replace HU := Lib.hid (HU.out.trans hu);clear hu;go_wp2_with fail;refine (LN _ _ _ _).out.mono ?_;rintro e w12 ⟨rfl, hu⟩;replace HU := Lib.hid (HU.out.trans hu);clear hu k1;go_wp2_with fail;go_ret;exact ⟨rfl, HU.out⟩
end Go.Proofs.YtjhgaildbeokkaaGreatDoor
