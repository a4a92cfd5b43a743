/- Walk: jtext.Take, given jtext.mark. -/
import Derived.Test.YtkfococpanailaaGreatDoorGU35
import Derived.Test.YtkfococpanailaaGreatDoorGU36
import Derived.Test.YtkfococpanailaaGreatDoorGU11
import Derived.Laws.Bits64b
import Derived.Test.YtkfococpanailaaGreatDoorGU12
namespace Go.Proofs.YtkfococpanailaaGreatDoor
open Go.RowKit Go.Gz Go.Shelf

set_option maxRecDepth 100000
/-- jtext.mark, where it is asked -/
def MarkOK (s : Bs) : Prop := ∀ i, s[i]? = some 92 → ∀ w, Hid (Calls Tryz.prog 259 #[.string ⟨(s.drop i).toArray⟩] w fun e w' => e = .returned (.tuple #[.int .i32 ((markN (s.drop i)).1 : Int), .int .i64 ((markN (s.drop i)).2.1 : Int), .int .i64 (markN (s.drop i)).2.2]) ∧ w = w')
def TakeRel (w : World) (s : Bs) (T : Bs × Nat × Int) (gk : Nat) (i : Value) (wr : World) : Prop :=
  ∃ (k : Nat) (acc : Bs), i = .int .i64 (k : Int) ∧ BldF w.heap.size w.heap.size acc wr ∧ Up w wr ∧ takeL s gk k acc = T ∧ s.length ≤ k + gk ∧ k ≤ s.length ∧ acc.length ≤ 4 * k
theorem rune_any (r : Bs) (w : World) (h : Lib.Utf8Tabs 1 2 w) : Calls Tryz.prog 261 #[.string ⟨r.toArray⟩] w fun e w' => e = .returned (.tuple #[.int .i32 ((runeN r).1 : Int), .int .i64 ((runeN r).2 : Int)]) ∧ Up w w' :=
  Tryz.utf8_DecodeRuneInString ⟨r.toArray⟩ w h
theorem bstr_any (B b : Nat) (l : Bs) (w : World) (h : BldF B b l w) (hB : B ≤ w.heap.size) : Calls Tryz.prog 162 #[.pointer (some ⟨b, 0, none⟩)] w fun e w' => e = .returned (.string ⟨l.toArray⟩) ∧ Below B w w' :=
  (Tryz.Builder_String_any_k B b l w h hB).mono fun _ _ h => ⟨h.1, h.2.2.1⟩
theorem utf_up {w w' : World} {a b : Nat} (h : Lib.Utf8Tabs a b w) (hu : Up w w') : Lib.Utf8Tabs a b w' := ⟨fun c hc => hu.cell (h.1 c hc), fun i hi => ⟨hu.cell (h.2 i hi).1, hu.cell (h.2 i hi).2⟩⟩
theorem ownF_up {w w' : World} {base : Nat} {e : TypeId} {size n : Nat} {v : Value} {xs : List Value} (h : w.ownsRowF base e size v n xs) (hu : Up w w') : w'.ownsRowF base e size v n xs := by
  refine World.ownsRowF.kept (row := none) h ⟨hu.os, hu.tape, hu.output, hu.size, fun k hk _ => hu.block hk⟩ ?_;cases v.ownBlock <;> simp
theorem bld_up {w w' : World} {B b : Nat} {l : Bs} (h : BldF B b l w) (hu : Up w w') : BldF B b l w' := by
  have key : ∀ {p : Value}, Lib.BuilderAtF 259 5 B b p (Lib.byteCells l) w → Lib.BuilderAtF 259 5 B b p (Lib.byteCells l) w' := by
    rintro p ⟨h1, v, h2, h3, h4⟩;exact ⟨h1, v, hu.obj h2, ownF_up h3 hu, h4⟩
  rcases h with h | h
  · exact .inl (key h)
  · exact .inr (key h)
def TakeE (w : World) (T : Bs × Nat × Int) (e : Ending) (w' : World) : Prop := e = .returned (.tuple #[.string ⟨T.1.toArray⟩, .int .i64 (T.2.1 : Int), .int .i64 T.2.2]) ∧ Up w w'
set_option maxHeartbeats 4000000 in
theorem jtake_any (s : Bs) (hs : s.length ≤ 1000000) (MK : MarkOK s) (a : Nat) (ha : a ≤ s.length) (w : World) (hg : Lib.Utf8Tabs 1 2 w) :
    Calls Tryz.prog 233 #[.string ⟨s.toArray⟩, .int .i64 (a : Int)] w (TakeE w (takeN s a)) := by
  have HG := Lib.hid hg;have HMK := Lib.hid MK;clear hg MK;by_cases hlt : a < s.length
  · obtain ⟨b, hb⟩ : ∃ b, (⟨s.toArray⟩ : ByteArray)[a]'(by rw [size_mk]; exact hlt) = b := ⟨_, rfl⟩;have hbk : s[a]? = some b := by rw [List.getElem?_eq_getElem hlt, ← hb]; rfl
    have b1 : (0 : Int) ≤ (a : Int) := by omega
    have b1' : ¬ (a : Int) < 0 := by omega
    have b2 : (a : Int) < (s.length : Int) := by omega
    have b3 : ¬ (s.length : Int) < (a : Int) := by omega
    have b4 : ((a : Int) == (s.length : Int)) = false := by rw [beq_eq_false_iff_ne]; omega
    by_cases hq : b = 34
    · subst hq;have hT : takeL s s.length (a + 1) [] = takeN s a := by unfold takeN; rw [hbk, if_neg (by simp), if_neg (by simp)]
      generalize takeN s a = T at *;have HT := Lib.hid hT;have b5 : IntKind.i64.wrap ((a : Int) + 1) = ((a + 1 : Nat) : Int) := by rw [IntWalk.i64_in _ (by omega)]; omega
      have HF := Lib.hid (Lib.IsBuilderF.of (Lib.fresh_isBuilder 259 5 w));clear hT hbk;go_enter Tryz.func233, Tryz.ntmps233;go_wp2_with fail;clear hb b1 b1' b2 b3 b4;go_loopg [8] s.length (fun gk i wr => TakeRel w s T gk i wr)
      case atStart => exact ⟨a + 1, [], rfl, HF.out, (Up.refl w).alloc _, HT.out, by omega, by omega, by simp⟩
      case round =>
        obtain ⟨k, acc, rfl, hbl, hu, ht, hg1, hk, hacc⟩ := hrel;have HB := Lib.hid hbl;have HU := Lib.hid hu;have HA := Lib.hid hacc;have hle := hu.le;clear hbl hu hacc;by_cases hlt : k < s.length
        · obtain ⟨g, rfl⟩ : ∃ g, gk = g + 1 := ⟨gk - 1, by omega⟩;obtain ⟨c, hc⟩ : ∃ c, (⟨s.toArray⟩ : ByteArray)[k]'(by rw [size_mk]; exact hlt) = c := ⟨_, rfl⟩;have hck : s[k]? = some c := by rw [List.getElem?_eq_getElem hlt, ← hc]; rfl
          have b1 : (0 : Int) ≤ (k : Int) := by omega
          have b2 : (k : Int) < (s.length : Int) := by omega
          have b3 : ¬ (s.length : Int) < (k : Int) := by omega
          unfold takeL at ht;rw [hck] at ht;simp only at ht;by_cases h34 : c = 34
          · subst h34;rw [if_pos rfl] at ht;subst ht;have b5 : IntKind.i64.wrap ((k : Int) + 1) = ((k + 1 : Nat) : Int) := by rw [IntWalk.i64_in _ (by omega)]; omega
            clear hck;go_wp2_with fail;with_reducible refine (bstr_any _ _ _ _ HB.out hle).mono ?_
            rintro e w2 ⟨rfl, hb2⟩;go_wp2_with fail;go_ret3
            exact ⟨rfl, Up.of (HU.out.below.trans hb2)⟩
          rw [if_neg h34] at ht;have e34 : ((c.toNat : Int) == 34) = false := by rw [beq_eq_false_iff_ne]; intro e; exact h34 (UInt8.toNat.inj (by simpa using (by omega : c.toNat = 34)))
          have hx := drop_mk s k;by_cases h92 : c = 92
          · subst h92;rw [if_pos rfl] at ht;have MK := fun w => HMK.out k hck w;generalize hm : markN (s.drop k) = m at *;have HM := Lib.hid hm;obtain ⟨mc, mn, me⟩ := m;simp only at ht MK;clear hm hck;generalize hd : s.drop k = r at *;have HD := Lib.hid hd;clear hd;by_cases h3 : me = 3
            · subst h3;rw [if_pos rfl] at ht;subst ht;go_wp2_with fail;with_reducible refine (MK _).out.mono ?_
              rintro e w2 ⟨rfl, rfl⟩;go_wp2_with fail;go_ret3
              exact ⟨rfl, HU.out⟩
            have e3 : (me == 3) = false := by rw [beq_eq_false_iff_ne]; exact h3
            rw [if_neg h3] at ht;by_cases h0 : me = 0
            · subst h0;rw [if_neg (by simp)] at ht;have hfit : 1 ≤ mn ∧ mn ≤ r.length := by
                have := markN_fit (r := r) (by rw [HM.out]);rw [HM.out] at this;exact this
              have hmc : mc ≤ 200000000 := by
                have := markN_le r;rw [HM.out] at this;exact this
              have hrl : r.length = s.length - k := by rw [← HD.out, List.length_drop]
              have b6 : IntKind.i64.wrap ((k : Int) + (mn : Int)) = ((k + mn : Nat) : Int) := by rw [IntWalk.i64_in _ (by omega)]; omega
              have HT := Lib.hid ht;clear ht;go_wp2_with fail;with_reducible refine (MK _).out.mono ?_
              rintro e w2 ⟨rfl, rfl⟩;go_wp2_with fail;with_reducible refine (wrune_any w.heap.size w.heap.size acc (mc : Int) (by omega) (by omega) _ HB.out (by have := HA.out; omega) hle).mono ?_
              rintro e w3 ⟨⟨V, rfl⟩, hb3, hlow3⟩;go_wp2_with fail;go_roundg g
              case measure => omega
              case rel =>
                refine ⟨k + mn, acc ++ Lib.encodeRune (mc : Int), by go_num, hb3, Up.of (HU.out.below.trans hlow3), HT.out, by omega, by omega, ?_⟩;rw [List.length_append];have := enc_len (mc : Int);have := HA.out;omega
            · have e0 : (me != 0) = true := by rw [bne_iff_ne]; exact h0
              rw [if_pos h0] at ht;subst ht;go_wp2_with fail;with_reducible refine (MK _).out.mono ?_
              rintro e w2 ⟨rfl, rfl⟩;go_wp2_with fail;go_ret3
              exact ⟨rfl, HU.out⟩
          rw [if_neg h92] at ht;have e92 : ((c.toNat : Int) == 92) = false := by rw [beq_eq_false_iff_ne]; intro e; exact h92 (UInt8.toNat.inj (by simpa using (by omega : c.toNat = 92)))
          have hfit := runeN_fit (r := s.drop k) (by rw [List.length_drop]; omega);rw [List.length_drop] at hfit;obtain ⟨⟨rc, rn⟩, hrn⟩ : ∃ x, runeN (s.drop k) = x := ⟨_, rfl⟩;rw [hrn] at hfit ht;have RN : ∀ w1, Lib.Utf8Tabs 1 2 w1 → Hid (Calls Tryz.prog 261 #[.string ⟨(s.drop k).toArray⟩] w1 fun e w' => e = .returned (.tuple #[.int .i32 (rc : Int), .int .i64 (rn : Int)]) ∧ Up w1 w') := by
            intro w1 hw;have t := rune_any (s.drop k) w1 hw;rw [hrn] at t;exact Lib.hid t
          simp only at hfit ht;clear hrn hck;generalize s.drop k = r at *;by_cases h1 : rc = 65533
          · subst h1;by_cases h2 : rn < 2
            · have t1 : (((65533 : Nat) : Int) == 65533) = true := by decide
              have t2 : (rn : Int) < 2 := by omega
              have t3 : ¬ ((65533 : Nat) : Int) < 32 := by omega
              rw [if_pos (by omega)] at ht;have HT := Lib.hid ht.symm;clear ht;go_wp2_with fail;with_reducible refine (RN _ (utf_up HG.out HU.out)).out.mono ?_
              rintro e w2 ⟨rfl, hu2⟩;have HU2 := Lib.hid (HU.out.trans hu2);clear hu2;go_wp2_with fail;go_ret3
              rw [HT.out];exact ⟨rfl, HU2.out⟩
            · have t1 : (((65533 : Nat) : Int) == 65533) = true := by decide
              have t2 : ¬ (rn : Int) < 2 := by omega
              have t3 : ¬ ((65533 : Nat) : Int) < 32 := by omega
              rw [if_neg (by omega)] at ht;have HT := Lib.hid ht;clear ht;have b6 : IntKind.i64.wrap ((k : Int) + (rn : Int)) = ((k + rn : Nat) : Int) := by rw [IntWalk.i64_in _ (by omega)]; omega
              go_wp2_with fail;with_reducible refine (RN _ (utf_up HG.out HU.out)).out.mono ?_
              rintro e w2 ⟨rfl, hu2⟩;have HU2 := Lib.hid (HU.out.trans hu2);have hb2 : BldF w.heap.size w.heap.size acc w2 := bld_up HB.out hu2;have HB2 := Lib.hid hb2;have hle2 := HU2.out.le;clear hu2 hb2;go_wp2_with fail;with_reducible refine (wrune_any w.heap.size w.heap.size acc (65533 : Int) (by omega) (by omega) _ HB2.out (by have := HA.out; omega) hle2).mono ?_
              rintro e w3 ⟨⟨V, rfl⟩, hb3, hlow3⟩;go_wp2_with fail;go_roundg g
              case measure => omega
              case rel =>
                refine ⟨k + rn, acc ++ Lib.encodeRune (65533 : Int), by go_num, hb3, Up.of (HU2.out.below.trans hlow3), HT.out, by omega, by omega, ?_⟩;rw [List.length_append];have := enc_len (65533 : Int);have := HA.out;omega
          · by_cases h3 : rc < 32
            · by_cases h2 : rn < 2
              focus
                have t1 : ((rc : Int) == 65533) = false := by rw [beq_eq_false_iff_ne]; omega
                have t2 : (rn : Int) < 2 := by omega
              rotate_left;focus
                have t1 : ((rc : Int) == 65533) = false := by rw [beq_eq_false_iff_ne]; omega
                have t2 : ¬ (rn : Int) < 2 := by omega
              rotate_left;all_goals
                have t3 : (rc : Int) < 32 := by omega
                rw [if_pos (by omega)] at ht;have HT := Lib.hid ht.symm;clear ht;go_wp2_with fail;with_reducible refine (RN _ (utf_up HG.out HU.out)).out.mono ?_
                rintro e w2 ⟨rfl, hu2⟩;have HU2 := Lib.hid (HU.out.trans hu2);clear hu2;go_wp2_with fail;go_ret3
                rw [HT.out];exact ⟨rfl, HU2.out⟩
            · by_cases h2 : rn < 2
              focus
                have t1 : ((rc : Int) == 65533) = false := by rw [beq_eq_false_iff_ne]; omega
                have t2 : (rn : Int) < 2 := by omega
              rotate_left;focus
                have t1 : ((rc : Int) == 65533) = false := by rw [beq_eq_false_iff_ne]; omega
                have t2 : ¬ (rn : Int) < 2 := by omega
              rotate_left;all_goals
                have t3 : ¬ (rc : Int) < 32 := by omega
                rw [if_neg (by omega)] at ht;have HT := Lib.hid ht;clear ht;have b6 : IntKind.i64.wrap ((k : Int) + (rn : Int)) = ((k + rn : Nat) : Int) := by rw [IntWalk.i64_in _ (by omega)]; omega
                go_wp2_with fail;with_reducible refine (RN _ (utf_up HG.out HU.out)).out.mono ?_
                rintro e w2 ⟨rfl, hu2⟩;have HU2 := Lib.hid (HU.out.trans hu2);have hb2 : BldF w.heap.size w.heap.size acc w2 := bld_up HB.out hu2;have HB2 := Lib.hid hb2;have hle2 := HU2.out.le;clear hu2 hb2;go_wp2_with fail;with_reducible refine (wrune_any w.heap.size w.heap.size acc (rc : Int) (by omega) (by omega) _ HB2.out (by have := HA.out; omega) hle2).mono ?_
                rintro e w3 ⟨⟨V, rfl⟩, hb3, hlow3⟩;go_wp2_with fail;go_roundg g
                case measure => omega
                case rel =>
                  refine ⟨k + rn, acc ++ Lib.encodeRune (rc : Int), by go_num, hb3, Up.of (HU2.out.below.trans hlow3), HT.out, by omega, by omega, ?_⟩;rw [List.length_append];have := enc_len (rc : Int);have := HA.out;omega
        · have hkk : k = s.length := by omega
          subst hkk;have hT : T = ([], s.length, 3) := by
            rw [← ht];cases gk with
            | zero => rfl
            | succ g => unfold takeL; rw [List.getElem?_eq_none (Nat.le_refl _)]
          subst hT;clear ht hlt;have b2 : ¬ (s.length : Int) < (s.length : Int) := by omega
          go_wp2_with fail;go_ret3
          exact ⟨rfl, HU.out⟩
    · have hT : takeN s a = ([], a, 4) := by unfold takeN; rw [hbk, if_neg (by simp), if_pos (by simpa using hq)]
      rw [hT];have hne : (((b.toNat : Int)) != 34) = true := by
        rw [bne_iff_ne]; intro e; exact hq (UInt8.toNat.inj (by simpa using (by omega : b.toNat = 34)))
      clear hT hbk hq;go_enter Tryz.func233, Tryz.ntmps233;go_wp2_with fail;go_ret3
      exact ⟨rfl, Up.refl w⟩
  · obtain rfl : a = s.length := by omega
    have hT : takeN s s.length = ([], s.length, 3) := by unfold takeN; rw [List.getElem?_eq_none (by omega), if_pos rfl]
    rw [hT];have b1' : ¬ (s.length : Int) < 0 := by omega
    have b3 : ¬ (s.length : Int) < (s.length : Int) := by omega
    have b4 : ((s.length : Int) == (s.length : Int)) = true := by rw [beq_iff_eq]
    clear hT hlt ha;go_enter Tryz.func233, Tryz.ntmps233;go_wp2_with fail;go_ret3
    exact ⟨rfl, Up.refl w⟩
end Go.Proofs.YtkfococpanailaaGreatDoor
/- Walks: the notes' reader: what it keeps; text. -/
namespace Go.Proofs.YtkfococpanailaaGreatDoor
open Go.RowKit Go.Gz Go.Shelf

set_option maxRecDepth 100000
/-- the package-level variables hold what they should, and block R is none of them -/
structure RG (w : World) (R : Nat) : Prop where
  gl : Gl w
  ne : 5 ≠ R ∧ 3 ≠ R ∧ 4 ≠ R ∧ 1 ≠ R ∧ 2 ≠ R
theorem var_keep {P : Program} {w w' : World} {n : String} {g R : Nat} {cs : Array Value} (hg : P.globalNamed n = some g) (hne : g ≠ R) (hk : RK R w w') (h : w.var? P n = some cs) : w'.var? P n = some cs := by
  have hlt := var_lt hg h;unfold World.var? at h ⊢;simp only [hg, Option.bind_some] at h ⊢;rw [hk.block g hlt (fun e => hne (by injection e))];exact h
theorem cell_keep {R : Nat} {w w' : World} {p : Addr} {v : Value} (hne : p.block ≠ R) (hk : RK R w w') (h : w.cell? p = some v) : w'.cell? p = some v := by
  rw [← h];unfold World.cell?;rw [hk.block p.block (World.block_lt_of_cell? w p h) (fun e => hne (by injection e))]
theorem RG.keep {w w' : World} {R : Nat} (h : RG w R) (hk : RK R w w') : RG w' R := by
  refine ⟨⟨var_keep g_pow10 h.ne.1 hk h.gl.pow10, ?_, ?_, fun c hc => cell_keep h.ne.2.2.2.1 hk (h.gl.utf8.1 c hc), fun i hi => ⟨cell_keep h.ne.2.2.2.2 hk (h.gl.utf8.2 i hi).1, cell_keep h.ne.2.2.2.2 hk (h.gl.utf8.2 i hi).2⟩⟩, h.ne⟩
  · obtain ⟨tp, p, e⟩ := h.gl.errSyntax;exact ⟨tp, p, var_keep g_syn h.ne.2.1 hk e⟩
  · obtain ⟨tp, p, e⟩ := h.gl.errRange;exact ⟨tp, p, var_keep g_rng h.ne.2.2.1 hk e⟩
theorem RG.of {w : World} (h : Gl w) (o : Obj) : RG (w.alloc o) w.heap.size := by
  refine ⟨h.up ((Up.refl w).alloc o), ?_⟩;have h1 := var_lt g_pow10 h.pow10;obtain ⟨_, _, e2⟩ := h.errSyntax;have h2 := var_lt g_syn e2;obtain ⟨_, _, e3⟩ := h.errRange;have h3 := var_lt g_rng e3;have h4 := World.block_lt_of_cell? w _ (h.utf8.1 0 (by omega));have h5 := World.block_lt_of_cell? w _ (h.utf8.2 0 (by omega)).1;simp only at h4 h5;omega
theorem rfail0 (R : Nat) (s : Bs) (a b : Nat) (F : Int) (w : World) (h : RB w R s a 0) :
    Calls Tryz.prog 146 #[.pointer (some ⟨R, 0, none⟩), .int .i64 (b : Int), .int .i64 F] w fun e w' => e = .returned .nilIface ∧ RK R w w' ∧ RB w' R s b F := by
  refine (rfail_any R s a 0 b F w h).mono ?_;rintro e w' ⟨h1, h2, h3⟩;rw [if_pos rfl] at h3;exact ⟨h1, h2, h3⟩
theorem takeN_nil (s : Bs) (a : Nat) (h : (takeN s a).2.2 ≠ 0) : (takeN s a).1 = [] := by
  have key : ∀ f i acc, (takeL s f i acc).2.2 ≠ 0 → (takeL s f i acc).1 = [] := by
    intro f;induction f with
    | zero => intro i acc _; rfl
    | succ f ih =>
      intro i acc h;unfold takeL at h ⊢;split
      · rfl
      · split
        · rename_i b hb h1; rw [hb] at h; simp only at h; rw [if_pos h1] at h; exact absurd rfl h
        · rename_i b hb h1;rw [hb] at h; simp only at h; rw [if_neg h1] at h;split
          · rename_i h2;rw [if_pos h2] at h;split
            · rfl
            · rename_i h3;rw [if_neg h3] at h;split
              · rfl
              · rename_i h4; rw [if_neg h4] at h; exact ih _ _ h
          · rename_i h2;rw [if_neg h2] at h;split
            · rfl
            · rename_i h3; rw [if_neg h3] at h; exact ih _ _ h
  unfold takeN at h ⊢;split
  · rfl
  · rename_i h1;rw [if_neg h1] at h;split
    · rfl
    · rename_i h2; rw [if_neg h2] at h; exact key _ _ _ h
def TextE (w : World) (R : Nat) (s : Bs) (T : Bs × Nat × Int) (e : Ending) (w' : World) : Prop := e = .returned (.string ⟨T.1.toArray⟩) ∧ RK R w w' ∧ RB w' R s T.2.1 T.2.2
set_option maxHeartbeats 2000000 in
theorem rtext_any (R : Nat) (s : Bs) (hs : s.length ≤ 1000000) (MK : MarkOK s) (a : Nat) (ha : a ≤ s.length) (w : World) (h : RB w R s a 0) (hg : RG w R) :
    Calls Tryz.prog 198 #[.pointer (some ⟨R, 0, none⟩)] w (TextE w R s (takeN s a)) := by
  have HB := Lib.hid h;obtain ⟨c0, c1, c2, z1, z2⟩ := h.cells;have JT := fun w hg => Lib.hid (jtake_any s hs MK a ha w hg);have HN := Lib.hid (takeN_nil s a);have FL := fun b F w h => Lib.hid (rfail0 R s a b F w h);have MKS := Lib.hid (fun w' (hu : Up w w') => (⟨hu, hu.cell c0, hu.cell c1⟩ : Up w w' ∧ w'.cell? ⟨R, 0, none⟩ = some (.string ⟨s.toArray⟩) ∧ w'.cell? ⟨R, 1, none⟩ = some (.int .i64 (a : Int))));have HG := Lib.hid hg.gl.utf8;clear h hg MK;obtain ⟨⟨t, n, te⟩, hT⟩ : ∃ x, takeN s a = x := ⟨_, rfl⟩;rw [hT] at JT HN ⊢;clear hT;unfold TextE;unfold TakeE at JT;simp only at JT HN ⊢;go_enter Tryz.func198, Tryz.ntmps198;go_wp2_with fail
  go_region_held3 (fun w' => Up w w' ∧ w'.cell? ⟨R, 0, none⟩ = some (.string ⟨s.toArray⟩) ∧ w'.cell? ⟨R, 1, none⟩ = some (.int .i64 (a : Int)))
    (first
      | assumption
      | exact MKS.out _ (Up.refl _).drew
      | exact MKS.out _ (Up.trans (And.left (by assumption)) (by assumption)))
    ((go_at_call 233; refine (JT _ (utf_up HG.out (And.left (by assumption)))).out.mono ?_; rintro e w8 ⟨rfl, hu8⟩))
  have HU := Lib.hid ((Up.refl w).drew.trans hu8);have HB8 := Lib.hid (HB.out.up HU.out);obtain ⟨d0, d1, d2, y1, y2⟩ := HB8.out.cells;clear hu8 c0 c1 c2 z1 z2;by_cases he : te = 0
  · subst he;go_wp2_with fail;go_ret;exact ⟨rfl, (RK.up HU.out).trans (RK.set R 1 _ _), HB8.out.at n⟩
  · have e0 : (te != 0) = true := by rw [bne_iff_ne]; exact he
    have hT := HN.out he;subst hT;clear he;go_wp2_with fail;with_reducible refine (FL n te _ HB8.out).out.mono ?_
    rintro e w9 ⟨rfl, hk, hr⟩;have HR := Lib.hid hr;clear hr;go_wp2_with fail;go_ret;exact ⟨rfl, (RK.up HU.out).trans hk, HR.out⟩
end Go.Proofs.YtkfococpanailaaGreatDoor
/- Walks: little.Scan: stands, cut: where the bytes that are asked for stand. -/
namespace Go.Proofs.YtkfococpanailaaGreatDoor
open Go.RowKit Go.Gz Go.Shelf

set_option maxRecDepth 100000
/-- a scan -/
def scanV (s : Bs) (a : Nat) : Value := .agg #[.string ⟨s.toArray⟩, .int .i64 (a : Int), .int .i64 0]
theorem stands_any (s : Bs) (a : Nat) (ha : a ≤ s.length) (w : World) :
    Calls Tryz.prog 278 #[scanV s a] w fun e w' => e = .returned (.bool true) ∧ Up w w' := by
  have h0 := heap_alloc_new w (.cells #[.string ⟨s.toArray⟩, .int .i64 (a : Int), .int .i64 0] 226);have c0 := blkc h0 0 _ rfl;have c1 := blkc h0 1 _ rfl;have b1 : (0 : Int) ≤ (a : Int) := by omega
  have b2 : (a : Int) ≤ (s.length : Int) := by omega
  clear h0 ha;unfold scanV;go_enter Tryz.func278, Tryz.ntmps278;go_wp2_with fail;go_ret;exact ⟨rfl, (Up.refl w).alloc _⟩
def ScutE (w : World) (s : Bs) (a n : Nat) (e : Ending) (w' : World) : Prop := e = .returned (.tuple #[.string ⟨((s.drop a).take n).toArray⟩, scanV s (a + n)]) ∧ Up w w'
set_option maxHeartbeats 4000000 in
theorem scut_any (s : Bs) (hs : s.length ≤ 1000000000) (a n : Nat) (h : a + n ≤ s.length) (w : World) :
    Calls Tryz.prog 257 #[scanV s a, .int .i64 (n : Int), .bool true] w (ScutE w s a n) := by
  have SD := fun w => Lib.hid (stands_any s a (by omega) w);unfold scanV at SD;unfold ScutE scanV;obtain ⟨m, hm⟩ : ∃ m, a + n = m := ⟨_, rfl⟩;obtain ⟨T, hT⟩ : ∃ T, (s.drop a).take n = T := ⟨_, rfl⟩;rw [hm, hT];obtain ⟨X, hX⟩ : ∃ x, (w.alloc (.cells #[.string ⟨s.toArray⟩, .int .i64 (a : Int), .int .i64 0] 226)).alloc (.cells #[.string ⟨#[]⟩, .int .i64 0, .int .i64 0] 226) = x := ⟨_, rfl⟩;have hu : Up w X := by rw [← hX]; exact ((Up.refl w).alloc _).alloc _
  have h0 := ((Up.refl (w.alloc (.cells #[.string ⟨s.toArray⟩, .int .i64 (a : Int), .int .i64 0] 226))).alloc (.cells #[.string ⟨#[]⟩, .int .i64 0, .int .i64 0] 226)).obj (heap_alloc_new w (.cells #[.string ⟨s.toArray⟩, .int .i64 (a : Int), .int .i64 0] 226));have h1 := heap_alloc_new (w.alloc (.cells #[.string ⟨s.toArray⟩, .int .i64 (a : Int), .int .i64 0] 226)) (.cells #[.string ⟨#[]⟩, .int .i64 0, .int .i64 0] 226);rw [hX] at h0 h1;rw [World.size_alloc] at h1;have c0 := blkc h0 0 _ rfl;have c1 := blkc h0 1 _ rfl;have c2 := blkc h0 2 _ rfl;have b4 : IntKind.i64.wrap ((s.length : Int) - (a : Int)) = (s.length : Int) - (a : Int) := IntWalk.i64_in _ (by omega);have b5 : ¬ (s.length : Int) - (a : Int) < (n : Int) := by omega
  have b6 : IntKind.i64.wrap ((a : Int) + (n : Int)) = (m : Int) := by rw [IntWalk.i64_in _ (by omega)]; omega
  have H0 := Lib.hid h0;have H1 := Lib.hid h1;have HU := Lib.hid hu;clear h0 h1 hu;go_enter Tryz.func257, Tryz.ntmps257;go_wp2_with fail;with_reducible refine (SD _).out.mono ?_
  rintro e w1 ⟨rfl, hu1⟩;replace c0 := hu1.cell c0;replace c1 := hu1.cell c1;replace c2 := hu1.cell c2;have H0 := Lib.hid (hu1.obj H0.out);have H1 := Lib.hid (hu1.obj H1.out);have HU := Lib.hid (HU.out.trans hu1);have z1 := blkf H0.out 1;clear hu1;go_wp2_with fail;obtain ⟨Y, hY⟩ : ∃ y, w1.setCell ⟨w.heap.size, 1, none⟩ (.int .i64 (m : Int)) = y := ⟨_, rfl⟩;have g0 : Y.heap[w.heap.size]? = some (.cells #[.string ⟨s.toArray⟩, .int .i64 (m : Int), .int .i64 0] 226 (0, 0)) := by
    rw [← hY]; exact heap_setCell_same w1 w.heap.size 1 _ _ _ H0.out
  have g1 : Y.heap[w.heap.size + 1]? = some (.cells #[.string ⟨#[]⟩, .int .i64 0, .int .i64 0] 226 (0, 0)) := by
    rw [← hY]; exact (heap_setCell_other w1 ⟨w.heap.size, 1, none⟩ (w.heap.size + 1) _ (by simp)).trans H1.out
  have hu : Up w Y := by rw [← hY]; exact HU.out.set (p := ⟨w.heap.size, 1, none⟩) (Nat.le_refl _) _
  have d0 := blkc g0 0 _ rfl;have d1 := blkc g0 1 _ rfl;have d2 := blkc g0 2 _ rfl;have y0 := blkc g1 0 _ rfl;have y1 := blkc g1 1 _ rfl;have y2 := blkc g1 2 _ rfl;have z0 := blkf g1 0;have z1' := blkf g1 1;have z2 := blkf g1 2;have hx : (⟨s.toArray⟩ : ByteArray).extract a m = ⟨((s.drop a).take n).toArray⟩ := by
    apply ByteArray.ext;rw [ByteArray.data_extract];apply Array.ext';simp only [Array.toList_extract, List.extract_eq_take_drop];congr 1; omega
  have hsl : ∀ w', (Instr.slice 9 (.string ⟨s.toArray⟩) (some (.int .i64 (a : Int))) (some (.int .i64 (m : Int))) none).run Tryz.prog w' = .ok (.string ⟨((s.drop a).take n).toArray⟩) w' := fun w' => by
    rw [run_slice_string _ 9 _ _ _ _ _ Tryz.underlying9 (by omega) (by omega) (by rw [size_mk]; omega)];exact congrArg (fun x => Result.ok (Value.string x) w') hx
  rw [hT] at hsl;clear hx c0 c1 c2 z1;try rw [hY]
  have HY := Lib.hid hu;have G1 := Lib.hid g1;clear g0 g1 hu;go_region_law (fail)
  all_goals
    go_wp2_with fail;have f0 : (Y.setCell ⟨w.heap.size + 1, 0, none⟩ (.string ⟨s.toArray⟩)).heap[w.heap.size + 1]? = some (.cells #[.string ⟨s.toArray⟩, .int .i64 0, .int .i64 0] 226 (0, 0)) := heap_setCell_same Y (w.heap.size + 1) 0 _ _ _ G1.out;have f1 : ((Y.setCell ⟨w.heap.size + 1, 0, none⟩ (.string ⟨s.toArray⟩)).setCell ⟨w.heap.size + 1, 1, none⟩ (.int .i64 (m : Int))).heap[w.heap.size + 1]? = some (.cells #[.string ⟨s.toArray⟩, .int .i64 (m : Int), .int .i64 0] 226 (0, 0)) := heap_setCell_same _ (w.heap.size + 1) 1 _ _ _ f0;have f2 : (((Y.setCell ⟨w.heap.size + 1, 0, none⟩ (.string ⟨s.toArray⟩)).setCell ⟨w.heap.size + 1, 1, none⟩ (.int .i64 (m : Int))).setCell ⟨w.heap.size + 1, 2, none⟩ (.int .i64 0)).heap[w.heap.size + 1]? = some (.cells #[.string ⟨s.toArray⟩, .int .i64 (m : Int), .int .i64 0] 226 (0, 0)) := heap_setCell_same _ (w.heap.size + 1) 2 _ _ _ f1;have hu2 := ((HY.out.set (p := ⟨w.heap.size + 1, 0, none⟩) (by simp) (.string ⟨s.toArray⟩)).set (p := ⟨w.heap.size + 1, 1, none⟩) (by simp) (.int .i64 (m : Int))).set (p := ⟨w.heap.size + 1, 2, none⟩) (by simp) (.int .i64 0);generalize ((Y.setCell ⟨w.heap.size + 1, 0, none⟩ (.string ⟨s.toArray⟩)).setCell ⟨w.heap.size + 1, 1, none⟩ (.int .i64 (m : Int))).setCell ⟨w.heap.size + 1, 2, none⟩ (.int .i64 0) = Z at *;have k0 := blkc f2 0 _ rfl;have k1 := blkc f2 1 _ rfl;have k2 := blkc f2 2 _ rfl;refine bodyPost_ret (v := .tuple #[.string ⟨T.toArray⟩, .agg #[.string ⟨s.toArray⟩, .int .i64 (m : Int), .int .i64 0]]) (by simp [results, Tryz.results257, go_sem, k0, k1, k2]) rfl ?_;exact ⟨rfl, hu2.drew⟩
end Go.Proofs.YtkfococpanailaaGreatDoor
/- Walk: little.Scan.Num, where the bytes that are asked for stand. -/
namespace Go.Proofs.YtkfococpanailaaGreatDoor
open Go.RowKit Go.Gz Go.Shelf

set_option maxRecDepth 100000
theorem or_byte (x b k : Nat) (hx : x < 256 ^ k) (hb : b < 256) (hk : k ≤ 7) : bits BinOp.or IntKind.u64 (x : Int) (IntKind.u64.wrap (IntKind.u64.wrap (b : Int) * 2 ^ (8 * k))) = ((x + b * 256 ^ k : Nat) : Int) := by
  have e : (256 : Nat) ^ k = 2 ^ (8 * k) := by rw [Nat.pow_mul]
  have hp : (2 : Nat) ^ (8 * k) ≤ 2 ^ 56 := Nat.pow_le_pow_right (by decide) (by omega);have hm : b * 2 ^ (8 * k) ≤ 255 * 2 ^ 56 := Nat.mul_le_mul (by omega) hp;rw [e] at hx ⊢;have e2 : (b : Int) * 2 ^ (8 * k) = ((b * 2 ^ (8 * k) : Nat) : Int) := by simp
  rw [IntWalk.u64_in (b : Int) (by omega), e2, IntWalk.u64_in _ (by omega), bits_or_u64_nat _ _ (by omega) (by omega)];have h3 := Nat.shiftLeft_add_eq_or_of_lt hx b;rw [Nat.shiftLeft_eq] at h3;rw [Nat.or_comm, ← h3, Nat.add_comm]
def SnumE (w : World) (s : Bs) (a n : Nat) (e : Ending) (w' : World) : Prop := e = .returned (.tuple #[.int .u64 ((leV ((s.drop a).take n) : Nat) : Int), scanV s (a + n)]) ∧ Up w w'
def NumRel (T : Bs) (gk : Nat) (i x : Value) : Prop := ∃ k : Nat, i = .int .i64 (k : Int) ∧ x = .int .u64 ((leV (T.take k) : Nat) : Int) ∧ k + gk = T.length ∧ k ≤ T.length
set_option maxHeartbeats 4000000 in
theorem snum_any (s : Bs) (hs : s.length ≤ 1000000000) (a n : Nat) (hn : 1 ≤ n ∧ n ≤ 8) (h : a + n ≤ s.length) (w : World) :
    Calls Tryz.prog 230 #[scanV s a, .int .i64 (n : Int)] w (SnumE w s a n) := by
  have FT := fun w => Lib.hid (fits_any (n : Int) w);rw [show (decide (1 ≤ (n : Int)) && decide ((n : Int) ≤ 8)) = true by simp; omega] at FT;have CU := fun w => Lib.hid (scut_any s hs a n h w);unfold ScutE scanV at CU;unfold SnumE scanV;obtain ⟨m, hm⟩ : ∃ m, a + n = m := ⟨_, rfl⟩;have hTl : ((s.drop a).take n).length = n := by rw [List.length_take, List.length_drop]; omega
  generalize (s.drop a).take n = T at *;rw [hm] at CU;rw [hm];go_enter Tryz.func230, Tryz.ntmps230;go_wp2_with fail;with_reducible refine (FT _).out.mono ?_
  rintro e w1 ⟨rfl, rfl⟩;go_wp2_with fail;with_reducible refine (CU _).out.mono ?_
  rintro e w2 ⟨rfl, hu2⟩;have HU2 := Lib.hid hu2;clear hu2;go_wp2_with fail;have hu2 := HU2.out;have h1 := heap_alloc_new (w.alloc (.cells #[.string ⟨s.toArray⟩, .int .i64 (a : Int), .int .i64 0] 226)) (.cells #[.string ⟨#[]⟩, .int .i64 0, .int .i64 0] 226);rw [World.size_alloc] at h1;obtain ⟨W0, hW⟩ : ∃ y, w2.alloc (.cells #[.string ⟨s.toArray⟩, .int .i64 (m : Int), .int .i64 0] 226) = y := ⟨_, rfl⟩;have G1 : Hid (W0.heap[w.heap.size + 1]? = some (.cells #[.string ⟨#[]⟩, .int .i64 0, .int .i64 0] 226 (0, 0))) := Lib.hid (by rw [← hW]; exact ((Up.refl w2).alloc _).obj (hu2.obj h1));have G2 : Hid (W0.heap[w2.heap.size]? = some (.cells #[.string ⟨s.toArray⟩, .int .i64 (m : Int), .int .i64 0] 226 (0, 0))) := Lib.hid (by rw [← hW]; exact heap_alloc_new w2 _);have HY : Hid (Up w W0) := Lib.hid (by rw [← hW]; exact ((((Up.refl w).alloc _).alloc _).trans hu2).alloc _);have hle : w.heap.size + 1 < w2.heap.size := by
    have := hu2.le;simp only [World.size_alloc] at this;omega
  clear h1 hu2;go_loopg [23, 9] n (fun gk i x wr => NumRel T gk i x ∧ wr = W0)
  case atStart => exact ⟨⟨0, rfl, rfl, by omega, by omega⟩, hW⟩
  case round =>
    obtain ⟨⟨k, rfl, rfl, hg1, hk⟩, hwr⟩ := hrel;subst hwr;clear hW;by_cases hlt : k < n
    · obtain ⟨g, rfl⟩ : ∃ g, gk = g + 1 := ⟨gk - 1, by omega⟩;obtain ⟨b, hb⟩ : ∃ b, (⟨T.toArray⟩ : ByteArray)[k]'(by rw [size_mk]; omega) = b := ⟨_, rfl⟩;have b0 : (0 : Int) ≤ (k : Int) := by omega
      have b1 : (k : Int) < (n : Int) := by omega
      have b2 : (k : Int) < (T.length : Int) := by omega
      have b3 : IntKind.i64.wrap (8 * (k : Int)) = 8 * (k : Int) := IntWalk.i64_in _ (by omega);have b4 : (0 : Int) ≤ 8 * (k : Int) := by omega
      have hbk : T[k]? = some b := by rw [List.getElem?_eq_getElem (by omega), ← hb]; rfl
      have hnext : leV (T.take (k + 1)) = leV (T.take k) + b.toNat * 256 ^ k := by
        rw [List.take_add_one, hbk, Option.toList_some, leV_snoc, List.length_take, Nat.min_eq_left (by omega), Nat.mul_comm]
      have ho := or_byte (leV (T.take k)) b.toNat k (by have := leV_lt (T.take k); rw [List.length_take, Nat.min_eq_left (by omega)] at this; exact this) b.toNat_lt (by omega);rw [← hnext] at ho;have HO := Lib.hid ho;clear ho hnext;go_wp2_with fail;go_roundg g
      case measure => omega
      case rel => exact ⟨⟨k + 1, by go_num, congrArg (Value.int .u64) HO.out, by omega, by omega⟩, rfl⟩
    · obtain rfl : k = n := by omega
      have b1 : ¬ (k : Int) < (k : Int) := by omega
      have ht : T.take k = T := List.take_of_length_le (by omega);rw [ht];go_wp2_with fail;have d0 := blkc G2.out 0 _ rfl;have d1 := blkc G2.out 1 _ rfl;have d2 := blkc G2.out 2 _ rfl;have y0 := blkc G1.out 0 _ rfl;have y1 := blkc G1.out 1 _ rfl;have y2 := blkc G1.out 2 _ rfl;have z0 := blkf G1.out 0;have z1 := blkf G1.out 1;have z2 := blkf G1.out 2;go_region_law (fail)
      all_goals
        go_wp2_with fail;have f0 : (wr.setCell ⟨w.heap.size + 1, 0, none⟩ (.string ⟨s.toArray⟩)).heap[w.heap.size + 1]? = some (.cells #[.string ⟨s.toArray⟩, .int .i64 0, .int .i64 0] 226 (0, 0)) := heap_setCell_same wr (w.heap.size + 1) 0 _ _ _ G1.out;have f1 : ((wr.setCell ⟨w.heap.size + 1, 0, none⟩ (.string ⟨s.toArray⟩)).setCell ⟨w.heap.size + 1, 1, none⟩ (.int .i64 (m : Int))).heap[w.heap.size + 1]? = some (.cells #[.string ⟨s.toArray⟩, .int .i64 (m : Int), .int .i64 0] 226 (0, 0)) := heap_setCell_same _ (w.heap.size + 1) 1 _ _ _ f0;have f2 : (((wr.setCell ⟨w.heap.size + 1, 0, none⟩ (.string ⟨s.toArray⟩)).setCell ⟨w.heap.size + 1, 1, none⟩ (.int .i64 (m : Int))).setCell ⟨w.heap.size + 1, 2, none⟩ (.int .i64 0)).heap[w.heap.size + 1]? = some (.cells #[.string ⟨s.toArray⟩, .int .i64 (m : Int), .int .i64 0] 226 (0, 0)) := heap_setCell_same _ (w.heap.size + 1) 2 _ _ _ f1;have hu2 := ((HY.out.set (p := ⟨w.heap.size + 1, 0, none⟩) (by simp) (.string ⟨s.toArray⟩)).set (p := ⟨w.heap.size + 1, 1, none⟩) (by simp) (.int .i64 (m : Int))).set (p := ⟨w.heap.size + 1, 2, none⟩) (by simp) (.int .i64 0);generalize ((wr.setCell ⟨w.heap.size + 1, 0, none⟩ (.string ⟨s.toArray⟩)).setCell ⟨w.heap.size + 1, 1, none⟩ (.int .i64 (m : Int))).setCell ⟨w.heap.size + 1, 2, none⟩ (.int .i64 0) = Z at *;have k0 := blkc f2 0 _ rfl;have k1 := blkc f2 1 _ rfl;have k2 := blkc f2 2 _ rfl;refine bodyPost_ret (v := .tuple #[.int .u64 ((leV T : Nat) : Int), .agg #[.string ⟨s.toArray⟩, .int .i64 (m : Int), .int .i64 0]]) (by simp [results, Tryz.results230, go_sem, k0, k1, k2]) rfl ?_;exact ⟨rfl, hu2.drew⟩
end Go.Proofs.YtkfococpanailaaGreatDoor
/- Walks: header.taker.num, section, degree, where the bytes stand. -/
namespace Go.Proofs.YtkfococpanailaaGreatDoor
open Go.RowKit Go.Gz Go.Shelf

set_option maxRecDepth 100000
/-- the taker's block -/
def TB (w : World) (R : Nat) (s : Bs) (a : Nat) : Prop := w.heap[R]? = some (.cells #[.string ⟨s.toArray⟩, .int .i64 (a : Int), .int .i64 0] 297 (0, 0))
def TnumE (w : World) (R : Nat) (s : Bs) (a n : Nat) (e : Ending) (w' : World) : Prop := e = .returned (.int .u64 ((leV ((s.drop a).take n) : Nat) : Int)) ∧ RK R w w' ∧ TB w' R s (a + n)
set_option maxHeartbeats 4000000 in
theorem tnum_any (R : Nat) (s : Bs) (hs : s.length ≤ 1000000000) (a n : Nat) (hn : 1 ≤ n ∧ n ≤ 8) (h : a + n ≤ s.length) (w : World) (hb : TB w R s a) :
    Calls Tryz.prog 190 #[.pointer (some ⟨R, 0, none⟩), .int .i64 (n : Int)] w (TnumE w R s a n) := by
  have SN := fun w => Lib.hid (snum_any s hs a n hn h w);unfold SnumE scanV at SN;unfold TnumE;obtain ⟨m, hm⟩ : ∃ m, a + n = m := ⟨_, rfl⟩;rw [hm] at SN ⊢;generalize leV ((s.drop a).take n) = T at *;unfold TB at *;have c0 := blkc hb 0 _ rfl;have c1 := blkc hb 1 _ rfl;have c2 := blkc hb 2 _ rfl;have HB := Lib.hid hb;clear hb;go_enter Tryz.func190, Tryz.ntmps190;go_wp2_with fail;with_reducible refine (SN _).out.mono ?_
  rintro e w1 ⟨rfl, hu1⟩;have h1 := hu1.obj HB.out;have HU1 := Lib.hid hu1;clear hu1;have d0 := blkc h1 0 _ rfl;have d1 := blkc h1 1 _ rfl;have d2 := blkc h1 2 _ rfl;have z0 := blkf h1 0;have z1 := blkf h1 1;have z2 := blkf h1 2;have H1 := Lib.hid h1;clear h1 c0 c1 c2;go_wp2_with fail;go_ret;have f0 := heap_setCell_same w1 R 0 _ _ (.string ⟨s.toArray⟩) H1.out;have f1 := heap_setCell_same _ R 1 _ _ (.int .i64 (m : Int)) f0;have f2 := heap_setCell_same _ R 2 _ _ (.int .i64 0) f1;exact ⟨rfl, (((RK.up HU1.out).trans (RK.set R 0 _ _)).trans (RK.set R 1 _ _)).trans (RK.set R 2 _ _), f2⟩
theorem RK.new {R : Nat} {w w' : World} (h : RK R w w') {p : Addr} (hp : w.heap.size ≤ p.block) (v : Value) : RK R w (w'.setCell p v) :=
  ⟨h.os, h.tape, h.output, by rw [World.size_setCell]; exact h.size, fun j hj hne => (heap_setCell_other w' p j v (by omega)).trans (h.block j hj hne)⟩
def TsecE (w : World) (R : Nat) (s : Bs) (a : Nat) (e : Ending) (w' : World) : Prop := e = .returned (.agg #[.int .u64 ((leV ((s.drop a).take 8) : Nat) : Int), .int .u64 ((leV ((s.drop (a + 8)).take 8) : Nat) : Int)]) ∧ RK R w w' ∧ TB w' R s (a + 8 + 8)
set_option maxHeartbeats 4000000 in
theorem tsec_any (R : Nat) (s : Bs) (hs : s.length ≤ 1000000000) (a : Nat) (h : a + 8 + 8 ≤ s.length) (w : World) (hb : TB w R s a) :
    Calls Tryz.prog 189 #[.pointer (some ⟨R, 0, none⟩)] w (TsecE w R s a) := by
  have N1 := fun w hb => Lib.hid (tnum_any R s hs a 8 (by omega) (by omega) w hb);have N2 := fun w hb => Lib.hid (tnum_any R s hs (a + 8) 8 (by omega) (by omega) w hb);unfold TnumE at N1 N2;simp only [show ((8 : Nat) : Int) = 8 from rfl] at N1 N2;unfold TsecE;generalize leV ((s.drop a).take 8) = X at *;generalize leV ((s.drop (a + 8)).take 8) = Y at *;have hR : R < w.heap.size := (Array.getElem?_eq_some_iff.1 hb).1;have g0 := heap_alloc_new w (.cells #[.int .u64 0, .int .u64 0] 112);have hu := (Up.refl w).alloc (.cells #[.int .u64 0, .int .u64 0] 112);have hb0 := hu.obj hb;have HB0 : Hid (TB _ R s a) := Lib.hid hb0;have HU := Lib.hid hu;have G0 := Lib.hid g0;clear hb g0 hu hb0;go_enter Tryz.func189, Tryz.ntmps189;go_wp2_with fail;with_reducible refine (N1 _ HB0.out).out.mono ?_
  rintro e w1 ⟨rfl, hk1, hb1⟩;have HK1 := Lib.hid hk1;have HB1 := Lib.hid hb1;clear hk1 hb1;go_wp2_with fail;with_reducible refine (N2 _ HB1.out).out.mono ?_
  rintro e w2 ⟨rfl, hk2, hb2⟩;have HK := Lib.hid (HK1.out.trans hk2);have HB2 := Lib.hid hb2;clear hk2 hb2;have g2 := (HK.out.block w.heap.size (by rw [World.size_alloc]; omega) (by intro e; injection e with e; omega)).trans G0.out;have d0 := blkc g2 0 _ rfl;have d1 := blkc g2 1 _ rfl;have z0 := blkf g2 0;have z1 := blkf g2 1;have G2 := Lib.hid g2;clear g2;go_wp2_with fail;have f0 := heap_setCell_same w2 w.heap.size 0 _ _ (.int .u64 (X : Int)) G2.out;have f1 := heap_setCell_same _ w.heap.size 1 _ _ (.int .u64 (Y : Int)) f0;have k0 := blkc f1 0 _ rfl;have k1 := blkc f1 1 _ rfl;have hk := (((RK.up HU.out).trans HK.out).new (p := ⟨w.heap.size, 0, none⟩) (Nat.le_refl _) (.int .u64 (X : Int))).new (p := ⟨w.heap.size, 1, none⟩) (Nat.le_refl _) (.int .u64 (Y : Int));have hb : TB ((w2.setCell ⟨w.heap.size, 0, none⟩ (.int .u64 (X : Int))).setCell ⟨w.heap.size, 1, none⟩ (.int .u64 (Y : Int))) R s (a + 8 + 8) :=
    (heap_setCell_other _ ⟨w.heap.size, 1, none⟩ R _ (by simp; omega)).trans ((heap_setCell_other _ ⟨w.heap.size, 0, none⟩ R _ (by simp; omega)).trans HB2.out)
  refine bodyPost_ret (v := .agg #[.int .u64 (X : Int), .int .u64 (Y : Int)]) (by simp [results, Tryz.results189, go_sem, k0, k1]) rfl ?_;exact ⟨rfl, hk, hb⟩
theorem sgn_any (v : Int) (h1 : -2147483648 ≤ v) (h2 : v < 2147483648) (w : World) :
    Calls Tryz.prog 231 #[.int .u64 (uns4 v : Nat), .int .i64 4] w fun e w' => e = .returned (.tuple #[.int .i64 v, .int .i64 0]) ∧ w = w' := by
  have FT := fun w => Lib.hid (fits_any 4 w);rw [decide_eq_true (by omega : (1 : Int) ≤ 4), decide_eq_true (by omega : (4 : Int) ≤ 8)] at FT;simp only [Bool.and_self] at FT;have e1 : wrap64 (IntKind.u64.wrap (((uns4 v : Nat) : Int) * 4294967296)) / 4294967296 = v := by
    rw [IntKind.wrap_u64];unfold wrap64 uns4;omega
  go_enter Tryz.func231, Tryz.ntmps231;go_wp2_with fail;refine (FT _).out.mono ?_;rintro e w1 ⟨rfl, rfl⟩;go_wp2_with fail;refine bodyPost_ret (v := .tuple #[.int .i64 v, .int .i64 0]) (by simp [results, Tryz.results231, go_sem]) rfl ?_;exact ⟨rfl, rfl⟩
def TdegE (w : World) (R : Nat) (s : Bs) (a : Nat) (v : Int) (e : Ending) (w' : World) : Prop := e = .returned (.int .i64 v) ∧ RK R w w' ∧ TB w' R s (a + 4)
set_option maxHeartbeats 4000000 in
theorem tdeg_any (R : Nat) (s : Bs) (hs : s.length ≤ 1000000000) (a : Nat) (h : a + 4 ≤ s.length) (v : Int) (h1 : -2147483648 ≤ v) (h2 : v < 2147483648) (hv : leV ((s.drop a).take 4) = uns4 v) (w : World) (hb : TB w R s a) :
    Calls Tryz.prog 191 #[.pointer (some ⟨R, 0, none⟩)] w (TdegE w R s a v) := by
  have N1 := fun w hb => Lib.hid (tnum_any R s hs a 4 (by omega) (by omega) w hb);have SG := fun w => Lib.hid (sgn_any v h1 h2 w);unfold TnumE at N1;simp only [show ((4 : Nat) : Int) = 4 from rfl] at N1;unfold TdegE;rw [hv] at N1;generalize uns4 v = X at *;have HB := Lib.hid hb;clear hb hv h1 h2;go_enter Tryz.func191, Tryz.ntmps191;go_wp2_with fail;with_reducible refine (N1 _ HB.out).out.mono ?_
  rintro e w1 ⟨rfl, hk1, hb1⟩;have HK1 := Lib.hid hk1;have HB1 := Lib.hid hb1;clear hk1 hb1;go_wp2_with fail;with_reducible refine (SG _).out.mono ?_
  rintro e w2 ⟨rfl, rfl⟩;go_wp2_with fail;go_ret;exact ⟨rfl, HK1.out, HB1.out⟩
end Go.Proofs.YtkfococpanailaaGreatDoor
