/- Walk: jtext.Take, given jtext.mark. -/
import Derived.Test.YtbfieomjobbhoaaGreatDoorMN06
import Derived.Test.YtbfieomjobbhoaaGreatDoorMN16
import Derived.Test.YtbfieomjobbhoaaGreatDoorMN09
import Derived.Laws.Bits64b
import Derived.Test.YtbfieomjobbhoaaGreatDoorMN11
import Derived.Deep.LoopGhost
namespace Go.Proofs.YtbfieomjobbhoaaGreatDoor
open Go.RowKit Go.Gz Go.Shelf

set_option maxRecDepth 100000
/-- jtext.mark, where it is asked -/
def MarkOK (s : Bs) : Prop := ∀ i, s[i]? = some 92 → ∀ w, Hid (Calls Tryz.prog 259 #[.string ⟨(s.drop i).toArray⟩] w fun e w' => e = .returned (.tuple #[.int .i32 ((markN (s.drop i)).1 : Int), .int .i64 ((markN (s.drop i)).2.1 : Int), .int .i64 (markN (s.drop i)).2.2]) ∧ w = w')
def TakeRel (w : World) (s : Bs) (T : Bs × Nat × Int) (gk : Nat) (i : Value) (wr : World) : Prop :=
  ∃ (k : Nat) (acc : Bs), i = .int .i64 (k : Int) ∧ BldF w.heap.size w.heap.size acc wr ∧ Up w wr ∧ takeL s gk k acc = T ∧ s.length ≤ k + gk ∧ k ≤ s.length ∧ acc.length ≤ 4 * k
theorem rune_any (r : Bs) (w : World) (h : Lib.Utf8Tabs 1 2 w) : Calls Tryz.prog 261 #[.string ⟨r.toArray⟩] w fun e w' => e = .returned (.tuple #[.int .i32 ((runeN r).1 : Int), .int .i64 ((runeN r).2 : Int)]) ∧ Up w w' :=
  Tryz.utf8_DecodeRuneInString ⟨r.toArray⟩ w h
theorem bstr_any (B b : Nat) (l : Bs) (w : World) (h : BldF B b l w) (hB : B ≤ w.heap.size) : Calls Tryz.prog 183 #[.pointer (some ⟨b, 0, none⟩)] w fun e w' => e = .returned (.string ⟨l.toArray⟩) ∧ Below B w w' :=
  (Tryz.Builder_String_any_k B b l w h hB).mono fun _ _ h => ⟨h.1, h.2.2.1⟩
theorem utf_up {w w' : World} {a b : Nat} (h : Lib.Utf8Tabs a b w) (hu : Up w w') : Lib.Utf8Tabs a b w' := ⟨fun c hc => hu.cell (h.1 c hc), fun i hi => ⟨hu.cell (h.2 i hi).1, hu.cell (h.2 i hi).2⟩⟩
theorem ownF_up {w w' : World} {base : Nat} {e : TypeId} {size n : Nat} {v : Value} {xs : List Value} (h : w.ownsRowF base e size v n xs) (hu : Up w w') : w'.ownsRowF base e size v n xs := by
  refine World.ownsRowF.kept (row := none) h ⟨hu.os, hu.tape, hu.output, hu.size, fun k hk _ => hu.block hk⟩ ?_;cases v.ownBlock <;> simp
theorem bld_up {w w' : World} {B b : Nat} {l : Bs} (h : BldF B b l w) (hu : Up w w') : BldF B b l w' := by
  have key : ∀ {p : Value}, Lib.BuilderAtF 294 5 B b p (Lib.byteCells l) w → Lib.BuilderAtF 294 5 B b p (Lib.byteCells l) w' := by
    rintro p ⟨h1, v, h2, h3, h4⟩;exact ⟨h1, v, hu.obj h2, ownF_up h3 hu, h4⟩
  rcases h with h | h
  · exact .inl (key h)
  · exact .inr (key h)
def TakeE (w : World) (T : Bs × Nat × Int) (e : Ending) (w' : World) : Prop := e = .returned (.tuple #[.string ⟨T.1.toArray⟩, .int .i64 (T.2.1 : Int), .int .i64 T.2.2]) ∧ Up w w'
set_option maxHeartbeats 4000000 in
theorem jtake_any (s : Bs) (hs : s.length ≤ 1000000) (MK : MarkOK s) (a : Nat) (ha : a ≤ s.length) (w : World) (hg : Lib.Utf8Tabs 1 2 w) :
    Calls Tryz.prog 225 #[.string ⟨s.toArray⟩, .int .i64 (a : Int)] w (TakeE w (takeN s a)) := by
  have HG := Lib.hid hg;have HMK := Lib.hid MK;clear hg MK;by_cases hlt : a < s.length
  · obtain ⟨b, hb⟩ : ∃ b, (⟨s.toArray⟩ : ByteArray)[a]'(by rw [size_mk]; exact hlt) = b := ⟨_, rfl⟩;have hbk : s[a]? = some b := by rw [List.getElem?_eq_getElem hlt, ← hb]; rfl
    have b1 : (0 : Int) ≤ (a : Int) := by omega
    have b1' : ¬ (a : Int) < 0 := by omega
    have b2 : (a : Int) < (s.length : Int) := by omega
    have b3 : ¬ (s.length : Int) < (a : Int) := by omega
    have b4 : ((a : Int) == (s.length : Int)) = false := by rw [beq_eq_false_iff_ne]; omega
    by_cases hq : b = 34
    · subst hq;have hT : takeL s s.length (a + 1) [] = takeN s a := by unfold takeN; rw [hbk, if_neg (by simp), if_neg (by simp)]
      generalize takeN s a = T at *;have HT := Lib.hid hT;have b5 : IntKind.i64.wrap ((a : Int) + 1) = ((a + 1 : Nat) : Int) := by rw [IntWalk.i64_in _ (by omega)]; omega
      have HF := Lib.hid (Lib.IsBuilderF.of (Lib.fresh_isBuilder 294 5 w));clear hT hbk;go_enter Tryz.func225, Tryz.ntmps225;go_wp2_with fail;clear hb b1 b1' b2 b3 b4;go_loopg [8] s.length (fun gk i wr => TakeRel w s T gk i wr)
      case atStart => exact ⟨a + 1, [], rfl, HF.out, (Up.refl w).alloc _, HT.out, by omega, by omega, by simp⟩
      case round =>
        obtain ⟨k, acc, rfl, hbl, hu, ht, hg1, hk, hacc⟩ := hrel;have HB := Lib.hid hbl;have HU := Lib.hid hu;have HA := Lib.hid hacc;have hle := hu.le;clear hbl hu hacc;by_cases hlt : k < s.length
        · obtain ⟨g, rfl⟩ : ∃ g, gk = g + 1 := ⟨gk - 1, by omega⟩;obtain ⟨c, hc⟩ : ∃ c, (⟨s.toArray⟩ : ByteArray)[k]'(by rw [size_mk]; exact hlt) = c := ⟨_, rfl⟩;have hck : s[k]? = some c := by rw [List.getElem?_eq_getElem hlt, ← hc]; rfl
          have b1 : (0 : Int) ≤ (k : Int) := by omega
          have b2 : (k : Int) < (s.length : Int) := by omega
          have b3 : ¬ (s.length : Int) < (k : Int) := by omega
          unfold takeL at ht;rw [hck] at ht;simp only at ht;by_cases h34 : c = 34
          · subst h34;rw [if_pos rfl] at ht;subst ht;have b5 : IntKind.i64.wrap ((k : Int) + 1) = ((k + 1 : Nat) : Int) := by rw [IntWalk.i64_in _ (by omega)]; omega
            clear hck;go_wp2_with fail;with_reducible refine (bstr_any _ _ _ _ HB.out hle).mono ?_
            rintro e w2 ⟨rfl, hb2⟩;go_wp2_with fail;go_ret3
            exact ⟨rfl, Up.of (HU.out.below.trans hb2)⟩
          rw [if_neg h34] at ht;have e34 : ((c.toNat : Int) == 34) = false := by rw [beq_eq_false_iff_ne]; intro e; exact h34 (UInt8.toNat.inj (by simpa using (by omega : c.toNat = 34)))
          have hx := drop_mk s k;by_cases h92 : c = 92
          · subst h92;rw [if_pos rfl] at ht;have MK := fun w => HMK.out k hck w;generalize hm : markN (s.drop k) = m at *;have HM := Lib.hid hm;obtain ⟨mc, mn, me⟩ := m;simp only at ht MK;clear hm hck;generalize hd : s.drop k = r at *;have HD := Lib.hid hd;clear hd;by_cases h3 : me = 3
            · subst h3;rw [if_pos rfl] at ht;subst ht;go_wp2_with fail;with_reducible refine (MK _).out.mono ?_
              rintro e w2 ⟨rfl, rfl⟩;go_wp2_with fail;go_ret3
              exact ⟨rfl, HU.out⟩
            have e3 : (me == 3) = false := by rw [beq_eq_false_iff_ne]; exact h3
            rw [if_neg h3] at ht;by_cases h0 : me = 0
            · subst h0;rw [if_neg (by simp)] at ht;have hfit : 1 ≤ mn ∧ mn ≤ r.length := by
                have := markN_fit (r := r) (by rw [HM.out]);rw [HM.out] at this;exact this
              have hmc : mc ≤ 200000000 := by
                have := markN_le r;rw [HM.out] at this;exact this
              have hrl : r.length = s.length - k := by rw [← HD.out, List.length_drop]
              have b6 : IntKind.i64.wrap ((k : Int) + (mn : Int)) = ((k + mn : Nat) : Int) := by rw [IntWalk.i64_in _ (by omega)]; omega
              have HT := Lib.hid ht;clear ht;go_wp2_with fail;with_reducible refine (MK _).out.mono ?_
              rintro e w2 ⟨rfl, rfl⟩;go_wp2_with fail;with_reducible refine (wrune_any w.heap.size w.heap.size acc (mc : Int) (by omega) (by omega) _ HB.out (by have := HA.out; omega) hle).mono ?_
              rintro e w3 ⟨⟨V, rfl⟩, hb3, hlow3⟩;go_wp2_with fail;go_roundg g
              case measure => omega
              case rel =>
                refine ⟨k + mn, acc ++ Lib.encodeRune (mc : Int), by go_num, hb3, Up.of (HU.out.below.trans hlow3), HT.out, by omega, by omega, ?_⟩;rw [List.length_append];have := enc_len (mc : Int);have := HA.out;omega
            · have e0 : (me != 0) = true := by rw [bne_iff_ne]; exact h0
              rw [if_pos h0] at ht;subst ht;go_wp2_with fail;with_reducible refine (MK _).out.mono ?_
              rintro e w2 ⟨rfl, rfl⟩;go_wp2_with fail;go_ret3
              exact ⟨rfl, HU.out⟩
          rw [if_neg h92] at ht;have e92 : ((c.toNat : Int) == 92) = false := by rw [beq_eq_false_iff_ne]; intro e; exact h92 (UInt8.toNat.inj (by simpa using (by omega : c.toNat = 92)))
          have hfit := runeN_fit (r := s.drop k) (by rw [List.length_drop]; omega);rw [List.length_drop] at hfit;obtain ⟨⟨rc, rn⟩, hrn⟩ : ∃ x, runeN (s.drop k) = x := ⟨_, rfl⟩;rw [hrn] at hfit ht;have RN : ∀ w1, Lib.Utf8Tabs 1 2 w1 → Hid (Calls Tryz.prog 261 #[.string ⟨(s.drop k).toArray⟩] w1 fun e w' => e = .returned (.tuple #[.int .i32 (rc : Int), .int .i64 (rn : Int)]) ∧ Up w1 w') := by
            intro w1 hw;have t := rune_any (s.drop k) w1 hw;rw [hrn] at t;exact Lib.hid t
          simp only at hfit ht;clear hrn hck;generalize s.drop k = r at *;by_cases h1 : rc = 65533
          · subst h1;by_cases h2 : rn < 2
            · have t1 : (((65533 : Nat) : Int) == 65533) = true := by decide
              have t2 : (rn : Int) < 2 := by omega
              have t3 : ¬ ((65533 : Nat) : Int) < 32 := by omega
              rw [if_pos (by omega)] at ht;have HT := Lib.hid ht.symm;clear ht;go_wp2_with fail;with_reducible refine (RN _ (utf_up HG.out HU.out)).out.mono ?_
              rintro e w2 ⟨rfl, hu2⟩;have HU2 := Lib.hid (HU.out.trans hu2);clear hu2;go_wp2_with fail;go_ret3
              rw [HT.out];exact ⟨rfl, HU2.out⟩
            · have t1 : (((65533 : Nat) : Int) == 65533) = true := by decide
              have t2 : ¬ (rn : Int) < 2 := by omega
              have t3 : ¬ ((65533 : Nat) : Int) < 32 := by omega
              rw [if_neg (by omega)] at ht;have HT := Lib.hid ht;clear ht;have b6 : IntKind.i64.wrap ((k : Int) + (rn : Int)) = ((k + rn : Nat) : Int) := by rw [IntWalk.i64_in _ (by omega)]; omega
              go_wp2_with fail;with_reducible refine (RN _ (utf_up HG.out HU.out)).out.mono ?_
              rintro e w2 ⟨rfl, hu2⟩;have HU2 := Lib.hid (HU.out.trans hu2);have hb2 : BldF w.heap.size w.heap.size acc w2 := bld_up HB.out hu2;have HB2 := Lib.hid hb2;have hle2 := HU2.out.le;clear hu2 hb2;go_wp2_with fail;with_reducible refine (wrune_any w.heap.size w.heap.size acc (65533 : Int) (by omega) (by omega) _ HB2.out (by have := HA.out; omega) hle2).mono ?_
              rintro e w3 ⟨⟨V, rfl⟩, hb3, hlow3⟩;go_wp2_with fail;go_roundg g
              case measure => omega
              case rel =>
                refine ⟨k + rn, acc ++ Lib.encodeRune (65533 : Int), by go_num, hb3, Up.of (HU2.out.below.trans hlow3), HT.out, by omega, by omega, ?_⟩;rw [List.length_append];have := enc_len (65533 : Int);have := HA.out;omega
          · by_cases h3 : rc < 32
            · by_cases h2 : rn < 2
              focus
                have t1 : ((rc : Int) == 65533) = false := by rw [beq_eq_false_iff_ne]; omega
                have t2 : (rn : Int) < 2 := by omega
              rotate_left;focus
                have t1 : ((rc : Int) == 65533) = false := by rw [beq_eq_false_iff_ne]; omega
                have t2 : ¬ (rn : Int) < 2 := by omega
              rotate_left;all_goals
                have t3 : (rc : Int) < 32 := by omega
                rw [if_pos (by omega)] at ht;have HT := Lib.hid ht.symm;clear ht;go_wp2_with fail;with_reducible refine (RN _ (utf_up HG.out HU.out)).out.mono ?_
                rintro e w2 ⟨rfl, hu2⟩;have HU2 := Lib.hid (HU.out.trans hu2);clear hu2;go_wp2_with fail;go_ret3
                rw [HT.out];exact ⟨rfl, HU2.out⟩
            · by_cases h2 : rn < 2
              focus
                have t1 : ((rc : Int) == 65533) = false := by rw [beq_eq_false_iff_ne]; omega
                have t2 : (rn : Int) < 2 := by omega
              rotate_left;focus
                have t1 : ((rc : Int) == 65533) = false := by rw [beq_eq_false_iff_ne]; omega
                have t2 : ¬ (rn : Int) < 2 := by omega
              rotate_left;all_goals
                have t3 : ¬ (rc : Int) < 32 := by omega
                rw [if_neg (by omega)] at ht;have HT := Lib.hid ht;clear ht;have b6 : IntKind.i64.wrap ((k : Int) + (rn : Int)) = ((k + rn : Nat) : Int) := by rw [IntWalk.i64_in _ (by omega)]; omega
                go_wp2_with fail;with_reducible refine (RN _ (utf_up HG.out HU.out)).out.mono ?_
                rintro e w2 ⟨rfl, hu2⟩;have HU2 := Lib.hid (HU.out.trans hu2);have hb2 : BldF w.heap.size w.heap.size acc w2 := bld_up HB.out hu2;have HB2 := Lib.hid hb2;have hle2 := HU2.out.le;clear hu2 hb2;go_wp2_with fail;with_reducible refine (wrune_any w.heap.size w.heap.size acc (rc : Int) (by omega) (by omega) _ HB2.out (by have := HA.out; omega) hle2).mono ?_
                rintro e w3 ⟨⟨V, rfl⟩, hb3, hlow3⟩;go_wp2_with fail;go_roundg g
                case measure => omega
                case rel =>
                  refine ⟨k + rn, acc ++ Lib.encodeRune (rc : Int), by go_num, hb3, Up.of (HU2.out.below.trans hlow3), HT.out, by omega, by omega, ?_⟩;rw [List.length_append];have := enc_len (rc : Int);have := HA.out;omega
        · have hkk : k = s.length := by omega
          subst hkk;have hT : T = ([], s.length, 3) := by
            rw [← ht];cases gk with
            | zero => rfl
            | succ g => unfold takeL; rw [List.getElem?_eq_none (Nat.le_refl _)]
          subst hT;clear ht hlt;have b2 : ¬ (s.length : Int) < (s.length : Int) := by omega
          go_wp2_with fail;go_ret3
          exact ⟨rfl, HU.out⟩
    · have hT : takeN s a = ([], a, 4) := by unfold takeN; rw [hbk, if_neg (by simp), if_pos (by simpa using hq)]
      rw [hT];have hne : (((b.toNat : Int)) != 34) = true := by
        rw [bne_iff_ne]; intro e; exact hq (UInt8.toNat.inj (by simpa using (by omega : b.toNat = 34)))
      clear hT hbk hq;go_enter Tryz.func225, Tryz.ntmps225;go_wp2_with fail;go_ret3
      exact ⟨rfl, Up.refl w⟩
  · obtain rfl : a = s.length := by omega
    have hT : takeN s s.length = ([], s.length, 3) := by unfold takeN; rw [List.getElem?_eq_none (by omega), if_pos rfl]
    rw [hT];have b1' : ¬ (s.length : Int) < 0 := by omega
    have b3 : ¬ (s.length : Int) < (s.length : Int) := by omega
    have b4 : ((s.length : Int) == (s.length : Int)) = true := by rw [beq_iff_eq]
    clear hT hlt ha;go_enter Tryz.func225, Tryz.ntmps225;go_wp2_with fail;go_ret3
    exact ⟨rfl, Up.refl w⟩
end Go.Proofs.YtbfieomjobbhoaaGreatDoor
/- Walks: the notes' reader: what it keeps; text. -/
namespace Go.Proofs.YtbfieomjobbhoaaGreatDoor
open Go.RowKit Go.Gz Go.Shelf

set_option maxRecDepth 100000
/-- the package-level variables hold what they should, and block R is none of them -/
structure RG (w : World) (R : Nat) : Prop where
  gl : Gl w
  ne : 5 ≠ R ∧ 3 ≠ R ∧ 4 ≠ R ∧ 1 ≠ R ∧ 2 ≠ R
theorem var_keep {P : Program} {w w' : World} {n : String} {g R : Nat} {cs : Array Value} (hg : P.globalNamed n = some g) (hne : g ≠ R) (hk : RK R w w') (h : w.var? P n = some cs) : w'.var? P n = some cs := by
  have hlt := var_lt hg h;unfold World.var? at h ⊢;simp only [hg, Option.bind_some] at h ⊢;rw [hk.block g hlt (fun e => hne (by injection e))];exact h
theorem cell_keep {R : Nat} {w w' : World} {p : Addr} {v : Value} (hne : p.block ≠ R) (hk : RK R w w') (h : w.cell? p = some v) : w'.cell? p = some v := by
  rw [← h];unfold World.cell?;rw [hk.block p.block (World.block_lt_of_cell? w p h) (fun e => hne (by injection e))]
theorem RG.keep {w w' : World} {R : Nat} (h : RG w R) (hk : RK R w w') : RG w' R := by
  refine ⟨⟨var_keep g_pow10 h.ne.1 hk h.gl.pow10, ?_, ?_, fun c hc => cell_keep h.ne.2.2.2.1 hk (h.gl.utf8.1 c hc), fun i hi => ⟨cell_keep h.ne.2.2.2.2 hk (h.gl.utf8.2 i hi).1, cell_keep h.ne.2.2.2.2 hk (h.gl.utf8.2 i hi).2⟩⟩, h.ne⟩
  · obtain ⟨tp, p, e⟩ := h.gl.errSyntax;exact ⟨tp, p, var_keep g_syn h.ne.2.1 hk e⟩
  · obtain ⟨tp, p, e⟩ := h.gl.errRange;exact ⟨tp, p, var_keep g_rng h.ne.2.2.1 hk e⟩
theorem RG.of {w : World} (h : Gl w) (o : Obj) : RG (w.alloc o) w.heap.size := by
  refine ⟨h.up ((Up.refl w).alloc o), ?_⟩;have h1 := var_lt g_pow10 h.pow10;obtain ⟨_, _, e2⟩ := h.errSyntax;have h2 := var_lt g_syn e2;obtain ⟨_, _, e3⟩ := h.errRange;have h3 := var_lt g_rng e3;have h4 := World.block_lt_of_cell? w _ (h.utf8.1 0 (by omega));have h5 := World.block_lt_of_cell? w _ (h.utf8.2 0 (by omega)).1;simp only at h4 h5;omega
theorem rfail0 (R : Nat) (s : Bs) (a b : Nat) (F : Int) (w : World) (h : RB w R s a 0) :
    Calls Tryz.prog 141 #[.pointer (some ⟨R, 0, none⟩), .int .i64 (b : Int), .int .i64 F] w fun e w' => e = .returned .nilIface ∧ RK R w w' ∧ RB w' R s b F := by
  refine (rfail_any R s a 0 b F w h).mono ?_;rintro e w' ⟨h1, h2, h3⟩;rw [if_pos rfl] at h3;exact ⟨h1, h2, h3⟩
theorem takeN_nil (s : Bs) (a : Nat) (h : (takeN s a).2.2 ≠ 0) : (takeN s a).1 = [] := by
  have key : ∀ f i acc, (takeL s f i acc).2.2 ≠ 0 → (takeL s f i acc).1 = [] := by
    intro f;induction f with
    | zero => intro i acc _; rfl
    | succ f ih =>
      intro i acc h;unfold takeL at h ⊢;split
      · rfl
      · split
        · rename_i b hb h1; rw [hb] at h; simp only at h; rw [if_pos h1] at h; exact absurd rfl h
        · rename_i b hb h1;rw [hb] at h; simp only at h; rw [if_neg h1] at h;split
          · rename_i h2;rw [if_pos h2] at h;split
            · rfl
            · rename_i h3;rw [if_neg h3] at h;split
              · rfl
              · rename_i h4; rw [if_neg h4] at h; exact ih _ _ h
          · rename_i h2;rw [if_neg h2] at h;split
            · rfl
            · rename_i h3; rw [if_neg h3] at h; exact ih _ _ h
  unfold takeN at h ⊢;split
  · rfl
  · rename_i h1;rw [if_neg h1] at h;split
    · rfl
    · rename_i h2; rw [if_neg h2] at h; exact key _ _ _ h
def TextE (w : World) (R : Nat) (s : Bs) (T : Bs × Nat × Int) (e : Ending) (w' : World) : Prop := e = .returned (.string ⟨T.1.toArray⟩) ∧ RK R w w' ∧ RB w' R s T.2.1 T.2.2
set_option maxHeartbeats 2000000 in
theorem rtext_any (R : Nat) (s : Bs) (hs : s.length ≤ 1000000) (MK : MarkOK s) (a : Nat) (ha : a ≤ s.length) (w : World) (h : RB w R s a 0) (hg : RG w R) :
    Calls Tryz.prog 190 #[.pointer (some ⟨R, 0, none⟩)] w (TextE w R s (takeN s a)) := by
  have HB := Lib.hid h;obtain ⟨c0, c1, c2, z1, z2⟩ := h.cells;have JT := fun w hg => Lib.hid (jtake_any s hs MK a ha w hg);have HN := Lib.hid (takeN_nil s a);have FL := fun b F w h => Lib.hid (rfail0 R s a b F w h);have MKS := Lib.hid (fun w' (hu : Up w w') => (⟨hu, hu.cell c0, hu.cell c1⟩ : Up w w' ∧ w'.cell? ⟨R, 0, none⟩ = some (.string ⟨s.toArray⟩) ∧ w'.cell? ⟨R, 1, none⟩ = some (.int .i64 (a : Int))));have HG := Lib.hid hg.gl.utf8;clear h hg MK;obtain ⟨⟨t, n, te⟩, hT⟩ : ∃ x, takeN s a = x := ⟨_, rfl⟩;rw [hT] at JT HN ⊢;clear hT;unfold TextE;unfold TakeE at JT;simp only at JT HN ⊢;go_enter Tryz.func190, Tryz.ntmps190;go_wp2_with fail
  go_region_held3 (fun w' => Up w w' ∧ w'.cell? ⟨R, 0, none⟩ = some (.string ⟨s.toArray⟩) ∧ w'.cell? ⟨R, 1, none⟩ = some (.int .i64 (a : Int)))
    (first
      | assumption
      | exact MKS.out _ (Up.refl _).drew
      | exact MKS.out _ (Up.trans (And.left (by assumption)) (by assumption)))
    ((go_at_call 225; refine (JT _ (utf_up HG.out (And.left (by assumption)))).out.mono ?_; rintro e w8 ⟨rfl, hu8⟩))
  have HU := Lib.hid ((Up.refl w).drew.trans hu8);have HB8 := Lib.hid (HB.out.up HU.out);obtain ⟨d0, d1, d2, y1, y2⟩ := HB8.out.cells;clear hu8 c0 c1 c2 z1 z2;by_cases he : te = 0
  · subst he;go_wp2_with fail;go_ret;exact ⟨rfl, (RK.up HU.out).trans (RK.set R 1 _ _), HB8.out.at n⟩
  · have e0 : (te != 0) = true := by rw [bne_iff_ne]; exact he
    have hT := HN.out he;subst hT;clear he;go_wp2_with fail;with_reducible refine (FL n te _ HB8.out).out.mono ?_
    rintro e w9 ⟨rfl, hk, hr⟩;have HR := Lib.hid hr;clear hr;go_wp2_with fail;go_ret;exact ⟨rfl, (RK.up HU.out).trans hk, HR.out⟩
end Go.Proofs.YtbfieomjobbhoaaGreatDoor
/- Walks: little.Scan: stands, cut: where the bytes that are asked for stand. -/
namespace Go.Proofs.YtbfieomjobbhoaaGreatDoor
open Go.RowKit Go.Gz Go.Shelf

set_option maxRecDepth 100000
/-- a scan -/
def scanV (s : Bs) (a : Nat) : Value := .agg #[.string ⟨s.toArray⟩, .int .i64 (a : Int), .int .i64 0]
theorem stands_any (s : Bs) (a : Nat) (ha : a ≤ s.length) (w : World) :
    Calls Tryz.prog 222 #[scanV s a] w fun e w' => e = .returned (.bool true) ∧ Up w w' := by
  have h0 := heap_alloc_new w (.cells #[.string ⟨s.toArray⟩, .int .i64 (a : Int), .int .i64 0] 136);have c0 := blkc h0 0 _ rfl;have c1 := blkc h0 1 _ rfl;have b1 : (0 : Int) ≤ (a : Int) := by omega
  have b2 : (a : Int) ≤ (s.length : Int) := by omega
  clear h0 ha;unfold scanV;go_enter Tryz.func222, Tryz.ntmps222;go_wp2_with fail;go_ret;exact ⟨rfl, (Up.refl w).alloc _⟩
def ScutE (w : World) (s : Bs) (a n : Nat) (e : Ending) (w' : World) : Prop := e = .returned (.tuple #[.string ⟨((s.drop a).take n).toArray⟩, scanV s (a + n)]) ∧ Up w w'
set_option maxHeartbeats 4000000 in
theorem scut_any (s : Bs) (hs : s.length ≤ 1000000000) (a n : Nat) (h : a + n ≤ s.length) (w : World) :
    Calls Tryz.prog 185 #[scanV s a, .int .i64 (n : Int), .bool true] w (ScutE w s a n) := by
  have SD := fun w => Lib.hid (stands_any s a (by omega) w);unfold scanV at SD;unfold ScutE scanV;obtain ⟨m, hm⟩ : ∃ m, a + n = m := ⟨_, rfl⟩;obtain ⟨T, hT⟩ : ∃ T, (s.drop a).take n = T := ⟨_, rfl⟩;rw [hm, hT];obtain ⟨X, hX⟩ : ∃ x, (w.alloc (.cells #[.string ⟨s.toArray⟩, .int .i64 (a : Int), .int .i64 0] 136)).alloc (.cells #[.string ⟨#[]⟩, .int .i64 0, .int .i64 0] 136) = x := ⟨_, rfl⟩;have hu : Up w X := by rw [← hX]; exact ((Up.refl w).alloc _).alloc _
  have h0 := ((Up.refl (w.alloc (.cells #[.string ⟨s.toArray⟩, .int .i64 (a : Int), .int .i64 0] 136))).alloc (.cells #[.string ⟨#[]⟩, .int .i64 0, .int .i64 0] 136)).obj (heap_alloc_new w (.cells #[.string ⟨s.toArray⟩, .int .i64 (a : Int), .int .i64 0] 136));have h1 := heap_alloc_new (w.alloc (.cells #[.string ⟨s.toArray⟩, .int .i64 (a : Int), .int .i64 0] 136)) (.cells #[.string ⟨#[]⟩, .int .i64 0, .int .i64 0] 136);rw [hX] at h0 h1;rw [World.size_alloc] at h1;have c0 := blkc h0 0 _ rfl;have c1 := blkc h0 1 _ rfl;have c2 := blkc h0 2 _ rfl;have b4 : IntKind.i64.wrap ((s.length : Int) - (a : Int)) = (s.length : Int) - (a : Int) := IntWalk.i64_in _ (by omega);have b5 : ¬ (s.length : Int) - (a : Int) < (n : Int) := by omega
  have b6 : IntKind.i64.wrap ((a : Int) + (n : Int)) = (m : Int) := by rw [IntWalk.i64_in _ (by omega)]; omega
  have H0 := Lib.hid h0;have H1 := Lib.hid h1;have HU := Lib.hid hu;clear h0 h1 hu;go_enter Tryz.func185, Tryz.ntmps185;go_wp2_with fail;with_reducible refine (SD _).out.mono ?_
  rintro e w1 ⟨rfl, hu1⟩;replace c0 := hu1.cell c0;replace c1 := hu1.cell c1;replace c2 := hu1.cell c2;have H0 := Lib.hid (hu1.obj H0.out);have H1 := Lib.hid (hu1.obj H1.out);have HU := Lib.hid (HU.out.trans hu1);have z1 := blkf H0.out 1;clear hu1;go_wp2_with fail;obtain ⟨Y, hY⟩ : ∃ y, w1.setCell ⟨w.heap.size, 1, none⟩ (.int .i64 (m : Int)) = y := ⟨_, rfl⟩;have g0 : Y.heap[w.heap.size]? = some (.cells #[.string ⟨s.toArray⟩, .int .i64 (m : Int), .int .i64 0] 136 (0, 0)) := by
    rw [← hY]; exact heap_setCell_same w1 w.heap.size 1 _ _ _ H0.out
  have g1 : Y.heap[w.heap.size + 1]? = some (.cells #[.string ⟨#[]⟩, .int .i64 0, .int .i64 0] 136 (0, 0)) := by
    rw [← hY]; exact (heap_setCell_other w1 ⟨w.heap.size, 1, none⟩ (w.heap.size + 1) _ (by simp)).trans H1.out
  have hu : Up w Y := by rw [← hY]; exact HU.out.set (p := ⟨w.heap.size, 1, none⟩) (Nat.le_refl _) _
  have d0 := blkc g0 0 _ rfl;have d1 := blkc g0 1 _ rfl;have d2 := blkc g0 2 _ rfl;have y0 := blkc g1 0 _ rfl;have y1 := blkc g1 1 _ rfl;have y2 := blkc g1 2 _ rfl;have z0 := blkf g1 0;have z1' := blkf g1 1;have z2 := blkf g1 2;have hx : (⟨s.toArray⟩ : ByteArray).extract a m = ⟨((s.drop a).take n).toArray⟩ := by
    apply ByteArray.ext;rw [ByteArray.data_extract];apply Array.ext';simp only [Array.toList_extract, List.extract_eq_take_drop];congr 1; omega
  have hsl : ∀ w', (Instr.slice 9 (.string ⟨s.toArray⟩) (some (.int .i64 (a : Int))) (some (.int .i64 (m : Int))) none).run Tryz.prog w' = .ok (.string ⟨((s.drop a).take n).toArray⟩) w' := fun w' => by
    rw [run_slice_string _ 9 _ _ _ _ _ Tryz.underlying9 (by omega) (by omega) (by rw [size_mk]; omega)];exact congrArg (fun x => Result.ok (Value.string x) w') hx
  rw [hT] at hsl;clear hx c0 c1 c2 z1;try rw [hY]
  have HY := Lib.hid hu;have G1 := Lib.hid g1;clear g0 g1 hu;go_region_law (fail)
  all_goals
    go_wp2_with fail;have f0 : (Y.setCell ⟨w.heap.size + 1, 0, none⟩ (.string ⟨s.toArray⟩)).heap[w.heap.size + 1]? = some (.cells #[.string ⟨s.toArray⟩, .int .i64 0, .int .i64 0] 136 (0, 0)) := heap_setCell_same Y (w.heap.size + 1) 0 _ _ _ G1.out;have f1 : ((Y.setCell ⟨w.heap.size + 1, 0, none⟩ (.string ⟨s.toArray⟩)).setCell ⟨w.heap.size + 1, 1, none⟩ (.int .i64 (m : Int))).heap[w.heap.size + 1]? = some (.cells #[.string ⟨s.toArray⟩, .int .i64 (m : Int), .int .i64 0] 136 (0, 0)) := heap_setCell_same _ (w.heap.size + 1) 1 _ _ _ f0;have f2 : (((Y.setCell ⟨w.heap.size + 1, 0, none⟩ (.string ⟨s.toArray⟩)).setCell ⟨w.heap.size + 1, 1, none⟩ (.int .i64 (m : Int))).setCell ⟨w.heap.size + 1, 2, none⟩ (.int .i64 0)).heap[w.heap.size + 1]? = some (.cells #[.string ⟨s.toArray⟩, .int .i64 (m : Int), .int .i64 0] 136 (0, 0)) := heap_setCell_same _ (w.heap.size + 1) 2 _ _ _ f1;have hu2 := ((HY.out.set (p := ⟨w.heap.size + 1, 0, none⟩) (by simp) (.string ⟨s.toArray⟩)).set (p := ⟨w.heap.size + 1, 1, none⟩) (by simp) (.int .i64 (m : Int))).set (p := ⟨w.heap.size + 1, 2, none⟩) (by simp) (.int .i64 0);generalize ((Y.setCell ⟨w.heap.size + 1, 0, none⟩ (.string ⟨s.toArray⟩)).setCell ⟨w.heap.size + 1, 1, none⟩ (.int .i64 (m : Int))).setCell ⟨w.heap.size + 1, 2, none⟩ (.int .i64 0) = Z at *;have k0 := blkc f2 0 _ rfl;have k1 := blkc f2 1 _ rfl;have k2 := blkc f2 2 _ rfl;refine bodyPost_ret (v := .tuple #[.string ⟨T.toArray⟩, .agg #[.string ⟨s.toArray⟩, .int .i64 (m : Int), .int .i64 0]]) (by simp [results, Tryz.results185, go_sem, k0, k1, k2]) rfl ?_;exact ⟨rfl, hu2.drew⟩
end Go.Proofs.YtbfieomjobbhoaaGreatDoor
/- Walk: little.Scan.Num, where the bytes that are asked for stand. -/
namespace Go.Proofs.YtbfieomjobbhoaaGreatDoor
open Go.RowKit Go.Gz Go.Shelf

set_option maxRecDepth 100000
theorem or_byte (x b k : Nat) (hx : x < 256 ^ k) (hb : b < 256) (hk : k ≤ 7) : bits BinOp.or IntKind.u64 (x : Int) (IntKind.u64.wrap (IntKind.u64.wrap (b : Int) * 2 ^ (8 * k))) = ((x + b * 256 ^ k : Nat) : Int) := by
  have e : (256 : Nat) ^ k = 2 ^ (8 * k) := by rw [Nat.pow_mul]
  have hp : (2 : Nat) ^ (8 * k) ≤ 2 ^ 56 := Nat.pow_le_pow_right (by decide) (by omega);have hm : b * 2 ^ (8 * k) ≤ 255 * 2 ^ 56 := Nat.mul_le_mul (by omega) hp;rw [e] at hx ⊢;have e2 : (b : Int) * 2 ^ (8 * k) = ((b * 2 ^ (8 * k) : Nat) : Int) := by simp
  rw [IntWalk.u64_in (b : Int) (by omega), e2, IntWalk.u64_in _ (by omega), bits_or_u64_nat _ _ (by omega) (by omega)];have h3 := Nat.shiftLeft_add_eq_or_of_lt hx b;rw [Nat.shiftLeft_eq] at h3;rw [Nat.or_comm, ← h3, Nat.add_comm]
def SnumE (w : World) (s : Bs) (a n : Nat) (e : Ending) (w' : World) : Prop := e = .returned (.tuple #[.int .u64 ((leV ((s.drop a).take n) : Nat) : Int), scanV s (a + n)]) ∧ Up w w'
def NumRel (T : Bs) (gk : Nat) (i x : Value) : Prop := ∃ k : Nat, i = .int .i64 (k : Int) ∧ x = .int .u64 ((leV (T.take k) : Nat) : Int) ∧ k + gk = T.length ∧ k ≤ T.length
set_option maxHeartbeats 4000000 in
theorem snum_any (s : Bs) (hs : s.length ≤ 1000000000) (a n : Nat) (hn : 1 ≤ n ∧ n ≤ 8) (h : a + n ≤ s.length) (w : World) :
    Calls Tryz.prog 134 #[scanV s a, .int .i64 (n : Int)] w (SnumE w s a n) := by
  have FT := fun w => Lib.hid (fits_any (n : Int) w);rw [show (decide (1 ≤ (n : Int)) && decide ((n : Int) ≤ 8)) = true by simp; omega] at FT;have CU := fun w => Lib.hid (scut_any s hs a n h w);unfold ScutE scanV at CU;unfold SnumE scanV;obtain ⟨m, hm⟩ : ∃ m, a + n = m := ⟨_, rfl⟩;have hTl : ((s.drop a).take n).length = n := by rw [List.length_take, List.length_drop]; omega
  generalize (s.drop a).take n = T at *;rw [hm] at CU;rw [hm];go_enter Tryz.func134, Tryz.ntmps134;go_wp2_with fail;with_reducible refine (FT _).out.mono ?_
  rintro e w1 ⟨rfl, rfl⟩;go_wp2_with fail;with_reducible refine (CU _).out.mono ?_
  rintro e w2 ⟨rfl, hu2⟩;have HU2 := Lib.hid hu2;clear hu2;go_wp2_with fail;have hu2 := HU2.out;have h1 := heap_alloc_new (w.alloc (.cells #[.string ⟨s.toArray⟩, .int .i64 (a : Int), .int .i64 0] 136)) (.cells #[.string ⟨#[]⟩, .int .i64 0, .int .i64 0] 136);rw [World.size_alloc] at h1;obtain ⟨W0, hW⟩ : ∃ y, w2.alloc (.cells #[.string ⟨s.toArray⟩, .int .i64 (m : Int), .int .i64 0] 136) = y := ⟨_, rfl⟩;have G1 : Hid (W0.heap[w.heap.size + 1]? = some (.cells #[.string ⟨#[]⟩, .int .i64 0, .int .i64 0] 136 (0, 0))) := Lib.hid (by rw [← hW]; exact ((Up.refl w2).alloc _).obj (hu2.obj h1));have G2 : Hid (W0.heap[w2.heap.size]? = some (.cells #[.string ⟨s.toArray⟩, .int .i64 (m : Int), .int .i64 0] 136 (0, 0))) := Lib.hid (by rw [← hW]; exact heap_alloc_new w2 _);have HY : Hid (Up w W0) := Lib.hid (by rw [← hW]; exact ((((Up.refl w).alloc _).alloc _).trans hu2).alloc _);have hle : w.heap.size + 1 < w2.heap.size := by
    have := hu2.le;simp only [World.size_alloc] at this;omega
  clear h1 hu2;go_loopg [23, 9] n (fun gk i x wr => NumRel T gk i x ∧ wr = W0)
  case atStart => exact ⟨⟨0, rfl, rfl, by omega, by omega⟩, hW⟩
  case round =>
    obtain ⟨⟨k, rfl, rfl, hg1, hk⟩, hwr⟩ := hrel;subst hwr;clear hW;by_cases hlt : k < n
    · obtain ⟨g, rfl⟩ : ∃ g, gk = g + 1 := ⟨gk - 1, by omega⟩;obtain ⟨b, hb⟩ : ∃ b, (⟨T.toArray⟩ : ByteArray)[k]'(by rw [size_mk]; omega) = b := ⟨_, rfl⟩;have b0 : (0 : Int) ≤ (k : Int) := by omega
      have b1 : (k : Int) < (n : Int) := by omega
      have b2 : (k : Int) < (T.length : Int) := by omega
      have b3 : IntKind.i64.wrap (8 * (k : Int)) = 8 * (k : Int) := IntWalk.i64_in _ (by omega);have b4 : (0 : Int) ≤ 8 * (k : Int) := by omega
      have hbk : T[k]? = some b := by rw [List.getElem?_eq_getElem (by omega), ← hb]; rfl
      have hnext : leV (T.take (k + 1)) = leV (T.take k) + b.toNat * 256 ^ k := by
        rw [List.take_add_one, hbk, Option.toList_some, leV_snoc, List.length_take, Nat.min_eq_left (by omega), Nat.mul_comm]
      have ho := or_byte (leV (T.take k)) b.toNat k (by have := leV_lt (T.take k); rw [List.length_take, Nat.min_eq_left (by omega)] at this; exact this) b.toNat_lt (by omega);rw [← hnext] at ho;have HO := Lib.hid ho;clear ho hnext;go_wp2_with fail;go_roundg g
      case measure => omega
      case rel => exact ⟨⟨k + 1, by go_num, congrArg (Value.int .u64) HO.out, by omega, by omega⟩, rfl⟩
    · obtain rfl : k = n := by omega
      have b1 : ¬ (k : Int) < (k : Int) := by omega
      have ht : T.take k = T := List.take_of_length_le (by omega);rw [ht];go_wp2_with fail;have d0 := blkc G2.out 0 _ rfl;have d1 := blkc G2.out 1 _ rfl;have d2 := blkc G2.out 2 _ rfl;have y0 := blkc G1.out 0 _ rfl;have y1 := blkc G1.out 1 _ rfl;have y2 := blkc G1.out 2 _ rfl;have z0 := blkf G1.out 0;have z1 := blkf G1.out 1;have z2 := blkf G1.out 2;go_region_law (fail)
      all_goals
        go_wp2_with fail;have f0 : (wr.setCell ⟨w.heap.size + 1, 0, none⟩ (.string ⟨s.toArray⟩)).heap[w.heap.size + 1]? = some (.cells #[.string ⟨s.toArray⟩, .int .i64 0, .int .i64 0] 136 (0, 0)) := heap_setCell_same wr (w.heap.size + 1) 0 _ _ _ G1.out;have f1 : ((wr.setCell ⟨w.heap.size + 1, 0, none⟩ (.string ⟨s.toArray⟩)).setCell ⟨w.heap.size + 1, 1, none⟩ (.int .i64 (m : Int))).heap[w.heap.size + 1]? = some (.cells #[.string ⟨s.toArray⟩, .int .i64 (m : Int), .int .i64 0] 136 (0, 0)) := heap_setCell_same _ (w.heap.size + 1) 1 _ _ _ f0;have f2 : (((wr.setCell ⟨w.heap.size + 1, 0, none⟩ (.string ⟨s.toArray⟩)).setCell ⟨w.heap.size + 1, 1, none⟩ (.int .i64 (m : Int))).setCell ⟨w.heap.size + 1, 2, none⟩ (.int .i64 0)).heap[w.heap.size + 1]? = some (.cells #[.string ⟨s.toArray⟩, .int .i64 (m : Int), .int .i64 0] 136 (0, 0)) := heap_setCell_same _ (w.heap.size + 1) 2 _ _ _ f1;have hu2 := ((HY.out.set (p := ⟨w.heap.size + 1, 0, none⟩) (by simp) (.string ⟨s.toArray⟩)).set (p := ⟨w.heap.size + 1, 1, none⟩) (by simp) (.int .i64 (m : Int))).set (p := ⟨w.heap.size + 1, 2, none⟩) (by simp) (.int .i64 0);generalize ((wr.setCell ⟨w.heap.size + 1, 0, none⟩ (.string ⟨s.toArray⟩)).setCell ⟨w.heap.size + 1, 1, none⟩ (.int .i64 (m : Int))).setCell ⟨w.heap.size + 1, 2, none⟩ (.int .i64 0) = Z at *;have k0 := blkc f2 0 _ rfl;have k1 := blkc f2 1 _ rfl;have k2 := blkc f2 2 _ rfl;refine bodyPost_ret (v := .tuple #[.int .u64 ((leV T : Nat) : Int), .agg #[.string ⟨s.toArray⟩, .int .i64 (m : Int), .int .i64 0]]) (by simp [results, Tryz.results134, go_sem, k0, k1, k2]) rfl ?_;exact ⟨rfl, hu2.drew⟩
end Go.Proofs.YtbfieomjobbhoaaGreatDoor
/- Walks: header.taker.num, section, degree, where the bytes stand. -/
namespace Go.Proofs.YtbfieomjobbhoaaGreatDoor
open Go.RowKit Go.Gz Go.Shelf

set_option maxRecDepth 100000
/-- the taker's block -/
def TB (w : World) (R : Nat) (s : Bs) (a : Nat) : Prop := w.heap[R]? = some (.cells #[.string ⟨s.toArray⟩, .int .i64 (a : Int), .int .i64 0] 160 (0, 0))
def TnumE (w : World) (R : Nat) (s : Bs) (a n : Nat) (e : Ending) (w' : World) : Prop := e = .returned (.int .u64 ((leV ((s.drop a).take n) : Nat) : Int)) ∧ RK R w w' ∧ TB w' R s (a + n)
set_option maxHeartbeats 4000000 in
theorem tnum_any (R : Nat) (s : Bs) (hs : s.length ≤ 1000000000) (a n : Nat) (hn : 1 ≤ n ∧ n ≤ 8) (h : a + n ≤ s.length) (w : World) (hb : TB w R s a) :
    Calls Tryz.prog 78 #[.pointer (some ⟨R, 0, none⟩), .int .i64 (n : Int)] w (TnumE w R s a n) := by
  have SN := fun w => Lib.hid (snum_any s hs a n hn h w);unfold SnumE scanV at SN;unfold TnumE;obtain ⟨m, hm⟩ : ∃ m, a + n = m := ⟨_, rfl⟩;rw [hm] at SN ⊢;generalize leV ((s.drop a).take n) = T at *;unfold TB at *;have c0 := blkc hb 0 _ rfl;have c1 := blkc hb 1 _ rfl;have c2 := blkc hb 2 _ rfl;have HB := Lib.hid hb;clear hb;go_enter Tryz.func78, Tryz.ntmps78;go_wp2_with fail;with_reducible refine (SN _).out.mono ?_
  rintro e w1 ⟨rfl, hu1⟩;have h1 := hu1.obj HB.out;have HU1 := Lib.hid hu1;clear hu1;have d0 := blkc h1 0 _ rfl;have d1 := blkc h1 1 _ rfl;have d2 := blkc h1 2 _ rfl;have z0 := blkf h1 0;have z1 := blkf h1 1;have z2 := blkf h1 2;have H1 := Lib.hid h1;clear h1 c0 c1 c2;go_wp2_with fail;go_ret;have f0 := heap_setCell_same w1 R 0 _ _ (.string ⟨s.toArray⟩) H1.out;have f1 := heap_setCell_same _ R 1 _ _ (.int .i64 (m : Int)) f0;have f2 := heap_setCell_same _ R 2 _ _ (.int .i64 0) f1;exact ⟨rfl, (((RK.up HU1.out).trans (RK.set R 0 _ _)).trans (RK.set R 1 _ _)).trans (RK.set R 2 _ _), f2⟩
theorem RK.new {R : Nat} {w w' : World} (h : RK R w w') {p : Addr} (hp : w.heap.size ≤ p.block) (v : Value) : RK R w (w'.setCell p v) :=
  ⟨h.os, h.tape, h.output, by rw [World.size_setCell]; exact h.size, fun j hj hne => (heap_setCell_other w' p j v (by omega)).trans (h.block j hj hne)⟩
def TsecE (w : World) (R : Nat) (s : Bs) (a : Nat) (e : Ending) (w' : World) : Prop := e = .returned (.agg #[.int .u64 ((leV ((s.drop a).take 8) : Nat) : Int), .int .u64 ((leV ((s.drop (a + 8)).take 8) : Nat) : Int)]) ∧ RK R w w' ∧ TB w' R s (a + 8 + 8)
set_option maxHeartbeats 4000000 in
theorem tsec_any (R : Nat) (s : Bs) (hs : s.length ≤ 1000000000) (a : Nat) (h : a + 8 + 8 ≤ s.length) (w : World) (hb : TB w R s a) :
    Calls Tryz.prog 77 #[.pointer (some ⟨R, 0, none⟩)] w (TsecE w R s a) := by
  have N1 := fun w hb => Lib.hid (tnum_any R s hs a 8 (by omega) (by omega) w hb);have N2 := fun w hb => Lib.hid (tnum_any R s hs (a + 8) 8 (by omega) (by omega) w hb);unfold TnumE at N1 N2;simp only [show ((8 : Nat) : Int) = 8 from rfl] at N1 N2;unfold TsecE;generalize leV ((s.drop a).take 8) = X at *;generalize leV ((s.drop (a + 8)).take 8) = Y at *;have hR : R < w.heap.size := (Array.getElem?_eq_some_iff.1 hb).1;have g0 := heap_alloc_new w (.cells #[.int .u64 0, .int .u64 0] 61);have hu := (Up.refl w).alloc (.cells #[.int .u64 0, .int .u64 0] 61);have hb0 := hu.obj hb;have HB0 : Hid (TB _ R s a) := Lib.hid hb0;have HU := Lib.hid hu;have G0 := Lib.hid g0;clear hb g0 hu hb0;go_enter Tryz.func77, Tryz.ntmps77;go_wp2_with fail;with_reducible refine (N1 _ HB0.out).out.mono ?_
  rintro e w1 ⟨rfl, hk1, hb1⟩;have HK1 := Lib.hid hk1;have HB1 := Lib.hid hb1;clear hk1 hb1;go_wp2_with fail;with_reducible refine (N2 _ HB1.out).out.mono ?_
  rintro e w2 ⟨rfl, hk2, hb2⟩;have HK := Lib.hid (HK1.out.trans hk2);have HB2 := Lib.hid hb2;clear hk2 hb2;have g2 := (HK.out.block w.heap.size (by rw [World.size_alloc]; omega) (by intro e; injection e with e; omega)).trans G0.out;have d0 := blkc g2 0 _ rfl;have d1 := blkc g2 1 _ rfl;have z0 := blkf g2 0;have z1 := blkf g2 1;have G2 := Lib.hid g2;clear g2;go_wp2_with fail;have f0 := heap_setCell_same w2 w.heap.size 0 _ _ (.int .u64 (X : Int)) G2.out;have f1 := heap_setCell_same _ w.heap.size 1 _ _ (.int .u64 (Y : Int)) f0;have k0 := blkc f1 0 _ rfl;have k1 := blkc f1 1 _ rfl;have hk := (((RK.up HU.out).trans HK.out).new (p := ⟨w.heap.size, 0, none⟩) (Nat.le_refl _) (.int .u64 (X : Int))).new (p := ⟨w.heap.size, 1, none⟩) (Nat.le_refl _) (.int .u64 (Y : Int));have hb : TB ((w2.setCell ⟨w.heap.size, 0, none⟩ (.int .u64 (X : Int))).setCell ⟨w.heap.size, 1, none⟩ (.int .u64 (Y : Int))) R s (a + 8 + 8) :=
    (heap_setCell_other _ ⟨w.heap.size, 1, none⟩ R _ (by simp; omega)).trans ((heap_setCell_other _ ⟨w.heap.size, 0, none⟩ R _ (by simp; omega)).trans HB2.out)
  refine bodyPost_ret (v := .agg #[.int .u64 (X : Int), .int .u64 (Y : Int)]) (by simp [results, Tryz.results77, go_sem, k0, k1]) rfl ?_;exact ⟨rfl, hk, hb⟩
theorem sgn_any (v : Int) (h1 : -2147483648 ≤ v) (h2 : v < 2147483648) (w : World) :
    Calls Tryz.prog 135 #[.int .u64 (uns4 v : Nat), .int .i64 4] w fun e w' => e = .returned (.tuple #[.int .i64 v, .int .i64 0]) ∧ w = w' := by
  have FT := fun w => Lib.hid (fits_any 4 w);rw [decide_eq_true (by omega : (1 : Int) ≤ 4), decide_eq_true (by omega : (4 : Int) ≤ 8)] at FT;simp only [Bool.and_self] at FT;have e1 : wrap64 (IntKind.u64.wrap (((uns4 v : Nat) : Int) * 4294967296)) / 4294967296 = v := by
    rw [IntKind.wrap_u64];unfold wrap64 uns4;omega
  go_enter Tryz.func135, Tryz.ntmps135;go_wp2_with fail;refine (FT _).out.mono ?_;rintro e w1 ⟨rfl, rfl⟩;go_wp2_with fail;refine bodyPost_ret (v := .tuple #[.int .i64 v, .int .i64 0]) (by simp [results, Tryz.results135, go_sem]) rfl ?_;exact ⟨rfl, rfl⟩
def TdegE (w : World) (R : Nat) (s : Bs) (a : Nat) (v : Int) (e : Ending) (w' : World) : Prop := e = .returned (.int .i64 v) ∧ RK R w w' ∧ TB w' R s (a + 4)
set_option maxHeartbeats 4000000 in
theorem tdeg_any (R : Nat) (s : Bs) (hs : s.length ≤ 1000000000) (a : Nat) (h : a + 4 ≤ s.length) (v : Int) (h1 : -2147483648 ≤ v) (h2 : v < 2147483648) (hv : leV ((s.drop a).take 4) = uns4 v) (w : World) (hb : TB w R s a) :
    Calls Tryz.prog 79 #[.pointer (some ⟨R, 0, none⟩)] w (TdegE w R s a v) := by
  have N1 := fun w hb => Lib.hid (tnum_any R s hs a 4 (by omega) (by omega) w hb);have SG := fun w => Lib.hid (sgn_any v h1 h2 w);unfold TnumE at N1;simp only [show ((4 : Nat) : Int) = 4 from rfl] at N1;unfold TdegE;rw [hv] at N1;generalize uns4 v = X at *;have HB := Lib.hid hb;clear hb hv h1 h2;go_enter Tryz.func79, Tryz.ntmps79;go_wp2_with fail;with_reducible refine (N1 _ HB.out).out.mono ?_
  rintro e w1 ⟨rfl, hk1, hb1⟩;have HK1 := Lib.hid hk1;have HB1 := Lib.hid hb1;clear hk1 hb1;go_wp2_with fail;with_reducible refine (SG _).out.mono ?_
  rintro e w2 ⟨rfl, rfl⟩;go_wp2_with fail;go_ret;exact ⟨rfl, HK1.out, HB1.out⟩
end Go.Proofs.YtbfieomjobbhoaaGreatDoor
/- Walk: the notes' reader: each, whatever takes one. -/
namespace Go.Proofs.YtbfieomjobbhoaaGreatDoor
open Go.RowKit Go.Gz Go.Shelf

set_option maxRecDepth 100000
/-- what a reader that makes blocks of its own from B on keeps -/
structure KB (B R : Nat) (w w' : World) : Prop where
  os : w'.os = w.os
  tape : w'.tape = w.tape
  output : w'.output = w.output
  size : w.heap.size ≤ w'.heap.size
  block : ∀ j, j < B → j ≠ R → w'.heap[j]? = w.heap[j]?
theorem KB.refl (B R : Nat) (w : World) : KB B R w w := ⟨rfl, rfl, rfl, Nat.le_refl _, fun _ _ _ => rfl⟩
theorem KB.trans {B R : Nat} {a b c : World} (h : KB B R a b) (k : KB B R b c) : KB B R a c :=
  ⟨k.os.trans h.os, k.tape.trans h.tape, k.output.trans h.output, Nat.le_trans h.size k.size, fun j hj hne => (k.block j hj hne).trans (h.block j hj hne)⟩
theorem KB.of {B R : Nat} {a b : World} (hB : B ≤ a.heap.size) (h : RK R a b) : KB B R a b :=
  ⟨h.os, h.tape, h.output, h.size, fun j hj hne => h.block j (by omega) (fun e => hne (by injection e))⟩
theorem KB.rk {R : Nat} {a b : World} (h : KB a.heap.size R a b) : RK R a b :=
  ⟨h.os, h.tape, h.output, h.size, fun j hj hne => h.block j hj (fun e => hne (by rw [e]))⟩
theorem RG.keepB {w w' : World} {B R : Nat} (h : RG w R) (hB : 5 < B ∧ 3 < B ∧ 4 < B ∧ 1 < B ∧ 2 < B) (hk : KB B R w w') : RG w' R := by
  have var : ∀ {n : String} {g : Nat} {cs : Array Value}, Tryz.prog.globalNamed n = some g → g < B → g ≠ R → w.var? Tryz.prog n = some cs → w'.var? Tryz.prog n = some cs := by
    intro n g cs hg hl hne h;unfold World.var? at h ⊢;simp only [hg, Option.bind_some] at h ⊢;rw [hk.block g hl hne];exact h
  have cel : ∀ {p : Addr} {v : Value}, p.block < B → p.block ≠ R → w.cell? p = some v → w'.cell? p = some v := by
    intro p v hl hne h;rw [← h];unfold World.cell?;rw [hk.block p.block hl hne]
  refine ⟨⟨var g_pow10 hB.1 h.ne.1 h.gl.pow10, ?_, ?_, fun c hc => cel hB.2.2.2.1 h.ne.2.2.2.1 (h.gl.utf8.1 c hc), fun i hi => ⟨cel hB.2.2.2.2 h.ne.2.2.2.2 (h.gl.utf8.2 i hi).1, cel hB.2.2.2.2 h.ne.2.2.2.2 (h.gl.utf8.2 i hi).2⟩⟩, h.ne⟩
  · obtain ⟨tp, p, e⟩ := h.gl.errSyntax;exact ⟨tp, p, var g_syn hB.2.1 h.ne.2.1 e⟩
  · obtain ⟨tp, p, e⟩ := h.gl.errRange;exact ⟨tp, p, var g_rng hB.2.2.1 h.ne.2.2.1 e⟩
/-- what is owed by the function that takes one -/
def OneOK {σ : Type} (R : Nat) (s : Bs) (B g : Nat) (lb : Array Value) (St : Nat → σ → World → Prop) (J : World → Prop) (one : Nat → σ → Stand × σ) : Prop :=
  ∀ (n a : Nat) (st : σ) (W : World), n ≤ 64 → a ≤ s.length → RB W R s a 0 → St n st W → J W → B ≤ W.heap.size →
    Hid (Calls Tryz.prog g (#[.int .i64 (n : Int)] ++ lb) W fun e W' => e = .returned (.tuple #[]) ∧ KB B R W W' ∧ RB W' R s (one a st).1.1 (one a st).1.2 ∧ J W' ∧ ((one a st).1.2 = 0 → St (n + 1) (one a st).2 W' ∧ (one a st).1.1 ≤ s.length))
def EachRel {σ : Type} (R : Nat) (s : Bs) (B : Nat) (cl : UInt8) (St : Nat → σ → World → Prop) (J : World → Prop) (one : Nat → σ → Stand × σ) (w : World) (r : Stand) (gk : Nat) (i : Value) (wr : World) : Prop :=
  ∃ (n k : Nat) (E : Int) (st : σ), i = .int .i64 (n : Int) ∧ RB wr R s k E ∧ J wr ∧ KB B R w wr ∧ B ≤ wr.heap.size ∧ (E = 0 → St n st wr ∧ k ≤ s.length ∧ n + gk = 66 ∧ n ≤ 64 ∧ eachL s cl one gk n k st = r) ∧ (E ≠ 0 → r = (k, E))
set_option maxHeartbeats 4000000 in
theorem eachg_any {σ : Type} (R : Nat) (s : Bs) (hs : s.length ≤ 1000000) (op cl : UInt8) (deep d : Nat) (hd : deep + d = 5) (B g : Nat) (lb : Array Value) (eg : ∀ args w, (callFunc g args).run Tryz.prog w = .ok (.enter g args) w) (St : Nat → σ → World → Prop) (J : World → Prop) (one : Nat → σ → Stand × σ)
    (hSt : ∀ n st W W', St n st W → RK R W W' → St n st W') (hJ : ∀ W W', J W → RK R W W' → J W') (h1 : d ≠ 0 → OneOK R s B g lb St J one) (hend : ∀ st, (one s.length st).1.2 ≠ 0) (a : Nat) (hop : s[a]? = some op) (st0 : σ) (w : World) (h : RB w R s a 0) (h0 : St 0 st0 w) (j0 : J w) (hB : B ≤ w.heap.size) (r : Stand) (hr : r = if d = 0 then (a, 20) else contN s cl one a st0) :
    Calls Tryz.prog 226 #[.pointer (some ⟨R, 0, none⟩), .int .i64 (deep : Int), .int .u8 (op.toNat : Int), .int .u8 (cl.toNat : Int), .func (.func g) #[] lb] w fun e w' => e = .returned (.tuple #[]) ∧ KB B R w w' ∧ RB w' R s r.1 r.2 ∧ J w' := by
  have HB := Lib.hid h;have HR := Lib.hid hr;have halt : a < s.length := (List.getElem?_eq_some_iff.1 hop).1;have FL := fun b F w h => Lib.hid (rfail0 R s a b F w h);by_cases hd0 : d = 0
  · subst hd0;rw [if_pos rfl] at hr;subst hr;obtain rfl : deep = 5 := by omega
    obtain ⟨c0, c1, c2, z1, z2⟩ := h.cells;go_enter Tryz.func226, Tryz.ntmps226;go_wp2_with fail;with_reducible refine (FL a 20 _ HB.out).out.mono ?_
    rintro e w9 ⟨rfl, hk, hr⟩;have HR9 := Lib.hid hr;clear hr;go_wp2_with fail;refine bodyPost_ret (results_none rfl _ _ _) rfl ?_;exact ⟨rfl, KB.of hB hk, HR9.out, hJ _ _ j0 hk⟩
  rw [if_neg hd0] at hr;have SG := rsign_any R s hs a (by omega) 0 op w h;unfold SignE at SG;rw [if_pos hop, decide_eq_true hop] at SG;have SGH := Lib.hid SG;clear SG HR FL;have hb0 : blkA s (a + 1) ≤ s.length := blkA_le (by omega);have EN := fun k hk w1 h => Lib.hid (rend_any R s hs k hk 0 cl w1 h);have b1 : ¬ (4 : Int) < (deep : Int) := by omega
  have b1' : ¬ 4 < deep := by omega
  have b0 : decide ((4 : Int) < (deep : Int)) = false := by rw [decide_eq_false_iff_not]; omega
  have H0 := Lib.hid h0;have HST := Lib.hid hSt;have H1 := Lib.hid (h1 hd0);have HJ := Lib.hid hJ;have J0 := Lib.hid j0;have HEND := Lib.hid hend;unfold contN at hr;generalize blkA s (a + 1) = q at *;clear h h0 hSt h1 hend hd hop hJ j0;go_enter Tryz.func226, Tryz.ntmps226;by_cases hcl : s[q]? = some cl
  · rw [if_pos hcl] at hr;subst hr;have EQ := fun w1 h => (EN q hb0 w1 h).out;unfold EndE at EQ;rw [if_pos hcl, decide_eq_true hcl] at EQ;have EQH := Lib.hid EQ;clear EQ hcl;go_wp2_with fail;with_reducible refine SGH.out.mono ?_
    rintro e w1 ⟨rfl, hk1, hr1⟩;go_wp2_with fail;with_reducible refine (EQH.out _ hr1).mono ?_
    rintro e w2 ⟨rfl, hk2, hr2⟩;have HR2 := Lib.hid hr2;clear hr1 hr2;go_wp2_with fail;refine bodyPost_ret (results_none rfl _ _ _) rfl ?_;exact ⟨rfl, KB.of hB (hk1.trans hk2), HR2.out, HJ.out _ _ J0.out (hk1.trans hk2)⟩
  · rw [if_neg hcl] at hr;have EQ := fun w1 h => (EN q hb0 w1 h).out;unfold EndE at EQ;rw [if_neg hcl, decide_eq_false hcl] at EQ;have EQH := Lib.hid EQ;clear EQ hcl;have HR := Lib.hid hr;clear hr;go_wp2_with fail;with_reducible refine SGH.out.mono ?_
    rintro e w1 ⟨rfl, hk1, hr1⟩;go_wp2_with fail;with_reducible refine (EQH.out _ hr1).mono ?_
    rintro e w2 ⟨rfl, hk2, hr2⟩;have HR2 := Lib.hid hr2;have HK2 := Lib.hid (hk1.trans hk2);clear hr1 hr2 hk1 hk2;go_wp2_with fail;go_loopg [10] 66 (fun gk i wr => EachRel R s B cl St J one w r gk i wr)
    case atStart => exact ⟨0, q, 0, st0, rfl, HR2.out, HJ.out _ _ J0.out HK2.out, KB.of hB HK2.out, Nat.le_trans hB HK2.out.size, fun _ => ⟨HST.out _ _ _ _ H0.out HK2.out, hb0, by omega, by omega, HR.out.symm⟩, fun h => absurd rfl h⟩
    case round =>
      obtain ⟨n, k, E, st, rfl, hrb, hj, hkb, hBr, hz, hnz⟩ := hrel;have HRB := Lib.hid hrb;have HKB := Lib.hid hkb;have HJr := Lib.hid hj;obtain ⟨c0, c1, c2, z1, z2⟩ := hrb.cells;clear hrb hkb hj;by_cases hE : E = 0
      · subst hE;obtain ⟨hst, hk, hn1, hn2, hl⟩ := hz rfl;have HSTk := Lib.hid hst;clear hz hnz hst;obtain ⟨gq, rfl⟩ : ∃ gq, gk = gq + 1 := ⟨gk - 1, by omega⟩;unfold eachL at hl;have e00 : ((0 : Int) == 0) = true := rfl;have OC := fun W h1 h2 h3 h4 => (H1.out n k st W hn2 hk h1 h2 h3 h4).out;have HED := HEND.out st;have BL := fun k hk w h => Lib.hid (rblank_any R s hs k hk 0 w h);have S44 : ∀ k, k ≤ s.length → ∀ w, RB w R s k 0 → Hid (Calls Tryz.prog 231 #[.pointer (some ⟨R, 0, none⟩), .int .u8 44] w (SignE w R s k 0 44)) := fun k hk w h => Lib.hid (rsign_any R s hs k hk 0 44 w h);have WG := fun k hk w h => Lib.hid (rwrong_any R s k hk 0 w h);have FL := fun b F w h => Lib.hid (rfail0 R s k b F w h);have b5 : IntKind.i64.wrap ((n : Int) + 1) = ((n + 1 : Nat) : Int) := by rw [IntWalk.i64_in _ (by omega)]; omega
        by_cases h64 : n = 64
        · subst h64;have t64 : (((64 : Nat) : Int) == 64) = true := by decide
          by_cases hkl : k < s.length
          · rw [if_pos ⟨rfl, hkl⟩] at hl;subst hl;have hklI : (k : Int) < (s.length : Int) := by omega
            clear OC HED;go_wp2_with fail;go_region_held3 (fun w' => w'.cell? ⟨R, 0, none⟩ = some (.string ⟨s.toArray⟩) ∧ w'.cell? ⟨R, 1, none⟩ = some (.int .i64 (k : Int))) (first | assumption | exact ⟨c0, c1⟩) (fail)
            go_wp2_with fail;have hrd : RB wr.drew R s k 0 := HRB.out;with_reducible refine (FL k 21 wr.drew hrd).out.mono ?_
            rintro e w9 ⟨rfl, hk9, hr9⟩;have HR9 := Lib.hid hr9;clear hr9;go_wp2_with fail;refine bodyPost_ret (results_none rfl _ _ _) rfl ?_;exact ⟨rfl, HKB.out.trans (KB.of hBr ((RK.drew R wr).trans hk9)), HR9.out, HJ.out _ _ HJr.out ((RK.drew R wr).trans hk9)⟩
          · obtain rfl : k = s.length := by omega
            rw [if_neg (fun h => hkl h.2)] at hl;obtain ⟨⟨⟨k1, e1⟩, st1⟩, ho⟩ : ∃ x, one s.length st = x := ⟨_, rfl⟩;rw [ho] at OC hl HED;simp only at OC hl HED;have hne := HED;have hklI : ¬ (s.length : Int) < (s.length : Int) := by omega
            clear ho HED;go_wp2_with fail;go_region_held3 (fun w' => w'.cell? ⟨R, 0, none⟩ = some (.string ⟨s.toArray⟩) ∧ w'.cell? ⟨R, 1, none⟩ = some (.int .i64 (s.length : Int))) (first | assumption | exact ⟨c0, c1⟩) (fail)
            have hrd : RB wr.drew R s s.length 0 := HRB.out;have hBd : B ≤ wr.drew.heap.size := hBr;have hsd := HST.out _ _ _ _ HSTk.out (RK.drew R wr);have hjd := HJ.out _ _ HJr.out (RK.drew R wr);have HKD := Lib.hid (HKB.out.trans (KB.of hBr (RK.drew R wr)));go_wp2_with fail;refine (OC wr.drew hrd hsd hjd hBd).mono ?_;rintro e w3 ⟨rfl, hk3, hr3, hj3, hs3⟩;have HJ3 := Lib.hid hj3;have HK3 := Lib.hid (HKD.out.trans hk3);have hB3 : B ≤ w3.heap.size := Nat.le_trans hBr hk3.size;clear hrd hsd hjd hj3 c0 c1 c2 z1 z2;obtain ⟨d0, d1, d2, y1, y2⟩ := hr3.cells;have HR3 := Lib.hid hr3;clear hr3 hk3;have he1 : e1 ≠ 0 := hne;have e1b : (e1 != 0) = true := by rw [bne_iff_ne]; exact he1
            rw [if_pos he1] at hl;subst hl;clear he1 hs3;go_wp2_with fail;refine bodyPost_ret (results_none rfl _ _ _) rfl ?_;exact ⟨rfl, HK3.out, HR3.out, HJ3.out⟩
        · rw [if_neg (fun h => h64 h.1)] at hl;have t64 : ((n : Int) == 64) = false := by rw [beq_eq_false_iff_ne]; omega
          obtain ⟨⟨⟨k1, e1⟩, st1⟩, ho⟩ : ∃ x, one k st = x := ⟨_, rfl⟩;rw [ho] at OC hl;simp only at OC hl;clear ho HED;go_wp2_with fail;refine wp_region_held_drew (S := fun w' => w'.cell? ⟨R, 0, none⟩ = some (.string ⟨s.toArray⟩) ∧ w'.cell? ⟨R, 1, none⟩ = some (.int .i64 (k : Int))) (by kernel_rfl) ?_ (fun hHeld => ?_)
          · exact ⟨c0, c1⟩
          refine tk 0 rfl ?_;(try simp only [Act.put, tz1, tz2, tz3]);refine tk 1 rfl ?_;(try simp only [Act.put, tz1, tz2, tz3]);refine tk 2 rfl ?_;(try simp only [Act.put, tz1, tz2, tz3]);refine tk 3 rfl ?_;(try simp only [Act.put, tz1, tz2, tz3]);refine tk 4 rfl ?_;(try simp only [Act.put, tz1, tz2, tz3]);refine tk 5 rfl ?_;(try simp only [Act.put, tz1, tz2, tz3]);refine tk 6 rfl ?_;(try simp only [Act.put, tz1, tz2, tz3]);refine tk 7 rfl ?_;(try simp only [Act.put, tz1, tz2, tz3]);refine tk 8 rfl ?_;(try simp only [Act.put, tz1, tz2, tz3]);refine tk 9 rfl ?_;(try simp only [Act.put, tz1, tz2, tz3]);refine tk 10 rfl ?_;(try simp only [Act.put, tz1, tz2, tz3]);refine tk 11 rfl ?_;(try simp only [Act.put, tz1, tz2, tz3]);refine tk 12 rfl ?_;(try simp only [Act.put, tz1, tz2, tz3]);refine tk 13 rfl ?_;(try simp only [Act.put, tz1, tz2, tz3]);refine wpAnyH_done (by kernel_rfl) ?_ _;have hrd : RB wr.drew R s k 0 := HRB.out;have hBd : B ≤ wr.drew.heap.size := hBr;have hsd := HST.out _ _ _ _ HSTk.out (RK.drew R wr);have hjd := HJ.out _ _ HJr.out (RK.drew R wr);have HKD := Lib.hid (HKB.out.trans (KB.of hBr (RK.drew R wr)));go_wp2_with fail;with_reducible refine (OC wr.drew hrd hsd hjd hBd).mono ?_
          rintro e w3 ⟨rfl, hk3, hr3, hj3, hs3⟩;have HJ3 := Lib.hid hj3;have HK3 := Lib.hid (HKD.out.trans hk3);have hB3 : B ≤ w3.heap.size := Nat.le_trans hBr hk3.size;clear hrd hsd hjd hj3 c0 c1 c2 z1 z2;obtain ⟨d0, d1, d2, y1, y2⟩ := hr3.cells;have HR3 := Lib.hid hr3;clear hr3 hk3;by_cases he1 : e1 = 0
          · subst he1;rw [if_neg (by simp)] at hl;obtain ⟨hst1, hk1⟩ := hs3 rfl;have HST1 := Lib.hid hst1;have hbl : blkA s k1 ≤ s.length := blkA_le hk1;have BLK := fun w h => (BL k1 hk1 w h).out;clear hs3 hst1;generalize hbq : blkA s k1 = b at *;go_wp2_with fail;with_reducible refine (BLK _ HR3.out).mono ?_
            rintro e w4 ⟨rfl, hk4, hr4⟩;have HR4 := Lib.hid hr4;have HJ4 := Lib.hid (HJ.out _ _ HJ3.out hk4);have HK4 := Lib.hid (HK3.out.trans (KB.of hB3 hk4));have hB4 := Nat.le_trans hB3 hk4.size;have HS4 := Lib.hid (HST.out _ _ _ _ HST1.out hk4);clear hr4 hk4 d0 d1 d2 y1 y2;have EQ := fun w1 h => (EN b hbl w1 h).out;unfold EndE at EQ;by_cases hc : s[b]? = some cl
            · rw [if_pos hc] at hl;subst hl;rw [if_pos hc, decide_eq_true hc] at EQ;have EQH2 := Lib.hid EQ;clear EQ hc;go_wp2_with fail;with_reducible refine (EQH2.out _ HR4.out).mono ?_
              rintro e w5 ⟨rfl, hk5, hr5⟩;have HR5 := Lib.hid hr5;have HJ5 := Lib.hid (HJ.out _ _ HJ4.out hk5);clear hr5;go_wp2_with fail;refine bodyPost_ret (results_none rfl _ _ _) rfl ?_;exact ⟨rfl, HK4.out.trans (KB.of hB4 hk5), HR5.out, HJ5.out⟩
            rw [if_neg hc] at hl;rw [if_neg hc, decide_eq_false hc] at EQ;have EQH2 := Lib.hid EQ;clear EQ hc;have SQ := fun w1 h => (S44 b hbl w1 h).out;unfold SignE at SQ;by_cases hsg : s[b]? = some 44
            · rw [if_pos hsg] at hl;rw [if_pos hsg, decide_eq_true hsg] at SQ;have SQH := Lib.hid SQ;have hbb : b < s.length := (List.getElem?_eq_some_iff.1 hsg).1;have hq2 : blkA s (b + 1) ≤ s.length := blkA_le (by omega);clear SQ hsg;go_wp2_with fail;with_reducible refine (EQH2.out _ HR4.out).mono ?_
              rintro e w5 ⟨rfl, hk5, hr5⟩;have HR5 := Lib.hid hr5;have HJ5 := Lib.hid (HJ.out _ _ HJ4.out hk5);have HK5 := Lib.hid (HK4.out.trans (KB.of hB4 hk5));have hB5 := Nat.le_trans hB4 hk5.size;have HS5 := Lib.hid (HST.out _ _ _ _ HS4.out hk5);clear hr5 hk5;go_wp2_with fail;with_reducible refine (SQH.out _ HR5.out).mono ?_
              rintro e w6 ⟨rfl, hk6, hr6⟩;have HR6 := Lib.hid hr6;have HJ6 := Lib.hid (HJ.out _ _ HJ5.out hk6);have HK6 := Lib.hid (HK5.out.trans (KB.of hB5 hk6));have hB6 := Nat.le_trans hB5 hk6.size;have HS6 := Lib.hid (HST.out _ _ _ _ HS5.out hk6);have HL := Lib.hid hl;clear hr6 hk6 hl;go_wp2_with fail;go_roundg gq
              case measure => omega
              case rel => exact ⟨n + 1, blkA s (b + 1), 0, st1, by go_num, HR6.out, HJ6.out, HK6.out, hB6, fun _ => ⟨HS6.out, hq2, by omega, by omega, HL.out⟩, fun h => absurd rfl h⟩
            · rw [if_neg hsg] at hl;rw [if_neg hsg, decide_eq_false hsg] at SQ;have SQH := Lib.hid SQ;have WR := fun w h => (WG b hbl w h).out;unfold FailE at WR;simp only [if_true] at WR;have hF : (if b = s.length then (3 : Int) else 4) ≠ 0 := by split <;> decide
              unfold wrongN at hl;subst hl;generalize (if b = s.length then (3 : Int) else 4) = F at *;have WRH := Lib.hid WR;clear SQ hsg WR;go_wp2_with fail;with_reducible refine (EQH2.out _ HR4.out).mono ?_
              rintro e w5 ⟨rfl, hk5, hr5⟩;have HR5 := Lib.hid hr5;have HJ5 := Lib.hid (HJ.out _ _ HJ4.out hk5);have HK5 := Lib.hid (HK4.out.trans (KB.of hB4 hk5));have hB5 := Nat.le_trans hB4 hk5.size;clear hr5 hk5;go_wp2_with fail;with_reducible refine (SQH.out _ HR5.out).mono ?_
              rintro e w6 ⟨rfl, hk6, hr6⟩;have HR6 := Lib.hid hr6;have HJ6 := Lib.hid (HJ.out _ _ HJ5.out hk6);have HK6 := Lib.hid (HK5.out.trans (KB.of hB5 hk6));have hB6 := Nat.le_trans hB5 hk6.size;clear hr6 hk6;go_wp2_with fail;with_reducible refine (WRH.out _ HR6.out).mono ?_
              rintro e w7 ⟨rfl, hk7, hr7⟩;have HR7 := Lib.hid hr7;have HJ7 := Lib.hid (HJ.out _ _ HJ6.out hk7);have HK7 := Lib.hid (HK6.out.trans (KB.of hB6 hk7));have hB7 := Nat.le_trans hB6 hk7.size;clear hr7 hk7;go_wp2_with fail;go_roundg gq
              case measure => omega
              case rel => exact ⟨n + 1, b, F, st1, by go_num, HR7.out, HJ7.out, HK7.out, hB7, fun h => absurd h hF, fun _ => rfl⟩
          · have e1b : (e1 != 0) = true := by rw [bne_iff_ne]; exact he1
            rw [if_pos he1] at hl;subst hl;clear he1 hs3;go_wp2_with fail;refine bodyPost_ret (results_none rfl _ _ _) rfl ?_;exact ⟨rfl, HK3.out, HR3.out, HJ3.out⟩
      · have hr0 := hnz hE;subst hr0;have e0 : (E == 0) = false := by rw [beq_eq_false_iff_ne]; exact hE
        clear hz hnz hE;go_wp2_with fail;go_end0
        exact ⟨rfl, HKB.out, HRB.out, HJr.out⟩
end Go.Proofs.YtbfieomjobbhoaaGreatDoor
