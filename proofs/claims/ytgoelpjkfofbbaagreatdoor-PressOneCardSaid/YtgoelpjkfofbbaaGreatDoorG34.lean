/- Walk: jtext.Take, given jtext.mark. -/
import Derived.Test.YtgoelpjkfofbbaaGreatDoorG31
import Derived.Test.YtgoelpjkfofbbaaGreatDoorG33
namespace Go.Proofs.YtgoelpjkfofbbaaGreatDoor
open Go.RowKit Go.Gz Go.Shelf

set_option maxRecDepth 100000
/-- jtext.mark, where it is asked -/
def MarkOK (s : Bs) : Prop := ∀ i, s[i]? = some 92 → ∀ w, Hid (Calls Tryz.prog 172 #[.string ⟨(s.drop i).toArray⟩] w fun e w' => e = .returned (.tuple #[.int .i32 ((markN (s.drop i)).1 : Int), .int .i64 ((markN (s.drop i)).2.1 : Int), .int .i64 (markN (s.drop i)).2.2]) ∧ w = w')
def TakeRel (w : World) (s : Bs) (T : Bs × Nat × Int) (gk : Nat) (i : Value) (wr : World) : Prop :=
  ∃ (k : Nat) (acc : Bs), i = .int .i64 (k : Int) ∧ BldF w.heap.size w.heap.size acc wr ∧ Up w wr ∧ takeL s gk k acc = T ∧ s.length ≤ k + gk ∧ k ≤ s.length ∧ acc.length ≤ 4 * k
theorem rune_any (r : Bs) (w : World) (h : Lib.Utf8Tabs 1 2 w) : Calls Tryz.prog 174 #[.string ⟨r.toArray⟩] w fun e w' => e = .returned (.tuple #[.int .i32 ((runeN r).1 : Int), .int .i64 ((runeN r).2 : Int)]) ∧ Up w w' :=
  Tryz.utf8_DecodeRuneInString ⟨r.toArray⟩ w h
theorem bstr_any (B b : Nat) (l : Bs) (w : World) (h : BldF B b l w) (hB : B ≤ w.heap.size) : Calls Tryz.prog 120 #[.pointer (some ⟨b, 0, none⟩)] w fun e w' => e = .returned (.string ⟨l.toArray⟩) ∧ Below B w w' :=
  (Tryz.Builder_String_any_k B b l w h hB).mono fun _ _ h => ⟨h.1, h.2.2.1⟩
theorem utf_up {w w' : World} {a b : Nat} (h : Lib.Utf8Tabs a b w) (hu : Up w w') : Lib.Utf8Tabs a b w' := ⟨fun c hc => hu.cell (h.1 c hc), fun i hi => ⟨hu.cell (h.2 i hi).1, hu.cell (h.2 i hi).2⟩⟩
theorem ownF_up {w w' : World} {base : Nat} {e : TypeId} {size n : Nat} {v : Value} {xs : List Value} (h : w.ownsRowF base e size v n xs) (hu : Up w w') : w'.ownsRowF base e size v n xs := by
  refine World.ownsRowF.kept (row := none) h ⟨hu.os, hu.tape, hu.output, hu.size, fun k hk _ => hu.block hk⟩ ?_
  cases v.ownBlock <;> simp
theorem bld_up {w w' : World} {B b : Nat} {l : Bs} (h : BldF B b l w) (hu : Up w w') : BldF B b l w' := by
  have key : ∀ {p : Value}, Lib.BuilderAtF 206 5 B b p (Lib.byteCells l) w → Lib.BuilderAtF 206 5 B b p (Lib.byteCells l) w' := by
    rintro p ⟨h1, v, h2, h3, h4⟩
    exact ⟨h1, v, hu.obj h2, ownF_up h3 hu, h4⟩
  rcases h with h | h
  · exact .inl (key h)
  · exact .inr (key h)
def TakeE (w : World) (T : Bs × Nat × Int) (e : Ending) (w' : World) : Prop := e = .returned (.tuple #[.string ⟨T.1.toArray⟩, .int .i64 (T.2.1 : Int), .int .i64 T.2.2]) ∧ Up w w'
set_option maxHeartbeats 4000000 in
theorem jtake_any (s : Bs) (hs : s.length ≤ 1000000) (MK : MarkOK s) (a : Nat) (ha : a ≤ s.length) (w : World) (hg : Lib.Utf8Tabs 1 2 w) :
    Calls Tryz.prog 150 #[.string ⟨s.toArray⟩, .int .i64 (a : Int)] w (TakeE w (takeN s a)) := by
  have HG := Lib.hid hg
  have HMK := Lib.hid MK
  clear hg MK
  by_cases hlt : a < s.length
  · obtain ⟨b, hb⟩ : ∃ b, (⟨s.toArray⟩ : ByteArray)[a]'(by rw [size_mk]; exact hlt) = b := ⟨_, rfl⟩
    have hbk : s[a]? = some b := by rw [List.getElem?_eq_getElem hlt, ← hb]; rfl
    have b1 : (0 : Int) ≤ (a : Int) := by omega
    have b1' : ¬ (a : Int) < 0 := by omega
    have b2 : (a : Int) < (s.length : Int) := by omega
    have b3 : ¬ (s.length : Int) < (a : Int) := by omega
    have b4 : ((a : Int) == (s.length : Int)) = false := by rw [beq_eq_false_iff_ne]; omega
    by_cases hq : b = 34
    · subst hq
      have hT : takeL s s.length (a + 1) [] = takeN s a := by unfold takeN; rw [hbk, if_neg (by simp), if_neg (by simp)]
      generalize takeN s a = T at *
      have HT := Lib.hid hT
      have b5 : IntKind.i64.wrap ((a : Int) + 1) = ((a + 1 : Nat) : Int) := by rw [IntWalk.i64_in _ (by omega)]; omega
      have HF := Lib.hid (Lib.IsBuilderF.of (Lib.fresh_isBuilder 206 5 w))
      clear hT hbk
      go_enter Tryz.func150, Tryz.ntmps150
      go_wp2_with fail
      clear hb b1 b1' b2 b3 b4
      go_loopg [8] s.length (fun gk i wr => TakeRel w s T gk i wr)
      case atStart => exact ⟨a + 1, [], rfl, HF.out, (Up.refl w).alloc _, HT.out, by omega, by omega, by simp⟩
      case round =>
        obtain ⟨k, acc, rfl, hbl, hu, ht, hg1, hk, hacc⟩ := hrel
        have HB := Lib.hid hbl
        have HU := Lib.hid hu
        have HA := Lib.hid hacc
        have hle := hu.le
        clear hbl hu hacc
        by_cases hlt : k < s.length
        · obtain ⟨g, rfl⟩ : ∃ g, gk = g + 1 := ⟨gk - 1, by omega⟩
          obtain ⟨c, hc⟩ : ∃ c, (⟨s.toArray⟩ : ByteArray)[k]'(by rw [size_mk]; exact hlt) = c := ⟨_, rfl⟩
          have hck : s[k]? = some c := by rw [List.getElem?_eq_getElem hlt, ← hc]; rfl
          have b1 : (0 : Int) ≤ (k : Int) := by omega
          have b2 : (k : Int) < (s.length : Int) := by omega
          have b3 : ¬ (s.length : Int) < (k : Int) := by omega
          unfold takeL at ht
          rw [hck] at ht
          simp only at ht
          by_cases h34 : c = 34
          · subst h34
            rw [if_pos rfl] at ht
            subst ht
            have b5 : IntKind.i64.wrap ((k : Int) + 1) = ((k + 1 : Nat) : Int) := by rw [IntWalk.i64_in _ (by omega)]; omega
            clear hck
            go_wp2_with fail
            with_reducible refine (bstr_any _ _ _ _ HB.out hle).mono ?_
            rintro e w2 ⟨rfl, hb2⟩
            go_wp2_with fail
            go_ret3
            exact ⟨rfl, Up.of (HU.out.below.trans hb2)⟩
          rw [if_neg h34] at ht
          have e34 : ((c.toNat : Int) == 34) = false := by rw [beq_eq_false_iff_ne]; intro e; exact h34 (UInt8.toNat.inj (by simpa using (by omega : c.toNat = 34)))
          have hx := drop_mk s k
          by_cases h92 : c = 92
          · subst h92
            rw [if_pos rfl] at ht
            have MK := fun w => HMK.out k hck w
            generalize hm : markN (s.drop k) = m at *
            have HM := Lib.hid hm
            obtain ⟨mc, mn, me⟩ := m
            simp only at ht MK
            clear hm hck
            generalize hd : s.drop k = r at *
            have HD := Lib.hid hd
            clear hd
            by_cases h3 : me = 3
            · subst h3
              rw [if_pos rfl] at ht
              subst ht
              go_wp2_with fail
              with_reducible refine (MK _).out.mono ?_
              rintro e w2 ⟨rfl, rfl⟩
              go_wp2_with fail
              go_ret3
              exact ⟨rfl, HU.out⟩
            have e3 : (me == 3) = false := by rw [beq_eq_false_iff_ne]; exact h3
            rw [if_neg h3] at ht
            by_cases h0 : me = 0
            · subst h0
              rw [if_neg (by simp)] at ht
              have hfit : 1 ≤ mn ∧ mn ≤ r.length := by
                have := markN_fit (r := r) (by rw [HM.out])
                rw [HM.out] at this
                exact this
              have hmc : mc ≤ 200000000 := by
                have := markN_le r
                rw [HM.out] at this
                exact this
              have hrl : r.length = s.length - k := by rw [← HD.out, List.length_drop]
              have b6 : IntKind.i64.wrap ((k : Int) + (mn : Int)) = ((k + mn : Nat) : Int) := by rw [IntWalk.i64_in _ (by omega)]; omega
              have HT := Lib.hid ht
              clear ht
              go_wp2_with fail
              with_reducible refine (MK _).out.mono ?_
              rintro e w2 ⟨rfl, rfl⟩
              go_wp2_with fail
              with_reducible refine (wrune_any w.heap.size w.heap.size acc (mc : Int) (by omega) (by omega) _ HB.out (by have := HA.out; omega) hle).mono ?_
              rintro e w3 ⟨⟨V, rfl⟩, hb3, hlow3⟩
              go_wp2_with fail
              go_roundg g
              case measure => omega
              case rel =>
                refine ⟨k + mn, acc ++ Lib.encodeRune (mc : Int), by go_num, hb3, Up.of (HU.out.below.trans hlow3), HT.out, by omega, by omega, ?_⟩
                rw [List.length_append]
                have := enc_len (mc : Int)
                have := HA.out
                omega
            · have e0 : (me != 0) = true := by rw [bne_iff_ne]; exact h0
              rw [if_pos h0] at ht
              subst ht
              go_wp2_with fail
              with_reducible refine (MK _).out.mono ?_
              rintro e w2 ⟨rfl, rfl⟩
              go_wp2_with fail
              go_ret3
              exact ⟨rfl, HU.out⟩
          rw [if_neg h92] at ht
          have e92 : ((c.toNat : Int) == 92) = false := by rw [beq_eq_false_iff_ne]; intro e; exact h92 (UInt8.toNat.inj (by simpa using (by omega : c.toNat = 92)))
          have hfit := runeN_fit (r := s.drop k) (by rw [List.length_drop]; omega)
          rw [List.length_drop] at hfit
          obtain ⟨⟨rc, rn⟩, hrn⟩ : ∃ x, runeN (s.drop k) = x := ⟨_, rfl⟩
          rw [hrn] at hfit ht
          have RN : ∀ w1, Lib.Utf8Tabs 1 2 w1 → Hid (Calls Tryz.prog 174 #[.string ⟨(s.drop k).toArray⟩] w1 fun e w' => e = .returned (.tuple #[.int .i32 (rc : Int), .int .i64 (rn : Int)]) ∧ Up w1 w') := by
            intro w1 hw
            have t := rune_any (s.drop k) w1 hw
            rw [hrn] at t
            exact Lib.hid t
          simp only at hfit ht
          clear hrn hck
          generalize s.drop k = r at *
          by_cases h1 : rc = 65533
          · subst h1
            by_cases h2 : rn < 2
            · have t1 : (((65533 : Nat) : Int) == 65533) = true := by decide
              have t2 : (rn : Int) < 2 := by omega
              have t3 : ¬ ((65533 : Nat) : Int) < 32 := by omega
              rw [if_pos (by omega)] at ht
              have HT := Lib.hid ht.symm
              clear ht
              go_wp2_with fail
              with_reducible refine (RN _ (utf_up HG.out HU.out)).out.mono ?_
              rintro e w2 ⟨rfl, hu2⟩
              have HU2 := Lib.hid (HU.out.trans hu2)
              clear hu2
              go_wp2_with fail
              go_ret3
              rw [HT.out]
              exact ⟨rfl, HU2.out⟩
            · have t1 : (((65533 : Nat) : Int) == 65533) = true := by decide
              have t2 : ¬ (rn : Int) < 2 := by omega
              have t3 : ¬ ((65533 : Nat) : Int) < 32 := by omega
              rw [if_neg (by omega)] at ht
              have HT := Lib.hid ht
              clear ht
              have b6 : IntKind.i64.wrap ((k : Int) + (rn : Int)) = ((k + rn : Nat) : Int) := by rw [IntWalk.i64_in _ (by omega)]; omega
              go_wp2_with fail
              with_reducible refine (RN _ (utf_up HG.out HU.out)).out.mono ?_
              rintro e w2 ⟨rfl, hu2⟩
              have HU2 := Lib.hid (HU.out.trans hu2)
              have hb2 : BldF w.heap.size w.heap.size acc w2 := bld_up HB.out hu2
              have HB2 := Lib.hid hb2
              have hle2 := HU2.out.le
              clear hu2 hb2
              go_wp2_with fail
              with_reducible refine (wrune_any w.heap.size w.heap.size acc (65533 : Int) (by omega) (by omega) _ HB2.out (by have := HA.out; omega) hle2).mono ?_
              rintro e w3 ⟨⟨V, rfl⟩, hb3, hlow3⟩
              go_wp2_with fail
              go_roundg g
              case measure => omega
              case rel =>
                refine ⟨k + rn, acc ++ Lib.encodeRune (65533 : Int), by go_num, hb3, Up.of (HU2.out.below.trans hlow3), HT.out, by omega, by omega, ?_⟩
                rw [List.length_append]
                have := enc_len (65533 : Int)
                have := HA.out
                omega
          · by_cases h3 : rc < 32
            · by_cases h2 : rn < 2
              · have t1 : ((rc : Int) == 65533) = false := by rw [beq_eq_false_iff_ne]; omega
                have t2 : (rn : Int) < 2 := by omega
                have t3 : (rc : Int) < 32 := by omega
                rw [if_pos (by omega)] at ht
                have HT := Lib.hid ht.symm
                clear ht
                go_wp2_with fail
                with_reducible refine (RN _ (utf_up HG.out HU.out)).out.mono ?_
                rintro e w2 ⟨rfl, hu2⟩
                have HU2 := Lib.hid (HU.out.trans hu2)
                clear hu2
                go_wp2_with fail
                go_ret3
                rw [HT.out]
                exact ⟨rfl, HU2.out⟩
              · have t1 : ((rc : Int) == 65533) = false := by rw [beq_eq_false_iff_ne]; omega
                have t2 : ¬ (rn : Int) < 2 := by omega
                have t3 : (rc : Int) < 32 := by omega
                rw [if_pos (by omega)] at ht
                have HT := Lib.hid ht.symm
                clear ht
                go_wp2_with fail
                with_reducible refine (RN _ (utf_up HG.out HU.out)).out.mono ?_
                rintro e w2 ⟨rfl, hu2⟩
                have HU2 := Lib.hid (HU.out.trans hu2)
                clear hu2
                go_wp2_with fail
                go_ret3
                rw [HT.out]
                exact ⟨rfl, HU2.out⟩
            · by_cases h2 : rn < 2
              · have t1 : ((rc : Int) == 65533) = false := by rw [beq_eq_false_iff_ne]; omega
                have t2 : (rn : Int) < 2 := by omega
                have t3 : ¬ (rc : Int) < 32 := by omega
                rw [if_neg (by omega)] at ht
                have HT := Lib.hid ht
                clear ht
                have b6 : IntKind.i64.wrap ((k : Int) + (rn : Int)) = ((k + rn : Nat) : Int) := by rw [IntWalk.i64_in _ (by omega)]; omega
                go_wp2_with fail
                with_reducible refine (RN _ (utf_up HG.out HU.out)).out.mono ?_
                rintro e w2 ⟨rfl, hu2⟩
                have HU2 := Lib.hid (HU.out.trans hu2)
                have hb2 : BldF w.heap.size w.heap.size acc w2 := bld_up HB.out hu2
                have HB2 := Lib.hid hb2
                have hle2 := HU2.out.le
                clear hu2 hb2
                go_wp2_with fail
                with_reducible refine (wrune_any w.heap.size w.heap.size acc (rc : Int) (by omega) (by omega) _ HB2.out (by have := HA.out; omega) hle2).mono ?_
                rintro e w3 ⟨⟨V, rfl⟩, hb3, hlow3⟩
                go_wp2_with fail
                go_roundg g
                case measure => omega
                case rel =>
                  refine ⟨k + rn, acc ++ Lib.encodeRune (rc : Int), by go_num, hb3, Up.of (HU2.out.below.trans hlow3), HT.out, by omega, by omega, ?_⟩
                  rw [List.length_append]
                  have := enc_len (rc : Int)
                  have := HA.out
                  omega
              · have t1 : ((rc : Int) == 65533) = false := by rw [beq_eq_false_iff_ne]; omega
                have t2 : ¬ (rn : Int) < 2 := by omega
                have t3 : ¬ (rc : Int) < 32 := by omega
                rw [if_neg (by omega)] at ht
                have HT := Lib.hid ht
                clear ht
                have b6 : IntKind.i64.wrap ((k : Int) + (rn : Int)) = ((k + rn : Nat) : Int) := by rw [IntWalk.i64_in _ (by omega)]; omega
                go_wp2_with fail
                with_reducible refine (RN _ (utf_up HG.out HU.out)).out.mono ?_
                rintro e w2 ⟨rfl, hu2⟩
                have HU2 := Lib.hid (HU.out.trans hu2)
                have hb2 : BldF w.heap.size w.heap.size acc w2 := bld_up HB.out hu2
                have HB2 := Lib.hid hb2
                have hle2 := HU2.out.le
                clear hu2 hb2
                go_wp2_with fail
                with_reducible refine (wrune_any w.heap.size w.heap.size acc (rc : Int) (by omega) (by omega) _ HB2.out (by have := HA.out; omega) hle2).mono ?_
                rintro e w3 ⟨⟨V, rfl⟩, hb3, hlow3⟩
                go_wp2_with fail
                go_roundg g
                case measure => omega
                case rel =>
                  refine ⟨k + rn, acc ++ Lib.encodeRune (rc : Int), by go_num, hb3, Up.of (HU2.out.below.trans hlow3), HT.out, by omega, by omega, ?_⟩
                  rw [List.length_append]
                  have := enc_len (rc : Int)
                  have := HA.out
                  omega
        · have hkk : k = s.length := by omega
          subst hkk
          have hT : T = ([], s.length, 3) := by
            rw [← ht]
            cases gk with
            | zero => rfl
            | succ g => unfold takeL; rw [List.getElem?_eq_none (Nat.le_refl _)]
          subst hT
          clear ht hlt
          have b2 : ¬ (s.length : Int) < (s.length : Int) := by omega
          go_wp2_with fail
          go_ret3
          exact ⟨rfl, HU.out⟩
    · have hT : takeN s a = ([], a, 4) := by unfold takeN; rw [hbk, if_neg (by simp), if_pos (by simpa using hq)]
      rw [hT]
      have hne : (((b.toNat : Int)) != 34) = true := by
        rw [bne_iff_ne]; intro e; exact hq (UInt8.toNat.inj (by simpa using (by omega : b.toNat = 34)))
      clear hT hbk hq
      go_enter Tryz.func150, Tryz.ntmps150
      go_wp2_with fail
      go_ret3
      exact ⟨rfl, Up.refl w⟩
  · obtain rfl : a = s.length := by omega
    have hT : takeN s s.length = ([], s.length, 3) := by unfold takeN; rw [List.getElem?_eq_none (by omega), if_pos rfl]
    rw [hT]
    have b1' : ¬ (s.length : Int) < 0 := by omega
    have b3 : ¬ (s.length : Int) < (s.length : Int) := by omega
    have b4 : ((s.length : Int) == (s.length : Int)) = true := by rw [beq_iff_eq]
    clear hT hlt ha
    go_enter Tryz.func150, Tryz.ntmps150
    go_wp2_with fail
    go_ret3
    exact ⟨rfl, Up.refl w⟩
end Go.Proofs.YtgoelpjkfofbbaaGreatDoor
