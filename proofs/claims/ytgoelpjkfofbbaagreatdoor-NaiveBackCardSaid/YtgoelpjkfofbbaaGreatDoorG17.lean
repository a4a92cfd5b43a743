/- Walk: jtext.Take, given jtext.mark. -/
import Derived.Test.YtgoelpjkfofbbaaGreatDoorG06
import Derived.Test.YtgoelpjkfofbbaaGreatDoorG16
namespace Go.Proofs.YtgoelpjkfofbbaaGreatDoor
open Go.RowKit Go.Gz Go.Shelf

set_option maxRecDepth 100000
/-- jtext.mark, where it is asked -/
def MarkOK (s : Bs) : Prop := ∀ i, s[i]? = some 92 → ∀ w, Hid (Calls Tryz.prog 172 #[.string ⟨(s.drop i).toArray⟩] w fun e w' => e = .returned (.tuple #[.int .i32 ((markN (s.drop i)).1 : Int), .int .i64 ((markN (s.drop i)).2.1 : Int), .int .i64 (markN (s.drop i)).2.2]) ∧ w = w')
def TakeRel (w : World) (s : Bs) (T : Bs × Nat × Int) (gk : Nat) (i : Value) (wr : World) : Prop :=
  ∃ (k : Nat) (acc : Bs), i = .int .i64 (k : Int) ∧ BldF w.heap.size w.heap.size acc wr ∧ Up w wr ∧ takeL s gk k acc = T ∧ s.length ≤ k + gk ∧ k ≤ s.length ∧ acc.length ≤ 4 * k
theorem rune_any (r : Bs) (w : World) (h : Lib.Utf8Tabs 1 2 w) : Calls Tryz.prog 174 #[.string ⟨r.toArray⟩] w fun e w' => e = .returned (.tuple #[.int .i32 ((runeN r).1 : Int), .int .i64 ((runeN r).2 : Int)]) ∧ Up w w' :=
  Tryz.utf8_DecodeRuneInString ⟨r.toArray⟩ w h
theorem bstr_any (B b : Nat) (l : Bs) (w : World) (h : BldF B b l w) (hB : B ≤ w.heap.size) : Calls Tryz.prog 120 #[.pointer (some ⟨b, 0, none⟩)] w fun e w' => e = .returned (.string ⟨l.toArray⟩) ∧ Below B w w' :=
  (Tryz.Builder_String_any_k B b l w h hB).mono fun _ _ h => ⟨h.1, h.2.2.1⟩
theorem utf_up {w w' : World} {a b : Nat} (h : Lib.Utf8Tabs a b w) (hu : Up w w') : Lib.Utf8Tabs a b w' := ⟨fun c hc => hu.cell (h.1 c hc), fun i hi => ⟨hu.cell (h.2 i hi).1, hu.cell (h.2 i hi).2⟩⟩
theorem ownF_up {w w' : World} {base : Nat} {e : TypeId} {size n : Nat} {v : Value} {xs : List Value} (h : w.ownsRowF base e size v n xs) (hu : Up w w') : w'.ownsRowF base e size v n xs := by
  refine World.ownsRowF.kept (row := none) h ⟨hu.os, hu.tape, hu.output, hu.size, fun k hk _ => hu.block hk⟩ ?_
  cases v.ownBlock <;> simp
theorem bld_up {w w' : World} {B b : Nat} {l : Bs} (h : BldF B b l w) (hu : Up w w') : BldF B b l w' := by
  have key : ∀ {p : Value}, Lib.BuilderAtF 206 5 B b p (Lib.byteCells l) w → Lib.BuilderAtF 206 5 B b p (Lib.byteCells l) w' := by
    rintro p ⟨h1, v, h2, h3, h4⟩
    exact ⟨h1, v, hu.obj h2, ownF_up h3 hu, h4⟩
  rcases h with h | h
  · exact .inl (key h)
  · exact .inr (key h)
def TakeE (w : World) (T : Bs × Nat × Int) (e : Ending) (w' : World) : Prop := e = .returned (.tuple #[.string ⟨T.1.toArray⟩, .int .i64 (T.2.1 : Int), .int .i64 T.2.2]) ∧ Up w w'
set_option maxHeartbeats 4000000 in
theorem jtake_any (s : Bs) (hs : s.length ≤ 1000000) (MK : MarkOK s) (a : Nat) (ha : a ≤ s.length) (w : World) (hg : Lib.Utf8Tabs 1 2 w) :
    Calls Tryz.prog 150 #[.string ⟨s.toArray⟩, .int .i64 (a : Int)] w (TakeE w (takeN s a)) := by
  have HG := Lib.hid hg
  have HMK := Lib.hid MK
  clear hg MK
  by_cases hlt : a < s.length
  · obtain ⟨b, hb⟩ : ∃ b, (⟨s.toArray⟩ : ByteArray)[a]'(by rw [size_mk]; exact hlt) = b := ⟨_, rfl⟩
    have hbk : s[a]? = some b := by rw [List.getElem?_eq_getElem hlt, ← hb]; rfl
    have b1 : (0 : Int) ≤ (a : Int) := by omega
    have b1' : ¬ (a : Int) < 0 := by omega
    have b2 : (a : Int) < (s.length : Int) := by omega
    have b3 : ¬ (s.length : Int) < (a : Int) := by omega
    have b4 : ((a : Int) == (s.length : Int)) = false := by rw [beq_eq_false_iff_ne]; omega
    by_cases hq : b = 34
    · subst hq
      have hT : takeL s s.length (a + 1) [] = takeN s a := by unfold takeN; rw [hbk, if_neg (by simp), if_neg (by simp)]
      generalize takeN s a = T at *
      have HT := Lib.hid hT
      have b5 : IntKind.i64.wrap ((a : Int) + 1) = ((a + 1 : Nat) : Int) := by rw [IntWalk.i64_in _ (by omega)]; omega
      have HF := Lib.hid (Lib.IsBuilderF.of (Lib.fresh_isBuilder 206 5 w))
      clear hT hbk
      go_enter Tryz.func150, Tryz.ntmps150
      go_wp2_with fail
      clear hb b1 b1' b2 b3 b4
      go_loopg [8] s.length (fun gk i wr => TakeRel w s T gk i wr)
      case atStart => exact ⟨a + 1, [], rfl, HF.out, (Up.refl w).alloc _, HT.out, by omega, by omega, by simp⟩
      case round =>
        obtain ⟨k, acc, rfl, hbl, hu, ht, hg1, hk, hacc⟩ := hrel
        have HB := Lib.hid hbl
        have HU := Lib.hid hu
        have HA := Lib.hid hacc
        have hle := hu.le
        clear hbl hu hacc
        by_cases hlt : k < s.length
        · obtain ⟨g, rfl⟩ : ∃ g, gk = g + 1 := ⟨gk - 1, by omega⟩
          obtain ⟨c, hc⟩ : ∃ c, (⟨s.toArray⟩ : ByteArray)[k]'(by rw [size_mk]; exact hlt) = c := ⟨_, rfl⟩
          have hck : s[k]? = some c := by rw [List.getElem?_eq_getElem hlt, ← hc]; rfl
          have b1 : (0 : Int) ≤ (k : Int) := by omega
          have b2 : (k : Int) < (s.length : Int) := by omega
          have b3 : ¬ (s.length : Int) < (k : Int) := by omega
          unfold takeL at ht
          rw [hck] at ht
          simp only at ht
          by_cases h34 : c = 34
          · subst h34
            rw [if_pos rfl] at ht
            subst ht
            have b5 : IntKind.i64.wrap ((k : Int) + 1) = ((k + 1 : Nat) : Int) := by rw [IntWalk.i64_in _ (by omega)]; omega
            clear hck
            go_wp2_with fail
            with_reducible refine (bstr_any _ _ _ _ HB.out hle).mono ?_
            rintro e w2 ⟨rfl, hb2⟩
            go_wp2_with fail
            go_ret3
            exact ⟨rfl, Up.of (HU.out.below.trans hb2)⟩
          rw [if_neg h34] at ht
          have e34 : ((c.toNat : Int) == 34) = false := by rw [beq_eq_false_iff_ne]; intro e; exact h34 (UInt8.toNat.inj (by simpa using (by omega : c.toNat = 34)))
          have hx := drop_mk s k
          by_cases h92 : c = 92
          · subst h92
            rw [if_pos rfl] at ht
            have MK := fun w => HMK.out k hck w
            generalize hm : markN (s.drop k) = m at *
            have HM := Lib.hid hm
            obtain ⟨mc, mn, me⟩ := m
            simp only at ht MK
            clear hm hck
            generalize hd : s.drop k = r at *
            have HD := Lib.hid hd
            clear hd
            by_cases h3 : me = 3
            · subst h3
              rw [if_pos rfl] at ht
              subst ht
              go_wp2_with fail
              with_reducible refine (MK _).out.mono ?_
              rintro e w2 ⟨rfl, rfl⟩
              go_wp2_with fail
              go_ret3
              exact ⟨rfl, HU.out⟩
            have e3 : (me == 3) = false := by rw [beq_eq_false_iff_ne]; exact h3
            rw [if_neg h3] at ht
            by_cases h0 : me = 0
            · subst h0
              rw [if_neg (by simp)] at ht
              have hfit : 1 ≤ mn ∧ mn ≤ r.length := by
                have := markN_fit (r := r) (by rw [HM.out])
                rw [HM.out] at this
                exact this
              have hmc : mc ≤ 200000000 := by
                have := markN_le r
                rw [HM.out] at this
                exact this
              have hrl : r.length = s.length - k := by rw [← HD.out, List.length_drop]
              have b6 : IntKind.i64.wrap ((k : Int) + (mn : Int)) = ((k + mn : Nat) : Int) := by rw [IntWalk.i64_in _ (by omega)]; omega
              have HT := Lib.hid ht
              clear ht
              go_wp2_with fail
              with_reducible refine (MK _).out.mono ?_
              rintro e w2 ⟨rfl, rfl⟩
              go_wp2_with fail
              with_reducible refine (wrune_any w.heap.size w.heap.size acc (mc : Int) (by omega) (by omega) _ HB.out (by have := HA.out; omega) hle).mono ?_
              rintro e w3 ⟨⟨V, rfl⟩, hb3, hlow3⟩
              go_wp2_with fail
              go_roundg g
              case measure => omega
              case rel =>
                refine ⟨k + mn, acc ++ Lib.encodeRune (mc : Int), by go_num, hb3, Up.of (HU.out.below.trans hlow3), HT.out, by omega, by omega, ?_⟩
                rw [List.length_append]
                have := enc_len (mc : Int)
                have := HA.out
                omega
            · have e0 : (me != 0) = true := by rw [bne_iff_ne]; exact h0
              rw [if_pos h0] at ht
              subst ht
              go_wp2_with fail
              with_reducible refine (MK _).out.mono ?_
              rintro e w2 ⟨rfl, rfl⟩
              go_wp2_with fail
              go_ret3
              exact ⟨rfl, HU.out⟩
          rw [if_neg h92] at ht
          have e92 : ((c.toNat : Int) == 92) = false := by rw [beq_eq_false_iff_ne]; intro e; exact h92 (UInt8.toNat.inj (by simpa using (by omega : c.toNat = 92)))
          have hfit := runeN_fit (r := s.drop k) (by rw [List.length_drop]; omega)
          rw [List.length_drop] at hfit
          obtain ⟨⟨rc, rn⟩, hrn⟩ : ∃ x, runeN (s.drop k) = x := ⟨_, rfl⟩
          rw [hrn] at hfit ht
          have RN : ∀ w1, Lib.Utf8Tabs 1 2 w1 → Hid (Calls Tryz.prog 174 #[.string ⟨(s.drop k).toArray⟩] w1 fun e w' => e = .returned (.tuple #[.int .i32 (rc : Int), .int .i64 (rn : Int)]) ∧ Up w1 w') := by
            intro w1 hw
            have t := rune_any (s.drop k) w1 hw
            rw [hrn] at t
            exact Lib.hid t
          simp only at hfit ht
          clear hrn hck
          generalize s.drop k = r at *
          by_cases h1 : rc = 65533
          · subst h1
            by_cases h2 : rn < 2
            · have t1 : (((65533 : Nat) : Int) == 65533) = true := by decide
              have t2 : (rn : Int) < 2 := by omega
              have t3 : ¬ ((65533 : Nat) : Int) < 32 := by omega
              rw [if_pos (by omega)] at ht
              have HT := Lib.hid ht.symm
              clear ht
              go_wp2_with fail
              with_reducible refine (RN _ (utf_up HG.out HU.out)).out.mono ?_
              rintro e w2 ⟨rfl, hu2⟩
              have HU2 := Lib.hid (HU.out.trans hu2)
              clear hu2
              go_wp2_with fail
              go_ret3
              rw [HT.out]
              exact ⟨rfl, HU2.out⟩
            · have t1 : (((65533 : Nat) : Int) == 65533) = true := by decide
              have t2 : ¬ (rn : Int) < 2 := by omega
              have t3 : ¬ ((65533 : Nat) : Int) < 32 := by omega
              rw [if_neg (by omega)] at ht
              have HT := Lib.hid ht
              clear ht
              have b6 : IntKind.i64.wrap ((k : Int) + (rn : Int)) = ((k + rn : Nat) : Int) := by rw [IntWalk.i64_in _ (by omega)]; omega
              go_wp2_with fail
              with_reducible refine (RN _ (utf_up HG.out HU.out)).out.mono ?_
              rintro e w2 ⟨rfl, hu2⟩
              have HU2 := Lib.hid (HU.out.trans hu2)
              have hb2 : BldF w.heap.size w.heap.size acc w2 := bld_up HB.out hu2
              have HB2 := Lib.hid hb2
              have hle2 := HU2.out.le
              clear hu2 hb2
              go_wp2_with fail
              with_reducible refine (wrune_any w.heap.size w.heap.size acc (65533 : Int) (by omega) (by omega) _ HB2.out (by have := HA.out; omega) hle2).mono ?_
              rintro e w3 ⟨⟨V, rfl⟩, hb3, hlow3⟩
              go_wp2_with fail
              go_roundg g
              case measure => omega
              case rel =>
                refine ⟨k + rn, acc ++ Lib.encodeRune (65533 : Int), by go_num, hb3, Up.of (HU2.out.below.trans hlow3), HT.out, by omega, by omega, ?_⟩
                rw [List.length_append]
                have := enc_len (65533 : Int)
                have := HA.out
                omega
          · by_cases h3 : rc < 32
            · by_cases h2 : rn < 2
              · have t1 : ((rc : Int) == 65533) = false := by rw [beq_eq_false_iff_ne]; omega
                have t2 : (rn : Int) < 2 := by omega
                have t3 : (rc : Int) < 32 := by omega
                rw [if_pos (by omega)] at ht
                have HT := Lib.hid ht.symm
                clear ht
                go_wp2_with fail
                with_reducible refine (RN _ (utf_up HG.out HU.out)).out.mono ?_
                rintro e w2 ⟨rfl, hu2⟩
                have HU2 := Lib.hid (HU.out.trans hu2)
                clear hu2
                go_wp2_with fail
                go_ret3
                rw [HT.out]
                exact ⟨rfl, HU2.out⟩
              · have t1 : ((rc : Int) == 65533) = false := by rw [beq_eq_false_iff_ne]; omega
                have t2 : ¬ (rn : Int) < 2 := by omega
                have t3 : (rc : Int) < 32 := by omega
                rw [if_pos (by omega)] at ht
                have HT := Lib.hid ht.symm
                clear ht
                go_wp2_with fail
                with_reducible refine (RN _ (utf_up HG.out HU.out)).out.mono ?_
                rintro e w2 ⟨rfl, hu2⟩
                have HU2 := Lib.hid (HU.out.trans hu2)
                clear hu2
                go_wp2_with fail
                go_ret3
                rw [HT.out]
                exact ⟨rfl, HU2.out⟩
            · by_cases h2 : rn < 2
              · have t1 : ((rc : Int) == 65533) = false := by rw [beq_eq_false_iff_ne]; omega
                have t2 : (rn : Int) < 2 := by omega
                have t3 : ¬ (rc : Int) < 32 := by omega
                rw [if_neg (by omega)] at ht
                have HT := Lib.hid ht
                clear ht
                have b6 : IntKind.i64.wrap ((k : Int) + (rn : Int)) = ((k + rn : Nat) : Int) := by rw [IntWalk.i64_in _ (by omega)]; omega
                go_wp2_with fail
                with_reducible refine (RN _ (utf_up HG.out HU.out)).out.mono ?_
                rintro e w2 ⟨rfl, hu2⟩
                have HU2 := Lib.hid (HU.out.trans hu2)
                have hb2 : BldF w.heap.size w.heap.size acc w2 := bld_up HB.out hu2
                have HB2 := Lib.hid hb2
                have hle2 := HU2.out.le
                clear hu2 hb2
                go_wp2_with fail
                with_reducible refine (wrune_any w.heap.size w.heap.size acc (rc : Int) (by omega) (by omega) _ HB2.out (by have := HA.out; omega) hle2).mono ?_
                rintro e w3 ⟨⟨V, rfl⟩, hb3, hlow3⟩
                go_wp2_with fail
                go_roundg g
                case measure => omega
                case rel =>
                  refine ⟨k + rn, acc ++ Lib.encodeRune (rc : Int), by go_num, hb3, Up.of (HU2.out.below.trans hlow3), HT.out, by omega, by omega, ?_⟩
                  rw [List.length_append]
                  have := enc_len (rc : Int)
                  have := HA.out
                  omega
              · have t1 : ((rc : Int) == 65533) = false := by rw [beq_eq_false_iff_ne]; omega
                have t2 : ¬ (rn : Int) < 2 := by omega
                have t3 : ¬ (rc : Int) < 32 := by omega
                rw [if_neg (by omega)] at ht
                have HT := Lib.hid ht
                clear ht
                have b6 : IntKind.i64.wrap ((k : Int) + (rn : Int)) = ((k + rn : Nat) : Int) := by rw [IntWalk.i64_in _ (by omega)]; omega
                go_wp2_with fail
                with_reducible refine (RN _ (utf_up HG.out HU.out)).out.mono ?_
                rintro e w2 ⟨rfl, hu2⟩
                have HU2 := Lib.hid (HU.out.trans hu2)
                have hb2 : BldF w.heap.size w.heap.size acc w2 := bld_up HB.out hu2
                have HB2 := Lib.hid hb2
                have hle2 := HU2.out.le
                clear hu2 hb2
                go_wp2_with fail
                with_reducible refine (wrune_any w.heap.size w.heap.size acc (rc : Int) (by omega) (by omega) _ HB2.out (by have := HA.out; omega) hle2).mono ?_
                rintro e w3 ⟨⟨V, rfl⟩, hb3, hlow3⟩
                go_wp2_with fail
                go_roundg g
                case measure => omega
                case rel =>
                  refine ⟨k + rn, acc ++ Lib.encodeRune (rc : Int), by go_num, hb3, Up.of (HU2.out.below.trans hlow3), HT.out, by omega, by omega, ?_⟩
                  rw [List.length_append]
                  have := enc_len (rc : Int)
                  have := HA.out
                  omega
        · have hkk : k = s.length := by omega
          subst hkk
          have hT : T = ([], s.length, 3) := by
            rw [← ht]
            cases gk with
            | zero => rfl
            | succ g => unfold takeL; rw [List.getElem?_eq_none (Nat.le_refl _)]
          subst hT
          clear ht hlt
          have b2 : ¬ (s.length : Int) < (s.length : Int) := by omega
          go_wp2_with fail
          go_ret3
          exact ⟨rfl, HU.out⟩
    · have hT : takeN s a = ([], a, 4) := by unfold takeN; rw [hbk, if_neg (by simp), if_pos (by simpa using hq)]
      rw [hT]
      have hne : (((b.toNat : Int)) != 34) = true := by
        rw [bne_iff_ne]; intro e; exact hq (UInt8.toNat.inj (by simpa using (by omega : b.toNat = 34)))
      clear hT hbk hq
      go_enter Tryz.func150, Tryz.ntmps150
      go_wp2_with fail
      go_ret3
      exact ⟨rfl, Up.refl w⟩
  · obtain rfl : a = s.length := by omega
    have hT : takeN s s.length = ([], s.length, 3) := by unfold takeN; rw [List.getElem?_eq_none (by omega), if_pos rfl]
    rw [hT]
    have b1' : ¬ (s.length : Int) < 0 := by omega
    have b3 : ¬ (s.length : Int) < (s.length : Int) := by omega
    have b4 : ((s.length : Int) == (s.length : Int)) = true := by rw [beq_iff_eq]
    clear hT hlt ha
    go_enter Tryz.func150, Tryz.ntmps150
    go_wp2_with fail
    go_ret3
    exact ⟨rfl, Up.refl w⟩
end Go.Proofs.YtgoelpjkfofbbaaGreatDoor
/- Walks: jtext.digit, code, pair, mark: of every text. -/
namespace Go.Proofs.YtgoelpjkfofbbaaGreatDoor
open Go.RowKit Go.Gz Go.Shelf

set_option maxRecDepth 100000
/-- what a digit is answered with -/
def hexA (b : UInt8) : Nat × Bool := ((hexV b).getD 0, (hexV b).isSome)
theorem hexV_lt {b : UInt8} {n : Nat} (h : hexV b = some n) : n < 16 := by
  unfold hexV at h
  split at h
  · injection h with h; omega
  · split at h
    · injection h with h; omega
    · split at h
      · injection h with h; omega
      · cases h
set_option maxHeartbeats 4000000 in
theorem digit_any (b : UInt8) (w : World) :
    Calls Tryz.prog 211 #[.int .u8 (b.toNat : Int)] w fun e w' => e = .returned (.tuple #[.int .i32 (((hexV b).getD 0 : Nat) : Int), .bool (hexV b).isSome]) ∧ w = w' := by
  obtain ⟨n, hn⟩ : ∃ n, b.toNat = n := ⟨_, rfl⟩
  have hb : n < 256 := by rw [← hn]; exact b.toNat_lt
  have hV : hexV b = if 48 ≤ n ∧ n ≤ 57 then some (n - 48) else if 97 ≤ n ∧ n ≤ 102 then some (n - 97 + 10) else if 65 ≤ n ∧ n ≤ 70 then some (n - 65 + 10) else none := by rw [← hn]; rfl
  rw [hV, hn]
  clear hV hn
  by_cases h1 : 48 ≤ n
  · have k1 : (48 : Int) ≤ (n : Int) := by omega
    by_cases h2 : n ≤ 57
    · have k2 : (n : Int) ≤ 57 := by omega
      have e1 : IntKind.u8.wrap ((n : Int) - 48) = ((n - 48 : Nat) : Int) := by rw [IntWalk.u8_in _ (by omega)]; omega
      have e2 : IntKind.i32.wrap ((n - 48 : Nat) : Int) = ((n - 48 : Nat) : Int) := IntWalk.i32_in _ (by omega)
      rw [if_pos ⟨h1, h2⟩]
      generalize n - 48 = m at *
      clear h1 h2 hb
      go_enter Tryz.func211, Tryz.ntmps211
      go_wp2_with fail
      go_ret2
      exact ⟨rfl, rfl⟩
    · have k2 : ¬ (n : Int) ≤ 57 := by omega
      rw [if_neg (by omega)]
      by_cases h3 : 97 ≤ n
      · have k3 : (97 : Int) ≤ (n : Int) := by omega
        by_cases h4 : n ≤ 102
        · have k4 : (n : Int) ≤ 102 := by omega
          have e1 : IntKind.u8.wrap ((n : Int) - 97) = ((n - 97 : Nat) : Int) := by rw [IntWalk.u8_in _ (by omega)]; omega
          have e2 : IntKind.i32.wrap ((n - 97 : Nat) : Int) = ((n - 97 : Nat) : Int) := IntWalk.i32_in _ (by omega)
          have e3 : IntKind.i32.wrap (((n - 97 : Nat) : Int) + 10) = ((n - 97 + 10 : Nat) : Int) := by rw [IntWalk.i32_in _ (by omega)]; omega
          rw [if_pos ⟨h3, h4⟩]
          generalize n - 97 = m at *
          generalize m + 10 = m2 at *
          clear h1 h2 h3 h4 hb
          go_enter Tryz.func211, Tryz.ntmps211
          go_wp2_with fail
          go_ret2
          exact ⟨rfl, rfl⟩
        · have k4 : ¬ (n : Int) ≤ 102 := by omega
          have k5 : (65 : Int) ≤ (n : Int) := by omega
          have k6 : ¬ (n : Int) ≤ 70 := by omega
          rw [if_neg (by omega), if_neg (by omega)]
          clear h1 h2 h3 h4 hb
          go_enter Tryz.func211, Tryz.ntmps211
          go_wp2_with fail
          go_ret2
          exact ⟨rfl, rfl⟩
      · have k3 : ¬ (97 : Int) ≤ (n : Int) := by omega
        rw [if_neg (by omega)]
        by_cases h5 : 65 ≤ n
        · have k5 : (65 : Int) ≤ (n : Int) := by omega
          by_cases h6 : n ≤ 70
          · have k6 : (n : Int) ≤ 70 := by omega
            have e1 : IntKind.u8.wrap ((n : Int) - 65) = ((n - 65 : Nat) : Int) := by rw [IntWalk.u8_in _ (by omega)]; omega
            have e2 : IntKind.i32.wrap ((n - 65 : Nat) : Int) = ((n - 65 : Nat) : Int) := IntWalk.i32_in _ (by omega)
            have e3 : IntKind.i32.wrap (((n - 65 : Nat) : Int) + 10) = ((n - 65 + 10 : Nat) : Int) := by rw [IntWalk.i32_in _ (by omega)]; omega
            rw [if_pos ⟨h5, h6⟩]
            generalize n - 65 = m at *
            generalize m + 10 = m2 at *
            clear h1 h2 h3 h5 h6 hb
            go_enter Tryz.func211, Tryz.ntmps211
            go_wp2_with fail
            go_ret2
            exact ⟨rfl, rfl⟩
          · have k6 : ¬ (n : Int) ≤ 70 := by omega
            rw [if_neg (by omega)]
            clear h1 h2 h3 h5 h6 hb
            go_enter Tryz.func211, Tryz.ntmps211
            go_wp2_with fail
            go_ret2
            exact ⟨rfl, rfl⟩
        · have k5 : ¬ (65 : Int) ≤ (n : Int) := by omega
          rw [if_neg (by omega)]
          clear h1 h2 h3 h5 hb
          go_enter Tryz.func211, Tryz.ntmps211
          go_wp2_with fail
          go_ret2
          exact ⟨rfl, rfl⟩
  · have k1 : ¬ (48 : Int) ≤ (n : Int) := by omega
    have k3 : ¬ (97 : Int) ≤ (n : Int) := by omega
    have k5 : ¬ (65 : Int) ≤ (n : Int) := by omega
    rw [if_neg (by omega), if_neg (by omega), if_neg (by omega)]
    clear h1 hb
    go_enter Tryz.func211, Tryz.ntmps211
    go_wp2_with fail
    go_ret2
    exact ⟨rfl, rfl⟩
theorem or_hex (c d : Nat) (hd : d < 16) (hc : c * 16 + 15 < 2147483648) : bits BinOp.or IntKind.i32 ((c * 16 : Nat) : Int) (d : Int) = ((c * 16 + d : Nat) : Int) := by
  have h0 : c * 16 ||| d = c * 16 + d := by
    have := Nat.shiftLeft_add_eq_or_of_lt (i := 4) (b := d) (by omega) c
    rw [Nat.shiftLeft_eq] at this
    rw [show c * 16 = c * 2 ^ 4 by omega]
    exact this.symm
  have h1 : (BitVec.ofInt 32 ((c * 16 : Nat) : Int)).toNat = c * 16 := by
    rw [BitVec.ofInt_natCast, BitVec.toNat_ofNat]; exact Nat.mod_eq_of_lt (by omega)
  have h2 : (BitVec.ofInt 32 (d : Int)).toNat = d := by
    rw [BitVec.ofInt_natCast, BitVec.toNat_ofNat]; exact Nat.mod_eq_of_lt (by omega)
  show IntKind.i32.wrap ((BitVec.ofInt 32 ((c * 16 : Nat) : Int) ||| BitVec.ofInt 32 (d : Int)).toNat : Int) = _
  rw [BitVec.toNat_or, h1, h2, h0, IntKind.wrap_i32]
  omega
def CodeRel (w : World) (r : Bs) (T : Nat × Int) (gk : Nat) (i c : Value) (wr : World) : Prop :=
  ∃ k v : Nat, i = .int .i64 (k : Int) ∧ c = .int .i32 (v : Int) ∧ k + gk = 6 ∧ k ≤ r.length ∧ codeL r gk k v = T ∧ v < 16 ^ (k - 2) ∧ w = wr
def CodeE (w : World) (T : Nat × Int) (e : Ending) (w' : World) : Prop := e = .returned (.tuple #[.int .i32 (T.1 : Int), .int .i64 T.2]) ∧ w = w'
set_option maxHeartbeats 4000000 in
theorem code_any (r : Bs) (_ : r.length ≤ 1000000) (w : World) : Calls Tryz.prog 202 #[.string ⟨r.toArray⟩] w (CodeE w (codeN r)) := by
  have hT : codeL r 6 0 0 = codeN r := rfl
  generalize codeN r = T at *
  have HT := Lib.hid hT
  clear hT
  go_enter Tryz.func202, Tryz.ntmps202
  go_wp2_with fail
  go_loopg [8, 4] 6 (fun gk i c wr => CodeRel w r T gk i c wr)
  case atStart => exact ⟨0, 0, rfl, rfl, rfl, Nat.zero_le _, HT.out, by decide, rfl⟩
  case round =>
    obtain ⟨k, v, rfl, rfl, hk, hkr, ht, hv, rfl⟩ := hrel
    have d0 : (0 : Int) ≤ (k : Int) := by omega
    by_cases h6 : k < 6
    · have d6 : (k : Int) < 6 := by omega
      obtain ⟨g, rfl⟩ : ∃ g, gk = g + 1 := ⟨gk - 1, by omega⟩
      unfold codeL at ht
      by_cases hlt : k < r.length
      · obtain ⟨b, hb⟩ : ∃ b, (⟨r.toArray⟩ : ByteArray)[k]'(by rw [size_mk]; exact hlt) = b := ⟨_, rfl⟩
        have hbk : r[k]? = some b := by rw [List.getElem?_eq_getElem hlt, ← hb]; rfl
        rw [hbk] at ht
        simp only at ht
        have b2 : (k : Int) < (r.length : Int) := by omega
        have b3 : ((k : Int) == (r.length : Int)) = false := by rw [beq_eq_false_iff_ne]; omega
        have DG := fun w => Lib.hid (digit_any b w)
        have hx16 : ∀ n, hexV b = some n → n < 16 := fun n h => hexV_lt h
        generalize hexV b = hx at *
        have HV := Lib.hid hv
        have HX := Lib.hid hx16
        have HTT := Lib.hid ht
        clear hbk HT hv hx16 ht
        by_cases h0 : k = 0
        · have e0 : ((k : Int) == 0) = true := by rw [beq_iff_eq]; omega
          have n0 : ¬ (1 : Int) < (k : Int) := by omega
          have e1 : ((k : Int) == 1) = false := by rw [beq_eq_false_iff_ne]; omega
          by_cases hb9 : b = 92
          · have c1 : ((b.toNat : Int) == 92) = true := by rw [hb9]; rfl
            rw [if_neg (by rw [hb9]; simp; omega), if_neg (by omega)] at HTT
            clear h0 hb9
            go_wp2_with fail
            with_reducible refine (DG _).out.mono ?_
            rintro e w2 ⟨rfl, rfl⟩
            go_wp2_with fail
            go_roundg g
            case measure => omega
            case rel =>
              refine ⟨k + 1, v, by go_num, rfl, by omega, by omega, HTT.out, ?_, rfl⟩
              have hv := HV.out
              rw [show k + 1 - 2 = k - 2 by omega]; exact hv

          · have c1 : ((b.toNat : Int) == 92) = false := by rw [beq_eq_false_iff_ne]; intro e; exact hb9 (UInt8.toNat.inj (by simpa using (by omega : b.toNat = 92)))
            rw [if_pos (Or.inl ⟨h0, hb9⟩)] at HTT
            have hT := HTT.out
            subst hT
            clear h0 hb9
            go_wp2_with fail
            with_reducible refine (DG _).out.mono ?_
            rintro e w2 ⟨rfl, rfl⟩
            go_wp2_with fail
            go_ret2
            exact ⟨rfl, rfl⟩

        · have e0 : ((k : Int) == 0) = false := by rw [beq_eq_false_iff_ne]; omega
          by_cases h1 : k = 1
          · have e1 : ((k : Int) == 1) = true := by rw [beq_iff_eq]; omega
            have n0 : ¬ (1 : Int) < (k : Int) := by omega
            by_cases hb9 : b = 117
            · have c1 : ((b.toNat : Int) == 117) = true := by rw [hb9]; rfl
              rw [if_neg (by rw [hb9]; simp; omega), if_neg (by omega)] at HTT
              clear h0 h1 hb9
              go_wp2_with fail
              with_reducible refine (DG _).out.mono ?_
              rintro e w2 ⟨rfl, rfl⟩
              go_wp2_with fail
              go_roundg g
              case measure => omega
              case rel =>
                refine ⟨k + 1, v, by go_num, rfl, by omega, by omega, HTT.out, ?_, rfl⟩
                have hv := HV.out
                rw [show k + 1 - 2 = k - 2 by omega]; exact hv

            · have c1 : ((b.toNat : Int) == 117) = false := by rw [beq_eq_false_iff_ne]; intro e; exact hb9 (UInt8.toNat.inj (by simpa using (by omega : b.toNat = 117)))
              rw [if_pos (Or.inr (Or.inl ⟨h1, hb9⟩))] at HTT
              have hT := HTT.out
              subst hT
              clear h0 h1 hb9
              go_wp2_with fail
              with_reducible refine (DG _).out.mono ?_
              rintro e w2 ⟨rfl, rfl⟩
              go_wp2_with fail
              go_ret2
              exact ⟨rfl, rfl⟩

          · have e1 : ((k : Int) == 1) = false := by rw [beq_eq_false_iff_ne]; omega
            have n0 : (1 : Int) < (k : Int) := by omega
            cases hx with
            | none =>
              rw [if_pos (Or.inr (Or.inr ⟨by omega, rfl⟩))] at HTT
              have hT := HTT.out
              subst hT
              clear h0 h1
              go_wp2_with fail
              with_reducible refine (DG _).out.mono ?_
              rintro e w2 ⟨rfl, rfl⟩
              go_wp2_with fail
              go_ret2
              exact ⟨rfl, rfl⟩

            | some d =>
              have hd := HX.out d rfl
              rw [if_neg (by simp; omega), if_pos (by omega)] at HTT
              simp only [Option.getD_some] at HTT DG
              have hvk : v < 65536 / 16 := by
                have := HV.out
                have h2 : 16 ^ (k - 2) ≤ 16 ^ 3 := Nat.pow_le_pow_right (by decide) (by omega)
                omega
              have b7 : IntKind.i32.wrap ((v : Int) * 16) = ((v * 16 : Nat) : Int) := by rw [IntWalk.i32_in _ (by omega)]; omega
              have b8 : bits BinOp.or IntKind.i32 ((v : Int) * 16) (d : Int) = ((v * 16 + d : Nat) : Int) := by rw [← or_hex v d hd (by omega)]; congr 1
              have hv2 : v * 16 + d < 16 ^ (k + 1 - 2) := by
                have := HV.out
                rw [show k + 1 - 2 = (k - 2) + 1 by omega, Nat.pow_succ]
                omega
              clear h0 h1
              go_wp2_with fail
              with_reducible refine (DG _).out.mono ?_
              rintro e w2 ⟨rfl, rfl⟩
              go_wp2_with fail
              go_roundg g
              case measure => omega
              case rel =>
                refine ⟨k + 1, v * 16 + d, by go_num, rfl, by omega, by omega, HTT.out, ?_, rfl⟩
                have hv := HV.out
                exact hv2

      · have hl : ((k : Int) == (r.length : Int)) = true := by rw [beq_iff_eq]; omega
        have hn : r[k]? = none := List.getElem?_eq_none (by omega)
        rw [hn] at ht
        simp only at ht
        subst ht
        go_wp2_with fail
        go_ret2
        exact ⟨rfl, rfl⟩
    · have d6 : ¬ (k : Int) < 6 := by omega
      obtain rfl : gk = 0 := by omega
      unfold codeL at ht
      subst ht
      go_wp2_with fail
      go_ret2
      exact ⟨rfl, rfl⟩
def TriE (w : World) (T : Nat × Nat × Int) (e : Ending) (w' : World) : Prop := e = .returned (.tuple #[.int .i32 (T.1 : Int), .int .i64 (T.2.1 : Int), .int .i64 T.2.2]) ∧ w = w'
attribute [local irreducible] Int.decLt Int.decLe in
set_option maxHeartbeats 4000000 in
theorem pair_any (r : Bs) (hr : r.length ≤ 1000000) (w : World) : Calls Tryz.prog 189 #[.string ⟨r.toArray⟩] w (TriE w (pairN r)) := by
  have CA := fun w => Lib.hid (code_any r hr w)
  have CB := fun w => Lib.hid (code_any (r.drop 6) (by rw [List.length_drop]; omega) w)
  unfold CodeE at CA CB
  have hfit := @codeN_fit r
  unfold pairN
  generalize codeN r = C at *
  have hx := drop_mk r 6
  generalize codeN (r.drop 6) = D at *
  generalize r.drop 6 = q at *
  obtain ⟨h, e⟩ := C
  obtain ⟨l, f⟩ := D
  simp only at CA CB hfit ⊢
  by_cases he : e = 0
  · subst he
    have h6 := hfit rfl
    rw [if_neg (by simp)]
    clear hfit
    by_cases h1 : h < 55296
    · have k1 : (h : Int) < 55296 := by omega
      rw [if_pos (.inl h1)]
      clear h1 h6 CB
      go_enter Tryz.func189, Tryz.ntmps189
      go_wp2_with fail
      with_reducible refine (CA _).out.mono ?_
      rintro e w2 ⟨rfl, rfl⟩
      go_wp2_with fail
      go_ret3
      exact ⟨rfl, rfl⟩
    have k1 : ¬ (h : Int) < 55296 := by omega
    by_cases h2 : 57343 < h
    · have k2 : (57343 : Int) < (h : Int) := by omega
      rw [if_pos (.inr h2)]
      clear h1 h2 h6 CB
      go_enter Tryz.func189, Tryz.ntmps189
      go_wp2_with fail
      with_reducible refine (CA _).out.mono ?_
      rintro e w2 ⟨rfl, rfl⟩
      go_wp2_with fail
      go_ret3
      exact ⟨rfl, rfl⟩
    have k2 : ¬ (57343 : Int) < (h : Int) := by omega
    rw [if_neg (by omega)]
    by_cases h3 : 56320 ≤ h
    · have k3 : (56320 : Int) ≤ (h : Int) := by omega
      rw [if_pos h3]
      clear h1 h2 h3 h6 CB
      go_enter Tryz.func189, Tryz.ntmps189
      go_wp2_with fail
      with_reducible refine (CA _).out.mono ?_
      rintro e w2 ⟨rfl, rfl⟩
      go_wp2_with fail
      go_ret3
      exact ⟨rfl, rfl⟩
    have k3 : decide ((56320 : Int) ≤ (h : Int)) = false := decide_eq_false (by omega)
    rw [if_neg h3]
    have hs6 : ∀ w', (Instr.slice 9 (.string ⟨r.toArray⟩) (some (.int .i64 6)) none none).run Tryz.prog w' = .ok (.string ⟨q.toArray⟩) w' := fun w' => by
      rw [run_slice_string_l (ht := Tryz.underlying9) (h0 := by omega) (h1 := by rw [size_mk]; omega), size_mk]
      exact congrArg (fun x => Result.ok (Value.string x) w') hx
    clear hx
    by_cases hf : f = 0
    · have kf : (f == 0) = true := by rw [hf]; rfl
      rw [if_neg (by simp [hf])]
      clear hf
      generalize hT : (if l < 56320 ∨ 57343 < l then ((0, 0, 4) : Nat × Nat × Int) else (65536 + (h - 55296) * 1024 + l - 56320, 12, 0)) = T
      have HT := Lib.hid hT
      have H12 := Lib.hid (And.intro h1 (And.intro h2 h3))
      clear hT h1 h2 h3 h6
      go_enter Tryz.func189, Tryz.ntmps189
      go_wp2_with fail
      with_reducible refine (CA _).out.mono ?_
      rintro e w2 ⟨rfl, rfl⟩
      go_wp2_with fail
      with_reducible refine (CB _).out.mono ?_
      rintro e w2 ⟨rfl, rfl⟩
      clear hs6 k1 k2 k3
      have hT := HT.out
      obtain ⟨h1, h2, h3⟩ := H12.out
      clear HT H12
      by_cases h4 : l < 56320
      · have k4 : decide ((l : Int) < 56320) = true := decide_eq_true (by omega)
        rw [if_pos (.inl h4)] at hT
        subst hT
        clear h1 h2 h3 h4
        go_wp2_with fail
        go_ret3
        exact ⟨rfl, rfl⟩
      have k4 : decide ((l : Int) < 56320) = false := decide_eq_false (by omega)
      by_cases h5 : 57343 < l
      · have k5 : decide ((57343 : Int) < (l : Int)) = true := decide_eq_true (by omega)
        rw [if_pos (.inr h5)] at hT
        subst hT
        clear h1 h2 h3 h4 h5
        go_wp2_with fail
        go_ret3
        exact ⟨rfl, rfl⟩
      have k5 : decide ((57343 : Int) < (l : Int)) = false := decide_eq_false (by omega)
      rw [if_neg (by omega)] at hT
      have e1 : IntKind.i32.wrap ((h : Int) - 55296) = (h : Int) - 55296 := IntWalk.i32_in _ (by omega)
      have e2 : IntKind.i32.wrap (((h : Int) - 55296) * 1024) = ((h : Int) - 55296) * 1024 := IntWalk.i32_in _ (by omega)
      have e3 : IntKind.i32.wrap (65536 + ((h : Int) - 55296) * 1024) = 65536 + ((h : Int) - 55296) * 1024 := IntWalk.i32_in _ (by omega)
      have e4 : IntKind.i32.wrap (65536 + ((h : Int) - 55296) * 1024 + (l : Int)) = 65536 + ((h : Int) - 55296) * 1024 + (l : Int) := IntWalk.i32_in _ (by omega)
      have e5 : IntKind.i32.wrap (65536 + ((h : Int) - 55296) * 1024 + (l : Int) - 56320) = ((65536 + (h - 55296) * 1024 + l - 56320 : Nat) : Int) := by rw [IntWalk.i32_in _ (by omega)]; omega
      generalize 65536 + (h - 55296) * 1024 + l - 56320 = T2 at *
      subst hT
      clear h1 h2 h3 h4 h5
      go_wp2_with fail
      go_ret3
      exact ⟨rfl, rfl⟩
    · have kf : (f == 0) = false := by rw [beq_eq_false_iff_ne]; exact hf
      rw [if_pos hf]
      clear h1 h2 h3 h6
      go_enter Tryz.func189, Tryz.ntmps189
      go_wp2_with fail
      with_reducible refine (CA _).out.mono ?_
      rintro e w2 ⟨rfl, rfl⟩
      go_wp2_with fail
      with_reducible refine (CB _).out.mono ?_
      rintro e w2 ⟨rfl, rfl⟩
      clear hs6 k1 k2 k3
      go_wp2_with fail
      go_ret3
      exact ⟨rfl, rfl⟩
  · have ke : (e == 0) = false := by rw [beq_eq_false_iff_ne]; exact he
    rw [if_pos he]
    clear hfit CB
    go_enter Tryz.func189, Tryz.ntmps189
    go_wp2_with fail
    with_reducible refine (CA _).out.mono ?_
    rintro e w2 ⟨rfl, rfl⟩
    go_wp2_with fail
    go_ret3
    exact ⟨rfl, rfl⟩
set_option maxHeartbeats 4000000 in
theorem mark_any (r : Bs) (hr : r.length ≤ 1000000) (w : World) : Calls Tryz.prog 172 #[.string ⟨r.toArray⟩] w (TriE w (markN r)) := by
  by_cases h2 : r.length < 2
  · have k2 : (r.length : Int) < 2 := by omega
    have hT : markN r = (0, 0, 3) := by unfold markN; rw [List.getElem?_eq_none (by omega)]
    rw [hT]
    clear h2 hT
    go_enter Tryz.func172, Tryz.ntmps172
    go_wp2_with fail
    go_ret3
    exact ⟨rfl, rfl⟩

  have k2 : ¬ (r.length : Int) < 2 := by omega
  have k3 : (1 : Int) < (r.length : Int) := by omega
  have k4 : 1 < r.length := by omega
  obtain ⟨b, hb⟩ : ∃ b, (⟨r.toArray⟩ : ByteArray)[1]'(by rw [size_mk]; omega) = b := ⟨_, rfl⟩
  have hbk : r[1]? = some b := by rw [List.getElem?_eq_getElem (by omega), ← hb]; rfl
  have PR := fun w => Lib.hid (pair_any r hr w)
  unfold TriE at PR
  unfold markN
  rw [hbk]
  simp only
  clear hbk h2
  by_cases h34 : b = 34
  · rw [if_pos (by simp [h34])]
    have c34 : ((b.toNat : Int) == 34) = true := by rw [h34]; rfl
    have e1 : IntKind.i32.wrap (b.toNat : Int) = (b.toNat : Int) := IntWalk.i32_in _ (by have := b.toNat_lt; omega)
    clear h34 PR
    go_enter Tryz.func172, Tryz.ntmps172
    go_wp2_with fail
    go_ret3
    exact ⟨rfl, rfl⟩
  have c34 : ((b.toNat : Int) == 34) = false := by rw [beq_eq_false_iff_ne]; intro e; exact h34 (UInt8.toNat.inj (by simpa using (by omega : b.toNat = 34)))
  by_cases h92 : b = 92
  · rw [if_pos (by simp [h92])]
    have c92 : ((b.toNat : Int) == 92) = true := by rw [h92]; rfl
    have e1 : IntKind.i32.wrap (b.toNat : Int) = (b.toNat : Int) := IntWalk.i32_in _ (by have := b.toNat_lt; omega)
    clear h92 PR
    go_enter Tryz.func172, Tryz.ntmps172
    go_wp2_with fail
    go_ret3
    exact ⟨rfl, rfl⟩
  have c92 : ((b.toNat : Int) == 92) = false := by rw [beq_eq_false_iff_ne]; intro e; exact h92 (UInt8.toNat.inj (by simpa using (by omega : b.toNat = 92)))
  by_cases h47 : b = 47
  · rw [if_pos (by simp [h47])]
    have c47 : ((b.toNat : Int) == 47) = true := by rw [h47]; rfl
    have e1 : IntKind.i32.wrap (b.toNat : Int) = (b.toNat : Int) := IntWalk.i32_in _ (by have := b.toNat_lt; omega)
    clear h47 PR
    go_enter Tryz.func172, Tryz.ntmps172
    go_wp2_with fail
    go_ret3
    exact ⟨rfl, rfl⟩
  have c47 : ((b.toNat : Int) == 47) = false := by rw [beq_eq_false_iff_ne]; intro e; exact h47 (UInt8.toNat.inj (by simpa using (by omega : b.toNat = 47)))
  rw [if_neg (by simp [h34, h92, h47])]
  by_cases h98 : b = 98
  · rw [if_pos h98]
    have c98 : ((b.toNat : Int) == 98) = true := by rw [h98]; rfl
    clear h98 PR
    go_enter Tryz.func172, Tryz.ntmps172
    go_wp2_with fail
    go_ret3
    exact ⟨rfl, rfl⟩
  rw [if_neg h98]
  have c98 : ((b.toNat : Int) == 98) = false := by rw [beq_eq_false_iff_ne]; intro e; exact h98 (UInt8.toNat.inj (by simpa using (by omega : b.toNat = 98)))
  by_cases h102 : b = 102
  · rw [if_pos h102]
    have c102 : ((b.toNat : Int) == 102) = true := by rw [h102]; rfl
    clear h102 PR
    go_enter Tryz.func172, Tryz.ntmps172
    go_wp2_with fail
    go_ret3
    exact ⟨rfl, rfl⟩
  rw [if_neg h102]
  have c102 : ((b.toNat : Int) == 102) = false := by rw [beq_eq_false_iff_ne]; intro e; exact h102 (UInt8.toNat.inj (by simpa using (by omega : b.toNat = 102)))
  by_cases h110 : b = 110
  · rw [if_pos h110]
    have c110 : ((b.toNat : Int) == 110) = true := by rw [h110]; rfl
    clear h110 PR
    go_enter Tryz.func172, Tryz.ntmps172
    go_wp2_with fail
    go_ret3
    exact ⟨rfl, rfl⟩
  rw [if_neg h110]
  have c110 : ((b.toNat : Int) == 110) = false := by rw [beq_eq_false_iff_ne]; intro e; exact h110 (UInt8.toNat.inj (by simpa using (by omega : b.toNat = 110)))
  by_cases h114 : b = 114
  · rw [if_pos h114]
    have c114 : ((b.toNat : Int) == 114) = true := by rw [h114]; rfl
    clear h114 PR
    go_enter Tryz.func172, Tryz.ntmps172
    go_wp2_with fail
    go_ret3
    exact ⟨rfl, rfl⟩
  rw [if_neg h114]
  have c114 : ((b.toNat : Int) == 114) = false := by rw [beq_eq_false_iff_ne]; intro e; exact h114 (UInt8.toNat.inj (by simpa using (by omega : b.toNat = 114)))
  by_cases h116 : b = 116
  · rw [if_pos h116]
    have c116 : ((b.toNat : Int) == 116) = true := by rw [h116]; rfl
    clear h116 PR
    go_enter Tryz.func172, Tryz.ntmps172
    go_wp2_with fail
    go_ret3
    exact ⟨rfl, rfl⟩
  rw [if_neg h116]
  have c116 : ((b.toNat : Int) == 116) = false := by rw [beq_eq_false_iff_ne]; intro e; exact h116 (UInt8.toNat.inj (by simpa using (by omega : b.toNat = 116)))
  clear h34 h92 h47 h98 h102 h110 h114 h116
  go_enter Tryz.func172, Tryz.ntmps172
  go_wp2_with fail
  with_reducible refine (PR _).out.mono ?_
  rintro e w2 ⟨rfl, rfl⟩
  go_wp2_with fail
  go_ret3
  exact ⟨rfl, rfl⟩
theorem markOK (s : Bs) (hs : s.length ≤ 1000000) : MarkOK s := fun i _ w => Lib.hid (mark_any (s.drop i) (by rw [List.length_drop]; omega) w)
end Go.Proofs.YtgoelpjkfofbbaaGreatDoor
