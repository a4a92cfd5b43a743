/- Walk: notes.reader.word: of every text. -/
import Derived.Test.YtcfmidmokciofaaGreatDoorKM34
import Derived.Test.YtcfmidmokciofaaGreatDoorKM33
import Derived.Test.YtcfmidmokciofaaGreatDoorKM35
namespace Go.Proofs.YtcfmidmokciofaaGreatDoor
open Go.RowKit Go.Gz Go.Shelf

set_option maxRecDepth 100000
set_option maxHeartbeats 4000000 in
theorem rword_any (R : Nat) (s : Bs) (hs : s.length ≤ 1000000) (a : Nat) (ha : a ≤ s.length) (T : Bs) (hT : T.length ≤ 100) (v : Value) (hv : v = .nilIface ∨ ∃ t x, v = .iface t x) (hk : KV false v) (w : World) (h : RB w R s a 0) :
    Calls Tryz.prog 159 #[.pointer (some ⟨R, 0, none⟩), .string ⟨T.toArray⟩, v] w (ValE w R s false (wordN s a T)) := by
  have hh : Hid (RK R w w.drew ∧ RB w.drew R s a 0) := Lib.hid ⟨RK.drew R w, h⟩
  obtain ⟨c0, c1, c2, z1, z2⟩ := h.cells
  have FL := fun b F w h => Lib.hid (rfail0 R s a b F w h)
  have HP : ∀ (x p : Bs) (w : World), Hid (Calls Tryz.prog 66 #[.string ⟨x.toArray⟩, .string ⟨p.toArray⟩] w fun e w' => e = .returned (.bool (p.isPrefixOf x)) ∧ w' = w) := fun x p w => Lib.hid (by
    have := Tryz.strings_HasPrefix ⟨x.toArray⟩ ⟨p.toArray⟩ w
    simpa [Lib.hasPrefix] using this)
  have P1 := fun w => HP (s.drop a) T w
  have P2 := fun w => HP T (s.drop a) w
  obtain ⟨r, hr⟩ : ∃ r, wordN s a T = r := ⟨_, rfl⟩
  rw [hr]
  unfold wordN at hr
  have hx := drop_mk s a
  generalize s.drop a = q at *
  generalize T.isPrefixOf q = B1 at *
  generalize q.isPrefixOf T = B2 at *
  have b1 : (0 : Int) ≤ (a : Int) := by omega
  have b2 : (a : Int) ≤ (s.length : Int) := by omega
  have b3 : ¬ (s.length : Int) < (a : Int) := by omega
  have b7 : IntKind.i64.wrap ((a : Int) + (T.length : Int)) = ((a + T.length : Nat) : Int) := by rw [IntWalk.i64_in _ (by omega)]; omega
  have HB := Lib.hid h
  have HK := Lib.hid hk
  clear h HP hk
  obtain ⟨d0, d1, d2, y1, y2⟩ := hh.out.2.cells
  cases B1 with
  | true =>
    rw [if_pos rfl] at hr
    subst hr
    rcases hv with rfl | ⟨t, x, rfl⟩
    all_goals
      go_enter Tryz.func159, Tryz.ntmps159
      go_wp2_with fail
      go_region_held3 (fun w' => w'.cell? ⟨R, 0, none⟩ = some (.string ⟨s.toArray⟩) ∧ w'.cell? ⟨R, 1, none⟩ = some (.int .i64 (a : Int))) (first | assumption | exact ⟨c0, c1⟩) (fail)
      go_wp2_with fail
      with_reducible refine (P1 _).out.mono ?_
      rintro e w1 ⟨rfl, rfl⟩
      go_wp2_with fail
      go_ret
      exact ⟨⟨_, rfl, HK.out⟩, (RK.drew R w).trans (RK.set R 1 _ _), hh.out.2.at _⟩
  | false =>
    rw [if_neg (by simp)] at hr
    cases B2 with
    | true =>
      rw [if_pos rfl] at hr
      subst hr
      go_enter Tryz.func159, Tryz.ntmps159
      go_wp2_with fail
      go_region_held3 (fun w' => w'.cell? ⟨R, 0, none⟩ = some (.string ⟨s.toArray⟩) ∧ w'.cell? ⟨R, 1, none⟩ = some (.int .i64 (a : Int))) (first | assumption | exact ⟨c0, c1⟩) (fail)
      go_wp2_with fail
      with_reducible refine (P1 _).out.mono ?_
      rintro e w1 ⟨rfl, rfl⟩
      go_wp2_with fail
      with_reducible refine (P2 _).out.mono ?_
      rintro e w1 ⟨rfl, rfl⟩
      go_wp2_with fail
      with_reducible refine (FL _ 3 _ hh.out.2).out.mono ?_
      rintro e w9 ⟨rfl, hk9, hr9⟩
      have HR9 := Lib.hid hr9
      clear hr9
      go_wp2_with fail
      go_ret
      exact ⟨⟨_, rfl, .inl rfl⟩, (RK.drew R w).trans hk9, HR9.out⟩
    | false =>
      rw [if_neg (by simp)] at hr
      subst hr
      go_enter Tryz.func159, Tryz.ntmps159
      go_wp2_with fail
      go_region_held3 (fun w' => w'.cell? ⟨R, 0, none⟩ = some (.string ⟨s.toArray⟩) ∧ w'.cell? ⟨R, 1, none⟩ = some (.int .i64 (a : Int))) (first | assumption | exact ⟨c0, c1⟩) (fail)
      go_wp2_with fail
      with_reducible refine (P1 _).out.mono ?_
      rintro e w1 ⟨rfl, rfl⟩
      go_wp2_with fail
      with_reducible refine (P2 _).out.mono ?_
      rintro e w1 ⟨rfl, rfl⟩
      go_wp2_with fail
      with_reducible refine (FL _ 4 _ hh.out.2).out.mono ?_
      rintro e w9 ⟨rfl, hk9, hr9⟩
      have HR9 := Lib.hid hr9
      clear hr9
      go_wp2_with fail
      go_ret
      exact ⟨⟨_, rfl, .inl rfl⟩, (RK.drew R w).trans hk9, HR9.out⟩
theorem wordOK (s : Bs) (hs : s.length ≤ 1000000) : WordOK s := by
  intro a T v h R W hb
  refine Lib.hid (rword_any R s hs a ?_ T ?_ v ?_ ?_ W hb)
  · rcases h with ⟨h, _⟩ | ⟨h, _⟩ | ⟨h, _⟩ <;> exact Nat.le_of_lt (List.getElem?_eq_some_iff.1 h).1
  · rcases h with ⟨_, rfl, _⟩ | ⟨_, rfl, _⟩ | ⟨_, rfl, _⟩ <;> decide
  · rcases h with ⟨_, _, rfl⟩ | ⟨_, _, rfl⟩ | ⟨_, _, rfl⟩
    · exact .inl rfl
    · exact .inr ⟨_, _, rfl⟩
    · exact .inr ⟨_, _, rfl⟩
  · rcases h with ⟨_, _, rfl⟩ | ⟨_, _, rfl⟩ | ⟨_, _, rfl⟩
    · exact .inl rfl
    · exact .inr (.inr (.inr (.inl ⟨_, rfl⟩)))
    · exact .inr (.inr (.inr (.inl ⟨_, rfl⟩)))
theorem pcheck_all (b : Int) (kind : Nat) (s : Bs) (hs : s.length ≤ 1000000) (w : World) (hg : Gl w) :
    Calls Tryz.prog 22 #[.agg #[.int .i64 b, .int .u8 (kind : Int), .string ⟨s.toArray⟩]] w fun e w' => e = .returned (.int .i64 (planN b kind s)) ∧ Up w w' :=
  pcheck_any b kind s hs (rval_any s hs (markOK s hs) (wordOK s hs) (numOK s hs) 4) w hg
end Go.Proofs.YtcfmidmokciofaaGreatDoor
