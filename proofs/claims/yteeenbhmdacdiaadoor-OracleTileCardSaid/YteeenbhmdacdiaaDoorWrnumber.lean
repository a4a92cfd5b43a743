/- Walk: the reference's number of a path. -/
import Derived.Test.YteeenbhmdacdiaaDoorWrnum
namespace Go.Proofs.YteeenbhmdacdiaaDoor
open Go.RowKit Go.Gz

def numOut (l : Bs) : Value := if numE (l.takeWhile dig) = 4 then .tuple #[.int .i64 0, .string ⟨#[]⟩, .int .i64 4] else .tuple #[.int .i64 (ovr (l.takeWhile dig)), .string ⟨(l.dropWhile dig).toArray⟩, .int .i64 0]
def NumEnd (w : World) (l : Bs) (e : Ending) (w' : World) : Prop := e = .returned (numOut l) ∧ ∃ n, w' = w.drewN n
def DgRel (T : Nat) (n : Value) : Prop := ∃ k : Nat, k ≤ T ∧ n = .int .i64 k
set_option maxHeartbeats 4000000 in
theorem rnumber_any (l : Bs) (hl : l.length ≤ 1000000) (w : World) :
    Calls Tryd.prog 49 #[.string ⟨l.toArray⟩] w (NumEnd w l) := by
  obtain ⟨ht, hd⟩ := tw_take l
  have hle := tw_len l
  have AT := Lib.hid (tw_at l)
  have EN := Lib.hid (tw_end l)
  have NN := fun w => Lib.hid (rnum_any (l.takeWhile dig) (by omega) w)
  have CA := Lib.hid (numE_cases (l.takeWhile dig))
  have OV := Lib.hid (show ovr (l.takeWhile dig) = if numE (l.takeWhile dig) = 11 then 1099511627776 else numV (l.takeWhile dig) from rfl)
  have HT := Lib.hid ht
  have HD := Lib.hid hd
  have OUT := Lib.hid (show numOut l = if numE (l.takeWhile dig) = 4 then .tuple #[.int .i64 0, .string ⟨#[]⟩, .int .i64 4] else .tuple #[.int .i64 (ovr (l.takeWhile dig)), .string ⟨(l.dropWhile dig).toArray⟩, .int .i64 0] from rfl)
  clear ht hd
  generalize hT : (l.takeWhile dig).length = T at *
  generalize l.takeWhile dig = ds at *
  have HTT := Lib.hid hT
  clear hT
  go_enter Tryd.func49, Tryd.ntmps49
  go_wp2
  go_loop [5] (fun n => DgRel T n) (fun n => T - (intOf n).toNat)
  case atStart => exact ⟨0, by omega, rfl⟩
  case round =>
    obtain ⟨k, hk, rfl⟩ := hrel
    by_cases hlt : k < T
    · have hlt2 : k < l.length := by omega
      have hdc := AT.out k hlt hlt2
      obtain ⟨c, hc⟩ : ∃ c, (⟨l.toArray⟩ : ByteArray)[k]'(by rw [size_mk]; exact hlt2) = c := ⟨_, rfl⟩
      have hck : l[k] = c := hc
      rw [hck] at hdc
      obtain ⟨h1', h2'⟩ := (dig_iff c).1 hdc
      have h1 : (48 : Int) ≤ (c.toNat : Int) := by omega
      have h2 : (c.toNat : Int) ≤ 57 := by omega
      have HC := Lib.hid hck
      clear hdc hck h1' h2'
      go_wp2
      go_round
      case rel => exact ⟨k + 1, by omega, by go_num⟩
      case measure => simp [intOf]; omega
    · obtain rfl : k = T := by omega
      have hx : (⟨l.toArray⟩ : ByteArray).extract 0 k = ⟨ds.toArray⟩ := by rw [extract_take, HT.out]
      obtain ⟨rs, hrs⟩ : ∃ rs : Bs, rs = l.dropWhile dig := ⟨_, rfl⟩
      have hy : (⟨l.toArray⟩ : ByteArray).extract k l.length = ⟨rs.toArray⟩ := by rw [extract_mk, HD.out, hrs]
      have HR := Lib.hid hrs
      have OO := OUT.out
      rw [← hrs] at OO
      have OUT2 := Lib.hid OO
      have hk0 : (k : Int) ≤ (l.length : Int) := by omega
      clear hrs OO
      have hend : ((l.length : Int) ≤ k) ∨ ∃ c, ∃ h : k < (⟨l.toArray⟩ : ByteArray).size, (⟨l.toArray⟩ : ByteArray)[k] = c ∧ (k : Int) < (l.length : Int) ∧ ((c.toNat : Int) < 48 ∨ 57 < (c.toNat : Int)) := by
        by_cases hend : k < l.length
        · refine .inr ⟨l[k], by rw [size_mk]; exact hend, rfl, by omega, ?_⟩
          have hdc := EN.out hend
          unfold dig at hdc
          simp only [Bool.and_eq_false_iff, decide_eq_false_iff_not] at hdc
          omega
        · exact .inl (by omega)
      rcases CA.out with e | e | e
      · have NN := NN
        rw [e] at NN
        have hO : numOut l = .tuple #[.int .i64 0, .string ⟨#[]⟩, .int .i64 4] := by rw [OUT2.out, if_pos e]
        have HO := Lib.hid hO
        clear hO e
        rcases hend with g | ⟨c, hsz, hc, hlt3, g | g⟩
        all_goals
          go_wp2_with (go_at_call 61; refine (NN _).out.mono ?_; rintro e w1 ⟨rfl, rfl⟩)
          go_ret3
          exact ⟨(congrArg Ending.returned HO.out).symm, 0, rfl⟩
      · have NN := NN
        rw [e] at NN
        have hO : numOut l = .tuple #[.int .i64 1099511627776, .string ⟨rs.toArray⟩, .int .i64 0] := by rw [OUT2.out, if_neg (by rw [e]; decide), OV.out, if_pos e]
        have HO := Lib.hid hO
        clear hO e
        rcases hend with g | ⟨c, hsz, hc, hlt3, g | g⟩
        all_goals
          go_wp2_with (go_at_call 61; refine (NN _).out.mono ?_; rintro e w1 ⟨rfl, rfl⟩)
          go_quiet (fail)
          go_wp2_with fail
          go_ret3
          exact ⟨(congrArg Ending.returned HO.out).symm, _, rfl⟩
      · have NN := NN
        rw [e] at NN
        have hO : numOut l = .tuple #[.int .i64 (numV ds), .string ⟨rs.toArray⟩, .int .i64 0] := by rw [OUT2.out, if_neg (by rw [e]; decide), OV.out, if_neg (by rw [e]; decide)]
        have HO := Lib.hid hO
        clear hO e
        rcases hend with g | ⟨c, hsz, hc, hlt3, g | g⟩
        all_goals
          go_wp2_with (go_at_call 61; refine (NN _).out.mono ?_; rintro e w1 ⟨rfl, rfl⟩)
          go_quiet (fail)
          go_wp2_with fail
          go_ret3
          exact ⟨(congrArg Ending.returned HO.out).symm, _, rfl⟩
end Go.Proofs.YteeenbhmdacdiaaDoor
