/- Walks: the reference's Get, Del and Put of charts. -/
import Derived.Test.YtcfmidmokciofaaGreatDoorKG04
import Derived.Deep.RegionHeld3
namespace Go.Proofs.YtcfmidmokciofaaGreatDoor
open Go.RowKit Go.Gz

set_option maxRecDepth 100000
set_option maxHeartbeats 1000000 in
theorem rget12_any (L : Items) (hl : L.length ≤ 1000000) (id : Nat) (A : Option Addr) (c : Nat) (w : World) (hr : Rd w 2 A L.length c (itV L)) :
    Calls Tryz.prog 46 #[.slice A L.length c, .int .u64 id] w fun e w' => e = .returned (.tuple #[.string ⟨((getL L id).getD []).toArray⟩, .bool (getL L id).isSome]) ∧ w = w' := by
  have HR := Lib.hid hr;clear hr;go_enter Tryz.func46, Tryz.ntmps46;go_wp2_with fail;go_loopg [6] L.length (fun gk i wr => ∃ k : Nat, k + gk = L.length ∧ i = .int .i64 k ∧ getL L id = getL (L.drop k) id ∧ w = wr)
  case atStart => exact ⟨0, by omega, rfl, by simp, rfl⟩
  case round =>
    obtain ⟨k, hk, rfl, hd, rfl⟩ := hrel;have HD := Lib.hid hd;clear hd;by_cases hlt : k < L.length
    · obtain ⟨m, rfl⟩ : ∃ m, gk = m + 1 := ⟨gk - 1, by omega⟩;obtain ⟨h1, h2⟩ := get_drop hlt HD.out;obtain ⟨B, o, rfl, hc1, hc2⟩ := HR.out.item hlt;obtain ⟨⟨xid, xt⟩, hx⟩ : ∃ x, L[k]'hlt = x := ⟨_, rfl⟩;rw [hx] at hc1 hc2 h1 h2;simp only at hc1 hc2 h1 h2;have hltI : (k : Int) < (L.length : Int) := by omega
      clear hx;by_cases he : xid = id
      · have H1 := Lib.hid (h1 he);have hb : ((xid : Int) == (id : Int)) = true := by rw [beq_iff_eq]; omega
        clear h1 h2 he;go_wp2_with fail;go_ret2
        refine ⟨?_, rfl⟩;rw [H1.out];rfl
      · have H2 := Lib.hid (h2 he);have hb : ((xid : Int) == (id : Int)) = false := by rw [beq_eq_false_iff_ne]; omega
        clear h1 h2 he;go_wp2_with fail;go_roundg m
        case measure => omega
        case rel => exact ⟨k + 1, by omega, by go_num, H2.out, rfl⟩
    · obtain rfl : k = L.length := by omega
      have e := HD.out;rw [List.drop_length] at e;have E := Lib.hid e;clear e hlt;go_wp2_with fail;go_ret2
      refine ⟨?_, rfl⟩;rw [E.out];rfl
theorem infoIt : (Tryz.prog.info? 56).map (fun i => (i.zero, i.size, i.bytes)) = some (some (.agg #[.int .u64 0, .string ⟨#[]⟩]), 2, 24) := by kernel_rfl
def OwnR (w : World) (B : Nat) (v : Value) (L : Items) : Prop := w.ownsRow B 56 2 v L.length (itV L)
theorem own_up {w w' : World} {B : Nat} {e : TypeId} {size n : Nat} {v : Value} {xs : List Value} (h : w.ownsRow B e size v n xs) (hu : Up w w') : w'.ownsRow B e size v n xs := by
  refine World.ownsRow.kept (row := none) h ⟨hu.os, hu.tape, hu.output, hu.size, fun k hk _ => hu.block hk⟩ ?_;cases v.ownBlock <;> simp
def DelEnd (w : World) (M : Items) (e : Ending) (w' : World) : Prop := ∃ v, e = .returned v ∧ OwnR w' w.heap.size v M ∧ Up w w'
set_option maxHeartbeats 1000000 in
theorem rdel12_any (L : Items) (hl : L.length ≤ 100000) (id : Nat) (A : Option Addr) (c : Nat) (w : World) (hr : Rd w 2 A L.length c (itV L)) :
    Calls Tryz.prog 47 #[.slice A L.length c, .int .u64 id] w (DelEnd w (delL L id)) := by
  obtain ⟨i0, hi, hz0, hz1, hz2⟩ := info_parts infoIt;have HR := Lib.hid hr;clear hr;go_enter Tryz.func47, Tryz.ntmps47;go_wp2_with fail;go_loopg [5, 6] L.length (fun gk v i wr => ∃ k : Nat, k + gk = L.length ∧ i = .int .i64 k ∧ OwnR wr w.heap.size v (delL (L.take k) id) ∧ Up w wr)
  case atStart => exact ⟨0, by omega, rfl, World.ownsRow_nil _ _ _ _, Up.refl w⟩
  case round =>
    obtain ⟨k, hk, rfl, ho, hu⟩ := hrel;have HO := Lib.hid ho;have HU := Lib.hid hu;clear ho;by_cases hlt : k < L.length
    · obtain ⟨m, rfl⟩ : ∃ m, gk = m + 1 := ⟨gk - 1, by omega⟩;have hd := del_take_succ (id := id) hlt;obtain ⟨B, o, rfl, hc1, hc2⟩ := (HR.out.up hu).item hlt;obtain ⟨⟨xid, xt⟩, hx⟩ : ∃ x, L[k]'hlt = x := ⟨_, rfl⟩;rw [hx] at hc1 hc2 hd;simp only at hc1 hc2 hd;have hltI : (k : Int) < (L.length : Int) := by omega
      have hml : (delL (L.take k) id).length ≤ k := by have := del_len (L.take k) id; rw [List.length_take] at this; omega
      clear hx hu;by_cases he : xid = id
      · rw [if_pos he] at hd;have HD := Lib.hid hd;have hb : ((xid : Int) != (id : Int)) = false := by rw [he]; simp
        clear hd he;go_wp2_with fail;go_roundg m
        case measure => omega
        case rel => exact ⟨k + 1, by omega, by go_num, by rw [HD.out, List.append_nil]; exact HO.out, HU.out⟩
      · rw [if_neg he] at hd;have HD := Lib.hid hd;have hb : ((xid : Int) != (id : Int)) = true := by rw [bne_iff_ne]; omega
        clear hd he;go_wp2_with (at_builtin; refine app_one wr rfl _ _ 22 rfl w.heap.size 56 i0 _ 2 24 Tryz.underlying22 hi hz0 hz1 hz2 rfl (by decide) _ _ _ HO.out rfl #[.int .u64 xid, .string ⟨xt.toArray⟩] rfl rfl (by simp [Value.oneCell']) (by omega) (by omega) (by have := HU.out.le; omega) ?_; intro v3 w3 ho3 hg3 hb3)
        go_roundg m
        case measure => omega
        case rel =>
          refine ⟨k + 1, by omega, by go_num, ?_, Up.of (Below.trans HU.out.below hb3)⟩;rw [HD.out];unfold OwnR;rw [itV_app, List.length_append];exact ho3
    · obtain rfl : k = L.length := by omega
      have hO := HO.out;rw [List.take_length] at hO;have HO2 := Lib.hid hO;clear hO hu hlt;go_wp2_with fail;go_ret;exact ⟨_, rfl, HO2.out, HU.out⟩
end Go.Proofs.YtcfmidmokciofaaGreatDoor
/- Walk: the reference's Put of charts. -/
namespace Go.Proofs.YtcfmidmokciofaaGreatDoor
open Go.RowKit Go.Gz

set_option maxRecDepth 100000
def PutEnd (w : World) (M : Items) (E : Int) (e : Ending) (w' : World) : Prop := ∃ A c, e = .returned (.tuple #[.slice A M.length c, .int .i64 E]) ∧ Rd w' 2 A M.length c (itV M) ∧ Up w w'
theorem own_fin {w : World} {B : Nat} {e : TypeId} {v : Value} {M N : Items} {x : Gz.Item} {k : Nat} (hp : k ≤ M.length) (hlen : N.length = M.length + 1) (hN : N = M.take k ++ ([x] ++ M.drop k))
    (h : w.ownsRow B e 2 v (0 + k + 1 + (M.length - k)) ([] ++ itV (M.take k) ++ #[Value.int .u64 (x.1 : Int), .string ⟨x.2.toArray⟩].toList ++ itV (M.drop k))) : w.ownsRow B e 2 v N.length (itV N) := by
  have e1 : 0 + k + 1 + (M.length - k) = N.length := by omega
  have e2 : [] ++ itV (M.take k) ++ #[Value.int .u64 (x.1 : Int), .string ⟨x.2.toArray⟩].toList ++ itV (M.drop k) = itV N := by
    rw [hN, itV_app, itV_app]; simp [itV]
  rw [e1, e2] at h;exact h
set_option maxHeartbeats 2000000 in
theorem rput12_ok (L : Items) (hl : L.length ≤ 100000) (id : Nat) (s : Bs) (A : Option Addr) (c : Nat) (w : World) (hr : Rd w 2 A L.length c (itV L))
    (h1 : ¬ 6004799503160661 ≤ id) (h2 : s ≠ []) (h3 : ¬ 65536 < s.length) (h4 : (getL L id).isSome = true ∨ ¬ 2048 ≤ L.length) :
    Calls Tryz.prog 21 #[.slice A L.length c, .int .u64 id, .string ⟨s.toArray⟩] w (PutEnd w (insL L id s) 0) := by
  obtain ⟨i0, hi, hz0, hz1, hz2⟩ := info_parts infoIt;have HR := Lib.hid hr;have G := fun w hr => Lib.hid (rget12_any L (by omega) id A c w hr);have D := fun w hr => Lib.hid (rdel12_any L hl id A c w hr);have HI := Lib.hid (show insL L id s = (delL L id).take (posL (delL L id) id) ++ ([(id, s)] ++ (delL L id).drop (posL (delL L id) id)) by
    unfold insL; rw [(tw_pos _ id).1, (tw_pos _ id).2]; rfl)
  have hlen := ins_len L id s;have hml := del_len L id;have hp := pos_le (delL L id) id;have hb := pos_below (delL L id) id;have ha := pos_at (delL L id) id;generalize delL L id = M at *;generalize posL M id = p at *;have HLEN := Lib.hid hlen;clear hlen;have HB := Lib.hid hb;have HA := Lib.hid ha;have h1' : ¬ (6004799503160661 : Int) ≤ (id : Int) := by omega
  have h2' : ((s.length : Int) == 0) = false := by rw [beq_eq_false_iff_ne]; have : s.length ≠ 0 := fun e => h2 (List.length_eq_zero_iff.1 e); omega
  have h3' : ¬ (65536 : Int) < (s.length : Int) := by omega
  have h4' : (getL L id).isSome = true ∨ ((getL L id).isSome = false ∧ decide ((2048 : Int) ≤ (L.length : Int)) = false) := by
    rcases h4 with h | h
    · exact .inl h
    · cases hh : (getL L id).isSome
      · exact .inr ⟨rfl, decide_eq_false (by omega)⟩
      · exact .inl rfl
  clear h1 h2 h3 h4 hr hb ha;generalize (getL L id).isSome = gb at *;generalize (getL L id).getD [] = gs at *;rcases h4' with rfl | ⟨rfl, h5⟩;all_goals
    go_enter Tryz.func21, Tryz.ntmps21;go_wp2_with fail;refine (G _ HR.out).out.mono ?_;rintro e w1 ⟨rfl, rfl⟩;go_wp2_with fail;refine (D _ HR.out).out.mono ?_;rintro e w1 ⟨v, rfl, hown, hu⟩;obtain ⟨A1, c1, rfl, hr1⟩ := Rd.of_own hown;have HR1 := Lib.hid hr1;have HU := Lib.hid hu;clear hown hr1 hu;go_wp2_with fail;go_loopg [11] p (fun gk i wr => ∃ k : Nat, k + gk = p ∧ i = .int .i64 k ∧ w1 = wr)
    case atStart => exact ⟨0, by omega, rfl, rfl⟩
    case round =>
      obtain ⟨k, hk, rfl, rfl⟩ := hrel;by_cases hlt : k < p
      · obtain ⟨m, rfl⟩ : ∃ m, gk = m + 1 := ⟨gk - 1, by omega⟩;have hkM : k < M.length := by omega
        have hbel := HB.out k hkM hlt;obtain ⟨B, o, rfl, hc1, hc2⟩ := HR1.out.item hkM;obtain ⟨⟨xid, xt⟩, hx⟩ : ∃ x, M[k]'hkM = x := ⟨_, rfl⟩;rw [hx] at hc1 hc2 hbel;simp only at hc1 hc2 hbel;have hltI : (k : Int) < (M.length : Int) := by omega
        have hbelI : (xid : Int) < (id : Int) := by omega
        clear hx;go_wp2_with fail;go_roundg m
        case measure => omega
        case rel => exact ⟨k + 1, by omega, by go_num, rfl⟩
      · obtain rfl : k = p := by omega
        obtain ⟨A2, c2, e2, r2⟩ := HR1.out.cut_h (t := 22) (k := k) Tryz.underlying22 hi hz1 hp;obtain ⟨A3, c3, e3, r3⟩ := HR1.out.cut_l (t := 22) (k := k) Tryz.underlying22 hi hz1 hp;rw [← itV_take] at r2;rw [← itV_drop] at r3;have R2 := Lib.hid r2;have R3 := Lib.hid r3;clear r2 r3 hlt;by_cases hkM : k < M.length
        case' pos =>
          have hab := HA.out hkM;obtain ⟨B, o, rfl, hc1, hc2⟩ := HR1.out.item hkM;obtain ⟨⟨xid, xt⟩, hx⟩ : ∃ x, M[k]'hkM = x := ⟨_, rfl⟩;rw [hx] at hc1 hc2 hab;simp only at hc1 hc2 hab;have hltI : (k : Int) < (M.length : Int) := by omega
          have habI : ¬ (xid : Int) < (id : Int) := by omega
          clear hx hab
        case' neg =>
          have hltI : ¬ (k : Int) < (M.length : Int) := by omega
        all_goals
          go_wp2_with (first
            | (at_builtin; (refine wpList_append_rd w1 rfl _ _ 22 rfl w1.heap.size 56 i0 _ 2 24 Tryz.underlying22 hi hz0 hz1 hz2 rfl (by decide) (.slice none 0 0) 0 [] rfl (World.ownsRow_nil _ _ _ _) A2 k c2 _ rfl R2.out (itV_one _) (by omega) (by omega) (Nat.le_refl _) ?_); intro v2 w2 ho2 hb2; have HU2 := Lib.hid (Up.of hb2); have HO2 := Lib.hid ho2; clear ho2 hb2)
            | (at_builtin; refine app_one w2 rfl _ _ 22 rfl w1.heap.size 56 i0 _ 2 24 Tryz.underlying22 hi hz0 hz1 hz2 rfl (by decide) v2 _ _ HO2.out rfl #[.int .u64 id, .string ⟨s.toArray⟩] rfl rfl (by simp [Value.oneCell']) (by omega) (by omega) HU2.out.le ?_; intro v3 w3 ho3 hg3 hb3; have HU3 := Lib.hid (Up.of (Below.trans HU2.out.below hb3)); have HO3 := Lib.hid ho3; clear ho3 hg3 hb3)
            | (at_builtin; refine wpList_append_rd w3 rfl _ _ 22 rfl w1.heap.size 56 i0 _ 2 24 Tryz.underlying22 hi hz0 hz1 hz2 rfl (by decide) v3 _ _ rfl HO3.out A3 (M.length - k) c3 _ rfl (R3.out.up HU3.out) (itV_one _) (by omega) (by omega) HU3.out.le ?_; intro v4 w4 ho4 hb4; have HU4 := Lib.hid (Up.of (Below.trans HU3.out.below hb4)); have HO4 := Lib.hid ho4; clear ho4 hb4))
          have HF := own_fin (M := M) (k := k) hp HLEN.out HI.out HO4.out;clear HO4;obtain ⟨A4, c4, rfl, r4⟩ := Rd.of_own HF;go_ret2
          exact ⟨A4, c4, rfl, r4, HU.out.trans HU4.out⟩
theorem put_bad {L : Items} {id : Nat} {s : Bs} {E : Int} (h : putE L id s = E) (hE : E ≠ 0) : putL L id s = L := by
  unfold putL; rw [h, if_neg hE]
set_option maxHeartbeats 1000000 in
theorem rput12_any (L : Items) (hl : L.length ≤ 100000) (id : Nat) (s : Bs) (A : Option Addr) (c : Nat) (w : World) (hr : Rd w 2 A L.length c (itV L)) :
    Calls Tryz.prog 21 #[.slice A L.length c, .int .u64 id, .string ⟨s.toArray⟩] w (PutEnd w (putL L id s) (putE L id s)) := by
  by_cases h1 : 6004799503160661 ≤ id
  · have hE : putE L id s = 8 := by unfold putE wrongE; rw [if_pos h1]
    rw [put_bad hE (by decide), hE];have HR := Lib.hid hr;have h1' : (6004799503160661 : Int) ≤ (id : Int) := by omega
    clear hr hE;go_enter Tryz.func21, Tryz.ntmps21;go_wp2_with fail;go_ret2
    exact ⟨_, _, rfl, HR.out, Up.refl w⟩
  have h1' : ¬ (6004799503160661 : Int) ≤ (id : Int) := by omega
  by_cases h2 : s = []
  · have hE : putE L id s = 2 := by unfold putE wrongE; rw [if_neg h1, if_pos h2]
    rw [put_bad hE (by decide), hE];have HR := Lib.hid hr;clear hr hE;subst h2;go_enter Tryz.func21, Tryz.ntmps21;go_wp2_with fail;go_ret2
    exact ⟨_, _, rfl, HR.out, Up.refl w⟩
  have h2' : ((s.length : Int) == 0) = false := by rw [beq_eq_false_iff_ne]; have : s.length ≠ 0 := fun e => h2 (List.length_eq_zero_iff.1 e); omega
  by_cases h3 : 65536 < s.length
  · have hE : putE L id s = 5 := by unfold putE wrongE; rw [if_neg h1, if_neg h2, if_pos h3]
    rw [put_bad hE (by decide), hE];have HR := Lib.hid hr;have h3' : (65536 : Int) < (s.length : Int) := by omega
    clear hr hE;go_enter Tryz.func21, Tryz.ntmps21;go_wp2_with fail;go_ret2
    exact ⟨_, _, rfl, HR.out, Up.refl w⟩
  by_cases h4 : (getL L id).isSome = true ∨ ¬ 2048 ≤ L.length
  · have hE : putE L id s = 0 := by
      unfold putE wrongE; rw [if_neg h1, if_neg h2, if_neg h3, if_neg];rcases h4 with h | h
      · simp [h]
      · simp; intro _; omega
    have hP : putL L id s = insL L id s := by unfold putL; rw [if_pos hE]
    rw [hP, hE];exact rput12_ok L hl id s A c w hr h1 h2 h3 h4
  · obtain ⟨h5, h6⟩ : (getL L id).isSome = false ∧ 2048 ≤ L.length := by
      cases hh : (getL L id).isSome
      · exact ⟨rfl, Nat.le_of_not_lt fun h => h4 (.inr (by omega))⟩
      · exact absurd (.inl hh) h4
    have hE : putE L id s = 7 := by unfold putE wrongE; rw [if_neg h1, if_neg h2, if_neg h3, if_pos]; simp [h5, h6]
    rw [put_bad hE (by decide), hE];have G := fun w hr => Lib.hid (rget12_any L (by omega) id A c w hr);rw [h5] at G;have HR := Lib.hid hr;have h3' : ¬ (65536 : Int) < (s.length : Int) := by omega
    have h7 : decide ((2048 : Int) ≤ (L.length : Int)) = true := decide_eq_true (by omega);clear hr hE h4 h5;generalize (getL L id).getD [] = gs at *;go_enter Tryz.func21, Tryz.ntmps21;go_wp2_with fail;refine (G _ HR.out).out.mono ?_;rintro e w1 ⟨rfl, rfl⟩;go_wp2_with fail;go_ret2
    exact ⟨_, _, rfl, HR.out, Up.refl w⟩
end Go.Proofs.YtcfmidmokciofaaGreatDoor
/- Walks: chart.Get, chart.Put. -/
namespace Go.Proofs.YtcfmidmokciofaaGreatDoor
open Go.RowKit Go.Gz

set_option maxRecDepth 100000
set_option maxHeartbeats 1000000 in
theorem cget12_any (L : Items) (hl : L.length ≤ 1000000) (id : Nat) (A : Option Addr) (c : Nat) (hs : Srt L) (w : World) (hr : Rd w 2 A L.length c (itV L)) :
    Calls Tryz.prog 63 #[.agg #[.slice A L.length c], .int .u64 id] w fun e w' => e = .returned (.tuple #[.string ⟨((getL L id).getD []).toArray⟩, .bool (getL L id).isSome]) ∧ Up w w' := by
  have PL := fun w hr => Lib.hid (place12_any L hl id A c hs w hr);have HR := Lib.hid hr;have hm := mem_get L id;have hg := get_pos id L hs;clear hr hs;by_cases hh : memL L id = true
  · obtain ⟨hp, hx⟩ := hg hh;rw [hh] at PL hm;have HS := Lib.hid hm.symm;generalize posL L id = p at *;have HX := Lib.hid hx;have hpI : (p : Int) < (L.length : Int) := by omega
    have n0 := new1 w 29 (.slice A L.length c);have HU := Lib.hid n0.1;have hc0 := n0.2.1;clear n0 hg hh hm hx;go_enter Tryz.func63, Tryz.ntmps63;go_wp2_with fail;refine (PL _ (HR.out.up HU.out)).out.mono ?_;rintro e w1 ⟨rfl, hu1⟩;replace hc0 := hu1.cell hc0;obtain ⟨B, o, rfl, hc1, hc2⟩ := (HR.out.up (HU.out.trans hu1)).item hp;rw [HX.out] at hc1 hc2;simp only at hc1 hc2;have HU1 := Lib.hid (HU.out.trans hu1);clear hu1;go_wp2_with fail;go_ret2
    exact ⟨ret_two rfl (bool_eq HS.out.symm), HU1.out⟩
  · have hh : memL L id = false := by simpa using hh
    rw [hh] at PL hm;have HS := Lib.hid hm.symm;have HG := Lib.hid (show getL L id = none by cases h : getL L id with | none => rfl | some x => rw [h] at hm; cases hm);generalize posL L id = p at *;have n0 := new1 w 29 (.slice A L.length c);have HU := Lib.hid n0.1;have hc0 := n0.2.1;clear n0 hg hh hm;go_enter Tryz.func63, Tryz.ntmps63;go_wp2_with fail;refine (PL _ (HR.out.up HU.out)).out.mono ?_;rintro e w1 ⟨rfl, hu1⟩;have HU1 := Lib.hid (HU.out.trans hu1);clear hu1;go_wp2_with fail;go_ret2
    exact ⟨ret_two (str_eq (by rw [HG.out]; rfl)) (bool_eq HS.out.symm), HU1.out⟩
theorem own_set {w : World} {base k n size : Nat} {e : TypeId} {v : Value} {xs : List Value} (h : w.ownsRow base e size v n xs) (hk : k < base) (x : Value) : (w.setCell ⟨k, 0, none⟩ x).ownsRow base e size v n xs := by
  refine h.kept (row := some k) ⟨rfl, rfl, rfl, by simp, fun j hj hne => Below.heap_setCell w ⟨k, 0, none⟩ x j (fun e => hne (by rw [e]))⟩ ?_;cases hv : v.ownBlock with
  | none => exact .inl rfl
  | some g => have := (h.lt g hv).1; right; intro e; injection e with e; omega
theorem cput_fin {w : World} {base p q n : Nat} {e : TypeId} {v : Value} {L N : Items} {x : Gz.Item} (hp : p ≤ L.length) (hN : N = L.take p ++ x :: L.drop q) (hn : n = p + 1 + (L.length - q))
    (h : w.ownsRow base e 2 v n (itV (L.take p) ++ [Value.int .u64 (x.1 : Int), .string ⟨x.2.toArray⟩] ++ itV (L.drop q))) : w.ownsRow base e 2 v N.length (itV N) := by
  have e1 : n = N.length := by rw [hN, hn, List.length_append, List.length_cons, List.length_take, List.length_drop]; omega
  have e2 : itV (L.take p) ++ [Value.int .u64 (x.1 : Int), .string ⟨x.2.toArray⟩] ++ itV (L.drop q) = itV N := by
    rw [hN, itV_app, itV_cons]; simp
  rw [e1, e2] at h;exact h
theorem infoCI : (Tryz.prog.info? 59).map (fun i => (i.zero, i.size, i.bytes)) = some (some (.agg #[.int .u64 0, .string ⟨#[]⟩]), 2, 24) := by kernel_rfl
def CPutEnd (w : World) (M : Items) (E : Int) (e : Ending) (w' : World) : Prop := ∃ A c, e = .returned (.tuple #[.agg #[.slice A M.length c], .int .i64 E]) ∧ Rd w' 2 A M.length c (itV M) ∧ Up w w'
set_option maxHeartbeats 4000000 in
theorem cput12_ok (L : Items) (hl : L.length ≤ 100000) (id : Nat) (s : Bs) (A : Option Addr) (c : Nat) (hs : Srt L) (w : World) (hr : Rd w 2 A L.length c (itV L)) (full : Bool) (hw : wrongE id s full = 0)
    (hm : (memL L id = true ∧ full = false) ∨ (memL L id = false ∧ decide ((2048 : Int) ≤ (L.length : Int)) = full)) :
    Calls Tryz.prog 20 #[.agg #[.slice A L.length c], .int .u64 id, .string ⟨s.toArray⟩] w (CPutEnd w (insL L id s) 0) := by
  obtain ⟨i0, hi, hz0, hz1, hz2⟩ := info_parts infoCI;have PL := fun w hr => Lib.hid (place12_any L (by omega) id A c hs w hr);have WR := fun w => Lib.hid (wrong12_any id s full w);rw [hw] at WR;have HR := Lib.hid hr;have HS := Lib.hid hs;have HI := Lib.hid (ins_eq id s L hs);have hp := pos_le L id;have n0 := new1 w 29 (.slice A L.length c);have n1 := new1 (w.alloc (.cells #[.slice A L.length c] 29)) 29 (.slice none 0 0);have hsz : (w.alloc (.cells #[.slice A L.length c] 29)).heap.size = w.heap.size + 1 := by simp
  rw [hsz] at n1;have HU := Lib.hid (n0.1.trans n1.1);have hc0 := n1.1.cell n0.2.1;have hb1 := n1.2.2;have hpc : (posL L id : Int) ≤ (c : Int) := by have := hr.2.1; omega
  clear hsz hr hs hw n0 n1;rcases hm with ⟨hm, rfl⟩ | ⟨hm, hf⟩
  · obtain ⟨hp1, _⟩ := get_pos id L HS.out hm;rw [hm] at PL HI;clear hm;obtain ⟨A3, c3, e3, r3⟩ := HR.out.cut_l (t := 27) (k := posL L id + 1) Tryz.underlying27 hi hz1 hp1;rw [← itV_drop] at r3;rw [show ((posL L id + 1 : Nat) : Int) = (posL L id : Int) + 1 from by omega] at e3;have R3 := Lib.hid r3;have r2 := HR.out.front (k := posL L id) (m := posL L id) hp (Nat.le_refl _) (by omega);rw [← itV_take] at r2;have R2 := Lib.hid r2;clear r3 r2;generalize posL L id = p at *;go_enter Tryz.func20, Tryz.ntmps20;go_wp2_with fail;refine (PL _ (HR.out.up HU.out)).out.mono ?_;rintro e w1 ⟨rfl, hu1⟩;replace hc0 := hu1.cell hc0;replace hb1 := hu1.obj hb1;have hlt1 := (Array.getElem?_eq_some_iff.1 hb1).1;have HU1 := Lib.hid (HU.out.trans hu1);clear hu1;go_wp2_with fail;refine (WR _).out.mono ?_;rintro e w2 ⟨rfl, rfl⟩;go_wp2_with fail;have hca := ((Up.refl w1).alloc (.cells #[.int .u64 id, .string ⟨s.toArray⟩] 59)).cell hc0
    go_region_law (first
      | (refine step_append_full _ rfl _ _ 27 (by rfl) 59 i0 _ 2 24 Tryz.underlying27 hi hz0 hz1 hz2 rfl (by decide) A p (itV (L.take p)) (by rfl) (R2.out.up (HU1.out.trans ((Up.refl w1).alloc _).drew))
            ⟨w1.heap.size, 0, none⟩ 1 1 [.int .u64 id, .string ⟨s.toArray⟩] (by rfl) (by rfl) (World.news_of_block (cs := #[.int .u64 id, .string ⟨s.toArray⟩]) (t := 59) (fr := (0, 0)) (heap_alloc_new w1 _)) (by simp [Value.oneCell']) (by decide) (by omega) (by omega) ?_
         intro v3 w3 ho3 hu3;have hu3' : Up w1 w3 := ((Up.refl w1).alloc _).drew.trans hu3;have HU3 := Lib.hid hu3';have HV3 := Lib.hid hu3;have HO3 := Lib.hid ho3;have hc3 := hu3'.cell hc0;have hb3 := hu3'.obj hb1;clear ho3 hu3 hu3')
      | (refine step_append_rd _ rfl _ _ 27 (by rfl) _ 59 i0 _ 2 24 Tryz.underlying27 hi hz0 hz1 hz2 rfl (by decide) v3 _ _ (by rfl) HO3.out A3 _ c3 _ (by rfl) (R3.out.up (HU1.out.trans HU3.out)) (itV_one _) (by omega) (by omega) HV3.out.le ?_
         intro v4 w4 ho4 hb4;have hb4' := (hb4.block (w.heap.size + 1) (by simp; omega)).trans hb3;obtain ⟨hx4, hf4⟩ := blk_one hb4';obtain ⟨A4, c4, rfl, r4⟩ := Rd.of_own ho4;have HO4 := Lib.hid ho4;have HX4 := Lib.hid hb4';have HU4 := Lib.hid (Up.of (Below.trans (HU1.out.trans HU3.out).below (Below.mono hb4 (by have := HU1.out.le; simp; omega))));clear ho4 hb4 r4 hb4'))
    all_goals go_wp2_with fail
    all_goals
      have hb5 := heap_setCell_same w4 (w.heap.size + 1) 0 #[.slice none 0 0] 29 (.slice A4 (p + 1 + (L.length - (p + 1))) c4) HX4.out;have d0 := (blk_one hb5).1;have hf := cput_fin (N := insL L id s) hp HI.out rfl (own_set HO4.out (k := w.heap.size + 1) (by simp; omega) (.slice A4 (p + 1 + (L.length - (p + 1))) c4));obtain ⟨A5, c5, e5, r5⟩ := Rd.of_own hf;injection e5 with e5 e6 e7;refine bodyPost_ret (v := .tuple #[.agg #[.slice A4 (p + 1 + (L.length - (p + 1))) c4], .int .i64 0]) (by simp [results, Tryz.results20, go_sem, d0]) rfl ⟨A5, c5, ?_, r5, HU4.out.set (by simp) _⟩;rw [e5, e6, e7]
  · rw [hm] at PL HI;rw [show posL L id + false.toNat = posL L id from rfl] at HI;clear hm;obtain ⟨A3, c3, e3, r3⟩ := HR.out.cut_l (t := 27) (k := posL L id) Tryz.underlying27 hi hz1 hp;rw [← itV_drop] at r3;have R3 := Lib.hid r3;have r2 := HR.out.front (k := posL L id) (m := posL L id) hp (Nat.le_refl _) (by omega);rw [← itV_take] at r2;have R2 := Lib.hid r2;clear r3 r2;generalize posL L id = p at *;go_enter Tryz.func20, Tryz.ntmps20;go_wp2_with fail;refine (PL _ (HR.out.up HU.out)).out.mono ?_;rintro e w1 ⟨rfl, hu1⟩;replace hc0 := hu1.cell hc0;replace hb1 := hu1.obj hb1;have hlt1 := (Array.getElem?_eq_some_iff.1 hb1).1;have HU1 := Lib.hid (HU.out.trans hu1);clear hu1;go_wp2_with fail;refine (WR _).out.mono ?_;rintro e w2 ⟨rfl, rfl⟩;go_wp2_with fail;have hca := ((Up.refl w1).alloc (.cells #[.int .u64 id, .string ⟨s.toArray⟩] 59)).cell hc0
    go_region_law (first
      | (refine step_append_full _ rfl _ _ 27 (by rfl) 59 i0 _ 2 24 Tryz.underlying27 hi hz0 hz1 hz2 rfl (by decide) A p (itV (L.take p)) (by rfl) (R2.out.up (HU1.out.trans ((Up.refl w1).alloc _).drew))
            ⟨w1.heap.size, 0, none⟩ 1 1 [.int .u64 id, .string ⟨s.toArray⟩] (by rfl) (by rfl) (World.news_of_block (cs := #[.int .u64 id, .string ⟨s.toArray⟩]) (t := 59) (fr := (0, 0)) (heap_alloc_new w1 _)) (by simp [Value.oneCell']) (by decide) (by omega) (by omega) ?_
         intro v3 w3 ho3 hu3;have hu3' : Up w1 w3 := ((Up.refl w1).alloc _).drew.trans hu3;have HU3 := Lib.hid hu3';have HV3 := Lib.hid hu3;have HO3 := Lib.hid ho3;have hc3 := hu3'.cell hc0;have hb3 := hu3'.obj hb1;clear ho3 hu3 hu3')
      | (refine step_append_rd _ rfl _ _ 27 (by rfl) _ 59 i0 _ 2 24 Tryz.underlying27 hi hz0 hz1 hz2 rfl (by decide) v3 _ _ (by rfl) HO3.out A3 _ c3 _ (by rfl) (R3.out.up (HU1.out.trans HU3.out)) (itV_one _) (by omega) (by omega) HV3.out.le ?_
         intro v4 w4 ho4 hb4;have hb4' := (hb4.block (w.heap.size + 1) (by simp; omega)).trans hb3;obtain ⟨hx4, hf4⟩ := blk_one hb4';obtain ⟨A4, c4, rfl, r4⟩ := Rd.of_own ho4;have HO4 := Lib.hid ho4;have HX4 := Lib.hid hb4';have HU4 := Lib.hid (Up.of (Below.trans (HU1.out.trans HU3.out).below (Below.mono hb4 (by have := HU1.out.le; simp; omega))));clear ho4 hb4 r4 hb4'))
    all_goals go_wp2_with fail
    all_goals
      have hb5 := heap_setCell_same w4 (w.heap.size + 1) 0 #[.slice none 0 0] 29 (.slice A4 (p + 1 + (L.length - p)) c4) HX4.out;have d0 := (blk_one hb5).1;have hf := cput_fin (N := insL L id s) hp HI.out rfl (own_set HO4.out (k := w.heap.size + 1) (by simp; omega) (.slice A4 (p + 1 + (L.length - p)) c4));obtain ⟨A5, c5, e5, r5⟩ := Rd.of_own hf;injection e5 with e5 e6 e7;refine bodyPost_ret (v := .tuple #[.agg #[.slice A4 (p + 1 + (L.length - p)) c4], .int .i64 0]) (by simp [results, Tryz.results20, go_sem, d0]) rfl ⟨A5, c5, ?_, r5, HU4.out.set (by simp) _⟩;rw [e5, e6, e7]
set_option maxHeartbeats 2000000 in
theorem cput12_bad (L : Items) (hl : L.length ≤ 100000) (id : Nat) (s : Bs) (A : Option Addr) (c : Nat) (hs : Srt L) (w : World) (hr : Rd w 2 A L.length c (itV L)) (full : Bool) (E : Int) (hw : wrongE id s full = E) (hE : E ≠ 0)
    (hm : (memL L id = true ∧ full = false) ∨ (memL L id = false ∧ decide ((2048 : Int) ≤ (L.length : Int)) = full)) :
    Calls Tryz.prog 20 #[.agg #[.slice A L.length c], .int .u64 id, .string ⟨s.toArray⟩] w (CPutEnd w L E) := by
  have PL := fun w hr => Lib.hid (place12_any L (by omega) id A c hs w hr);have WR := fun w => Lib.hid (wrong12_any id s full w);rw [hw] at WR;have HR := Lib.hid hr;have hp := pos_le L id;have hbE : (E != 0) = true := by rw [bne_iff_ne]; exact hE
  have n0 := new1 w 29 (.slice A L.length c);have n1 := new1 (w.alloc (.cells #[.slice A L.length c] 29)) 29 (.slice none 0 0);have hsz : (w.alloc (.cells #[.slice A L.length c] 29)).heap.size = w.heap.size + 1 := by simp
  rw [hsz] at n1;have HU := Lib.hid (n0.1.trans n1.1);have hc0 := n1.1.cell n0.2.1;have hb1 := n1.2.2;clear hsz hr hs hw n0 n1 hE;rcases hm with ⟨hm, rfl⟩ | ⟨hm, hf⟩;all_goals
    rw [hm] at PL;clear hm;generalize posL L id = p at *;go_enter Tryz.func20, Tryz.ntmps20;go_wp2_with fail;refine (PL _ (HR.out.up HU.out)).out.mono ?_;rintro e w1 ⟨rfl, hu1⟩;replace hc0 := hu1.cell hc0;have HB1 := Lib.hid (hu1.obj hb1);obtain ⟨hx1, hf1⟩ := blk_one HB1.out;have HU1 := Lib.hid (HU.out.trans hu1);clear hu1 hb1;go_wp2_with fail;refine (WR _).out.mono ?_;rintro e w2 ⟨rfl, rfl⟩;go_wp2_with fail;have hb5 := heap_setCell_same w1 (w.heap.size + 1) 0 #[.slice none 0 0] 29 (.slice A L.length c) HB1.out;have d0 := (blk_one hb5).1;refine bodyPost_ret (v := .tuple #[.agg #[.slice A L.length c], .int .i64 E]) (by simp [results, Tryz.results20, go_sem, d0]) rfl ⟨A, c, rfl, ?_, HU1.out.set (by simp) _⟩;exact HR.out.up ((Up.refl w).trans (HU1.out.set (by simp) _))
theorem cput12_any (L : Items) (hl : L.length ≤ 100000) (id : Nat) (s : Bs) (A : Option Addr) (c : Nat) (hs : Srt L) (w : World) (hr : Rd w 2 A L.length c (itV L)) :
    Calls Tryz.prog 20 #[.agg #[.slice A L.length c], .int .u64 id, .string ⟨s.toArray⟩] w (CPutEnd w (putL L id s) (putE L id s)) := by
  have hm := mem_get L id;have key : ∃ full, putE L id s = wrongE id s full ∧ ((memL L id = true ∧ full = false) ∨ (memL L id = false ∧ decide ((2048 : Int) ≤ (L.length : Int)) = full)) := by
    unfold putE;rw [← hm];cases h : memL L id
    · refine ⟨_, rfl, .inr ⟨rfl, ?_⟩⟩;rw [Bool.eq_iff_iff]; simp; omega
    · exact ⟨_, rfl, .inl ⟨rfl, rfl⟩⟩
  obtain ⟨full, h1, h2⟩ := key;by_cases hE : putE L id s = 0
  · rw [hE, show putL L id s = insL L id s by unfold putL; rw [if_pos hE]];exact cput12_ok L hl id s A c hs w hr full (by rw [← h1]; exact hE) h2
  · rw [show putL L id s = L by unfold putL; rw [if_neg hE]];exact cput12_bad L hl id s A c hs w hr full _ h1.symm hE h2
end Go.Proofs.YtcfmidmokciofaaGreatDoor
/- Walks: gazetteerlaw12.Over, Own. -/
namespace Go.Gz
def sumL (L : Items) : Nat := (L.map fun x => x.2.length).sum
def ownL (l : Items) : Items := l.foldl (fun M x => putL M x.1 x.2) []
theorem own_succ {l : Items} {k : Nat} (hk : k < l.length) : ownL (l.take (k + 1)) = putL (ownL (l.take k)) l[k].1 l[k].2 := by
  unfold ownL; rw [List.take_succ_eq_append_getElem hk, List.foldl_append]; rfl
theorem own_snoc (l : Items) (x : Item) : ownL (l ++ [x]) = putL (ownL l) x.1 x.2 := by unfold ownL; rw [List.foldl_append]; rfl
theorem own_srt (l : Items) : Srt (ownL l) := by
  induction l using snoc_ind with
  | h0 => intro i j hi; simp [ownL] at hi
  | h1 l a ih => rw [own_snoc]; exact srt_put ih
theorem own_len (l : Items) : (ownL l).length ≤ l.length := by
  induction l using snoc_ind with
  | h0 => simp [ownL]
  | h1 l a ih => rw [own_snoc]; have := put_len (ownL l) a.1 a.2; simp; omega
theorem sum_succ {L : Items} {k : Nat} (hk : k < L.length) : sumL (L.take (k + 1)) = sumL (L.take k) + L[k].2.length := by
  unfold sumL; rw [List.take_succ_eq_append_getElem hk, List.map_append, List.sum_append]; simp only [List.map_cons, List.map_nil, List.sum_cons, List.sum_nil]; omega
end Go.Gz
namespace Go.Proofs.YtcfmidmokciofaaGreatDoor
open Go.RowKit Go.Gz

set_option maxRecDepth 100000
def OverEnd (P : Prop) (w : World) (e : Ending) (w' : World) : Prop := ∃ b, e = .returned (.bool b) ∧ (b = false → P) ∧ w = w'
set_option maxHeartbeats 1000000 in
theorem over12_any (L : Items) (most bytes : Nat) (h2 : bytes ≤ 1000000) (hx : ∀ x ∈ L, x.2.length ≤ 9223372036854775807) (A : Option Addr) (c : Nat) (w : World) (hr : Rd w 2 A L.length c (itV L)) :
    Calls Tryz.prog 6 #[.slice A L.length c, .int .i64 most, .int .i64 bytes] w (OverEnd (L.length ≤ most ∧ sumL L ≤ bytes) w) := by
  have HR := Lib.hid hr;have hl : L.length ≤ 9223372036854775807 := by have := hr.2.1; have := hr.2.2.1; unfold maxLen at this; omega
  clear hr;have HX := Lib.hid hx;clear hx;go_enter Tryz.func6, Tryz.ntmps6;go_wp2_with fail;go_loopg [2, 7] L.length (fun gk v i wr => ∃ k m : Nat, k + gk = L.length ∧ i = .int .i64 k ∧ v = .int .i64 m ∧ m + sumL (L.take k) = bytes ∧ w = wr)
  case atStart => exact ⟨0, bytes, by omega, rfl, rfl, by simp [sumL], rfl⟩
  case round =>
    obtain ⟨k, m, hk, rfl, rfl, hsum, rfl⟩ := hrel;by_cases hlt : k < L.length
    · obtain ⟨g, rfl⟩ : ∃ g, gk = g + 1 := ⟨gk - 1, by omega⟩;have hss := sum_succ hlt;obtain ⟨B, o, rfl, hc1, hc2⟩ := HR.out.item hlt;have hxl := HX.out _ (List.getElem_mem hlt);obtain ⟨⟨xid, xt⟩, hx⟩ : ∃ x, L[k]'hlt = x := ⟨_, rfl⟩;rw [hx] at hc1 hc2 hss hxl;simp only at hc1 hc2 hss hxl;have HSS := Lib.hid hss;have HSUM := Lib.hid hsum;have hltI : (k : Int) < (L.length : Int) := by omega
      have hm : m ≤ 1000000 := by omega
      clear hx hss hsum;by_cases hneg : m < xt.length
      · have hd : (m : Int) - (xt.length : Int) < 0 := by omega
        have e1 : IntKind.i64.wrap ((m : Int) - (xt.length : Int)) = (m : Int) - (xt.length : Int) := IntWalk.i64_in _ (by omega);go_wp2_with fail;go_ret;exact ⟨true, rfl, fun h => Bool.noConfusion h, rfl⟩
      · have hd : ¬ (m : Int) - (xt.length : Int) < 0 := by omega
        go_wp2_with fail;go_roundg g
        case measure => omega
        case rel => exact ⟨k + 1, m - xt.length, by omega, by go_num, by go_num, by rw [HSS.out]; have := HSUM.out; omega, rfl⟩
    · obtain rfl : k = L.length := by omega
      rw [List.take_length] at hsum;have HSUM := Lib.hid hsum;clear hsum hlt;by_cases hmost : most < L.length
      · have hmI : (most : Int) < (L.length : Int) := by omega
        go_wp2_with fail;go_ret;exact ⟨true, rfl, fun h => Bool.noConfusion h, rfl⟩
      · have hmI : ¬ (most : Int) < (L.length : Int) := by omega
        go_wp2_with fail;go_ret;exact ⟨false, rfl, fun _ => ⟨by omega, by have := HSUM.out; omega⟩, rfl⟩
theorem Rd.far {w : World} {n c g : Nat} {A : Option Addr} {L : Items} {A' : Option Addr} {n' c' : Nat} {T : TypeId} (h : Rd w 2 A n c (itV L)) (hg : w.heap[g]? = some (.cells #[.slice A' n' c'] T (0, 0))) (x : Value) : Rd (w.setCell ⟨g, 0, none⟩ x) 2 A n c (itV L) := by
  refine ⟨h.1, h.2.1, h.2.2.1, h.2.2.2.1, fun hn => ?_⟩;obtain ⟨b, o, e, hc⟩ := h.2.2.2.2 hn;refine ⟨b, o, e, fun j u hj => ?_⟩;have hbg : b ≠ g := by
    rintro rfl;have hl := h.1;rw [itV_len] at hl;obtain ⟨g1, _⟩ := itV_get L 0 (by omega);have hc0 := hc 0 _ (by simpa using g1);rw [cell_of_row w b (o + 0) _ T (0, 0) hg] at hc0;cases o with
    | zero => cases hc0
    | succ o => simp at hc0
  have := hc j u hj;rw [← this];exact World.cell?_of_block (Below.heap_setCell w ⟨g, 0, none⟩ x b hbg)
/-- one slice in a block of its own -/
def One (w : World) (g : Nat) (T : TypeId) (v : Value) : Prop := w.heap[g]? = some (.cells #[v] T (0, 0))
def OwnEnd (w : World) (M : Items) (e : Ending) (w' : World) : Prop := ∃ A c A' c', e = .returned (.tuple #[.agg #[.slice A M.length c], .slice A' M.length c']) ∧ Rd w' 2 A M.length c (itV M) ∧ Rd w' 2 A' M.length c' (itV M) ∧ Up w w'
def OwRel (w : World) (l : Items) (gk : Nat) (d i : Value) (wr : World) : Prop := ∃ (k : Nat) (A1 : Option Addr) (c1 : Nat) (A2 : Option Addr) (c2 : Nat), k + gk = l.length ∧ i = .int .i64 k ∧ d = .slice A2 (ownL (l.take k)).length c2 ∧
  wr.heap[w.heap.size]? = some (.cells #[.slice none 0 0] 29 (0, 0)) ∧ wr.heap[w.heap.size + 1]? = some (.cells #[.slice A1 (ownL (l.take k)).length c1] 29 (0, 0)) ∧
  Rd wr 2 A1 (ownL (l.take k)).length c1 (itV (ownL (l.take k))) ∧ Rd wr 2 A2 (ownL (l.take k)).length c2 (itV (ownL (l.take k))) ∧ Up w wr
set_option maxHeartbeats 4000000 in
theorem own12_any (l : Items) (hl : l.length ≤ 1000) (A : Option Addr) (c : Nat) (w : World) (hr : Rd w 2 A l.length c (itV l)) :
    Calls Tryz.prog 9 #[.slice A l.length c] w (OwnEnd w (ownL l)) := by
  have HR := Lib.hid hr;have n0 := new1 w 29 (.slice none 0 0);have n1 := new1 (w.alloc (.cells #[.slice none 0 0] 29)) 29 (.slice none 0 0);have hsz : (w.alloc (.cells #[.slice none 0 0] 29)).heap.size = w.heap.size + 1 := by simp
  rw [hsz] at n1;have HU0 := Lib.hid (n0.1.trans n1.1);have HB0 := Lib.hid (n1.1.obj n0.2.2);have HB1 := Lib.hid n1.2.2;clear hr n0 n1 hsz;go_enter Tryz.func9, Tryz.ntmps9;go_wp2_with fail;go_loopg [5, 6] l.length (fun gk d i wr => OwRel w l gk d i wr)
  case atStart => exact ⟨0, none, 0, none, 0, by omega, rfl, rfl, HB0.out, HB1.out, Rd.nil_ _ _, Rd.nil_ _ _, HU0.out⟩
  case round =>
    obtain ⟨k, A1, c1, A2, c2, hk, rfl, rfl, hb0, hb1, hr1, hr2, hu⟩ := hrel;have HB0 := Lib.hid hb0;have HB1 := Lib.hid hb1;have HR1 := Lib.hid hr1;have HR2 := Lib.hid hr2;have HU := Lib.hid hu;clear hr1 hr2 hb0 hb1;obtain ⟨hx0, hf0⟩ := blk_one HB0.out;obtain ⟨hx1, hf1⟩ := blk_one HB1.out;by_cases hlt : k < l.length
    · obtain ⟨g, rfl⟩ : ∃ g, gk = g + 1 := ⟨gk - 1, by omega⟩;have hss := own_succ hlt;have hsr := own_srt (l.take k);have hle := own_len (l.take k);rw [List.length_take] at hle;generalize ownL (l.take k) = M at *;obtain ⟨B, o, rfl, hw1, hw2⟩ := HR.out.item hlt;obtain ⟨⟨xid, xt⟩, hx⟩ : ∃ x, l[k]'hlt = x := ⟨_, rfl⟩;rw [hx] at hw1 hw2 hss;simp only at hw1 hw2 hss;have hc1 := hu.cell hw1;have hc2 := hu.cell hw2;have HW1 := Lib.hid hw1;have HW2 := Lib.hid hw2;clear hw1 hw2;have HSS := Lib.hid hss;have hltI : (k : Int) < (l.length : Int) := by omega
      have PC := fun w hr => Lib.hid (cput12_any M (by omega) xid xt A1 c1 hsr w hr);have PR := fun w hr => Lib.hid (rput12_any M (by omega) xid xt A2 c2 w hr);have hcell0 := hx0;have hcell1 := hx1;clear hx hss;generalize hN : putL M xid xt = N at *;generalize hE : putE M xid xt = E at *;have HN := Lib.hid hN;have HE := Lib.hid hE;have MK := Lib.hid (fun w' (h : Up wr w') => (⟨h, h.cell hcell1, h.cell hc1, h.cell hc2⟩ : Up wr w' ∧ w'.cell? ⟨w.heap.size + 1, 0, none⟩ = some (.slice A1 M.length c1) ∧ w'.cell? ⟨B, o + k * 2, none⟩ = some (.int .u64 xid) ∧ w'.cell? ⟨B, o + k * 2 + 1, none⟩ = some (.string ⟨xt.toArray⟩)));clear hN hE hu;by_cases hE0 : E = 0
      · have hbE : (E == 0) = true := by rw [beq_iff_eq]; exact hE0
        have HE0 := Lib.hid hE0;clear hE0;go_wp2_with fail
        go_region_held3 (fun w' => Up wr w' ∧ w'.cell? ⟨w.heap.size + 1, 0, none⟩ = some (.slice A1 M.length c1) ∧ w'.cell? ⟨B, o + k * 2, none⟩ = some (.int .u64 xid) ∧ w'.cell? ⟨B, o + k * 2 + 1, none⟩ = some (.string ⟨xt.toArray⟩))
          (first
            | assumption
            | exact MK.out _ (Up.refl _).drew
            | exact MK.out _ (Up.trans (And.left (by assumption)) (by assumption))
            | exact MK.out _ (Up.alloc (And.left (by assumption)) _)
            | exact MK.out _ (Up.alloc (Up.trans (Up.drew (Up.refl _)) (by assumption)) _)
            | exact MK.out _ (Up.drew (Up.alloc (Up.refl _) _))
            | exact MK.out _ (Up.set (And.left (by assumption)) (Nat.le_refl _) _))
          ((go_at_call 20; refine (PC _ (HR1.out.up (And.left (by assumption)))).out.mono ?_; rintro e w8 ⟨A5, c5, rfl, r5, hu8⟩; have R5 := Lib.hid r5; clear r5; first | (have HQ := Lib.hid (hu8.obj (show (World.drew (wr.alloc (.cells #[.slice none 0 0] 29))).heap[wr.heap.size]? = _ from heap_alloc_new wr _)); obtain ⟨hq1, hq2⟩ := blk_one HQ.out) | skip))
        focus
          have HU9 := Lib.hid (((Up.refl wr).drew.trans hu8).alloc (.cells #[.slice A5 N.length c5] 29));have HX9 := Lib.hid (heap_alloc_new w8 (.cells #[.slice A5 N.length c5] 29));have HR5 := Lib.hid (R5.out.up ((Up.refl w8).alloc (.cells #[.slice A5 N.length c5] 29)));generalize hq : w8.heap.size = q at *;generalize hW9 : w8.alloc (.cells #[.slice A5 N.length c5] 29) = W9 at *
        rotate_left;focus
          have HU9 := Lib.hid ((((Up.refl wr).alloc (.cells #[.slice none 0 0] 29)).drew.trans hu8).set (p := ⟨wr.heap.size, 0, none⟩) (Nat.le_refl _) (.slice A5 N.length c5));have HX9 := Lib.hid (heap_setCell_same w8 wr.heap.size 0 #[.slice none 0 0] 29 (.slice A5 N.length c5) HQ.out);have HR5 := Lib.hid (R5.out.far HQ.out (.slice A5 N.length c5));clear hq1 hq2 HQ;generalize hq : wr.heap.size = q at *;generalize hW9 : w8.setCell ⟨q, 0, none⟩ (.slice A5 N.length c5) = W9 at *
        rotate_left;all_goals
          clear hq hW9 hu8 R5;have HB9 := Lib.hid (HU9.out.obj HB1.out);have HB9' := Lib.hid (HU9.out.obj HB0.out);obtain ⟨y0, y1⟩ := blk_one HX9.out;obtain ⟨z0, z1⟩ := blk_one HB9.out;have HR29 := Lib.hid (HR2.out.up HU9.out);have HR19 := Lib.hid (HR1.out.up HU9.out);have HUW := Lib.hid (HU.out.trans HU9.out);clear hcell0 hcell1 hx0 hx1 hf0 hf1 MK HU9 hc1 hc2;go_wp2_with fail;have HB10 := Lib.hid (heap_setCell_same W9 (w.heap.size + 1) 0 _ 29 (.slice A5 N.length c5) HB9.out);have HB10' := Lib.hid ((Below.heap_setCell W9 ⟨w.heap.size + 1, 0, none⟩ (.slice A5 N.length c5) w.heap.size (by simp)).trans HB9'.out);have HR210 := Lib.hid (HR29.out.far HB9.out (.slice A5 N.length c5));have HR110 := Lib.hid (HR5.out.far HB9.out (.slice A5 N.length c5));have HU10 := Lib.hid (HUW.out.set (p := ⟨w.heap.size + 1, 0, none⟩) (by simp) (.slice A5 N.length c5));clear y0 y1 z0 z1 HB9 HB9' HR29 HR19 HR5 HX9 HUW;generalize hW10 : W9.setCell ⟨w.heap.size + 1, 0, none⟩ (.slice A5 N.length c5) = W10 at *;clear hW10;have i0 := HU10.out.cell HW1.out;have i1 := HU10.out.cell HW2.out;have MK := Lib.hid (fun w' (h : Up W10 w') => (⟨h, h.cell i0, h.cell i1⟩ : Up W10 w' ∧ w'.cell? ⟨B, o + k * 2, none⟩ = some (.int .u64 xid) ∧ w'.cell? ⟨B, o + k * 2 + 1, none⟩ = some (.string ⟨xt.toArray⟩)))
          go_region_held3 (fun w' => Up W10 w' ∧ w'.cell? ⟨B, o + k * 2, none⟩ = some (.int .u64 xid) ∧ w'.cell? ⟨B, o + k * 2 + 1, none⟩ = some (.string ⟨xt.toArray⟩))
            (first
              | assumption
              | exact MK.out _ (Up.refl _).drew
              | exact MK.out _ (Up.trans (And.left (by assumption)) (by assumption)))
            ((go_at_call 21; refine (PR _ (HR210.out.up (And.left (by assumption)))).out.mono ?_; rintro e w12 ⟨A6, c6, rfl, r6, hu12⟩; have R6 := Lib.hid r6; clear r6))
          have HU12 := Lib.hid ((Up.refl W10).drew.trans hu12);clear hu12 i0 i1 MK;go_wp2_with fail;go_roundg g
          case measure => omega
          case rel =>
            have e := HSS.out;refine ⟨k + 1, A5, c5, A6, c6, by omega, by go_num, by rw [e], HU12.out.obj HB10'.out, ?_, ?_, ?_, HU10.out.trans HU12.out⟩
            · rw [e]; exact HU12.out.obj HB10.out
            · rw [e]; exact HR110.out.up HU12.out
            · rw [e]; exact R6.out
      · have hbE : (E == 0) = false := by rw [beq_eq_false_iff_ne]; exact hE0
        have HE0 := Lib.hid hE0;clear hE0;go_wp2_with fail
        go_region_held3 (fun w' => Up wr w' ∧ w'.cell? ⟨w.heap.size + 1, 0, none⟩ = some (.slice A1 M.length c1) ∧ w'.cell? ⟨B, o + k * 2, none⟩ = some (.int .u64 xid) ∧ w'.cell? ⟨B, o + k * 2 + 1, none⟩ = some (.string ⟨xt.toArray⟩))
          (first
            | assumption
            | exact MK.out _ (Up.refl _).drew
            | exact MK.out _ (Up.trans (And.left (by assumption)) (by assumption))
            | exact MK.out _ (Up.alloc (And.left (by assumption)) _)
            | exact MK.out _ (Up.alloc (Up.trans (Up.drew (Up.refl _)) (by assumption)) _)
            | exact MK.out _ (Up.drew (Up.alloc (Up.refl _) _))
            | exact MK.out _ (Up.set (And.left (by assumption)) (Nat.le_refl _) _))
          ((go_at_call 20; refine (PC _ (HR1.out.up (And.left (by assumption)))).out.mono ?_; rintro e w8 ⟨A5, c5, rfl, r5, hu8⟩; have R5 := Lib.hid r5; clear r5; first | (have HQ := Lib.hid (hu8.obj (show (World.drew (wr.alloc (.cells #[.slice none 0 0] 29))).heap[wr.heap.size]? = _ from heap_alloc_new wr _)); obtain ⟨hq1, hq2⟩ := blk_one HQ.out) | skip))
        focus
          have HU9 := Lib.hid (((Up.refl wr).drew.trans hu8).alloc (.cells #[.slice A5 N.length c5] 29));have HX9 := Lib.hid (heap_alloc_new w8 (.cells #[.slice A5 N.length c5] 29));have HR5 := Lib.hid (R5.out.up ((Up.refl w8).alloc (.cells #[.slice A5 N.length c5] 29)));generalize hq : w8.heap.size = q at *;generalize hW9 : w8.alloc (.cells #[.slice A5 N.length c5] 29) = W9 at *
        rotate_left;focus
          have HU9 := Lib.hid ((((Up.refl wr).alloc (.cells #[.slice none 0 0] 29)).drew.trans hu8).set (p := ⟨wr.heap.size, 0, none⟩) (Nat.le_refl _) (.slice A5 N.length c5));have HX9 := Lib.hid (heap_setCell_same w8 wr.heap.size 0 #[.slice none 0 0] 29 (.slice A5 N.length c5) HQ.out);have HR5 := Lib.hid (R5.out.far HQ.out (.slice A5 N.length c5));clear hq1 hq2 HQ;generalize hq : wr.heap.size = q at *;generalize hW9 : w8.setCell ⟨q, 0, none⟩ (.slice A5 N.length c5) = W9 at *
        rotate_left;all_goals
          clear hq hW9 hu8 R5;have HB9 := Lib.hid (HU9.out.obj HB1.out);have HB9' := Lib.hid (HU9.out.obj HB0.out);obtain ⟨y0, y1⟩ := blk_one HX9.out;obtain ⟨z0, z1⟩ := blk_one HB9.out;have HR29 := Lib.hid (HR2.out.up HU9.out);have HR19 := Lib.hid (HR1.out.up HU9.out);have HUW := Lib.hid (HU.out.trans HU9.out);clear hcell0 hcell1 hx0 hx1 hf0 hf1 MK HU9 hc1 hc2;go_wp2_with fail;have HB10 := HB9;have HB10' := HB9';have HR210 := HR29;have HR110 := HR19;have HU10 := HUW;clear y0 y1 z0 z1 HB9 HB9' HR29 HR19 HR5 HX9 HUW;obtain ⟨W10, rfl⟩ : ∃ W, W = W9 := ⟨_, rfl⟩;have i0 := HU10.out.cell HW1.out;have i1 := HU10.out.cell HW2.out;have MK := Lib.hid (fun w' (h : Up W10 w') => (⟨h, h.cell i0, h.cell i1⟩ : Up W10 w' ∧ w'.cell? ⟨B, o + k * 2, none⟩ = some (.int .u64 xid) ∧ w'.cell? ⟨B, o + k * 2 + 1, none⟩ = some (.string ⟨xt.toArray⟩)))
          go_region_held3 (fun w' => Up W10 w' ∧ w'.cell? ⟨B, o + k * 2, none⟩ = some (.int .u64 xid) ∧ w'.cell? ⟨B, o + k * 2 + 1, none⟩ = some (.string ⟨xt.toArray⟩))
            (first
              | assumption
              | exact MK.out _ (Up.refl _).drew
              | exact MK.out _ (Up.trans (And.left (by assumption)) (by assumption)))
            ((go_at_call 21; refine (PR _ (HR210.out.up (And.left (by assumption)))).out.mono ?_; rintro e w12 ⟨A6, c6, rfl, r6, hu12⟩; have R6 := Lib.hid r6; clear r6))
          have HU12 := Lib.hid ((Up.refl W10).drew.trans hu12);clear hu12 i0 i1 MK;go_wp2_with fail;go_roundg g
          case measure => omega
          case rel =>
            have e := HSS.out;have e2 : N = M := by rw [← HN.out]; exact put_bad HE.out HE0.out
            rw [e2] at e;refine ⟨k + 1, A1, c1, A2, c2, by omega, by go_num, by rw [e], HU12.out.obj HB10'.out, ?_, ?_, ?_, HU10.out.trans HU12.out⟩
            · rw [e]; exact HU12.out.obj HB10.out
            · rw [e]; exact HR110.out.up HU12.out
            · rw [e]; exact HR210.out.up HU12.out
    · obtain rfl : k = l.length := by omega
      rw [List.take_length] at HB1 HR1 HR2 hx1 ⊢;have HB5 := Lib.hid (heap_setCell_same wr w.heap.size 0 _ 29 (.slice A1 (ownL l).length c1) HB0.out);have HR15 := Lib.hid (HR1.out.far HB0.out (.slice A1 (ownL l).length c1));have HR25 := Lib.hid (HR2.out.far HB0.out (.slice A1 (ownL l).length c1));clear hlt hu;go_wp2_with fail;have d0 := (blk_one HB5.out).1;refine bodyPost_ret (v := .tuple #[.agg #[.slice A1 (ownL l).length c1], .slice A2 (ownL l).length c2]) (by simp [results, Tryz.results9, go_sem, d0]) rfl ⟨A1, c1, A2, c2, rfl, HR15.out, HR25.out, HU.out.set (by simp) _⟩
end Go.Proofs.YtcfmidmokciofaaGreatDoor
/- Rows of one type are kept where a row of another one turns. -/
namespace Go.Proofs.YtcfmidmokciofaaGreatDoor
open Go.RowKit Go.Gz

theorem own_other {w w' : World} {base : Nat} {e e' : TypeId} {size n : Nat} {v : Value} {xs : List Value} {row : Option Nat} (h : w.ownsRow base e size v n xs) (hg : w.grownBy w' row) (hr : ∀ r, row = some r → ∃ cur fz, w.heap[r]? = some (.cells cur e' fz)) (hne : e' ≠ e) : w'.ownsRow base e size v n xs := by
  refine h.kept hg ?_;rcases h.2 with ⟨rfl, _⟩ | ⟨g, cap, cur, rfl, _, hh, _⟩
  · exact .inl rfl
  · cases row with
    | none => right; simp [Value.ownBlock]
    | some r =>
      right;obtain ⟨cur', fz, hr⟩ := hr r rfl;intro e2;injection e2 with e2;have e2 : g = r := e2;subst e2;rw [hh] at hr;injection hr with hr;injection hr with _ hr _;exact hne hr.symm
theorem own_row {w : World} {base : Nat} {e : TypeId} {size n : Nat} {v : Value} {xs : List Value} (h : w.ownsRow base e size v n xs) : ∀ r, v.ownBlock = some r → ∃ cur fz, w.heap[r]? = some (.cells cur e fz) := by
  intro r hr;rcases h.2 with ⟨rfl, _⟩ | ⟨g, cap, cur, rfl, _, hh, _⟩
  · cases hr
  · have hr : some g = some r := hr;injection hr with hr;subst hr;exact ⟨cur, _, hh⟩
end Go.Proofs.YtcfmidmokciofaaGreatDoor
