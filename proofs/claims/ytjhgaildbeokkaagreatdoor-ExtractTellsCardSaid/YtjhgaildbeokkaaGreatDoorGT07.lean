/- Walks: the reference's Get, Del and Put of charts. -/
import Derived.Test.YtjhgaildbeokkaaGreatDoorGT04
import Derived.Deep.RegionHeld3
namespace Go.Proofs.YtjhgaildbeokkaaGreatDoor
open Go.RowKit Go.Gz

set_option maxRecDepth 100000
set_option maxHeartbeats 1000000 in
theorem rget12_any (L : Items) (hl : L.length ≤ 1000000) (id : Nat) (A : Option Addr) (c : Nat) (w : World) (hr : Rd w 2 A L.length c (itV L)) :
    Calls Tryz.prog 103 #[.slice A L.length c, .int .u64 id] w fun e w' => e = .returned (.tuple #[.string ⟨((getL L id).getD []).toArray⟩, .bool (getL L id).isSome]) ∧ w = w' := by
  have HR := Lib.hid hr;clear hr;go_enter Tryz.func103, Tryz.ntmps103;go_wp2_with fail;go_loopg [6] L.length (fun gk i wr => ∃ k : Nat, k + gk = L.length ∧ i = .int .i64 k ∧ getL L id = getL (L.drop k) id ∧ w = wr)
  case atStart => exact ⟨0, by omega, rfl, by simp, rfl⟩
  case round =>
    obtain ⟨k, hk, rfl, hd, rfl⟩ := hrel;have HD := Lib.hid hd;clear hd;by_cases hlt : k < L.length
    · obtain ⟨m, rfl⟩ : ∃ m, gk = m + 1 := ⟨gk - 1, by omega⟩;obtain ⟨h1, h2⟩ := get_drop hlt HD.out;obtain ⟨B, o, rfl, hc1, hc2⟩ := HR.out.item hlt;obtain ⟨⟨xid, xt⟩, hx⟩ : ∃ x, L[k]'hlt = x := ⟨_, rfl⟩;rw [hx] at hc1 hc2 h1 h2;simp only at hc1 hc2 h1 h2;have hltI : (k : Int) < (L.length : Int) := by omega
      clear hx;by_cases he : xid = id
      · have H1 := Lib.hid (h1 he);have hb : ((xid : Int) == (id : Int)) = true := by rw [beq_iff_eq]; omega
        clear h1 h2 he;go_wp2_with fail;go_ret2
        refine ⟨?_, rfl⟩;rw [H1.out];rfl
      · have H2 := Lib.hid (h2 he);have hb : ((xid : Int) == (id : Int)) = false := by rw [beq_eq_false_iff_ne]; omega
        clear h1 h2 he;go_wp2_with fail;go_roundg m
        case measure => omega
        case rel => exact ⟨k + 1, by omega, by go_num, H2.out, rfl⟩
    · obtain rfl : k = L.length := by omega
      have e := HD.out;rw [List.drop_length] at e;have E := Lib.hid e;clear e hlt;go_wp2_with fail;go_ret2
      refine ⟨?_, rfl⟩;rw [E.out];rfl
theorem infoIt : (Tryz.prog.info? 100).map (fun i => (i.zero, i.size, i.bytes)) = some (some (.agg #[.int .u64 0, .string ⟨#[]⟩]), 2, 24) := by kernel_rfl
def OwnR (w : World) (B : Nat) (v : Value) (L : Items) : Prop := w.ownsRow B 100 2 v L.length (itV L)
theorem own_up {w w' : World} {B : Nat} {e : TypeId} {size n : Nat} {v : Value} {xs : List Value} (h : w.ownsRow B e size v n xs) (hu : Up w w') : w'.ownsRow B e size v n xs := by
  refine World.ownsRow.kept (row := none) h ⟨hu.os, hu.tape, hu.output, hu.size, fun k hk _ => hu.block hk⟩ ?_;cases v.ownBlock <;> simp
def DelEnd (w : World) (M : Items) (e : Ending) (w' : World) : Prop := ∃ v, e = .returned v ∧ OwnR w' w.heap.size v M ∧ Up w w'
set_option maxHeartbeats 1000000 in
theorem rdel12_any (L : Items) (hl : L.length ≤ 100000) (id : Nat) (A : Option Addr) (c : Nat) (w : World) (hr : Rd w 2 A L.length c (itV L)) :
    Calls Tryz.prog 104 #[.slice A L.length c, .int .u64 id] w (DelEnd w (delL L id)) := by
  obtain ⟨i0, hi, hz0, hz1, hz2⟩ := info_parts infoIt;have HR := Lib.hid hr;clear hr;go_enter Tryz.func104, Tryz.ntmps104;go_wp2_with fail;go_loopg [5, 6] L.length (fun gk v i wr => ∃ k : Nat, k + gk = L.length ∧ i = .int .i64 k ∧ OwnR wr w.heap.size v (delL (L.take k) id) ∧ Up w wr)
  case atStart => exact ⟨0, by omega, rfl, World.ownsRow_nil _ _ _ _, Up.refl w⟩
  case round =>
    obtain ⟨k, hk, rfl, ho, hu⟩ := hrel;have HO := Lib.hid ho;have HU := Lib.hid hu;clear ho;by_cases hlt : k < L.length
    · obtain ⟨m, rfl⟩ : ∃ m, gk = m + 1 := ⟨gk - 1, by omega⟩;have hd := del_take_succ (id := id) hlt;obtain ⟨B, o, rfl, hc1, hc2⟩ := (HR.out.up hu).item hlt;obtain ⟨⟨xid, xt⟩, hx⟩ : ∃ x, L[k]'hlt = x := ⟨_, rfl⟩;rw [hx] at hc1 hc2 hd;simp only at hc1 hc2 hd;have hltI : (k : Int) < (L.length : Int) := by omega
      have hml : (delL (L.take k) id).length ≤ k := by have := del_len (L.take k) id; rw [List.length_take] at this; omega
      clear hx hu;by_cases he : xid = id
      · rw [if_pos he] at hd;have HD := Lib.hid hd;have hb : ((xid : Int) != (id : Int)) = false := by rw [he]; simp
        clear hd he;go_wp2_with fail;go_roundg m
        case measure => omega
        case rel => exact ⟨k + 1, by omega, by go_num, by rw [HD.out, List.append_nil]; exact HO.out, HU.out⟩
      · rw [if_neg he] at hd;have HD := Lib.hid hd;have hb : ((xid : Int) != (id : Int)) = true := by rw [bne_iff_ne]; omega
        clear hd he;go_wp2_with (at_builtin; refine app_one wr rfl _ _ 22 rfl w.heap.size 100 i0 _ 2 24 Tryz.underlying22 hi hz0 hz1 hz2 rfl (by decide) _ _ _ HO.out rfl #[.int .u64 xid, .string ⟨xt.toArray⟩] rfl rfl (by simp [Value.oneCell']) (by omega) (by omega) (by have := HU.out.le; omega) ?_; intro v3 w3 ho3 hg3 hb3)
        go_roundg m
        case measure => omega
        case rel =>
          refine ⟨k + 1, by omega, by go_num, ?_, Up.of (Below.trans HU.out.below hb3)⟩;rw [HD.out];unfold OwnR;rw [itV_app, List.length_append];exact ho3
    · obtain rfl : k = L.length := by omega
      have hO := HO.out;rw [List.take_length] at hO;have HO2 := Lib.hid hO;clear hO hu hlt;go_wp2_with fail;go_ret;exact ⟨_, rfl, HO2.out, HU.out⟩
end Go.Proofs.YtjhgaildbeokkaaGreatDoor
/- Walk: the reference's Put of charts. -/
namespace Go.Proofs.YtjhgaildbeokkaaGreatDoor
open Go.RowKit Go.Gz

set_option maxRecDepth 100000
def PutEnd (w : World) (M : Items) (E : Int) (e : Ending) (w' : World) : Prop := ∃ A c, e = .returned (.tuple #[.slice A M.length c, .int .i64 E]) ∧ Rd w' 2 A M.length c (itV M) ∧ Up w w'
theorem own_fin {w : World} {B : Nat} {e : TypeId} {v : Value} {M N : Items} {x : Gz.Item} {k : Nat} (hp : k ≤ M.length) (hlen : N.length = M.length + 1) (hN : N = M.take k ++ ([x] ++ M.drop k))
    (h : w.ownsRow B e 2 v (0 + k + 1 + (M.length - k)) ([] ++ itV (M.take k) ++ #[Value.int .u64 (x.1 : Int), .string ⟨x.2.toArray⟩].toList ++ itV (M.drop k))) : w.ownsRow B e 2 v N.length (itV N) := by
  have e1 : 0 + k + 1 + (M.length - k) = N.length := by omega
  have e2 : [] ++ itV (M.take k) ++ #[Value.int .u64 (x.1 : Int), .string ⟨x.2.toArray⟩].toList ++ itV (M.drop k) = itV N := by
    rw [hN, itV_app, itV_app]; simp [itV]
  rw [e1, e2] at h;exact h
set_option maxHeartbeats 2000000 in
theorem rput12_ok (L : Items) (hl : L.length ≤ 100000) (id : Nat) (s : Bs) (A : Option Addr) (c : Nat) (w : World) (hr : Rd w 2 A L.length c (itV L))
    (h1 : ¬ 6004799503160661 ≤ id) (h2 : s ≠ []) (h3 : ¬ 65536 < s.length) (h4 : (getL L id).isSome = true ∨ ¬ 2048 ≤ L.length) :
    Calls Tryz.prog 48 #[.slice A L.length c, .int .u64 id, .string ⟨s.toArray⟩] w (PutEnd w (insL L id s) 0) := by
  obtain ⟨i0, hi, hz0, hz1, hz2⟩ := info_parts infoIt;have HR := Lib.hid hr;have G := fun w hr => Lib.hid (rget12_any L (by omega) id A c w hr);have D := fun w hr => Lib.hid (rdel12_any L hl id A c w hr);have HI := Lib.hid (show insL L id s = (delL L id).take (posL (delL L id) id) ++ ([(id, s)] ++ (delL L id).drop (posL (delL L id) id)) by
    unfold insL; rw [(tw_pos _ id).1, (tw_pos _ id).2]; rfl)
  have hlen := ins_len L id s;have hml := del_len L id;have hp := pos_le (delL L id) id;have hb := pos_below (delL L id) id;have ha := pos_at (delL L id) id;generalize delL L id = M at *;generalize posL M id = p at *;have HLEN := Lib.hid hlen;clear hlen;have HB := Lib.hid hb;have HA := Lib.hid ha;have h1' : ¬ (6004799503160661 : Int) ≤ (id : Int) := by omega
  have h2' : ((s.length : Int) == 0) = false := by rw [beq_eq_false_iff_ne]; have : s.length ≠ 0 := fun e => h2 (List.length_eq_zero_iff.1 e); omega
  have h3' : ¬ (65536 : Int) < (s.length : Int) := by omega
  have h4' : (getL L id).isSome = true ∨ ((getL L id).isSome = false ∧ decide ((2048 : Int) ≤ (L.length : Int)) = false) := by
    rcases h4 with h | h
    · exact .inl h
    · cases hh : (getL L id).isSome
      · exact .inr ⟨rfl, decide_eq_false (by omega)⟩
      · exact .inl rfl
  clear h1 h2 h3 h4 hr hb ha;generalize (getL L id).isSome = gb at *;generalize (getL L id).getD [] = gs at *;rcases h4' with rfl | ⟨rfl, h5⟩;all_goals
    go_enter Tryz.func48, Tryz.ntmps48;go_wp2_with fail;refine (G _ HR.out).out.mono ?_;rintro e w1 ⟨rfl, rfl⟩;go_wp2_with fail;refine (D _ HR.out).out.mono ?_;rintro e w1 ⟨v, rfl, hown, hu⟩;obtain ⟨A1, c1, rfl, hr1⟩ := Rd.of_own hown;have HR1 := Lib.hid hr1;have HU := Lib.hid hu;clear hown hr1 hu;go_wp2_with fail;go_loopg [11] p (fun gk i wr => ∃ k : Nat, k + gk = p ∧ i = .int .i64 k ∧ w1 = wr)
    case atStart => exact ⟨0, by omega, rfl, rfl⟩
    case round =>
      obtain ⟨k, hk, rfl, rfl⟩ := hrel;by_cases hlt : k < p
      · obtain ⟨m, rfl⟩ : ∃ m, gk = m + 1 := ⟨gk - 1, by omega⟩;have hkM : k < M.length := by omega
        have hbel := HB.out k hkM hlt;obtain ⟨B, o, rfl, hc1, hc2⟩ := HR1.out.item hkM;obtain ⟨⟨xid, xt⟩, hx⟩ : ∃ x, M[k]'hkM = x := ⟨_, rfl⟩;rw [hx] at hc1 hc2 hbel;simp only at hc1 hc2 hbel;have hltI : (k : Int) < (M.length : Int) := by omega
        have hbelI : (xid : Int) < (id : Int) := by omega
        clear hx;go_wp2_with fail;go_roundg m
        case measure => omega
        case rel => exact ⟨k + 1, by omega, by go_num, rfl⟩
      · obtain rfl : k = p := by omega
        obtain ⟨A2, c2, e2, r2⟩ := HR1.out.cut_h (t := 22) (k := k) Tryz.underlying22 hi hz1 hp;obtain ⟨A3, c3, e3, r3⟩ := HR1.out.cut_l (t := 22) (k := k) Tryz.underlying22 hi hz1 hp;rw [← itV_take] at r2;rw [← itV_drop] at r3;have R2 := Lib.hid r2;have R3 := Lib.hid r3;clear r2 r3 hlt;by_cases hkM : k < M.length
        case' pos =>
          have hab := HA.out hkM;obtain ⟨B, o, rfl, hc1, hc2⟩ := HR1.out.item hkM;obtain ⟨⟨xid, xt⟩, hx⟩ : ∃ x, M[k]'hkM = x := ⟨_, rfl⟩;rw [hx] at hc1 hc2 hab;simp only at hc1 hc2 hab;have hltI : (k : Int) < (M.length : Int) := by omega
          have habI : ¬ (xid : Int) < (id : Int) := by omega
          clear hx hab
        case' neg =>
          have hltI : ¬ (k : Int) < (M.length : Int) := by omega
        all_goals
          go_wp2_with (first
            | (at_builtin; (refine wpList_append_rd w1 rfl _ _ 22 rfl w1.heap.size 100 i0 _ 2 24 Tryz.underlying22 hi hz0 hz1 hz2 rfl (by decide) (.slice none 0 0) 0 [] rfl (World.ownsRow_nil _ _ _ _) A2 k c2 _ rfl R2.out (itV_one _) (by omega) (by omega) (Nat.le_refl _) ?_); intro v2 w2 ho2 hb2; have HU2 := Lib.hid (Up.of hb2); have HO2 := Lib.hid ho2; clear ho2 hb2)
            | (at_builtin; refine app_one w2 rfl _ _ 22 rfl w1.heap.size 100 i0 _ 2 24 Tryz.underlying22 hi hz0 hz1 hz2 rfl (by decide) v2 _ _ HO2.out rfl #[.int .u64 id, .string ⟨s.toArray⟩] rfl rfl (by simp [Value.oneCell']) (by omega) (by omega) HU2.out.le ?_; intro v3 w3 ho3 hg3 hb3; have HU3 := Lib.hid (Up.of (Below.trans HU2.out.below hb3)); have HO3 := Lib.hid ho3; clear ho3 hg3 hb3)
            | (at_builtin; refine wpList_append_rd w3 rfl _ _ 22 rfl w1.heap.size 100 i0 _ 2 24 Tryz.underlying22 hi hz0 hz1 hz2 rfl (by decide) v3 _ _ rfl HO3.out A3 (M.length - k) c3 _ rfl (R3.out.up HU3.out) (itV_one _) (by omega) (by omega) HU3.out.le ?_; intro v4 w4 ho4 hb4; have HU4 := Lib.hid (Up.of (Below.trans HU3.out.below hb4)); have HO4 := Lib.hid ho4; clear ho4 hb4))
          have HF := own_fin (M := M) (k := k) hp HLEN.out HI.out HO4.out;clear HO4;obtain ⟨A4, c4, rfl, r4⟩ := Rd.of_own HF;go_ret2
          exact ⟨A4, c4, rfl, r4, HU.out.trans HU4.out⟩
theorem put_bad {L : Items} {id : Nat} {s : Bs} {E : Int} (h : putE L id s = E) (hE : E ≠ 0) : putL L id s = L := by
  unfold putL; rw [h, if_neg hE]
set_option maxHeartbeats 1000000 in
theorem rput12_any (L : Items) (hl : L.length ≤ 100000) (id : Nat) (s : Bs) (A : Option Addr) (c : Nat) (w : World) (hr : Rd w 2 A L.length c (itV L)) :
    Calls Tryz.prog 48 #[.slice A L.length c, .int .u64 id, .string ⟨s.toArray⟩] w (PutEnd w (putL L id s) (putE L id s)) := by
  by_cases h1 : 6004799503160661 ≤ id
  · have hE : putE L id s = 8 := by unfold putE wrongE; rw [if_pos h1]
    rw [put_bad hE (by decide), hE];have HR := Lib.hid hr;have h1' : (6004799503160661 : Int) ≤ (id : Int) := by omega
    clear hr hE;go_enter Tryz.func48, Tryz.ntmps48;go_wp2_with fail;go_ret2
    exact ⟨_, _, rfl, HR.out, Up.refl w⟩
  have h1' : ¬ (6004799503160661 : Int) ≤ (id : Int) := by omega
  by_cases h2 : s = []
  · have hE : putE L id s = 2 := by unfold putE wrongE; rw [if_neg h1, if_pos h2]
    rw [put_bad hE (by decide), hE];have HR := Lib.hid hr;clear hr hE;subst h2;go_enter Tryz.func48, Tryz.ntmps48;go_wp2_with fail;go_ret2
    exact ⟨_, _, rfl, HR.out, Up.refl w⟩
  have h2' : ((s.length : Int) == 0) = false := by rw [beq_eq_false_iff_ne]; have : s.length ≠ 0 := fun e => h2 (List.length_eq_zero_iff.1 e); omega
  by_cases h3 : 65536 < s.length
  · have hE : putE L id s = 5 := by unfold putE wrongE; rw [if_neg h1, if_neg h2, if_pos h3]
    rw [put_bad hE (by decide), hE];have HR := Lib.hid hr;have h3' : (65536 : Int) < (s.length : Int) := by omega
    clear hr hE;go_enter Tryz.func48, Tryz.ntmps48;go_wp2_with fail;go_ret2
    exact ⟨_, _, rfl, HR.out, Up.refl w⟩
  by_cases h4 : (getL L id).isSome = true ∨ ¬ 2048 ≤ L.length
  · have hE : putE L id s = 0 := by
      unfold putE wrongE; rw [if_neg h1, if_neg h2, if_neg h3, if_neg];rcases h4 with h | h
      · simp [h]
      · simp; intro _; omega
    have hP : putL L id s = insL L id s := by unfold putL; rw [if_pos hE]
    rw [hP, hE];exact rput12_ok L hl id s A c w hr h1 h2 h3 h4
  · obtain ⟨h5, h6⟩ : (getL L id).isSome = false ∧ 2048 ≤ L.length := by
      cases hh : (getL L id).isSome
      · exact ⟨rfl, Nat.le_of_not_lt fun h => h4 (.inr (by omega))⟩
      · exact absurd (.inl hh) h4
    have hE : putE L id s = 7 := by unfold putE wrongE; rw [if_neg h1, if_neg h2, if_neg h3, if_pos]; simp [h5, h6]
    rw [put_bad hE (by decide), hE];have G := fun w hr => Lib.hid (rget12_any L (by omega) id A c w hr);rw [h5] at G;have HR := Lib.hid hr;have h3' : ¬ (65536 : Int) < (s.length : Int) := by omega
    have h7 : decide ((2048 : Int) ≤ (L.length : Int)) = true := decide_eq_true (by omega);clear hr hE h4 h5;generalize (getL L id).getD [] = gs at *;go_enter Tryz.func48, Tryz.ntmps48;go_wp2_with fail;refine (G _ HR.out).out.mono ?_;rintro e w1 ⟨rfl, rfl⟩;go_wp2_with fail;go_ret2
    exact ⟨_, _, rfl, HR.out, Up.refl w⟩
end Go.Proofs.YtjhgaildbeokkaaGreatDoor
/- Walks: chart.Get, chart.Put. -/
namespace Go.Proofs.YtjhgaildbeokkaaGreatDoor
open Go.RowKit Go.Gz

set_option maxRecDepth 100000
set_option maxHeartbeats 1000000 in
theorem cget12_any (L : Items) (hl : L.length ≤ 1000000) (id : Nat) (A : Option Addr) (c : Nat) (hs : Srt L) (w : World) (hr : Rd w 2 A L.length c (itV L)) :
    Calls Tryz.prog 76 #[.agg #[.slice A L.length c], .int .u64 id] w fun e w' => e = .returned (.tuple #[.string ⟨((getL L id).getD []).toArray⟩, .bool (getL L id).isSome]) ∧ Up w w' := by
  have PL := fun w hr => Lib.hid (place12_any L hl id A c hs w hr);have HR := Lib.hid hr;have hm := mem_get L id;have hg := get_pos id L hs;clear hr hs;by_cases hh : memL L id = true
  · obtain ⟨hp, hx⟩ := hg hh;rw [hh] at PL hm;have HS := Lib.hid hm.symm;generalize posL L id = p at *;have HX := Lib.hid hx;have hpI : (p : Int) < (L.length : Int) := by omega
    have n0 := new1 w 29 (.slice A L.length c);have HU := Lib.hid n0.1;have hc0 := n0.2.1;clear n0 hg hh hm hx;go_enter Tryz.func76, Tryz.ntmps76;go_wp2_with fail;refine (PL _ (HR.out.up HU.out)).out.mono ?_;rintro e w1 ⟨rfl, hu1⟩;replace hc0 := hu1.cell hc0;obtain ⟨B, o, rfl, hc1, hc2⟩ := (HR.out.up (HU.out.trans hu1)).item hp;rw [HX.out] at hc1 hc2;simp only at hc1 hc2;have HU1 := Lib.hid (HU.out.trans hu1);clear hu1;go_wp2_with fail;go_ret2
    exact ⟨ret_two rfl (bool_eq HS.out.symm), HU1.out⟩
  · have hh : memL L id = false := by simpa using hh
    rw [hh] at PL hm;have HS := Lib.hid hm.symm;have HG := Lib.hid (show getL L id = none by cases h : getL L id with | none => rfl | some x => rw [h] at hm; cases hm);generalize posL L id = p at *;have n0 := new1 w 29 (.slice A L.length c);have HU := Lib.hid n0.1;have hc0 := n0.2.1;clear n0 hg hh hm;go_enter Tryz.func76, Tryz.ntmps76;go_wp2_with fail;refine (PL _ (HR.out.up HU.out)).out.mono ?_;rintro e w1 ⟨rfl, hu1⟩;have HU1 := Lib.hid (HU.out.trans hu1);clear hu1;go_wp2_with fail;go_ret2
    exact ⟨ret_two (str_eq (by rw [HG.out]; rfl)) (bool_eq HS.out.symm), HU1.out⟩
theorem own_set {w : World} {base k n size : Nat} {e : TypeId} {v : Value} {xs : List Value} (h : w.ownsRow base e size v n xs) (hk : k < base) (x : Value) : (w.setCell ⟨k, 0, none⟩ x).ownsRow base e size v n xs := by
  refine h.kept (row := some k) ⟨rfl, rfl, rfl, by simp, fun j hj hne => Below.heap_setCell w ⟨k, 0, none⟩ x j (fun e => hne (by rw [e]))⟩ ?_;cases hv : v.ownBlock with
  | none => exact .inl rfl
  | some g => have := (h.lt g hv).1; right; intro e; injection e with e; omega
theorem cput_fin {w : World} {base p q n : Nat} {e : TypeId} {v : Value} {L N : Items} {x : Gz.Item} (hp : p ≤ L.length) (hN : N = L.take p ++ x :: L.drop q) (hn : n = p + 1 + (L.length - q))
    (h : w.ownsRow base e 2 v n (itV (L.take p) ++ [Value.int .u64 (x.1 : Int), .string ⟨x.2.toArray⟩] ++ itV (L.drop q))) : w.ownsRow base e 2 v N.length (itV N) := by
  have e1 : n = N.length := by rw [hN, hn, List.length_append, List.length_cons, List.length_take, List.length_drop]; omega
  have e2 : itV (L.take p) ++ [Value.int .u64 (x.1 : Int), .string ⟨x.2.toArray⟩] ++ itV (L.drop q) = itV N := by
    rw [hN, itV_app, itV_cons]; simp
  rw [e1, e2] at h;exact h
theorem infoCI : (Tryz.prog.info? 102).map (fun i => (i.zero, i.size, i.bytes)) = some (some (.agg #[.int .u64 0, .string ⟨#[]⟩]), 2, 24) := by kernel_rfl
def CPutEnd (w : World) (M : Items) (E : Int) (e : Ending) (w' : World) : Prop := ∃ A c, e = .returned (.tuple #[.agg #[.slice A M.length c], .int .i64 E]) ∧ Rd w' 2 A M.length c (itV M) ∧ Up w w'
set_option maxHeartbeats 4000000 in
theorem cput12_ok (L : Items) (hl : L.length ≤ 100000) (id : Nat) (s : Bs) (A : Option Addr) (c : Nat) (hs : Srt L) (w : World) (hr : Rd w 2 A L.length c (itV L)) (full : Bool) (hw : wrongE id s full = 0)
    (hm : (memL L id = true ∧ full = false) ∨ (memL L id = false ∧ decide ((2048 : Int) ≤ (L.length : Int)) = full)) :
    Calls Tryz.prog 47 #[.agg #[.slice A L.length c], .int .u64 id, .string ⟨s.toArray⟩] w (CPutEnd w (insL L id s) 0) := by
  obtain ⟨i0, hi, hz0, hz1, hz2⟩ := info_parts infoCI;have PL := fun w hr => Lib.hid (place12_any L (by omega) id A c hs w hr);have WR := fun w => Lib.hid (wrong12_any id s full w);rw [hw] at WR;have HR := Lib.hid hr;have HS := Lib.hid hs;have HI := Lib.hid (ins_eq id s L hs);have hp := pos_le L id;have n0 := new1 w 29 (.slice A L.length c);have n1 := new1 (w.alloc (.cells #[.slice A L.length c] 29)) 29 (.slice none 0 0);have hsz : (w.alloc (.cells #[.slice A L.length c] 29)).heap.size = w.heap.size + 1 := by simp
  rw [hsz] at n1;have HU := Lib.hid (n0.1.trans n1.1);have hc0 := n1.1.cell n0.2.1;have hb1 := n1.2.2;have hpc : (posL L id : Int) ≤ (c : Int) := by have := hr.2.1; omega
  clear hsz hr hs hw n0 n1;rcases hm with ⟨hm, rfl⟩ | ⟨hm, hf⟩
  · obtain ⟨hp1, _⟩ := get_pos id L HS.out hm;rw [hm] at PL HI;clear hm;obtain ⟨A3, c3, e3, r3⟩ := HR.out.cut_l (t := 27) (k := posL L id + 1) Tryz.underlying27 hi hz1 hp1;rw [← itV_drop] at r3;rw [show ((posL L id + 1 : Nat) : Int) = (posL L id : Int) + 1 from by omega] at e3;have R3 := Lib.hid r3;have r2 := HR.out.front (k := posL L id) (m := posL L id) hp (Nat.le_refl _) (by omega);rw [← itV_take] at r2;have R2 := Lib.hid r2;clear r3 r2;generalize posL L id = p at *;go_enter Tryz.func47, Tryz.ntmps47;go_wp2_with fail;refine (PL _ (HR.out.up HU.out)).out.mono ?_;rintro e w1 ⟨rfl, hu1⟩;replace hc0 := hu1.cell hc0;replace hb1 := hu1.obj hb1;have hlt1 := (Array.getElem?_eq_some_iff.1 hb1).1;have HU1 := Lib.hid (HU.out.trans hu1);clear hu1;go_wp2_with fail;refine (WR _).out.mono ?_;rintro e w2 ⟨rfl, rfl⟩;go_wp2_with fail;have hca := ((Up.refl w1).alloc (.cells #[.int .u64 id, .string ⟨s.toArray⟩] 102)).cell hc0
    go_region_law (first
      | (refine step_append_full _ rfl _ _ 27 (by rfl) 102 i0 _ 2 24 Tryz.underlying27 hi hz0 hz1 hz2 rfl (by decide) A p (itV (L.take p)) (by rfl) (R2.out.up (HU1.out.trans ((Up.refl w1).alloc _).drew))
            ⟨w1.heap.size, 0, none⟩ 1 1 [.int .u64 id, .string ⟨s.toArray⟩] (by rfl) (by rfl) (World.news_of_block (cs := #[.int .u64 id, .string ⟨s.toArray⟩]) (t := 102) (fr := (0, 0)) (heap_alloc_new w1 _)) (by simp [Value.oneCell']) (by decide) (by omega) (by omega) ?_
         intro v3 w3 ho3 hu3;have hu3' : Up w1 w3 := ((Up.refl w1).alloc _).drew.trans hu3;have HU3 := Lib.hid hu3';have HV3 := Lib.hid hu3;have HO3 := Lib.hid ho3;have hc3 := hu3'.cell hc0;have hb3 := hu3'.obj hb1;clear ho3 hu3 hu3')
      | (refine step_append_rd _ rfl _ _ 27 (by rfl) _ 102 i0 _ 2 24 Tryz.underlying27 hi hz0 hz1 hz2 rfl (by decide) v3 _ _ (by rfl) HO3.out A3 _ c3 _ (by rfl) (R3.out.up (HU1.out.trans HU3.out)) (itV_one _) (by omega) (by omega) HV3.out.le ?_
         intro v4 w4 ho4 hb4;have hb4' := (hb4.block (w.heap.size + 1) (by simp; omega)).trans hb3;obtain ⟨hx4, hf4⟩ := blk_one hb4';obtain ⟨A4, c4, rfl, r4⟩ := Rd.of_own ho4;have HO4 := Lib.hid ho4;have HX4 := Lib.hid hb4';have HU4 := Lib.hid (Up.of (Below.trans (HU1.out.trans HU3.out).below (Below.mono hb4 (by have := HU1.out.le; simp; omega))));clear ho4 hb4 r4 hb4'))
    all_goals go_wp2_with fail
    all_goals
      have hb5 := heap_setCell_same w4 (w.heap.size + 1) 0 #[.slice none 0 0] 29 (.slice A4 (p + 1 + (L.length - (p + 1))) c4) HX4.out;have d0 := (blk_one hb5).1;have hf := cput_fin (N := insL L id s) hp HI.out rfl (own_set HO4.out (k := w.heap.size + 1) (by simp; omega) (.slice A4 (p + 1 + (L.length - (p + 1))) c4));obtain ⟨A5, c5, e5, r5⟩ := Rd.of_own hf;injection e5 with e5 e6 e7;refine bodyPost_ret (v := .tuple #[.agg #[.slice A4 (p + 1 + (L.length - (p + 1))) c4], .int .i64 0]) (by simp [results, Tryz.results47, go_sem, d0]) rfl ⟨A5, c5, ?_, r5, HU4.out.set (by simp) _⟩;rw [e5, e6, e7]
  · rw [hm] at PL HI;rw [show posL L id + false.toNat = posL L id from rfl] at HI;clear hm;obtain ⟨A3, c3, e3, r3⟩ := HR.out.cut_l (t := 27) (k := posL L id) Tryz.underlying27 hi hz1 hp;rw [← itV_drop] at r3;have R3 := Lib.hid r3;have r2 := HR.out.front (k := posL L id) (m := posL L id) hp (Nat.le_refl _) (by omega);rw [← itV_take] at r2;have R2 := Lib.hid r2;clear r3 r2;generalize posL L id = p at *;go_enter Tryz.func47, Tryz.ntmps47;go_wp2_with fail;refine (PL _ (HR.out.up HU.out)).out.mono ?_;rintro e w1 ⟨rfl, hu1⟩;replace hc0 := hu1.cell hc0;replace hb1 := hu1.obj hb1;have hlt1 := (Array.getElem?_eq_some_iff.1 hb1).1;have HU1 := Lib.hid (HU.out.trans hu1);clear hu1;go_wp2_with fail;refine (WR _).out.mono ?_;rintro e w2 ⟨rfl, rfl⟩;go_wp2_with fail;have hca := ((Up.refl w1).alloc (.cells #[.int .u64 id, .string ⟨s.toArray⟩] 102)).cell hc0
    go_region_law (first
      | (refine step_append_full _ rfl _ _ 27 (by rfl) 102 i0 _ 2 24 Tryz.underlying27 hi hz0 hz1 hz2 rfl (by decide) A p (itV (L.take p)) (by rfl) (R2.out.up (HU1.out.trans ((Up.refl w1).alloc _).drew))
            ⟨w1.heap.size, 0, none⟩ 1 1 [.int .u64 id, .string ⟨s.toArray⟩] (by rfl) (by rfl) (World.news_of_block (cs := #[.int .u64 id, .string ⟨s.toArray⟩]) (t := 102) (fr := (0, 0)) (heap_alloc_new w1 _)) (by simp [Value.oneCell']) (by decide) (by omega) (by omega) ?_
         intro v3 w3 ho3 hu3;have hu3' : Up w1 w3 := ((Up.refl w1).alloc _).drew.trans hu3;have HU3 := Lib.hid hu3';have HV3 := Lib.hid hu3;have HO3 := Lib.hid ho3;have hc3 := hu3'.cell hc0;have hb3 := hu3'.obj hb1;clear ho3 hu3 hu3')
      | (refine step_append_rd _ rfl _ _ 27 (by rfl) _ 102 i0 _ 2 24 Tryz.underlying27 hi hz0 hz1 hz2 rfl (by decide) v3 _ _ (by rfl) HO3.out A3 _ c3 _ (by rfl) (R3.out.up (HU1.out.trans HU3.out)) (itV_one _) (by omega) (by omega) HV3.out.le ?_
         intro v4 w4 ho4 hb4;have hb4' := (hb4.block (w.heap.size + 1) (by simp; omega)).trans hb3;obtain ⟨hx4, hf4⟩ := blk_one hb4';obtain ⟨A4, c4, rfl, r4⟩ := Rd.of_own ho4;have HO4 := Lib.hid ho4;have HX4 := Lib.hid hb4';have HU4 := Lib.hid (Up.of (Below.trans (HU1.out.trans HU3.out).below (Below.mono hb4 (by have := HU1.out.le; simp; omega))));clear ho4 hb4 r4 hb4'))
    all_goals go_wp2_with fail
    all_goals
      have hb5 := heap_setCell_same w4 (w.heap.size + 1) 0 #[.slice none 0 0] 29 (.slice A4 (p + 1 + (L.length - p)) c4) HX4.out;have d0 := (blk_one hb5).1;have hf := cput_fin (N := insL L id s) hp HI.out rfl (own_set HO4.out (k := w.heap.size + 1) (by simp; omega) (.slice A4 (p + 1 + (L.length - p)) c4));obtain ⟨A5, c5, e5, r5⟩ := Rd.of_own hf;injection e5 with e5 e6 e7;refine bodyPost_ret (v := .tuple #[.agg #[.slice A4 (p + 1 + (L.length - p)) c4], .int .i64 0]) (by simp [results, Tryz.results47, go_sem, d0]) rfl ⟨A5, c5, ?_, r5, HU4.out.set (by simp) _⟩;rw [e5, e6, e7]
set_option maxHeartbeats 2000000 in
theorem cput12_bad (L : Items) (hl : L.length ≤ 100000) (id : Nat) (s : Bs) (A : Option Addr) (c : Nat) (hs : Srt L) (w : World) (hr : Rd w 2 A L.length c (itV L)) (full : Bool) (E : Int) (hw : wrongE id s full = E) (hE : E ≠ 0)
    (hm : (memL L id = true ∧ full = false) ∨ (memL L id = false ∧ decide ((2048 : Int) ≤ (L.length : Int)) = full)) :
    Calls Tryz.prog 47 #[.agg #[.slice A L.length c], .int .u64 id, .string ⟨s.toArray⟩] w (CPutEnd w L E) := by
  have PL := fun w hr => Lib.hid (place12_any L (by omega) id A c hs w hr);have WR := fun w => Lib.hid (wrong12_any id s full w);rw [hw] at WR;have HR := Lib.hid hr;have hp := pos_le L id;have hbE : (E != 0) = true := by rw [bne_iff_ne]; exact hE
  have n0 := new1 w 29 (.slice A L.length c);have n1 := new1 (w.alloc (.cells #[.slice A L.length c] 29)) 29 (.slice none 0 0);have hsz : (w.alloc (.cells #[.slice A L.length c] 29)).heap.size = w.heap.size + 1 := by simp
  rw [hsz] at n1;have HU := Lib.hid (n0.1.trans n1.1);have hc0 := n1.1.cell n0.2.1;have hb1 := n1.2.2;clear hsz hr hs hw n0 n1 hE;rcases hm with ⟨hm, rfl⟩ | ⟨hm, hf⟩;all_goals
    rw [hm] at PL;clear hm;generalize posL L id = p at *;go_enter Tryz.func47, Tryz.ntmps47;go_wp2_with fail;refine (PL _ (HR.out.up HU.out)).out.mono ?_;rintro e w1 ⟨rfl, hu1⟩;replace hc0 := hu1.cell hc0;have HB1 := Lib.hid (hu1.obj hb1);obtain ⟨hx1, hf1⟩ := blk_one HB1.out;have HU1 := Lib.hid (HU.out.trans hu1);clear hu1 hb1;go_wp2_with fail;refine (WR _).out.mono ?_;rintro e w2 ⟨rfl, rfl⟩;go_wp2_with fail;have hb5 := heap_setCell_same w1 (w.heap.size + 1) 0 #[.slice none 0 0] 29 (.slice A L.length c) HB1.out;have d0 := (blk_one hb5).1;refine bodyPost_ret (v := .tuple #[.agg #[.slice A L.length c], .int .i64 E]) (by simp [results, Tryz.results47, go_sem, d0]) rfl ⟨A, c, rfl, ?_, HU1.out.set (by simp) _⟩;exact HR.out.up ((Up.refl w).trans (HU1.out.set (by simp) _))
theorem cput12_any (L : Items) (hl : L.length ≤ 100000) (id : Nat) (s : Bs) (A : Option Addr) (c : Nat) (hs : Srt L) (w : World) (hr : Rd w 2 A L.length c (itV L)) :
    Calls Tryz.prog 47 #[.agg #[.slice A L.length c], .int .u64 id, .string ⟨s.toArray⟩] w (CPutEnd w (putL L id s) (putE L id s)) := by
  have hm := mem_get L id;have key : ∃ full, putE L id s = wrongE id s full ∧ ((memL L id = true ∧ full = false) ∨ (memL L id = false ∧ decide ((2048 : Int) ≤ (L.length : Int)) = full)) := by
    unfold putE;rw [← hm];cases h : memL L id
    · refine ⟨_, rfl, .inr ⟨rfl, ?_⟩⟩;rw [Bool.eq_iff_iff]; simp; omega
    · exact ⟨_, rfl, .inl ⟨rfl, rfl⟩⟩
  obtain ⟨full, h1, h2⟩ := key;by_cases hE : putE L id s = 0
  · rw [hE, show putL L id s = insL L id s by unfold putL; rw [if_pos hE]];exact cput12_ok L hl id s A c hs w hr full (by rw [← h1]; exact hE) h2
  · rw [show putL L id s = L by unfold putL; rw [if_neg hE]];exact cput12_bad L hl id s A c hs w hr full _ h1.symm hE h2
end Go.Proofs.YtjhgaildbeokkaaGreatDoor
/- Rows of one type are kept where a row of another one turns. -/
namespace Go.Proofs.YtjhgaildbeokkaaGreatDoor
open Go.RowKit Go.Gz

theorem own_other {w w' : World} {base : Nat} {e e' : TypeId} {size n : Nat} {v : Value} {xs : List Value} {row : Option Nat} (h : w.ownsRow base e size v n xs) (hg : w.grownBy w' row) (hr : ∀ r, row = some r → ∃ cur fz, w.heap[r]? = some (.cells cur e' fz)) (hne : e' ≠ e) : w'.ownsRow base e size v n xs := by
  refine h.kept hg ?_;rcases h.2 with ⟨rfl, _⟩ | ⟨g, cap, cur, rfl, _, hh, _⟩
  · exact .inl rfl
  · cases row with
    | none => right; simp [Value.ownBlock]
    | some r =>
      right;obtain ⟨cur', fz, hr⟩ := hr r rfl;intro e2;injection e2 with e2;have e2 : g = r := e2;subst e2;rw [hh] at hr;injection hr with hr;injection hr with _ hr _;exact hne hr.symm
theorem own_row {w : World} {base : Nat} {e : TypeId} {size n : Nat} {v : Value} {xs : List Value} (h : w.ownsRow base e size v n xs) : ∀ r, v.ownBlock = some r → ∃ cur fz, w.heap[r]? = some (.cells cur e fz) := by
  intro r hr;rcases h.2 with ⟨rfl, _⟩ | ⟨g, cap, cur, rfl, _, hh, _⟩
  · cases hr
  · have hr : some g = some r := hr;injection hr with hr;subst hr;exact ⟨cur, _, hh⟩
end Go.Proofs.YtjhgaildbeokkaaGreatDoor
