/- Walks: the reference's Get, Del and Put of charts. -/
import Derived.Test.YteeenbhmdacdiaaDoorPchart
namespace Go.Proofs.YteeenbhmdacdiaaDoor
open Go.RowKit Go.Gz

set_option maxRecDepth 100000
set_option maxHeartbeats 1000000 in
theorem rget12_any (L : Items) (hl : L.length ≤ 1000000) (id : Nat) (A : Option Addr) (c : Nat) (w : World) (hr : Rd w 2 A L.length c (itV L)) :
    Calls Tryd.prog 64 #[.slice A L.length c, .int .u64 id] w fun e w' => e = .returned (.tuple #[.string ⟨((getL L id).getD []).toArray⟩, .bool (getL L id).isSome]) ∧ w = w' := by
  have HR := Lib.hid hr
  clear hr
  go_enter Tryd.func64, Tryd.ntmps64
  go_wp2_with fail
  go_loopg [6] L.length (fun gk i wr => ∃ k : Nat, k + gk = L.length ∧ i = .int .i64 k ∧ getL L id = getL (L.drop k) id ∧ w = wr)
  case atStart => exact ⟨0, by omega, rfl, by simp, rfl⟩
  case round =>
    obtain ⟨k, hk, rfl, hd, rfl⟩ := hrel
    have HD := Lib.hid hd
    clear hd
    by_cases hlt : k < L.length
    · obtain ⟨m, rfl⟩ : ∃ m, gk = m + 1 := ⟨gk - 1, by omega⟩
      obtain ⟨h1, h2⟩ := get_drop hlt HD.out
      obtain ⟨B, o, rfl, hc1, hc2⟩ := HR.out.item hlt
      obtain ⟨⟨xid, xt⟩, hx⟩ : ∃ x, L[k]'hlt = x := ⟨_, rfl⟩
      rw [hx] at hc1 hc2 h1 h2
      simp only at hc1 hc2 h1 h2
      have hltI : (k : Int) < (L.length : Int) := by omega
      clear hx
      by_cases he : xid = id
      · have H1 := Lib.hid (h1 he)
        have hb : ((xid : Int) == (id : Int)) = true := by rw [beq_iff_eq]; omega
        clear h1 h2 he
        go_wp2_with fail
        go_ret2
        refine ⟨?_, rfl⟩
        rw [H1.out]
        rfl
      · have H2 := Lib.hid (h2 he)
        have hb : ((xid : Int) == (id : Int)) = false := by rw [beq_eq_false_iff_ne]; omega
        clear h1 h2 he
        go_wp2_with fail
        go_roundg m
        case measure => omega
        case rel => exact ⟨k + 1, by omega, by go_num, H2.out, rfl⟩
    · obtain rfl : k = L.length := by omega
      have e := HD.out
      rw [List.drop_length] at e
      have E := Lib.hid e
      clear e hlt
      go_wp2_with fail
      go_ret2
      refine ⟨?_, rfl⟩
      rw [E.out]
      rfl
theorem infoIt : (Tryd.prog.info? 87).map (fun i => (i.zero, i.size, i.bytes)) = some (some (.agg #[.int .u64 0, .string ⟨#[]⟩]), 2, 24) := by kernel_rfl
def OwnR (w : World) (B : Nat) (v : Value) (L : Items) : Prop := w.ownsRow B 87 2 v L.length (itV L)
theorem own_up {w w' : World} {B : Nat} {e : TypeId} {size n : Nat} {v : Value} {xs : List Value} (h : w.ownsRow B e size v n xs) (hu : Up w w') : w'.ownsRow B e size v n xs := by
  refine World.ownsRow.kept (row := none) h ⟨hu.os, hu.tape, hu.output, hu.size, fun k hk _ => hu.block hk⟩ ?_
  cases v.ownBlock <;> simp
def DelEnd (w : World) (M : Items) (e : Ending) (w' : World) : Prop := ∃ v, e = .returned v ∧ OwnR w' w.heap.size v M ∧ Up w w'
set_option maxHeartbeats 1000000 in
theorem rdel12_any (L : Items) (hl : L.length ≤ 100000) (id : Nat) (A : Option Addr) (c : Nat) (w : World) (hr : Rd w 2 A L.length c (itV L)) :
    Calls Tryd.prog 82 #[.slice A L.length c, .int .u64 id] w (DelEnd w (delL L id)) := by
  obtain ⟨i0, hi, hz0, hz1, hz2⟩ := info_parts infoIt
  have HR := Lib.hid hr
  clear hr
  go_enter Tryd.func82, Tryd.ntmps82
  go_wp2_with fail
  go_loopg [5, 6] L.length (fun gk v i wr => ∃ k : Nat, k + gk = L.length ∧ i = .int .i64 k ∧ OwnR wr w.heap.size v (delL (L.take k) id) ∧ Up w wr)
  case atStart => exact ⟨0, by omega, rfl, World.ownsRow_nil _ _ _ _, Up.refl w⟩
  case round =>
    obtain ⟨k, hk, rfl, ho, hu⟩ := hrel
    have HO := Lib.hid ho
    have HU := Lib.hid hu
    clear ho
    by_cases hlt : k < L.length
    · obtain ⟨m, rfl⟩ : ∃ m, gk = m + 1 := ⟨gk - 1, by omega⟩
      have hd := del_take_succ (id := id) hlt
      obtain ⟨B, o, rfl, hc1, hc2⟩ := (HR.out.up hu).item hlt
      obtain ⟨⟨xid, xt⟩, hx⟩ : ∃ x, L[k]'hlt = x := ⟨_, rfl⟩
      rw [hx] at hc1 hc2 hd
      simp only at hc1 hc2 hd
      have hltI : (k : Int) < (L.length : Int) := by omega
      have hml : (delL (L.take k) id).length ≤ k := by have := del_len (L.take k) id; rw [List.length_take] at this; omega
      clear hx hu
      by_cases he : xid = id
      · rw [if_pos he] at hd
        have HD := Lib.hid hd
        have hb : ((xid : Int) != (id : Int)) = false := by rw [he]; simp
        clear hd he
        go_wp2_with fail
        go_roundg m
        case measure => omega
        case rel => exact ⟨k + 1, by omega, by go_num, by rw [HD.out, List.append_nil]; exact HO.out, HU.out⟩
      · rw [if_neg he] at hd
        have HD := Lib.hid hd
        have hb : ((xid : Int) != (id : Int)) = true := by rw [bne_iff_ne]; omega
        clear hd he
        go_wp2_with (at_builtin; refine app_one wr rfl _ _ 63 rfl w.heap.size 87 i0 _ 2 24 Tryd.underlying63 hi hz0 hz1 hz2 rfl (by decide) _ _ _ HO.out rfl #[.int .u64 xid, .string ⟨xt.toArray⟩] rfl rfl (by simp [Value.oneCell']) (by omega) (by omega) (by have := HU.out.le; omega) ?_; intro v3 w3 ho3 hg3 hb3)
        go_roundg m
        case measure => omega
        case rel =>
          refine ⟨k + 1, by omega, by go_num, ?_, Up.of (Below.trans HU.out.below hb3)⟩
          rw [HD.out]
          unfold OwnR
          rw [itV_app, List.length_append]
          exact ho3
    · obtain rfl : k = L.length := by omega
      have hO := HO.out
      rw [List.take_length] at hO
      have HO2 := Lib.hid hO
      clear hO hu hlt
      go_wp2_with fail
      go_ret
      exact ⟨_, rfl, HO2.out, HU.out⟩
end Go.Proofs.YteeenbhmdacdiaaDoor
