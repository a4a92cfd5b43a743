/- Walks: audit.Check of a pressed archive with anything behind it; audit.Good. -/
import Derived.Test.YtcfmidmokciofaaGreatDoorKR23
import Derived.Test.YtcfmidmokciofaaGreatDoorKR27
import Derived.Test.YtcfmidmokciofaaGreatDoorKR22
import Derived.Test.YtcfmidmokciofaaGreatDoorKR28
import Derived.Test.YtcfmidmokciofaaGreatDoorKR17
import Derived.Test.YtcfmidmokciofaaGreatDoorKR33
import Derived.Test.YtcfmidmokciofaaGreatDoorKR31
import Derived.Test.YtcfmidmokciofaaGreatDoorKR21
import Derived.Test.YtcfmidmokciofaaGreatDoorKR26
namespace Go.Proofs.YtcfmidmokciofaaGreatDoor
open Go.RowKit Go.Gz Go.Maps
set_option maxRecDepth 100000
theorem acheck_short (s : Bs) (hl : s.length < 127) (b : Int) (w : World) :
    Calls Tryz.prog 16 #[.string ⟨s.toArray⟩, .int .i64 b] w (AchE w [1]) :=
  acheck_bad s 3 (by decide) (fun w => Lib.hid (hdec_short s hl w)) b w
theorem nt_good (note : Bs) (hn : noteN note = 0) (h1 : note[blkA note 0]? = some 123) (w : World) (hg : Gl w) :
    Calls Tryz.prog 48 #[.string ⟨note.toArray⟩] w (NtE w note) := by
  have hl := note_len hn;have hs : note.length ≤ 1000000 := by omega
  refine (ntake_any note hs (rval_any note hs (markOK note hs) (wordOK note hs) (numOK note hs) 4) w hg).mono ?_;rintro e w' ⟨⟨v, n, rfl, hv⟩, hu⟩;have hk := hv hn;rw [decide_eq_true h1] at hk;obtain ⟨V, rfl⟩ := (by simpa [KV] using hk : ∃ V, v = .iface 112 V);refine ⟨_, V, n, noteN note, true, rfl, fun w => by kernel_rfl, ?_, hu⟩;unfold noteA;rw [hn, Bool.and_true, decide_eq_true rfl, decide_eq_true ⟨rfl, h1⟩]
def hdrA (h : Hdr) : Array Value := (hdrC h).toArray
set_option maxHeartbeats 16000000 in
theorem acheck_pressed {H : Hdr} {T : Bs} {l : Ents} {b : Nat} {note root : Bs} (p : Pressed H T l b note root) (hTl : T.length ≤ 100000000) (t : Bs) (ht : t.length ≤ 1000) (b2 : Int) (hb1 : -9223372036854775808 ≤ b2) (hb2 : b2 ≤ 9223372036854775807)
    (L : List Nat) (hl : L.length ≤ 1) (hL : ∀ r, r ∈ L ↔ r < 256 ∧ 0 < foundF H t b2 r) (w : World) (hg : Gl w) :
    Calls Tryz.prog 16 #[.string ⟨(hdrB H ++ (T ++ t)).toArray⟩, .int .i64 b2] w (AchE w L) := by
  have hDL := fun w => Lib.hid (hdec_hdr H p.e p.ok (T ++ t) (by rw [List.length_append]; omega) w);have hS1 := pressed_sec p t b2;have hS2 := pressed_ent p t (foundF H t b2);have hS3 := pressed_row p t (foundF H t b2) (found_other _ _ _ 11 (by decide) (by decide));have hlen : (hdrB H ++ (T ++ t)).length = 127 + T.length + t.length := by simp only [List.length_append, hdrB_len]; omega
  have h4 : H.d0 + H.d1 = 127 + T.length := by rw [p.a4, List.length_append, hdrB_len]
  have hlz : laidE H (hdrB H ++ (T ++ t)).length = 0 := by
    unfold laidE;have := p.a0; have := p.a1; have := p.a2; have := p.a3;rw [if_neg (by simp [p.e]), if_neg (by omega), if_neg (by omega)]
  have LD : ∀ w, RowKit.Hid (Calls Tryz.prog 72 #[hdrV H, .int .u64 ((hdrB H ++ (T ++ t)).length : Int)] w fun e w' => e = .returned (.int .i64 (laidE H (hdrB H ++ (T ++ t)).length)) ∧ Up w w') := fun w => Lib.hid (by
    rw [hlz];have q0 := p.a0; have q1 := p.a1; have q2 := p.a2; have q3 := p.a3; have qe := p.e;rw [hlen];cases H;exact laid_good _ _ _ _ _ _ _ _ _ _ _ _ _ _ _ _ _ _ _ _ _ _ _ _ _ qe (by simp only at *; omega) (by simp only at *; omega) (by simp only at *; omega) (by simp only at *; omega) (by simp only at *; omega) w)
  have hnt : secT (hdrB H ++ (T ++ t)) H.m0 H.m1 = note := by
    rw [← List.append_assoc, secT_app (by have := p.a2; have := p.a3; have := p.a4; omega), p.fnote]
  have hr1 : secT (hdrB H ++ (T ++ t)) H.r0 H.r1 = secT (hdrB H ++ T) H.r0 H.r1 := by
    rw [← List.append_assoc, secT_app (by have := p.a1; have := p.a2; have := p.a3; have := p.a4; omega)]
  have hl1 : secT (hdrB H ++ (T ++ t)) H.l0 H.l1 = secT (hdrB H ++ T) H.l0 H.l1 := by
    rw [← List.append_assoc, secT_app (by have := p.a3; have := p.a4; omega)]
  have hdl : (secT (hdrB H ++ (T ++ t)) H.d0 H.d1).length ≤ 1000000 := by
    have := p.dat
    rw [secT_in (by omega), List.length_take, List.length_drop]; omega
  have hsz := p.size;have hlf := p.leaf;rw [← hr1] at hsz hlf;rw [← hl1] at hlf;have hln := p.len;have NT : ∀ w, Gl w → RowKit.Hid (Calls Tryz.prog 48 #[.string ⟨(secT (hdrB H ++ (T ++ t)) H.m0 H.m1).toArray⟩] w (NtE w (secT (hdrB H ++ (T ++ t)) H.m0 H.m1))) := fun w hg => Lib.hid (by
    rw [hnt]; exact nt_good note p.noteOk.1 p.noteOk.2 w hg)
  have hsums : ∀ k, (secN H k).1 + (secN H k).2 ≤ 1099511627776 := fun k => by
    have := p.a0; have := p.a1; have := p.a2; have := p.a3;match k with
    | 0 => show H.r0 + H.r1 ≤ _; omega
    | 1 => show H.m0 + H.m1 ≤ _; omega
    | 2 => show H.l0 + H.l1 ≤ _; omega
    | _ + 3 => show H.d0 + H.d1 ≤ _; omega
  have hmul : (decD (secT (hdrB H ++ (T ++ t)) H.r0 H.r1)).2.length * (l.length + 1) ≤ 1000000 := by
    have : (decD (secT (hdrB H ++ (T ++ t)) H.r0 H.r1)).2.length * (l.length + 1) ≤ 900 * 901 := Nat.mul_le_mul (by omega) (by omega);omega
  have SEC := fun B m w a NT => Lib.hid (asec_any B m 0 (hdrB H ++ (T ++ t)) (by omega) H b2 hb1 hb2 hsums (by omega) w a LD NT);have ENT := fun B m w a => Lib.hid (aentries_any B m 5 (hdrB H ++ (T ++ t)) (by omega) H (foundF H t b2) (hsums 0) (hsums 2) l.length hlf hmul (by omega) w a);have ROW := fun B m A cc w a hr => Lib.hid (arows_any B m 1000007 (hdrB H ++ (T ++ t)) (by omega) H (foundF H t b2) hdl (hsums 3) l p.chk p.okl (by omega) A cc (by omega) w a hr);rw [hS1] at SEC;rw [hS2] at ENT;rw [hS3] at ROW;unfold EntE at ENT;have h0 : foundF H t b2 7 + foundF H t b2 8 + foundF H t b2 9 = 0 := by
    rw [found_other _ _ _ 7 (by decide) (by decide), found_other _ _ _ 8 (by decide) (by decide), found_other _ _ _ 9 (by decide) (by decide)]
  simp only [decide_eq_true h0] at ENT;have HL := Lib.hid hL;have hdv : hdrV H = .agg (hdrA H) := rfl;have hone : (hdrA H).all (·.oneCell') = true := by simp [hdrA, hdrC, Value.oneCell']
  have hsize : (hdrA H).size = 24 := rfl;have HPUT := fun s m => Lib.hid (au_put s H m);rw [hdv] at hDL;clear hS1 hS2 hS3 hlen h4 hlz LD hnt hr1 hl1 hdl hsz hlf hsums hmul h0 hL hdv p ht hTl;generalize foundF H t b2 = F at *;generalize hdrB H ++ (T ++ t) = s at *;have hmm := @run_makeMap Tryz.prog;have hbu := build_au ⟨s.toArray⟩ w.heap.size (w.alloc (.map #[] 0));have HG := Lib.hid hg;clear hg;go_enter Tryz.func16, Tryz.ntmps16;go_wp2_with fail;with_reducible refine (hDL _).out.mono ?_
  rintro e w2 ⟨rfl, hu2⟩;have hbs := heap_alloc_new (w.alloc (.map #[] 0)) (.cells (auZ s w.heap.size) 85);rw [World.size_alloc] at hbs;have q2 := hu2.obj hbs;have own2 : w2.ownsMap Tryz.prog 5 (plainElem Tryz.prog 3) w.heap.size 0 (.map [] : DataW Unit) := by
    obtain ⟨es, clock, hb, rest⟩ := (World.ownsMap_made w Tryz.prog 5 (plainElem Tryz.prog 3) : (w.alloc (.map #[] 0)).ownsMap Tryz.prog 5 (plainElem Tryz.prog 3) w.heap.size 0 (.map [] : DataW Unit));exact ⟨es, clock, hu2.obj (((Up.refl _).alloc _).obj hb), rest⟩
  obtain ⟨X3, hX3⟩ : ∃ X, w2.alloc (.cells (hdrA H) 83) = X := ⟨_, rfl⟩;have hu3 : Up w2 X3 := by rw [← hX3]; exact (Up.refl w2).alloc _
  have q3 := hu3.obj q2;have r3 : X3.heap[w2.heap.size]? = some (.cells (hdrA H) 83 (0, 0)) := by rw [← hX3]; exact heap_alloc_new _ _
  have th : X3.there (w.heap.size + 1) 1 (hdrA H).size := there_mid q3 1 24 (by simp [auZ]);have rg := rg_blk r3;obtain ⟨X4, hX4⟩ : ∃ X, X3.setCells (w.heap.size + 1) 1 (hdrA H).toList = X := ⟨_, rfl⟩;have hu4 : Up w X4 := by
    rw [← hX4];exact up_setCells _ (((((Up.refl w).alloc _).alloc _).trans hu2).trans hu3) (by omega)
  have q4 : X4.heap[w.heap.size + 1]? = some (.cells (auC s H w.heap.size) 85 (0, 0)) := by
    rw [← hX4, ← (HPUT s w.heap.size).out];exact sc_put (hdrC H) _ 1 _ q3
  have own4 : X4.ownsMap Tryz.prog 5 (plainElem Tryz.prog 3) w.heap.size 0 (.map [] : DataW Unit) := by
    obtain ⟨es, clock, hb, rest⟩ := own2;exact ⟨es, clock, by rw [← hX4, sc_oth _ _ _ _ (by omega)]; exact hu3.obj hb, rest⟩
  have a4 : AuR X4 (w.heap.size + 1) w.heap.size s H 0 zB := ⟨q4, ⟨_, own4, brk_nil, fun _ => Nat.le_refl _⟩, by omega⟩;have A4 := Lib.hid a4;have HU4 := Lib.hid hu4;have HX3 := Lib.hid hX3;have HX4 := Lib.hid hX4;clear hX3 hX4 hmm hbu hDL hbs q2 q3 r3 hu2 hu3 hu4 own2 own4 q4 a4
  go_wp2_with (first
    | (refine wpList_store_new w2 rfl 83 _ _ rfl HZ (hdrA H) rfl rfl (by kernel_rfl) rfl hone ?_; rw [HX3.out])
    | (refine wpList_load_mid rfl 83 _ rfl w2.heap.size 0 rfl (hdrA H).toList _ rg Tryz.underlying83 rfl (by kernel_rfl) ?_)
    | (refine wpList_store_mid rfl 83 _ _ rfl (w.heap.size + 1) 1 (hdrA H) rfl rfl th (by kernel_rfl) hone ?_; rw [HX4.out]))
  with_reducible refine (SEC _ _ _ A4.out ?_).out.mono ?_
  · exact fun w' t => NT _ (HG.out.up (Up.tw HU4.out t (by simp)))
  rintro e w5 ⟨⟨v5, rfl⟩, a5, t5⟩;have A5 : RowKit.Hid (AuR w5 (w.heap.size + 1) w.heap.size s H 5 F) := Lib.hid a5;have HU5 := Lib.hid (Up.tw HU4.out t5 (by simp));clear a5 t5 A4 HU4 SEC NT rg th;go_wp2_with fail;with_reducible refine (ENT _ _ _ A5.out).out.mono ?_
  rintro e w6 ⟨A6, cc6, rfl, r6, a6, t6, _⟩;have A6' : RowKit.Hid (AuR w6 (w.heap.size + 1) w.heap.size s H 1000007 F) := Lib.hid a6;have HU6 := Lib.hid (Up.tw HU5.out t6 (by simp));have R6 := Lib.hid r6;clear a6 t6 r6 A5 HU5 ENT;go_wp2_with fail;with_reducible refine (ROW _ _ _ _ _ A6'.out R6.out).out.mono ?_
  rintro e w7 ⟨⟨v7, rfl⟩, a7, t7⟩;obtain ⟨D, own7, mk7⟩ := brk_one a7.map L hl HL.out;have c25 := a7.cells.2;have HU7 := Lib.hid (Up.tw HU6.out t7 (by simp));have OWN := Lib.hid own7;have MK7 := Lib.hid mk7;clear a7 t7 own7 mk7 A6' HU6 R6 ROW;go_wp2_with fail;with_reducible refine (mk8_any (some w.heap.size) _).mono ?_
  rintro e w8 ⟨rfl, rfl⟩;go_wp2_with fail
  have SO := Lib.hid (asorted1_any (plainElem Tryz.prog 3) w7.heap.size w.heap.size _ D (L.map u8V) (u8_nodup hl) (by simpa using hl) (w7.alloc (.cells #[.map (some w.heap.size)] 80)) (by simp) (OWN.out.alloc _) (mapK_kept MK7.out (World.grownBy_alloc _ _ none) (by simp)) (fun x hx => by
    obtain ⟨r, _, rfl⟩ := List.mem_map.1 hx;exact ⟨_, rfl⟩))
  with_reducible refine SO.out.mono ?_
  rintro e w9 ⟨A9, c9, rfl, r9, hu9⟩;rw [List.length_map] at r9 ⊢;have R9 := Lib.hid r9;have HU9 := Lib.hid ((HU7.out.alloc _).trans hu9);clear r9 hu9 SO HU7 OWN MK7 c25;go_wp2_with fail;go_ret;exact ⟨A9, c9, rfl, R9.out, HU9.out⟩
theorem agood_of (s : Bs) (b : Int) (L : List Nat) (CK : ∀ w, Gl w → RowKit.Hid (Calls Tryz.prog 16 #[.string ⟨s.toArray⟩, .int .i64 b] w (AchE w L))) (w : World) (hg : Gl w) :
    Calls Tryz.prog 18 #[.string ⟨s.toArray⟩, .int .i64 b] w fun e w' => e = .returned (.bool (decide (L.length = 0))) ∧ Up w w' := by
  unfold AchE at CK;have HE := Lib.hid (show ((L.length : Int) == 0) = decide (L.length = 0) by rw [Bool.eq_iff_iff]; simp);have HG := Lib.hid hg;clear hg;go_enter Tryz.func18, Tryz.ntmps18;go_wp2_with fail;with_reducible refine (CK _ HG.out).out.mono ?_
  rintro e w1 ⟨A, c, rfl, _, hu⟩;have HU := Lib.hid hu;clear hu;go_wp2_with fail;go_ret;exact ⟨by show Ending.returned (.bool ((L.length : Int) == 0)) = _; rw [HE.out], HU.out⟩
end Go.Proofs.YtcfmidmokciofaaGreatDoor
