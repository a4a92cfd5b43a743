/- Walk: audit.Check of every text of at most 3000 bytes. -/
import Derived.Test.YtcfmidmokciofaaGreatDoorKR23
import Derived.Test.YtcfmidmokciofaaGreatDoorKR27
import Derived.Test.YtcfmidmokciofaaGreatDoorKR22
import Derived.Test.YtcfmidmokciofaaGreatDoorKR28
import Derived.Test.YtcfmidmokciofaaGreatDoorKR29
import Derived.Test.YtcfmidmokciofaaGreatDoorKR30
import Derived.Test.YtcfmidmokciofaaGreatDoorKR31
import Derived.Test.YtcfmidmokciofaaGreatDoorKR21
import Derived.Test.YtcfmidmokciofaaGreatDoorKR26
namespace Go.Proofs.YtcfmidmokciofaaGreatDoor
open Go.RowKit Go.Gz Go.Maps
set_option maxRecDepth 100000
theorem nt_any (t : Bs) (hs : t.length ≤ 1000000) (w : World) (hg : Gl w) :
    Calls Tryz.prog 48 #[.string ⟨t.toArray⟩] w (NtE w t) := by
  refine (ntake2_any t hs (rval_any t hs (markOK t hs) (wordOK t hs) (numOK t hs) 4) w hg).mono ?_;rintro e w' ⟨⟨v, n, rfl, hv, hv2⟩, hu⟩;by_cases h0 : noteN t = 0
  · have hk := hv h0;by_cases h1 : t[blkA t 0]? = some 123
    · rw [decide_eq_true h1] at hk;obtain ⟨V, rfl⟩ := (by simpa [KV] using hk : ∃ V, v = .iface 112 V);refine ⟨_, V, n, noteN t, true, rfl, fun w => by kernel_rfl, ?_, hu⟩;unfold noteA;rw [h0, Bool.and_true, decide_eq_true rfl, decide_eq_true ⟨rfl, h1⟩]
    · have hno : (decide (noteN t = 0) && false) = noteA t := by unfold noteA; simp [h1]
      rw [decide_eq_false h1] at hk;unfold KV at hk;rw [if_neg (by simp)] at hk;rcases hk with rfl | ⟨V, rfl⟩ | ⟨V, rfl⟩ | ⟨V, rfl⟩ | ⟨V, rfl⟩
      · exact ⟨_, .slice none 0 0, n, noteN t, false, rfl, fun w => by kernel_rfl, hno, hu⟩
      · exact ⟨_, .slice none 0 0, n, noteN t, false, rfl, fun w => by kernel_rfl, hno, hu⟩
      · exact ⟨_, .slice none 0 0, n, noteN t, false, rfl, fun w => by kernel_rfl, hno, hu⟩
      · exact ⟨_, .slice none 0 0, n, noteN t, false, rfl, fun w => by kernel_rfl, hno, hu⟩
      · exact ⟨_, .slice none 0 0, n, noteN t, false, rfl, fun w => by kernel_rfl, hno, hu⟩
  · have hno : (decide (noteN t = 0) && false) = noteA t := by unfold noteA; simp [h0]
    obtain rfl := hv2 h0;exact ⟨_, .slice none 0 0, n, noteN t, false, rfl, fun w => by kernel_rfl, hno, hu⟩
def hdrB0 (h : Hdr) : Array Value := (hdrC h).toArray
theorem decA {s : Bs} (h : hdrDE s = 0) : decH s = (hdrB0 (hdrD s), 0) := by rw [decH_of h, if_pos rfl]; rfl
theorem hdrDE_E {s : Bs} (h : hdrDE s = 0) : hdrE (hdrD s) = 0 := by
  unfold hdrDE at h;split at h
  · simp at h
  · split at h
    · simp at h
    · split at h
      · simp at h
      · split at h
        · simp at h
        · exact h
/-- the rules that are broken, ascending -/
def audL (s : Bs) (h : Hdr) (b : Int) : List Nat := (List.range' 1 15).filter fun r => decide (0 < checkG s h b r)
theorem aud_asc (s : Bs) (h : Hdr) (b : Int) : (audL s h b).Pairwise (· < ·) := List.Pairwise.filter _ (by decide)
theorem aud_mem (s : Bs) (h : Hdr) (b : Int) (r : Nat) : r ∈ audL s h b ↔ r < 256 ∧ 0 < checkG s h b r := by
  unfold audL;rw [List.mem_filter, decide_eq_true_eq, List.mem_range'_1];constructor
  · rintro ⟨h1, h2⟩; exact ⟨by omega, h2⟩
  · rintro ⟨h1, h2⟩;have := check_keys s h b r h2;exact ⟨by omega, h2⟩
theorem aud_V {s : Bs} {b : Int} (h : hdrDE s = 0) : audV s b = audL s (hdrD s) b := by
  unfold audV;rw [if_neg (by simp [h])];rfl
set_option maxHeartbeats 16000000 in
theorem acheck_good (s : Bs) (hs : s.length ≤ 3000) (hD : hdrDE s = 0) (b : Int) (hb1 : -9223372036854775808 ≤ b) (hb2 : b ≤ 9223372036854775807) (w : World) (hg : Gl w) :
    Calls Tryz.prog 16 #[.string ⟨s.toArray⟩, .int .i64 b] w (AchE w (audL s (hdrD s) b)) := by
  have hDL := fun w => Lib.hid (hdec_any s (by omega) w);rw [decA hD] at hDL;unfold DecE at hDL;simp only at hDL;have hE := hdrDE_E hD;have hn64 : s.length < 18446744073709551616 := by omega
  generalize hdrD s = H at *;obtain ⟨k1, _⟩ := hdr_ok hE;unfold TOT at k1;have LD : ∀ w, RowKit.Hid (Calls Tryz.prog 72 #[hdrV H, .int .u64 (s.length : Int)] w fun e w' => e = .returned (.int .i64 (laidE H s.length)) ∧ Up w w') := fun w => Lib.hid (by
    unfold laidE;rw [if_neg (by simp [hE])];cases H;exact laid_any _ _ _ _ _ _ _ _ _ _ _ _ _ _ _ _ _ _ _ _ _ _ _ _ _ hE w)
  have NT : ∀ w, Gl w → RowKit.Hid (Calls Tryz.prog 48 #[.string ⟨(secT s H.m0 H.m1).toArray⟩] w (NtE w (secT s H.m0 H.m1))) := fun w hg => Lib.hid (nt_any _ (by have := secT_len s H.m0 H.m1; omega) w hg);have hsums : ∀ k, (secN H k).1 + (secN H k).2 ≤ 1099511627776 := fun k => by
    match k with
    | 0 => exact k1.1
    | 1 => exact k1.2.1
    | 2 => exact k1.2.2.1
    | _ + 3 => exact k1.2.2.2
  obtain ⟨n1, n2, n3⟩ := ent_len s hs H (secF s H b);have hall := ent_all s H (secF s H b);have SEC := fun B m w a NT => Lib.hid (asec_any B m 0 s (by omega) H b hb1 hb2 hsums (by omega) w a LD NT);have ENT := fun B m w a => Lib.hid (aentries_any B m 5 s (by omega) H (secF s H b) (hsums 0) (hsums 2) 750 (fun x _ _ => n3 x) (by omega) (by omega) w a);have HFEW := Lib.hid (check_few s H b);have HASC := Lib.hid (aud_asc s H b);have HMEM := Lib.hid (aud_mem s H b);obtain ⟨CG, hCG⟩ : ∃ x, checkG s H b = x := ⟨_, rfl⟩;rw [hCG] at HFEW HMEM;unfold checkG at hCG;unfold EntE at ENT;obtain ⟨⟨F1, l⟩, hD1⟩ : ∃ x, entF s H (secF s H b) = x := ⟨_, rfl⟩;rw [hD1] at ENT hall n2 hCG;simp only at ENT hall n2 hCG;have ROW := fun B m A cc w a hr => Lib.hid (arows_any B m 1000007 s (by omega) H F1 (by have := secT_len s H.d0 H.d1; omega) (hsums 3) l (fun e he => (hall e he).1) (fun e he => (hall e he).2) (by omega) A cc (by omega) w a hr);have HCG := Lib.hid hCG;obtain ⟨L, hL⟩ : ∃ x, audL s H b = x := ⟨_, rfl⟩;rw [hL] at HASC HMEM ⊢;have hone : (hdrB0 H).all (·.oneCell') = true := by simp [hdrB0, hdrC, Value.oneCell']
  have hsize : (hdrB0 H).size = 24 := rfl;have HPUT := fun s m => Lib.hid (au_put s H m);clear hD hE k1 LD hsums n1 n2 n3 hall hCG hD1 hL hn64 hs;generalize secF s H b = F at *;have hmm := @run_makeMap Tryz.prog;have hbu := build_au ⟨s.toArray⟩ w.heap.size (w.alloc (.map #[] 0));have HG := Lib.hid hg;clear hg;go_enter Tryz.func16, Tryz.ntmps16;go_wp2_with fail;with_reducible refine (hDL _).out.mono ?_
  rintro e w2 ⟨rfl, hu2⟩;have hbs := heap_alloc_new (w.alloc (.map #[] 0)) (.cells (auZ s w.heap.size) 85);rw [World.size_alloc] at hbs;have q2 := hu2.obj hbs;have own2 : w2.ownsMap Tryz.prog 5 (plainElem Tryz.prog 3) w.heap.size 0 (.map [] : DataW Unit) := by
    obtain ⟨es, clock, hb, rest⟩ := (World.ownsMap_made w Tryz.prog 5 (plainElem Tryz.prog 3) : (w.alloc (.map #[] 0)).ownsMap Tryz.prog 5 (plainElem Tryz.prog 3) w.heap.size 0 (.map [] : DataW Unit));exact ⟨es, clock, hu2.obj (((Up.refl _).alloc _).obj hb), rest⟩
  obtain ⟨X3, hX3⟩ : ∃ X, w2.alloc (.cells (hdrB0 H) 83) = X := ⟨_, rfl⟩;have hu3 : Up w2 X3 := by rw [← hX3]; exact (Up.refl w2).alloc _
  have q3 := hu3.obj q2;have r3 : X3.heap[w2.heap.size]? = some (.cells (hdrB0 H) 83 (0, 0)) := by rw [← hX3]; exact heap_alloc_new _ _
  have th : X3.there (w.heap.size + 1) 1 (hdrB0 H).size := there_mid q3 1 24 (by simp [auZ]);have rg := rg_blk r3;obtain ⟨X4, hX4⟩ : ∃ X, X3.setCells (w.heap.size + 1) 1 (hdrB0 H).toList = X := ⟨_, rfl⟩;have hu4 : Up w X4 := by
    rw [← hX4];exact up_setCells _ (((((Up.refl w).alloc _).alloc _).trans hu2).trans hu3) (by omega)
  have q4 : X4.heap[w.heap.size + 1]? = some (.cells (auC s H w.heap.size) 85 (0, 0)) := by
    rw [← hX4, ← (HPUT s w.heap.size).out];exact sc_put (hdrC H) _ 1 _ q3
  have own4 : X4.ownsMap Tryz.prog 5 (plainElem Tryz.prog 3) w.heap.size 0 (.map [] : DataW Unit) := by
    obtain ⟨es, clock, hb, rest⟩ := own2;exact ⟨es, clock, by rw [← hX4, sc_oth _ _ _ _ (by omega)]; exact hu3.obj hb, rest⟩
  have a4 : AuR X4 (w.heap.size + 1) w.heap.size s H 0 zB := ⟨q4, ⟨_, own4, brk_nil, fun _ => Nat.le_refl _⟩, by omega⟩;have A4 := Lib.hid a4;have HU4 := Lib.hid hu4;have HX3 := Lib.hid hX3;have HX4 := Lib.hid hX4;clear hX3 hX4 hmm hbu hDL hbs q2 q3 r3 hu2 hu3 hu4 own2 own4 q4 a4
  go_wp2_with (first
    | (refine wpList_store_new w2 rfl 83 _ _ rfl HZ (hdrB0 H) rfl rfl (by kernel_rfl) rfl hone ?_; rw [HX3.out])
    | (refine wpList_load_mid rfl 83 _ rfl w2.heap.size 0 rfl (hdrB0 H).toList _ rg Tryz.underlying83 rfl (by kernel_rfl) ?_)
    | (refine wpList_store_mid rfl 83 _ _ rfl (w.heap.size + 1) 1 (hdrB0 H) rfl rfl th (by kernel_rfl) hone ?_; rw [HX4.out]))
  with_reducible refine (SEC _ _ _ A4.out ?_).out.mono ?_
  · exact fun w' t => NT _ (HG.out.up (Up.tw HU4.out t (by simp)))
  rintro e w5 ⟨⟨v5, rfl⟩, a5, t5⟩;have A5 : RowKit.Hid (AuR w5 (w.heap.size + 1) w.heap.size s H 5 F) := Lib.hid a5;have HU5 := Lib.hid (Up.tw HU4.out t5 (by simp));clear a5 t5 A4 HU4 SEC NT rg th;go_wp2_with fail;with_reducible refine (ENT _ _ _ A5.out).out.mono ?_
  rintro e w6 ⟨A6, cc6, rfl, r6, a6, t6, _⟩;have A6' : RowKit.Hid (AuR w6 (w.heap.size + 1) w.heap.size s H 1000007 F1) := Lib.hid a6;have HU6 := Lib.hid (Up.tw HU5.out t6 (by simp));have R6 := Lib.hid r6;clear a6 t6 r6 A5 HU5 ENT;by_cases hz : F1 7 + F1 8 + F1 9 = 0
  · rw [decide_eq_true hz];have HCG2 : RowKit.Hid (rowF s H l F1 = CG) := Lib.hid (by rw [← HCG.out, if_pos hz]);clear HCG hz;generalize rowF s H l F1 = RF at *;obtain rfl := HCG2.out;clear HCG2;go_wp2_with fail;with_reducible refine (ROW _ _ _ _ _ A6'.out R6.out).out.mono ?_
    rintro e w7 ⟨⟨v7, rfl⟩, a7, t7⟩;clear A6' R6 ROW;obtain ⟨D, KS, own7, mk7, kn, km⟩ := brk_keys a7.map;have c25 := a7.cells.2;have HU7 := Lib.hid (Up.tw HU6.out t7 (by simp));have SO := Lib.hid (asorted12_any (plainElem Tryz.prog 3) w7.heap.size w.heap.size _ D KS L kn (HFEW.out KS kn (fun r hr => ((km r).1 hr).2)) HASC.out (fun r => by rw [HMEM.out, km]) (w7.alloc (.cells #[.map (some w.heap.size)] 80)) (by simp) (own7.alloc _) (mapK_kept mk7 (World.grownBy_alloc _ _ none) (by simp)));clear a7 t7 own7 mk7 kn km HU6;go_wp2_with fail;with_reducible refine (mk8_any (some w.heap.size) _).mono ?_
    rintro e w8 ⟨rfl, rfl⟩;go_wp2_with fail;with_reducible refine SO.out.mono ?_
    rintro e w9 ⟨A9, c9, rfl, r9, hu9⟩;have R9 := Lib.hid r9;have HU9 := Lib.hid ((HU7.out.alloc _).trans hu9);clear r9 hu9 SO HU7 c25;go_wp2_with fail;go_ret;exact ⟨A9, c9, rfl, R9.out, HU9.out⟩
  · rw [decide_eq_false hz];have HCG2 : RowKit.Hid (F1 = CG) := Lib.hid (by rw [← HCG.out, if_neg hz]);clear HCG hz ROW R6;obtain rfl := HCG2.out;clear HCG2;have a7 := A6'.out;obtain ⟨w7, hw7⟩ : ∃ x, w6 = x := ⟨_, rfl⟩;subst hw7;have t7 := Tw.refl [w.heap.size] w6;clear A6';obtain ⟨D, KS, own7, mk7, kn, km⟩ := brk_keys a7.map;have c25 := a7.cells.2;have HU7 := Lib.hid (Up.tw HU6.out t7 (by simp));have SO := Lib.hid (asorted12_any (plainElem Tryz.prog 3) w6.heap.size w.heap.size _ D KS L kn (HFEW.out KS kn (fun r hr => ((km r).1 hr).2)) HASC.out (fun r => by rw [HMEM.out, km]) (w6.alloc (.cells #[.map (some w.heap.size)] 80)) (by simp) (own7.alloc _) (mapK_kept mk7 (World.grownBy_alloc _ _ none) (by simp)));clear a7 t7 own7 mk7 kn km HU6;go_wp2_with fail;with_reducible refine (mk8_any (some w.heap.size) _).mono ?_
    rintro e w8 ⟨rfl, rfl⟩;go_wp2_with fail;with_reducible refine SO.out.mono ?_
    rintro e w9 ⟨A9, c9, rfl, r9, hu9⟩;have R9 := Lib.hid r9;have HU9 := Lib.hid ((HU7.out.alloc _).trans hu9);clear r9 hu9 SO HU7 c25;go_wp2_with fail;go_ret;exact ⟨A9, c9, rfl, R9.out, HU9.out⟩
theorem acheck_any (s : Bs) (hs : s.length ≤ 3000) (b : Int) (hb1 : -9223372036854775808 ≤ b) (hb2 : b ≤ 9223372036854775807) (w : World) (hg : Gl w) :
    Calls Tryz.prog 16 #[.string ⟨s.toArray⟩, .int .i64 b] w (AchE w (audV s b)) := by
  by_cases h : hdrDE s = 0
  · rw [aud_V h];exact acheck_good s hs h b hb1 hb2 w hg
  · have e : audV s b = [1] := by unfold audV; rw [if_pos h]
    rw [e];refine acheck_bad s (hdrDE s) h (fun w => Lib.hid ?_) b w;have := hdec_any s (by omega) w;rw [decH_bad rfl h] at this;exact this
end Go.Proofs.YtcfmidmokciofaaGreatDoor
