/- Walks: pool.Text, pool.Add. -/
import Derived.Test.YtbfieomjobbhoaaGreatDoorMN33
import Derived.Test.YtbfieomjobbhoaaGreatDoorMN32
import Derived.Test.YtbfieomjobbhoaaGreatDoorShelf
namespace Go.Proofs.YtbfieomjobbhoaaGreatDoor
open Go.RowKit Go.Gz Go.Shelf

set_option maxRecDepth 100000
theorem findGo_some {cs : List Bs} {s : Bs} : ∀ {l : List Nat}, (∃ k ∈ l, cs.getD k [] = s) → ∃ k ∈ l, findGo cs s l = some k ∧ cs.getD k [] = s := by
  intro l;induction l with
  | nil => rintro ⟨k, hk, _⟩; cases hk
  | cons a r ih =>
    rintro ⟨k, hk, e⟩;unfold findGo;by_cases h : cs.getD a [] = s
    · rw [if_pos h]; exact ⟨a, by simp, rfl, h⟩
    · rw [if_neg h];rcases List.mem_cons.1 hk with rfl | hk
      · exact absurd e h
      · obtain ⟨k', h1, h2⟩ := ih ⟨k, hk, e⟩;exact ⟨k', by simp [h1], h2⟩
theorem find_some {cs : List Bs} {s : Bs} (h : s ∈ cs) : ∃ k, findGo cs s (hitL cs (fnvV s)) = some k ∧ ∃ hk : k < cs.length, cs[k] = s := by
  obtain ⟨i, hi, e⟩ := List.getElem_of_mem h;have hg : cs.getD i [] = s := by simp [List.getD, List.getElem?_eq_getElem hi, e]
  obtain ⟨k, h1, h2, h3⟩ := findGo_some (l := hitL cs (fnvV s)) ⟨i, by unfold hitL; rw [List.mem_filter]; exact ⟨List.mem_range.2 hi, by rw [hg]; simp⟩, hg⟩;have hk := hit_lt h1;exact ⟨k, h2, hk, by simpa [List.getD, List.getElem?_eq_getElem hk] using h3⟩
theorem find_none {cs : List Bs} {s : Bs} (h : s ∉ cs) : ∀ {l : List Nat}, (∀ k ∈ l, k < cs.length) → findGo cs s l = none := by
  intro l;induction l with
  | nil => intro _; rfl
  | cons a r ih =>
    intro hl;unfold findGo;have ha := hl a (by simp);rw [if_neg (by intro e; apply h; rw [← e]; simp [List.getD, List.getElem?_eq_getElem ha]), ih (fun k hk => hl k (by simp [hk]))]
theorem clone_any (s : Bs) (hs : s.length ≤ 281474976710656) (w : World) :
    Calls Tryz.prog 172 #[.string ⟨s.toArray⟩] w fun e w' => e = .returned (.string ⟨s.toArray⟩) ∧ Up w w' := by
  have CL := fun w => Lib.hid (Tryz.stringslite_Clone ⟨s.toArray⟩ w (by simpa [ByteArray.size] using hs));go_enter Tryz.func172, Tryz.ntmps172;go_wp2_with fail;refine (CL _).out.mono ?_;rintro e w1 ⟨rfl, hu1⟩;go_wp2_with fail;go_ret;exact ⟨rfl, Up.of hu1⟩
theorem Rd.str' {w : World} {A : Option Addr} {c : Nat} {l : Bs} (h : Rd w 1 A l.length c (byV l)) : (convert 49 9 (.slice A l.length c)).run Tryz.prog w = .ok (.string ⟨l.toArray⟩) w := by
  by_cases h0 : l = []
  · subst h0;rw [run_convert_bytes_string w 49 9 5 _ _ c Tryz.underlying49 Tryz.underlying5 Tryz.underlying9];cases A <;> simp [Conv.bytesToString, loadCells];all_goals rfl
  · exact h.str h0
theorem text_any (cs : List Bs) (hl : cs.flatten.length ≤ 900000) (B : Nat) (mv : Value) (w : World) (hp : PoolR w B cs mv) :
    Calls Tryz.prog 112 #[.pointer (some ⟨B, 0, none⟩)] w fun e w' => e = .returned (.string ⟨cs.flatten.toArray⟩) ∧ Up w w' := by
  obtain ⟨At, ct, Ap, cp, g1, g2, g3⟩ := hp;have CL := fun w => Lib.hid (clone_any cs.flatten (by omega) w);have hcv := g2.str';have c0 := blkc g1 0 _ rfl;clear g1 g2 g3;generalize cs.flatten = t at *;generalize t.length = tl at *;go_enter Tryz.func112, Tryz.ntmps112;go_wp2_with fail;refine (CL _).out.mono ?_;rintro e w1 ⟨rfl, hu1⟩;go_wp2_with fail;go_ret;exact ⟨rfl, hu1⟩
def AddE (w : World) (base B : Nat) (cs : List Bs) (s : Bs) (en : Ending) (w' : World) : Prop := en = .returned (.tuple #[.agg #[.int .u64 (offC (addC cs s) s : Int), .int .u32 (s.length : Int)], .bool (decide (s ∉ cs)), .int .i64 0]) ∧ PoolW w' base B (addC cs s) ∧ PKeep base B w w'
theorem PoolW.up {w w' : World} {base B : Nat} {cs : List Bs} (h : PoolW w base B cs) (hu : Up w w') : PoolW w' base B cs := by
  obtain ⟨tv, pv, mv, h1, h2, h3, h4, h5, h6⟩ := h;exact ⟨tv, pv, mv, hu.obj h1, own_up h2 hu, own_up h3 hu, h4.up hu, h5, by have := hu.le; omega⟩
set_option maxHeartbeats 4000000 in
theorem add_found (cs : List Bs) (hn : cs.Nodup) (hne : ∀ t ∈ cs, t ≠ []) (hl : cs.flatten.length ≤ 800000) (hl2 : cs.length ≤ 2000) (s : Bs) (hs : s ≠ []) (hs2 : s.length ≤ 65536) (hm : s ∈ cs) (B base : Nat) (w : World) (hp : PoolW w base B cs) :
    Calls Tryz.prog 111 #[.pointer (some ⟨B, 0, none⟩), .string ⟨s.toArray⟩] w (AddE w base B cs s) := by
  obtain ⟨k, hk1, hk2, hk3⟩ := find_some hm;have hu0 := (Up.refl w).alloc (.cells #[.int .u64 0, .int .u32 0] 209);obtain ⟨mv, hR, hM⟩ := (hp.up hu0).read;have FD := Lib.hid (find_any cs hne (by omega) (by omega) s (by omega) B base mv _ hR hM);unfold FindE findE at FD;rw [hk1] at FD;have hgd : cs.getD k [] = s := by simp [List.getD, List.getElem?_eq_getElem hk2, hk3]
  have hoff := off_k hn hk2;rw [hk3] at hoff;simp only [hgd, ← hoff] at FD;have hb0 : (s == []) = false := by simp [hs]
  have hb1 : ¬ (65536 : Int) < (s.length : Int) := by omega
  have E1 : AddE w base B cs s = fun en w' => en = .returned (.tuple #[.agg #[.int .u64 (offC cs s : Int), .int .u32 (s.length : Int)], .bool false, .int .i64 0]) ∧ PoolW w' base B cs ∧ PKeep base B w w' := by
    unfold AddE addC;simp [hm]
  rw [E1];have HP := Lib.hid hp;clear hR hM hn hne hk1 hk3 hgd hoff hs hm E1 hp;generalize offC cs s = ok at *;have hq := heap_alloc_new w (.cells #[.int .u64 0, .int .u32 0] 209);have HQ := Lib.hid hq;clear hq hu0;go_enter Tryz.func111, Tryz.ntmps111;go_wp2_with fail;refine FD.out.mono ?_;rintro e w1 ⟨rfl, hu1⟩;have hq1 := hu1.obj HQ.out;have HQ1 := Lib.hid hq1;have hu2 := (Up.refl w1).alloc (.cells #[.int .u64 ok, .int .u32 s.length] 209);have d0 := blkc (hu2.obj hq1) 0 _ rfl;have d1 := blkc (hu2.obj hq1) 1 _ rfl;have d2 := blkf (hu2.obj hq1) 0;have d3 := blkf (hu2.obj hq1) 1;have hq2 := heap_alloc_new w1 (.cells #[.int .u64 ok, .int .u32 s.length] 209);have e0 := blkc hq2 0 _ rfl;have e1 := blkc hq2 1 _ rfl;have HQ2 := Lib.hid (hu2.obj hq1);have HU := Lib.hid ((((Up.refl w).alloc (.cells #[.int .u64 0, .int .u32 0] 209)).trans hu1).trans hu2);clear hq1 hu2 hq2 hu1;go_wp2_with fail;have hs2 := set2c HQ2.out (.int .u64 ok) (.int .u32 s.length);have k0 := blkc hs2 0 _ rfl;have k1 := blkc hs2 1 _ rfl;simp only [List.getElem_toArray, List.getElem_cons_succ, List.getElem_cons_zero] at k0 k1;refine bodyPost_ret (v := .tuple #[.agg #[.int .u64 ok, .int .u32 s.length], .bool false, .int .i64 0]) (by simp [results, Tryz.results111, go_sem, k0, k1]) rfl ?_;have hu9 := Up.of ((HU.out.below.setCell (p := ⟨w.heap.size, 0, none⟩) (by simp) (.int .u64 ok)).setCell (p := ⟨w.heap.size, 1, none⟩) (by simp) (.int .u32 s.length));exact ⟨rfl, HP.out.up hu9, .up hu9 HP.out.choose_spec.choose_spec.choose_spec.2.2.2.2.2⟩
set_option maxHeartbeats 4000000 in
theorem add_new (cs : List Bs) (hne : ∀ t ∈ cs, t ≠ []) (hl : cs.flatten.length ≤ 800000) (hl2 : cs.length ≤ 2000) (s : Bs) (hs : s ≠ []) (hs2 : s.length ≤ 65536) (hm : s ∉ cs) (B base : Nat) (w : World) (hp : PoolW w base B cs) :
    Calls Tryz.prog 111 #[.pointer (some ⟨B, 0, none⟩), .string ⟨s.toArray⟩] w (AddE w base B cs s) := by
  have hu0 := (Up.refl w).alloc (.cells #[.int .u64 0, .int .u32 0] 209);obtain ⟨mv, hR, hM⟩ := (hp.up hu0).read;have FD := Lib.hid (find_any cs hne (by omega) (by omega) s (by omega) B base mv _ hR hM);unfold FindE findE at FD;rw [find_none hm (fun k hk => hit_lt hk)] at FD;simp only [] at FD;have hb0 : (s == []) = false := by simp [hs]
  have hb1 : ¬ (65536 : Int) < (s.length : Int) := by omega
  have hb2 : ¬ (2048 : Int) ≤ (cs.length : Int) := by omega
  have E1 : AddE w base B cs s = fun en w' => en = .returned (.tuple #[.agg #[.int .u64 (cs.flatten.length : Int), .int .u32 (s.length : Int)], .bool true, .int .i64 0]) ∧ PoolW w' base B (cs ++ [s]) ∧ PKeep base B w w' := by
    unfold AddE;rw [show addC cs s = cs ++ [s] by unfold addC; rw [if_neg hm], off_new hm];simp [hm]
  rw [E1];have HP := Lib.hid hp;have PT := fun w hp => Lib.hid (put_any cs hl (by omega) s hs2 B base w hp);have hbase : base ≤ w.heap.size := hp.choose_spec.choose_spec.choose_spec.2.2.2.2.2;clear hR hM hne hs hm E1 hp;have hq := heap_alloc_new w (.cells #[.int .u64 0, .int .u32 0] 209);have HQ := Lib.hid hq;have hmf : ∀ (fn : Fn) (first cap : Array Value) (w : World), (Instr.makeFunc fn first cap).run Tryz.prog w = .ok (.func fn first cap) w := fun _ _ _ _ => rfl;clear hq hu0;generalize hfl : cs.flatten.length = fl at *;go_enter Tryz.func111, Tryz.ntmps111;go_wp2_with fail;refine FD.out.mono ?_;rintro e w1 ⟨rfl, hu1⟩;have hu2 := (Up.refl w1).alloc (.cells #[.int .u64 0, .int .u32 0] 209);have HQ2 := Lib.hid (hu2.obj (hu1.obj HQ.out));have HU := Lib.hid ((((Up.refl w).alloc (.cells #[.int .u64 0, .int .u32 0] 209)).trans hu1).trans hu2);have HP2 := Lib.hid (HP.out.up HU.out);obtain ⟨tv, pv, mv2, g1, g2, g3, g4, g5, g6⟩ := HP.out;have c1 := blkc (HU.out.obj g1) 1 _ rfl;have HPV := Lib.hid (fun r hr => (g3.lt r hr).2);have HG1 := Lib.hid (HU.out.obj g1);obtain ⟨Ap, cp, rfl, _⟩ := Rd.of_own g3;have hq2 := heap_alloc_new w1 (.cells #[.int .u64 0, .int .u32 0] 209);have e0 := blkc hq2 0 _ rfl;have e1 := blkc hq2 1 _ rfl;clear hu2 hq2 hu1 g1 g2 g3 g4;go_wp2_with fail;refine (PT _ HP2.out).out.mono ?_;rintro e w3 ⟨rfl, hp3, hk3, hf3⟩;rw [hfl];obtain ⟨hq3, hn3⟩ := hf3 w.heap.size _ _ ⟨HQ2.out, fun tv3 pv3 mv3 h3 e => by
    rw [HG1.out] at h3;injection h3 with h3;injection h3 with h3;simp at h3;rw [← h3.2.1] at e;exact absurd (HPV.out _ e) (Nat.lt_irrefl _)⟩
  have d0 := blkc hq3 0 _ rfl;have d1 := blkc hq3 1 _ rfl;have d2 := blkf hq3 0;have d3 := blkf hq3 1;have HQ3 := Lib.hid hq3;have HN3 := Lib.hid hn3;have HP3 := Lib.hid hp3;have HK3 := Lib.hid hk3;clear hq3 hn3 hp3 hk3 hf3;go_wp2_with fail;have hs2 := set2c HQ3.out (.int .u64 fl) (.int .u32 s.length);have k0 := blkc hs2 0 _ rfl;have k1 := blkc hs2 1 _ rfl;simp only [List.getElem_toArray, List.getElem_cons_succ, List.getElem_cons_zero] at k0 k1;refine bodyPost_ret (v := .tuple #[.agg #[.int .u64 fl, .int .u32 s.length], .bool true, .int .i64 0]) (by simp [results, Tryz.results111, go_sem, k0, k1]) rfl ?_;obtain ⟨tv3, pv3, mv3, p1, p2, p3, p4, p5, p6⟩ := HP3.out;have hfin := pool_ret (x := .int .u64 fl) (y := .int .u32 s.length) HQ3.out p1 p2 p3 p4 g5 hbase (HN3.out _ _ _ p1);exact ⟨rfl, hfin.1, ((PKeep.up HU.out hbase).trans HK3.out).trans hfin.2.1⟩
theorem add18_any (cs : List Bs) (hn : cs.Nodup) (hne : ∀ t ∈ cs, t ≠ []) (hl : cs.flatten.length ≤ 800000) (hl2 : cs.length ≤ 2000) (s : Bs) (hs : s ≠ []) (hs2 : s.length ≤ 65536) (B base : Nat) (w : World) (hp : PoolW w base B cs) :
    Calls Tryz.prog 111 #[.pointer (some ⟨B, 0, none⟩), .string ⟨s.toArray⟩] w (AddE w base B cs s) := by
  by_cases hm : s ∈ cs
  · exact add_found cs hn hne hl hl2 s hs hs2 hm B base w hp
  · exact add_new cs hne hl hl2 s hs hs2 hm B base w hp
end Go.Proofs.YtbfieomjobbhoaaGreatDoor
