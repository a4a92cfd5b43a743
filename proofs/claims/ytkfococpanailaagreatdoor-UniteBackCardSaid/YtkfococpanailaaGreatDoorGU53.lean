/- Walks: unite.read, unite.fold, unite.Files of archives that are read. -/
import Derived.Test.YtkfococpanailaaGreatDoorGU52
import Derived.Test.YtkfococpanailaaGreatDoorGU48
import Derived.Maps.AppendAt
namespace Go.Proofs.YtkfococpanailaaGreatDoor
open Go.RowKit Go.Gz Go.Shelf

set_option maxRecDepth 100000
theorem infoChs : (Tryz.prog.info? 26).map (fun i => (i.zero, i.size, i.bytes)) = some (some (.agg #[.slice none 0 0]), 1, 24) := by kernel_rfl
theorem Rd.lt {w : World} {c : Nat} {A : Option Addr} {L : Items} (h : Rd w 2 A L.length c (itV L)) {b o : Nat} (e : A = some ⟨b, o, none⟩) (hn : 0 < L.length) : b < w.heap.size := by
  obtain ⟨b', o', e', c0, _⟩ := h.item hn;rw [e] at e';injection e' with e';injection e' with e1 e2;subst e1;exact World.block_lt_of_cell? w _ c0
theorem Rd.grown {w w' : World} {L : Items} {c : Nat} {A : Option Addr} {row : Option Nat} (h : Rd w 2 A L.length c (itV L)) (hg : w.grownBy w' row) (hne : ∀ b o, A = some ⟨b, o, none⟩ → 0 < L.length → row ≠ some b) : Rd w' 2 A L.length c (itV L) := by
  refine ⟨h.1, h.2.1, h.2.2.1, h.2.2.2.1, fun hn => ?_⟩;obtain ⟨b, o, e, hc⟩ := h.2.2.2.2 hn;have hb := Rd.lt h e hn;refine ⟨b, o, e, fun j u hj => ?_⟩;exact (World.cell?_of_block (a := ⟨b, o + j, none⟩) (hg.block b hb (fun k => hne b o e hn k.symm))).trans (hc j u hj)
/-- charts in cells, none of them in a block -/
def ChsR (w : World) (row : Option Nat) (Ms : List Items) (vs : List Value) : Prop := vs.length = Ms.length ∧ ∀ (k : Nat) (h : k < Ms.length), ∃ A c, vs[k]? = some (.slice A Ms[k].length c) ∧ Rd w 2 A Ms[k].length c (itV Ms[k]) ∧ ∀ b o, A = some ⟨b, o, none⟩ → 0 < Ms[k].length → row ≠ some b
theorem ChsR.nil (w : World) (row : Option Nat) : ChsR w row [] [] := ⟨rfl, fun k h => absurd h (by simp)⟩
theorem ChsR.up {w w' : World} {row : Option Nat} {Ms : List Items} {vs : List Value} (h : ChsR w row Ms vs) (hu : Up w w') : ChsR w' row Ms vs :=
  ⟨h.1, fun k hk => let ⟨A, c, a, b, d⟩ := h.2 k hk; ⟨A, c, a, b.up hu, d⟩⟩
theorem ChsR.drop {w : World} {row : Option Nat} {M : Items} {Ms : List Items} {vs : List Value} (h : ChsR w row (M :: Ms) vs) : ChsR w row Ms (vs.drop 1) := by
  refine ⟨by have := h.1; simp at this ⊢; omega, fun k hk => ?_⟩;obtain ⟨A, c, a, b⟩ := h.2 (k + 1) (by simpa using hk);exact ⟨A, c, by rw [List.getElem?_drop, Nat.add_comm]; simpa using a, by simpa using b⟩
theorem read_step {w : World} {B : Nat} {v : Value} {Ms : List Items} {vs : List Value} {M : Items} {A : Option Addr} {c : Nat} (ty : TypeId) (ho : w.ownsRow B 26 1 v Ms.length vs) (hc : ChsR w v.ownBlock Ms vs) (hr : Rd w 2 A M.length c (itV M))
    (hf : ∀ b o, A = some ⟨b, o, none⟩ → 0 < M.length → v.ownBlock ≠ some b) (hB : B ≤ w.heap.size) (hl : Ms.length ≤ 100) :
    ∃ v' w', (Builtin.append_ #[117, 117] ty #[v, .slice (some ⟨w.heap.size, 0, none⟩) 1 1]).run Tryz.prog (w.alloc (.cells #[.slice A M.length c] 26)) = .ok v' w' ∧ w'.ownsRow B 26 1 v' (Ms.length + 1) (vs ++ [.slice A M.length c]) ∧
      ChsR w' v'.ownBlock (Ms ++ [M]) (vs ++ [.slice A M.length c]) ∧ Below B w w' := by
  obtain ⟨i0, hi0, hz0, hz1, hz2⟩ := info_parts infoChs;have hcell : ∀ j u, [Value.slice A M.length c][j]? = some u → (w.alloc (.cells #[.slice A M.length c] 26)).cell? ((⟨w.heap.size, 0, none⟩ : Addr).add j) = some u := by
    intro j u hu;have hadd : (⟨w.heap.size, 0, none⟩ : Addr).add j = ⟨w.heap.size, j, none⟩ := by unfold Addr.add; split <;> simp_all
    rw [hadd, cell_of_row _ w.heap.size j _ _ (0, 0) (heap_alloc_new w _)];simpa using hu
  have hua := (Up.refl w).alloc (.cells #[.slice A M.length c] 26);obtain ⟨v', w4, h1, h2, h3, _, hdis⟩ := run_append_own_at (P := Tryz.prog) (w.alloc (.cells #[.slice A M.length c] 26)) B 117 ty 26 i0 _ 1 24 Tryz.underlying117 hi0 hz0 hz1 hz2 rfl (by decide) v Ms.length _ (own_up ho hua) ⟨w.heap.size, 0, none⟩ 1 1 [.slice A M.length c] rfl hcell (by simp [Value.oneCell']) (by unfold maxLen; omega) (by omega) (by simp; omega);have hnew : ∀ (N : Items) A' c', Rd w 2 A' N.length c' (itV N) → (∀ b o, A' = some ⟨b, o, none⟩ → 0 < N.length → v.ownBlock ≠ some b) → Rd w4 2 A' N.length c' (itV N) ∧ ∀ b o, A' = some ⟨b, o, none⟩ → 0 < N.length → v'.ownBlock ≠ some b := by
    intro N A' c' hR hF;refine ⟨Rd.grown (hR.up hua) h3 hF, fun b o e hn => ?_⟩;rcases hdis with hd | hd
    · rw [hd]; exact hF b o e hn
    · rw [hd];have := Rd.lt hR e hn;intro k;injection k with k;simp at k;omega
  refine ⟨v', w4, h1, h2, ⟨by simp [hc.1], fun k hk => ?_⟩, Below.trans (Below.mono hua.below hB) ((Below.refl B _).grown h3 (by simp; omega) (fun k hk => ((own_up ho hua).lt k hk).1))⟩;by_cases h : k < Ms.length
  · obtain ⟨A', c', a, b, d⟩ := hc.2 k h;obtain ⟨x, y⟩ := hnew _ _ _ b d;refine ⟨A', c', ?_, ?_⟩
    · rw [List.getElem?_append_left (by rw [hc.1]; exact h), List.getElem_append_left h]; exact a
    · rw [List.getElem_append_left h]; exact ⟨x, y⟩
  · have hk2 : k = Ms.length := by simp at hk; omega
    subst hk2;obtain ⟨x, y⟩ := hnew _ _ _ hr hf;refine ⟨A, c, ?_, ?_⟩
    · rw [List.getElem_concat_length rfl];have h9 := List.getElem?_concat_length (l := vs) (a := Value.slice A M.length c);rw [hc.1] at h9;exact h9
    · rw [List.getElem_concat_length rfl]; exact ⟨x, y⟩
set_option maxHeartbeats 4000000 in
theorem uread_any (Ms : List Items) (vs : List Value) (v : Value) (M : Items) (s : Bs) (B : Nat) (RD : ∀ w, Hid (Calls Tryz.prog 13 #[.string ⟨s.toArray⟩] w (ChartG true w (0, M)))) (hl : Ms.length ≤ 100) (w : World) (hB : B ≤ w.heap.size) (ho : w.ownsRow B 26 1 v Ms.length vs) (hc : ChsR w v.ownBlock Ms vs) :
    Calls Tryz.prog 64 #[v, .string ⟨s.toArray⟩] w fun e w' => ∃ v' vs', e = .returned (.tuple #[v', .int .i64 0]) ∧ w'.ownsRow B 26 1 v' (Ms.length + 1) vs' ∧ ChsR w' v'.ownBlock (Ms ++ [M]) vs' ∧ Below B w w' := by
  have HO := Lib.hid ho;have HC := Lib.hid hc;have hlt : ∀ k, v.ownBlock = some k → k < w.heap.size := fun k hk => (ho.lt k hk).2;obtain ⟨Av, cv, rfl, _⟩ := Rd.of_own ho;have HL := Lib.hid hlt;unfold ChartG at RD;simp only at RD;clear ho hc hlt;go_enter Tryz.func64, Tryz.ntmps64;go_wp2_with fail;with_reducible refine (RD _).out.mono ?_
  rintro e w1 ⟨_, rfl, hu, hv1, _⟩;obtain ⟨A, c, rfl, r1, fr⟩ := hv1 (by first | trivial | rfl);have hn := new1 w1 26 (.slice A M.length c);have hu1 := hu.trans hn.1;have kc := hn.2.1;obtain ⟨v', w', hrun, h1, h2, h3⟩ := read_step 117 (own_up HO.out hu1) (HC.out.up hu1) (r1.up hn.1) (fun b o e hn2 hb => by have := HL.out b hb; have := fr (by first | trivial | rfl) _ e; simp at this; omega) (Nat.le_trans hB hu1.le) hl;simp only [World.size_alloc] at hrun;have H1 := Lib.hid h1;have H2 := Lib.hid h2;have H3 := Lib.hid (Below.trans (Below.mono hu1.below hB) h3);clear h1 h2 h3 hu hu1 hn hv1 r1 fr HO HC HL;go_wp2_with (at_builtin; refine wpList_append_run rfl _ _ 117 117 rfl rfl rfl hrun ?_)
  go_ret2
  exact ⟨_, _, rfl, H1.out, H2.out, H3.out⟩
def strP (ps : List (Bs × Items)) : List Value := ps.map fun p => .string ⟨p.1.toArray⟩
def FdE (w : World) (ps : List (Bs × Items)) (e : Ending) (w' : World) : Prop := ∃ v vs, e = .returned (.tuple #[v, .int .i64 0]) ∧ w'.ownsRow w.heap.size 26 1 v ps.length vs ∧ ChsR w' v.ownBlock (ps.map Prod.snd) vs ∧ Up w w'
set_option maxHeartbeats 4000000 in
theorem ufold_any (ps : List (Bs × Items)) (hl : ps.length ≤ 16) (RD : ∀ p ∈ ps, ∀ w, Hid (Calls Tryz.prog 13 #[.string ⟨p.1.toArray⟩] w (ChartG true w (0, p.2)))) (A : Option Addr) (c : Nat) (w : World) (hr : Rd w 1 A ps.length c (strP ps)) :
    Calls Tryz.prog 63 #[.slice A ps.length c, .slice none 0 0, .func (.func 64) #[] #[]] w (FdE w ps) := by
  have HR := Lib.hid hr;clear hr;go_enter Tryz.func63, Tryz.ntmps63;go_wp2_with fail;go_loopg [1, 14] ps.length (fun gk v i wr => ∃ (k : Nat) (vs : List Value), k + gk = ps.length ∧ i = .int .i64 (k : Int) ∧ wr.ownsRow w.heap.size 26 1 v ((ps.take k).map Prod.snd).length vs ∧ ChsR wr v.ownBlock ((ps.take k).map Prod.snd) vs ∧ Up w wr)
  case atStart => exact ⟨0, [], by omega, rfl, by simpa using World.ownsRow_nil _ _ _ _, by simpa using ChsR.nil w _, Up.refl w⟩
  case round =>
    obtain ⟨k, vs, hk, rfl, ho, hc, hu⟩ := hrel;by_cases hlt : k < ps.length
    · obtain ⟨m, rfl⟩ : ∃ m, gk = m + 1 := ⟨gk - 1, by omega⟩;have hltI : (k : Int) < (ps.length : Int) := by omega
      obtain ⟨b, o, u, rfl, g1, g2⟩ := (HR.out.up hu).one hlt;unfold strP at g1;rw [List.getElem?_map, List.getElem?_eq_getElem hlt] at g1;injection g1 with g1;subst g1;have hst : (ps.take (k + 1)).map Prod.snd = (ps.take k).map Prod.snd ++ [ps[k].2] := by rw [List.take_succ_eq_append_getElem hlt, List.map_append]; rfl
      have hml : ((ps.take k).map Prod.snd).length = k := by rw [List.length_map, List.length_take]; omega
      have UR := fun v vs w' hB ho hc => Lib.hid (uread_any ((ps.take k).map Prod.snd) vs v ps[k].2 ps[k].1 w.heap.size (RD _ (List.getElem_mem hlt)) (by omega) w' hB ho hc);generalize ps[k] = p at *;obtain ⟨s, M⟩ := p;simp only at g2 UR hst;have HO := Lib.hid ho;have HC := Lib.hid hc;have HU := Lib.hid hu;have HST := Lib.hid hst;clear ho hc hu hst;go_wp2_with fail;refine (UR _ _ _ HU.out.le HO.out HC.out).out.mono ?_;rintro e w2 ⟨v', vs', rfl, h1, h2, h3⟩;have H1 := Lib.hid h1;have H2 := Lib.hid h2;have H3 := Lib.hid h3;clear h1 h2 h3;go_wp2_with fail;go_roundg m
      case measure => omega
      case rel =>
        refine ⟨k + 1, vs', by omega, by go_num, ?_, ?_, Up.of (Below.trans HU.out.below H3.out)⟩
        · rw [HST.out, List.length_append]; exact H1.out
        · rw [HST.out]; exact H2.out
    · obtain rfl : k = ps.length := by omega
      rw [List.take_length] at ho hc;rw [List.length_map] at ho;have HO := Lib.hid ho;have HC := Lib.hid hc;have HU := Lib.hid hu;clear ho hc hu hlt;go_wp2_with fail;go_ret2
      exact ⟨_, _, rfl, HO.out, HC.out, HU.out⟩
/-- charts over charts -/
def overs (L : Items) (Ns : List Items) : Items := Ns.foldl overL L
theorem overs_succ (L : Items) (Ns : List Items) {k : Nat} (h : k < Ns.length) : overs L (Ns.take (k + 1)) = overL (overs L (Ns.take k)) Ns[k] := by
  unfold overs;rw [List.take_succ_eq_append_getElem h, List.foldl_append]; rfl
def FoR (w : World) (L : Items) (Ns : List Items) (gk : Nat) (i : Value) (wr : World) : Prop := ∃ (k : Nat) (A : Option Addr) (c : Nat), k + gk = Ns.length ∧ i = .int .i64 (k : Int) ∧ wr.heap[w.heap.size]? = some (.cells #[.slice A (overs L (Ns.take k)).length c] 26 (0, 0)) ∧ wr.heap[w.heap.size + 1]? = some (.cells #[.slice none 0 0] 26 (0, 0)) ∧ Rd wr 2 A (overs L (Ns.take k)).length c (itV (overs L (Ns.take k))) ∧ Up w wr
set_option maxHeartbeats 8000000 in
theorem ufold2_any (L : Items) (Ns : List Items) (hl : Ns.length ≤ 16) (OV : ∀ k (h : k < Ns.length) A1 c1 A2 c2 w, Rd w 2 A1 (overs L (Ns.take k)).length c1 (itV (overs L (Ns.take k))) → Rd w 2 A2 Ns[k].length c2 (itV Ns[k]) → Hid (Calls Tryz.prog 21 #[.agg #[.slice A1 (overs L (Ns.take k)).length c1], .agg #[.slice A2 Ns[k].length c2]] w (OfEnd w (overL (overs L (Ns.take k)) Ns[k]))))
    (A1 : Option Addr) (c1 : Nat) (A : Option Addr) (c : Nat) (vs : List Value) (row : Option Nat) (w : World) (h1 : Rd w 2 A1 L.length c1 (itV L)) (hr : Rd w 1 A Ns.length c vs) (hc : ChsR w row Ns vs) :
    Calls Tryz.prog 65 #[.slice A Ns.length c, .agg #[.slice A1 L.length c1], .func (.func 21) #[] #[]] w (OfEnd w (overs L Ns)) := by
  have n0 := ((Up.refl w).alloc (.cells #[.slice A1 L.length c1] 26)).alloc (.cells #[.slice none 0 0] 26);have q0 := ((Up.refl _).alloc (.cells #[.slice none 0 0] 26)).obj (heap_alloc_new w (.cells #[.slice A1 L.length c1] 26));have q1 := heap_alloc_new (w.alloc (.cells #[.slice A1 L.length c1] 26)) (.cells #[.slice none 0 0] 26);rw [World.size_alloc] at q1;have HR := Lib.hid hr;have HC := Lib.hid hc;have HR1 := Lib.hid (h1.up n0);have HN := Lib.hid n0;have HQ0 := Lib.hid q0;have HQ1 := Lib.hid q1;unfold OfEnd at OV;clear hr hc h1 n0 q0 q1;go_enter Tryz.func65, Tryz.ntmps65;go_wp2_with fail;go_loopg [14] Ns.length (fun gk i wr => FoR w L Ns gk i wr)
  case atStart => exact ⟨0, A1, c1, by omega, rfl, HQ0.out, HQ1.out, HR1.out, HN.out⟩
  case round =>
    obtain ⟨k, A3, c3, hk, rfl, q0, q1, r3, hu⟩ := hrel;have d0 := (blk_one q0).1;have d1 := (blk_one q1).1;have HQ0 := Lib.hid q0;have HQ1 := Lib.hid q1;have HR3 := Lib.hid r3;by_cases hlt : k < Ns.length
    · obtain ⟨m, rfl⟩ : ∃ m, gk = m + 1 := ⟨gk - 1, by omega⟩;have hltI : (k : Int) < (Ns.length : Int) := by omega
      obtain ⟨b, o, u, rfl, g1, g2⟩ := (HR.out.up hu).one hlt;obtain ⟨A4, c4, e4, r4, _⟩ := (HC.out.up hu).2 k hlt;rw [g1] at e4;injection e4 with e4;subst e4;have OVk := OV k hlt;have hst := overs_succ L Ns hlt;rw [← hst] at OVk;obtain ⟨S2, hS2⟩ : ∃ x, overs L (Ns.take (k + 1)) = x := ⟨_, rfl⟩;rw [hS2] at OVk;have HS2 := Lib.hid hS2;clear OV hst g1 hS2;generalize Ns[k] = M at *;generalize overs L (Ns.take k) = S at *;have hn := new1 wr 26 (.slice A4 M.length c4);have kd := hn.2.1;have d0' := hn.1.cell d0;have HUa := Lib.hid (hu.trans hn.1);have HR3a := Lib.hid (HR3.out.up hn.1);have HR4a := Lib.hid (r4.up hn.1);have HQ0a := Lib.hid (hn.1.obj HQ0.out);have HQ1a := Lib.hid (hn.1.obj HQ1.out);clear hn r3 r4 q0 q1 hu HR3 HQ0 HQ1;go_wp2_with fail;refine (OVk _ _ _ _ _ HR3a.out HR4a.out).out.mono ?_;rintro e w2 ⟨A5, c5, rfl, r5, hu2⟩;have hn := new1 w2 26 (.slice A5 S2.length c5);have hu3 := hu2.trans hn.1;have kn := hn.2.1;have hq0 := hu3.obj HQ0a.out;have hq1 := hu3.obj HQ1a.out;obtain ⟨d0'', z0⟩ := blk_one hq0;have HU3 := Lib.hid (HUa.out.trans hu3);have HQ0 := Lib.hid hq0;have HQ1 := Lib.hid hq1;have HR5 := Lib.hid (r5.up hn.1);clear hn hu2 hu3 r5 hq0 hq1 HUa HQ0a HQ1a HR3a HR4a OVk;go_wp2_with fail;go_roundg m
      case measure => omega
      case rel =>
        refine ⟨k + 1, A5, c5, by omega, by go_num, ?_, ?_, ?_, ?_⟩
        · rw [HS2.out]; exact heap_setCell_same _ _ 0 _ _ _ HQ0.out
        · exact (Below.heap_setCell _ ⟨w.heap.size, 0, none⟩ (.slice A5 S2.length c5) (w.heap.size + 1) (by simp)).trans HQ1.out
        · rw [HS2.out]; exact Rd.far HR5.out HQ0.out _
        · exact HU3.out.set (p := ⟨w.heap.size, 0, none⟩) (Nat.le_refl _) _
    · obtain rfl : k = Ns.length := by omega
      have HU := Lib.hid hu;rw [List.take_length] at d0 r3;have HR6 := Lib.hid r3;obtain ⟨e1, z1⟩ := blk_one q1;clear hu q0 r3 hlt HR3 HQ0 OV;generalize overs L Ns = S at *;go_wp2_with fail;have hb5 := heap_setCell_same wr (w.heap.size + 1) 0 _ _ (.slice A3 S.length c3) HQ1.out;have k5 := (blk_one hb5).1;change bodyPost _ _ _ _ _ _;refine bodyPost_ret (v := .tuple #[.agg #[.slice A3 S.length c3], .int .i64 0]) (by simp [results, Tryz.results65, go_sem, k5]) rfl ⟨A3, c3, rfl, Rd.far HR6.out HQ1.out _, HU.out.set (p := ⟨w.heap.size + 1, 0, none⟩) (by simp) _⟩
theorem merge5u {P F : Option Addr → Nat → Nat → World → Prop} {G : Prop}
    (h1 : (∀ a b f Y, F a b f Y → P a b f Y) → G) (h2 : ∀ a b f Y, F a b f Y → P a b f Y) : G := h1 h2
set_option maxHeartbeats 8000000 in
theorem ufiles_any (s : Bs) (L : Items) (rest : List (Bs × Items)) (hl : rest.length ≤ 15) (RD : ∀ p ∈ (s, L) :: rest, ∀ w, Hid (Calls Tryz.prog 13 #[.string ⟨p.1.toArray⟩] w (ChartG true w (0, p.2))))
    (OV : ∀ k (h : k < (rest.map Prod.snd).length) A1 c1 A2 c2 w, Rd w 2 A1 (overs L ((rest.map Prod.snd).take k)).length c1 (itV (overs L ((rest.map Prod.snd).take k))) → Rd w 2 A2 (rest.map Prod.snd)[k].length c2 (itV (rest.map Prod.snd)[k]) → Hid (Calls Tryz.prog 21 #[.agg #[.slice A1 (overs L ((rest.map Prod.snd).take k)).length c1], .agg #[.slice A2 (rest.map Prod.snd)[k].length c2]] w (OfEnd w (overL (overs L ((rest.map Prod.snd).take k)) (rest.map Prod.snd)[k]))))
    (out : Bs) (PR : ∀ A c w, Gl w → Rd w 2 A (overs L (rest.map Prod.snd)).length c (itV (overs L (rest.map Prod.snd))) → Hid (Calls Tryz.prog 30 #[.agg #[.slice A (overs L (rest.map Prod.snd)).length c], .agg #[.int .i64 512, .int .u8 0, .string ⟨([123, 125] : Bs).toArray⟩]] w (PressE w out 0)))
    (A : Option Addr) (c n : Nat) (hn : n = rest.length + 1) (w : World) (hgl : Gl w) (hr : Rd w 1 A n c (strP ((s, L) :: rest))) :
    Calls Tryz.prog 31 #[.slice A n c, .agg #[.int .i64 512, .int .u8 0, .string ⟨([123, 125] : Bs).toArray⟩]] w (PressE w out 0) := by
  obtain ⟨i0, hi0, hz0, hz1, hz2⟩ := info_parts infoChs;have F1 := fun w hr => Lib.hid (ufold_any ((s, L) :: rest) (by simp; omega) RD A c w hr);have F2 := fun A1 c1 A c vs row w h1 hr hc => Lib.hid (ufold2_any L (rest.map Prod.snd) (by simp; omega) OV A1 c1 A c vs row w h1 hr hc);unfold FdE at F1;unfold OfEnd at F2;unfold PressE at PR;rw [List.map_cons] at F1;clear OV RD;have hNl : (rest.map Prod.snd).length = rest.length := List.length_map ..;generalize rest.map Prod.snd = Ns at *;generalize overs L Ns = S at *;have q := heap_alloc_new w (.cells #[.int .i64 512, .int .u8 0, .string ⟨([123, 125] : Bs).toArray⟩] 53);have HU := Lib.hid ((Up.refl w).alloc (.cells #[.int .i64 512, .int .u8 0, .string ⟨([123, 125] : Bs).toArray⟩] 53));have s0 := blkc q 0 (.int .i64 512) rfl;have s1 := blkc q 1 (.int .u8 0) rfl;have s2 := blkc q 2 (.string ⟨([123, 125] : Bs).toArray⟩) rfl;have HG := Lib.hid hgl;have HR := Lib.hid (hr.up HU.out);clear q hgl hr;have hn1 : n = Ns.length + 1 := by rw [hn, hNl]
  have hpl : ((s, L) :: rest).length = n := by rw [hn]; rfl
  rw [hpl] at F1;have n0 : ((n : Int) == 0) = false := by rw [beq_eq_false_iff_ne]; omega
  have n16 : ¬ (16 : Int) < (n : Int) := by omega
  have HN1 := Lib.hid hn1;clear hn hpl hn1 hNl;go_enter Tryz.func31, Tryz.ntmps31;go_wp2_with fail;with_reducible refine (F1 _ HR.out).out.mono ?_
  rintro e v1 ⟨_, vs, rfl, ho, hc, hu⟩;have hn1 := HN1.out;obtain ⟨Av, cv, rfl, rv⟩ := Rd.of_own ho;generalize (Value.slice Av n cv).ownBlock = row at *;obtain ⟨b, o, u, rfl, g1, g2⟩ := rv.one (k := 0) (by omega);obtain ⟨A2, c2, e2, r2, _⟩ := hc.2 0 (by simp);rw [g1] at e2;injection e2 with e2;subst e2;simp only [List.getElem_cons_zero] at r2 g2;rw [Nat.add_zero] at g2;obtain ⟨A3, c3, hcut, r3⟩ := rv.cut_l (P := Tryz.prog) Tryz.underlying117 hi0 hz1 (k := 1) (by omega);have hcd := hc.drop;rw [Nat.mul_one] at r3;have hn2 : n - 1 = Ns.length := by omega
  rw [hn2] at hcut r3;have hcut2 : ∀ w', (Instr.slice 117 (.slice (some ⟨b, o, none⟩) n cv) (some (.int .i64 1)) none none).run Tryz.prog w' = .ok (.slice A3 Ns.length c3) w' := fun w' => by simpa using hcut w'
  replace s0 := hu.cell s0;replace s1 := hu.cell s1;replace s2 := hu.cell s2;replace HU := Lib.hid (HU.out.trans hu);have HR2 := Lib.hid r2;have HR3 := Lib.hid r3;have HC := Lib.hid hcd;have hpos : 0 < n := by omega
  clear ho hc hu rv r2 r3 hcd hcut hn2 hn1 g1 F1 HR hi0 hz0 hz1 hz2;go_wp2_with fail;apply merge5u (F := fun A5 c5 pp Y => Up v1 Y ∧ Y.heap[pp]? = some (.cells #[.slice A5 S.length c5] 26 (0, 0)) ∧ Rd Y 2 A5 S.length c5 (itV S))
  · intro FIN;have MK := Lib.hid (fun w' (h : Up v1 w') => (h.cell g2 : w'.cell? ⟨b, o, none⟩ = some (.slice A2 L.length c2)));refine wp_region_held_drew (S := fun w' => w'.cell? ⟨b, o, none⟩ = some (.slice A2 L.length c2)) (by kernel_rfl) (MK.out _ (Up.refl _).drew) (fun hHeld => ?_);have hU := (Up.refl v1).drew;generalize v1.drew = y0 at *;refine tk 0 rfl ?_;(try simp only [Act.put, tz1, tz2, tz3]);refine tk 1 rfl ?_;(try simp only [Act.put, tz1, tz2, tz3]);refine tk 2 rfl ?_;(try simp only [Act.put, tz1, tz2, tz3]);refine tk 3 rfl ?_;(try simp only [Act.put, tz1, tz2, tz3]);refine tk 4 rfl ?_;(try simp only [Act.put, tz1, tz2, tz3]);refine rd2 5 9 rfl rfl (fun K hK => ?_) (fun K hK => ?_);focus
      go_simp;go_at_call 65;with_reducible refine (F2 _ _ _ _ _ _ _ (HR2.out.up hU) (HR3.out.up hU) (HC.out.up hU)).out.mono ?_
      rintro e y1 ⟨A5, c5, rfl, R5, hu⟩;refine hK.out _ _ (MK.out _ (hU.trans hu)) (fun hHeld => ?_);clear hK K;(try simp only [Act.put, tz1, tz2, tz3]);replace hU := hU.trans hu;clear hu;refine tk 6 rfl ?_;(try simp only [Act.put, tz1, tz2, tz3]);refine tk 7 rfl ?_;(try simp only [Act.put, tz1, tz2, tz3]);refine tk 8 rfl ?_;(try simp only [Act.put, tz1, tz2, tz3]);refine rd1 9 rfl (fun K hK => ?_);go_simp;refine hK.out _ _ (MK.out _ (hU.alloc _)) (fun hHeld => ?_);clear hK K;(try simp only [Act.put, tz1, tz2, tz3]);have hB_p := heap_alloc_new y1 (.cells #[.slice none 0 0] 26);have ha := (Up.refl y1).alloc (.cells #[.slice none 0 0] 26);have hq_p := hU.le;replace hU := hU.trans ha;replace R5 := R5.up ha;generalize y1.alloc (.cells #[.slice none 0 0] 26) = z2 at *;generalize y1.heap.size = q_p at *;clear ha
    rotate_left;focus
      go_simp;refine hK.out _ _ (MK.out _ (hU.alloc _)) (fun hHeld => ?_);clear hK K;(try simp only [Act.put, tz1, tz2, tz3]);have hB_p := heap_alloc_new y0 (.cells #[.slice none 0 0] 26);have ha := (Up.refl y0).alloc (.cells #[.slice none 0 0] 26);have hq_p := hU.le;replace hU := hU.trans ha;generalize y0.alloc (.cells #[.slice none 0 0] 26) = z1 at *;generalize y0.heap.size = q_p at *;clear ha;refine rd1 5 rfl (fun K hK => ?_);go_simp;go_at_call 65;with_reducible refine (F2 _ _ _ _ _ _ _ (HR2.out.up hU) (HR3.out.up hU) (HC.out.up hU)).out.mono ?_
      rintro e y2 ⟨A5, c5, rfl, R5, hu⟩;refine hK.out _ _ (MK.out _ (hU.trans hu)) (fun hHeld => ?_);clear hK K;(try simp only [Act.put, tz1, tz2, tz3]);replace hU := hU.trans hu;replace hB_p := hu.obj hB_p;clear hu;refine tk 6 rfl ?_;(try simp only [Act.put, tz1, tz2, tz3]);refine tk 7 rfl ?_;(try simp only [Act.put, tz1, tz2, tz3]);refine tk 8 rfl ?_;(try simp only [Act.put, tz1, tz2, tz3])
    rotate_left;all_goals
      refine rd1 10 rfl (fun K hK => ?_);obtain ⟨k_p, z_p⟩ := blk_one hB_p;go_simp;refine hK.out _ _ (MK.out _ (hU.set (p := ⟨q_p, 0, none⟩) hq_p _)) (fun hHeld => ?_);clear hK K k_p z_p;(try simp only [Act.put, tz1, tz2, tz3]);replace hU := hU.set (p := ⟨q_p, 0, none⟩) hq_p (.slice A5 S.length c5);replace R5 := R5.far hB_p (.slice A5 S.length c5);replace hB_p := heap_setCell_same _ q_p 0 _ _ (.slice A5 S.length c5) hB_p;generalize World.setCell _ ⟨q_p, 0, none⟩ (.slice A5 S.length c5) = s3 at *;refine tk 11 rfl ?_;(try simp only [Act.put, tz1, tz2, tz3]);refine wpAnyH_done (by kernel_rfl) ?_ _;exact FIN A5 c5 q_p s3 ⟨hU, hB_p, R5⟩
  intro A5 c5 pp Y hF;obtain ⟨hY, hp, r5⟩ := hF;replace s0 := hY.cell s0;replace s1 := hY.cell s1;replace s2 := hY.cell s2;replace HU := Lib.hid (HU.out.trans hY);have kp := (blk_one hp).1;have HR5 := Lib.hid r5;clear hp r5 hY HR2 HR3 HC g2 hcut2;go_wp2_with fail;refine (PR _ _ _ (HG.out.up HU.out) HR5.out).out.mono ?_;rintro e w9 ⟨rfl, hu⟩;go_wp2_with fail;go_ret2
  exact ⟨rfl, HU.out.trans hu⟩
end Go.Proofs.YtkfococpanailaaGreatDoor
