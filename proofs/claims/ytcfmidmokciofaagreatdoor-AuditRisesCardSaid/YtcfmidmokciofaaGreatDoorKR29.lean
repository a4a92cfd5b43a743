/- Walk: slices.Sorted of a map's keys that are bytes, twelve at most: the keys, ascending. -/
import Derived.Test.YtcfmidmokciofaaGreatDoorKR17
import Derived.Sort.OwnSorted
namespace Go.Proofs.YtcfmidmokciofaaGreatDoor
open Go.RowKit Go.Gz Go.Maps Go.Sort
set_option maxRecDepth 100000
def InsE (w : World) (blk off : Nat) (d : Array Int) (e : Ending) (w' : World) : Prop := e = .returned (.tuple #[]) ∧ ∃ n, w' = putRow (Value.int .u8) (Sort.ahead w n) blk off (Sort.insertionSort ltInt d 0 d.size)
theorem aspdq12_any (blk off cap : Nat) (d : Array Int) (hn : d.size ≤ 12) (lim : Int) (w : World) (hH : Holds (Value.int .u8) w blk off d) :
    Calls Tryz.prog 139 #[.slice (some ⟨blk, off, none⟩) d.size cap, .int .i64 0, .int .i64 (d.size : Int), .int .i64 lim] w (InsE w blk off d) := by
  have hI : (d.size : Int) ≤ 12 := by omega
  have IN : RowKit.Hid (Calls Tryz.prog 185 #[.slice (some ⟨blk, off, none⟩) d.size cap, .int .i64 0, .int .i64 (d.size : Int)] w (InsE w blk off d)) := Lib.hid (ains_any blk off cap 0 d.size d w hH (Nat.zero_le _) (Nat.le_refl _) (by omega));unfold InsE at IN ⊢;generalize Sort.insertionSort ltInt d 0 d.size = d' at *;generalize d.size = n at *;clear hH;go_enter Tryz.func139, Tryz.ntmps139;go_wp2_with fail;refine wp_loop_rounds 1 ?_;rw [rounds_succ];go_wp2_with (go_at_call 185; with_reducible refine IN.out.mono ?_; rintro e w' ⟨rfl, q, rfl⟩)
  refine bodyPost_ret (results_none rfl _ _ _) rfl ?_;exact ⟨rfl, q, rfl⟩
theorem assort12_any (blk off cap : Nat) (d : Array Int) (hn : d.size ≤ 12) (w : World) (hH : Holds (Value.int .u8) w blk off d) :
    Calls Tryz.prog 86 #[.slice (some ⟨blk, off, none⟩) d.size cap] w (InsE w blk off d) := by
  have PD : ∀ lim, RowKit.Hid (Calls Tryz.prog 139 #[.slice (some ⟨blk, off, none⟩) d.size cap, .int .i64 0, .int .i64 (d.size : Int), .int .i64 lim] w (InsE w blk off d)) := fun lim => Lib.hid (aspdq12_any blk off cap d hn lim w hH);have B := fun w => Lib.hid (Tryz.bits_Len (d.size : Int) w (by omega) (by omega));have e1 : IntKind.u64.wrap (d.size : Int) = (d.size : Int) := IntWalk.u64_in _ (by omega);unfold InsE at PD ⊢;generalize Sort.insertionSort ltInt d 0 d.size = d' at *;generalize d.size = n at *;clear hH;go_enter Tryz.func86, Tryz.ntmps86;go_wp2_with fail;refine (B _).out.mono ?_;rintro e w' ⟨rfl, rfl⟩;go_wp2_with fail;with_reducible refine (PD _).out.mono ?_
  rintro e w' ⟨rfl, q, rfl⟩;go_wp2_with fail;go_end0
  exact ⟨rfl, q, rfl⟩
theorem put_tw {w : World} {n g off : Nat} {d : Array Int} : Tw [g] w (putRow (Value.int .u8) (Sort.ahead w n) g off d) := by
  refine ⟨rfl, rfl, rfl, by simp [putRow, mapBlock, Sort.ahead], fun q hq hn => ?_⟩;have hne : g ≠ q := fun e => hn (by simp [e]);simp [putRow, mapBlock, Sort.ahead, Array.getElem?_modify, hne]
theorem asc_eq : ∀ (a b : List Nat), a.Pairwise (· < ·) → b.Pairwise (· < ·) → (∀ r, r ∈ a ↔ r ∈ b) → a = b
  | [], [], _, _, _ => rfl
  | [], y :: b, _, _, h => absurd ((h y).2 (by simp)) (by simp)
  | x :: a, [], _, _, h => absurd ((h x).1 (by simp)) (by simp)
  | x :: a, y :: b, ha, hb, h => by
    obtain ⟨a1, a2⟩ := List.pairwise_cons.1 ha;obtain ⟨b1, b2⟩ := List.pairwise_cons.1 hb;have hx := (h x).1 (by simp);have hy := (h y).2 (by simp);have e : x = y := by
      rcases List.mem_cons.1 hx with e | hx
      · exact e
      · rcases List.mem_cons.1 hy with e | hy
        · exact e.symm
        · have := b1 x hx; have := a1 y hy; omega
    subst e;rw [asc_eq a b a2 b2 (fun r => ⟨fun hr => ?_, fun hr => ?_⟩)]
    · rcases List.mem_cons.1 ((h r).1 (by simp [hr])) with e | g
      · have := a1 r hr; omega
      · exact g
    · rcases List.mem_cons.1 ((h r).2 (by simp [hr])) with e | g
      · have := b1 r hr; omega
      · exact g
/-- the keys, ascending -/
def SortedE (w : World) (L : List Nat) (e : Ending) (w' : World) : Prop := ∃ A c, e = .returned (.slice A L.length c) ∧ Rd w' 1 A L.length c (L.map u8V) ∧ Up w w'
def intL (l : List Nat) : Array Int := (l.map fun r : Nat => (r : Int)).toArray
theorem ins_asc (l : List Nat) (hn : l.Nodup) : ∃ L : List Nat, Sort.insertionSort ltInt (intL l) 0 (intL l).size = intL L ∧ L.Perm l ∧ L.Pairwise (· < ·) := by
  obtain ⟨⟨h1, _, h2⟩, h3⟩ := insertionSort_holds (lt := ltInt) swo_ltInt (intL l) 0 (intL l).size (Nat.zero_le _) (Nat.le_refl _);generalize hd : Sort.insertionSort ltInt (intL l) 0 (intL l).size = d' at *;have hp : d'.toList.Perm (l.map fun r : Nat => (r : Int)) := by
    have e1 : (d'.extract 0 (intL l).size).toList = d'.toList := by rw [← h1]; simp
    have e2 : ((intL l).extract 0 (intL l).size).toList = l.map fun r : Nat => (r : Int) := by simp [intL, List.take_of_length_le]
    rw [e1, e2] at h2;exact h2
  have hnn : ∀ x ∈ d'.toList, ∃ r : Nat, x = (r : Int) := fun x hx => by
    obtain ⟨r, _, e⟩ := List.mem_map.1 (hp.mem_iff.1 hx);exact ⟨r, e.symm⟩
  obtain ⟨L, hL⟩ : ∃ L : List Nat, d'.toList = L.map fun r : Nat => (r : Int) := by
    clear hp h1 h2 h3 hd;generalize d'.toList = q at *;induction q with
    | nil => exact ⟨[], rfl⟩
    | cons x q ih =>
      obtain ⟨r, hr⟩ := hnn x (by simp);obtain ⟨L, hL⟩ := ih (fun y hy => hnn y (by simp [hy]));exact ⟨r :: L, by rw [List.map_cons, hr, hL]⟩
  have hinj : ∀ a b : Nat, (a : Int) = (b : Int) → a = b := fun a b h => by omega
  have hpl : L.Perm l := by
    rw [hL] at hp;have h := hp.map Int.toNat
    rw [List.map_map, List.map_map] at h;simpa [Function.comp_def] using h
  refine ⟨L, ?_, hpl, ?_⟩
  · unfold intL;rw [← hL]
  · have hLn : L.Nodup := hpl.nodup_iff.2 hn;have hsz : d'.size = L.length := by
      have := congrArg List.length hL;simpa using this
    rw [List.pairwise_iff_getElem];intro i j hi hj hij;have h := h3 i j (Nat.zero_le _) hij (by rw [← h1, hsz]; exact hj);have g : ∀ k (hk : k < L.length), d'[k]! = (L[k] : Int) := fun k hk => by
      have hk' : k < d'.size := by omega
      rw [getElem!_pos d' k hk', ← Array.getElem_toList];simp [hL]
    rw [g i hi, g j hj] at h;have hle : ¬ (L[j] : Int) < (L[i] : Int) := by simpa [ltInt] using h
    have hne : L[i] ≠ L[j] := (List.pairwise_iff_getElem.1 hLn) i j hi hj hij;omega
set_option maxHeartbeats 4000000 in
theorem asorted12_any (R : Value → Option (DataW Unit × List MemPlace)) (Bm b nn : Nat) (D : DataW Unit) (KS L : List Nat) (hk : KS.Nodup) (hl : KS.length ≤ 12) (hLa : L.Pairwise (· < ·)) (hLm : ∀ r, r ∈ L ↔ r ∈ KS) (w : World) (hm : w.cell? ⟨Bm, 0, none⟩ = some (.map (some b))) (hown : w.ownsMap Tryz.prog 5 R b nn D) (hKS : MapK w b (KS.map u8V)) :
    Calls Tryz.prog 35 #[.func (.func 87) #[] #[.pointer (some ⟨Bm, 0, none⟩)]] w (SortedE w L) := by
  have CO := Lib.hid (col8_any R Bm b nn D (KS.map u8V) (by rw [List.length_map]; omega) w hm hown hKS (fun x hx => by
    obtain ⟨r, _, rfl⟩ := List.mem_map.1 hx;exact ⟨_, rfl⟩))
  have HLA := Lib.hid hLa;have HLM := Lib.hid hLm;clear hm hown hKS hLa hLm;go_enter Tryz.func35, Tryz.ntmps35;go_wp2_with fail;with_reducible refine CO.out.mono ?_
  rintro e w1 ⟨A, c, ss, rfl, ⟨h1, h1b⟩, h2, h3⟩;obtain ⟨l, rfl⟩ := u8V_all ss (fun x hx => by
    obtain ⟨r, _, e⟩ := List.mem_map.1 ((h1b x).1 hx);exact ⟨r, e.symm⟩)
  have hln : l.Nodup := List.Pairwise.of_map u8V (fun a b hab e => hab (by rw [e])) h1;have hmem : ∀ r, r ∈ l ↔ r ∈ KS := fun r => by
    have := h1b (u8V r);constructor
    · intro hr;obtain ⟨q, hq, e⟩ := List.mem_map.1 (this.1 (List.mem_map.2 ⟨r, hr, rfl⟩));rw [← u8V_inj e]; exact hq
    · intro hr;obtain ⟨q, hq, e⟩ := List.mem_map.1 (this.2 (List.mem_map.2 ⟨r, hr, rfl⟩));rw [← u8V_inj e]; exact hq
  have hlen : l.length ≤ 12 := by
    have : l.Perm KS := (List.perm_ext_iff_of_nodup hln hk).2 hmem;rw [this.length_eq]; exact hl
  obtain ⟨L', e1, e2, e3⟩ := ins_asc l hln;obtain rfl : L' = L := asc_eq L' L e3 HLA.out (fun r => by rw [e2.mem_iff, hmem, HLM.out]);simp only [List.length_map] at h2 ⊢;have hLl := e2.length_eq;rw [cells_u8 (fun x hx => by
    obtain ⟨r, _, rfl⟩ := List.mem_map.1 hx;exact ⟨_, rfl⟩)] at h2
  obtain ⟨A2, c2, ev, r2⟩ := Rd.of_own h2;injection ev with ev _ ev3;subst ev; subst ev3;obtain ⟨q1, q2⟩ := h2;rcases q2 with ⟨q3, q4⟩ | ⟨g, cap, cur, q3, q4, q5, q6, q7, q8, q9⟩
  · injection q3 with q3 _ q5;subst q3; subst q5;have hl0 : l = [] := List.length_eq_zero_iff.1 q4;have hL0 : L' = [] := List.length_eq_zero_iff.1 (by rw [hLl, q4]);subst hl0; subst hL0;have H3 := Lib.hid h3;have R2 := Lib.hid r2;clear h3 r2 q1 e1 e2 e3 hLl h1 h1b hln hmem hlen CO HLA HLM;go_wp2_with fail;with_reducible refine (assort_any none 0 0 (by decide) _).mono ?_
    rintro e w2 ⟨rfl, rfl⟩;go_wp2_with fail;go_ret;exact ⟨none, 0, rfl, R2.out, H3.out⟩
  · injection q3 with q3 _ q10;subst q3; subst q10;have hH : Holds (Value.int .u8) w1 g 0 (intL l) := fun j hj => by
      have hj' : j < l.length := by simpa [intL] using hj
      refine ⟨?_, by simp [World.frozen?, q5]⟩;obtain ⟨b, o, eb, hc⟩ := r2.2.2.2.2 (by omega);injection eb with eb;injection eb with eb1 eb2;subst eb1; subst eb2;rw [hc j (.int .u8 ((l[j] : Nat) : Int)) (by rw [List.getElem?_map, List.getElem?_eq_getElem hj']; rfl)];rw [getElem!_pos (intL l) j hj];simp [intL]
    have SO := Lib.hid (assort12_any g 0 c (intL l) (by simpa [intL] using hlen) w1 hH);have hsz : (intL l).size = l.length := by simp [intL]
    have hsz2 : (intL L').size = l.length := by simp [intL, hLl]
    unfold InsE at SO;rw [e1, hsz] at SO;have HFIN : RowKit.Hid (∀ n, Rd (putRow (Value.int .u8) (Sort.ahead w1 n) g 0 (intL L')) 1 (some ⟨g, 0, none⟩) L'.length c (L'.map u8V) ∧ Up w (putRow (Value.int .u8) (Sort.ahead w1 n) g 0 (intL L'))) := Lib.hid (fun n => by
      refine ⟨⟨by simp, by rw [hLl]; exact q6, q7, fun h => by (cases h), fun _ => ⟨g, 0, rfl, fun j u hj => ?_⟩⟩, Up.tw h3 put_tw (by simpa using q4)⟩;have hjl : j < L'.length := by
        have := (List.getElem?_eq_some_iff.1 hj).1;simpa using this
      have hc := cell?_putRow (Value.int .u8) (Sort.ahead w1 n) g 0 (intL l) (intL L') (holds_ahead _ _ n _ _ _ hH) (by rw [hsz2, hsz]) j (by rw [hsz2]; omega);rw [hc, getElem!_pos (intL L') j (by rw [hsz2]; omega)];rw [List.getElem?_map, List.getElem?_eq_getElem hjl] at hj;rw [← hj];simp [intL, u8V])
    have HLL := Lib.hid hLl;clear h3 r2 q1 e1 e2 e3 h1 h1b hln hmem hlen CO HLA HLM hH hsz hsz2 hLl q4 q5 q6 q7 q8 q9;generalize intL L' = dd at *;go_wp2_with fail;with_reducible refine SO.out.mono ?_
    rintro e w2 ⟨rfl, n, rfl⟩;obtain ⟨f1, f2⟩ := HFIN.out n;have F1 := Lib.hid f1;have F2 := Lib.hid f2;clear f1 f2 SO HFIN;generalize putRow (Value.int .u8) (Sort.ahead w1 n) g 0 dd = w2 at *;rw [← HLL.out];go_wp2_with fail;go_ret;exact ⟨_, c, rfl, F1.out, F2.out⟩
end Go.Proofs.YtcfmidmokciofaaGreatDoor
