/- Walk: the entries of a pointer (an audit's leaf). -/
import Derived.Test.YtcfmidmokciofaaGreatDoorKR16
import Derived.Test.YtcfmidmokciofaaGreatDoorKR20
import Derived.Test.YtcfmidmokciofaaGreatDoorKR21
import Derived.Test.YtcfmidmokciofaaGreatDoorKR04
import Derived.Test.YtcfmidmokciofaaGreatDoorKR09
namespace Go.Proofs.YtcfmidmokciofaaGreatDoor
open Go.RowKit Go.Gz
set_option maxRecDepth 100000
/-- entries in a slice -/
def RowE4 (w : World) (l : Ents) (e : Ending) (w' : World) : Prop := ∃ A c, e = .returned (.slice A l.length c) ∧ Rd w' 4 A l.length c (entV l) ∧ Up w w'
theorem rowE4_nil {w w' : World} (h : Up w w') : RowE4 w [] (.returned (.slice none 0 0)) w' := ⟨none, 0, rfl, Rd.nil_ w' 4, h⟩
set_option maxHeartbeats 8000000 in
theorem aleaf_any (B : Nat) (p : Ent) (hp : chkE p = 0) (text : Bs) (hs : text.length ≤ 1000000000) (w : World) :
    Calls Tryz.prog 76 #[.pointer (some ⟨B, 0, none⟩), .agg #[.int .u64 (p.id : Int), .int .u64 (p.off : Int), .int .u32 (p.len : Int), .int .u32 (p.run : Int)], .string ⟨text.toArray⟩] w (RowE4 w (leafA p text)) := by
  obtain ⟨k1, k2, k3⟩ := chk_ok hp;have AT := fun w => Lib.hid (aat_any p w);simp only [entA] at AT;obtain ⟨q, hq⟩ : ∃ q, p.off + p.len = q := ⟨_, rfl⟩;have AE := fun w => Lib.hid (aend_any p.off p.len (by omega) w);rw [hq] at AE;have e3 : IntKind.u64.wrap (text.length : Int) = (text.length : Int) := IntWalk.u64_in _ (by omega);obtain ⟨nu, d0, d1, d2, d3⟩ := new4 w 72 (.int .u64 (p.id : Int)) (.int .u64 (p.off : Int)) (.int .u32 (p.len : Int)) (.int .u32 (p.run : Int));have HU := Lib.hid nu;obtain ⟨P, hP⟩ : ∃ r, leafA p text = r := ⟨_, rfl⟩;rw [hP];unfold leafA at hP;rw [hq] at hP;have x0 := part_mk text p.off p.len q hq;unfold Gz.part at x0;generalize hT : (text.drop p.off).take p.len = T at *;have hTl : T.length ≤ 1000000000 := by rw [← hT, List.length_take, List.length_drop]; omega
  clear nu hp k1 k2 hT;go_enter Tryz.func76, Tryz.ntmps76;by_cases hlong : text.length < q
  · rw [if_pos hlong] at hP;subst hP;have t0 : (text.length : Int) < (q : Int) := by omega
    go_wp2_with (first
      | (go_at_call 78; (with_reducible refine (AT _).out.mono ?_); rintro e w1 ⟨rfl, hu1⟩)
      | (go_at_call 79; (with_reducible refine (AE _).out.mono ?_); rintro e w2 ⟨rfl, hu2⟩))
    go_ret;exact rowE4_nil ((HU.out.trans hu1).trans hu2)
  · rw [if_neg hlong] at hP;have t0 : ¬ (text.length : Int) < (q : Int) := by omega
    have b1 : (p.off : Int) ≤ (q : Int) := by omega
    have b2 : (q : Int) ≤ (text.length : Int) := by omega
    have DC := fun w => Lib.hid (ddec_any T hTl w);have hrow := decD_row (s := T);have hbad := decD_bad (s := T);obtain ⟨⟨E, l⟩, hr⟩ : ∃ r, decD T = r := ⟨_, rfl⟩;rw [hr] at DC hrow hbad hP;unfold DdecE at DC;simp only at DC hrow hbad hP;have HROW := Lib.hid hrow;have HBAD := Lib.hid hbad;clear hr hlong hrow hbad
    go_wp2_with (first
      | (go_at_call 78; (with_reducible refine (AT _).out.mono ?_); rintro e w1 ⟨rfl, hu1⟩)
      | (go_at_call 79; (with_reducible refine (AE _).out.mono ?_); rintro e w2 ⟨rfl, hu2⟩))
    have HU2 := Lib.hid ((HU.out.trans hu1).trans hu2);have g0 := (hu1.trans hu2).cell d0;have g1 := (hu1.trans hu2).cell d1;have g2 := (hu1.trans hu2).cell d2;have g3 := (hu1.trans hu2).cell d3;clear d0 d1 d2 d3 hu1 hu2 HU;have MK := Lib.hid (fun w' (h : Up w2 w') => (⟨h, h.cell g0, h.cell g1, h.cell g2, h.cell g3⟩ : Up w2 w' ∧ w'.cell? ⟨w.heap.size, 0, none⟩ = some (.int .u64 (p.id : Int)) ∧ w'.cell? ⟨w.heap.size, 1, none⟩ = some (.int .u64 (p.off : Int)) ∧ w'.cell? ⟨w.heap.size, 2, none⟩ = some (.int .u32 (p.len : Int)) ∧ w'.cell? ⟨w.heap.size, 3, none⟩ = some (.int .u32 (p.run : Int))));clear g0 g1 g2 g3
    go_region_held3 (fun w' => Up w2 w' ∧ w'.cell? ⟨w.heap.size, 0, none⟩ = some (.int .u64 (p.id : Int)) ∧ w'.cell? ⟨w.heap.size, 1, none⟩ = some (.int .u64 (p.off : Int)) ∧ w'.cell? ⟨w.heap.size, 2, none⟩ = some (.int .u32 (p.len : Int)) ∧ w'.cell? ⟨w.heap.size, 3, none⟩ = some (.int .u32 (p.run : Int)))
      (first
        | assumption
        | exact MK.out _ (Up.refl _).drew
        | exact MK.out _ (Up.trans (And.left (by assumption)) (by assumption)))
      (first
        | (go_at_call 78; (with_reducible refine (AT _).out.mono ?_); rintro e w7 ⟨rfl, hu7⟩)
        | (go_at_call 79; (with_reducible refine (AE _).out.mono ?_); rintro e w8 ⟨rfl, hu8⟩)
        | (go_at_call 75; (with_reducible refine (DC _).out.mono ?_); rintro e w9 ⟨v, at9, rfl, hu9, hv1, hv2⟩; have HU9 := Lib.hid (Up.trans (And.left (by assumption)) hu9)))
    have hv : ∃ A c, v = .slice A l.length c ∧ Rd w9 4 A l.length c (entV l) := by
      by_cases hE : E = 0
      · exact hv1 hE
      · rw [HBAD.out hE, hv2 hE];exact ⟨none, 0, rfl, Rd.nil_ w9 4⟩
    obtain ⟨A, c, rfl, hrd⟩ := hv;have HRD := Lib.hid hrd;obtain ⟨_, c0, _, _, _⟩ := MK.out _ HU9.out;have HUF := Lib.hid (HU2.out.trans HU9.out);clear hv1 hv2 hrd HBAD HROW hu9 MK HU9 HU2 x0 DC AE AT hTl;cases l with
    | nil =>
      have hP : ([] : Ents) = P := by simpa using hP
      subst hP;clear c0;simp only [List.length_nil];go_wp2_with fail;refine wp_region_held_drew (S := fun w' => Up w9 w') (by kernel_rfl) ?_ (fun hHeld => ?_)
      · exact (Up.refl _).drew
      refine tk 0 rfl ?_;simp only [Act.put, List.setIfInBounds_toArray, List.set_cons_zero, List.set_cons_succ];refine tk 1 rfl ?_;simp only [Act.put, List.setIfInBounds_toArray, List.set_cons_zero, List.set_cons_succ];refine tk 2 rfl ?_;simp only [Act.put, List.setIfInBounds_toArray, List.set_cons_zero, List.set_cons_succ];refine tk 3 rfl ?_;simp only [Act.put, List.setIfInBounds_toArray, List.set_cons_zero, List.set_cons_succ];refine tk 4 rfl ?_;simp only [Act.put, List.setIfInBounds_toArray, List.set_cons_zero, List.set_cons_succ];refine tk 5 rfl ?_;simp only [Act.put, List.setIfInBounds_toArray, List.set_cons_zero, List.set_cons_succ];refine tk 6 rfl ?_;simp only [Act.put, List.setIfInBounds_toArray, List.set_cons_zero, List.set_cons_succ];refine tk 7 rfl ?_;simp only [Act.put, List.setIfInBounds_toArray, List.set_cons_zero, List.set_cons_succ];refine tk 8 rfl ?_;simp only [Act.put, List.setIfInBounds_toArray, List.set_cons_zero, List.set_cons_succ];refine tk 9 rfl ?_;simp only [Act.put, List.setIfInBounds_toArray, List.set_cons_zero, List.set_cons_succ];refine tk 10 rfl ?_;simp only [Act.put, List.setIfInBounds_toArray, List.set_cons_zero, List.set_cons_succ];refine tk 11 rfl ?_;simp only [Act.put, List.setIfInBounds_toArray, List.set_cons_zero, List.set_cons_succ];refine wpAnyH_done (by kernel_rfl) ?_ _;clear hHeld;all_goals
        go_wp2_with fail;go_ret;exact rowE4_nil HUF.out.drew
    | cons x r =>
      obtain ⟨b, o, e0, f0, _, _, _⟩ := HRD.out.ent (k := 0) (by simp);simp only [List.getElem_cons_zero, Nat.zero_mul, Nat.add_zero] at f0;subst e0;have hl1 : (List.length (x :: r) : Int) ≠ 0 := by simp; omega
      have hl2 : 0 < List.length (x :: r) := by simp
      have HL := Lib.hid hl2;have hl3 : (0 : Int) < (List.length (x :: r) : Int) := by omega
      generalize hN : List.length (x :: r) = N at *;have MK2 := Lib.hid (fun w' (h : Up w9 w') => (⟨h, h.cell c0, h.cell f0⟩ : Up w9 w' ∧ w'.cell? ⟨w.heap.size, 0, none⟩ = some (.int .u64 (p.id : Int)) ∧ w'.cell? ⟨b, o, none⟩ = some (.int .u64 (x.id : Int))));clear c0 f0;have hNe : ((N : Int) == 0) = false := by rw [beq_eq_false_iff_ne]; exact hl1
      by_cases hx : x.id = p.id
      · have hP : x :: r = P := by simpa [hx] using hP
        have hb : (p.id : Int) = (x.id : Int) := by omega
        go_wp2_with fail
        go_region_held3 (fun w' => Up w9 w' ∧ w'.cell? ⟨w.heap.size, 0, none⟩ = some (.int .u64 (p.id : Int)) ∧ w'.cell? ⟨b, o, none⟩ = some (.int .u64 (x.id : Int)))
          (first | assumption | exact MK2.out _ (Up.refl _).drew) (fail)
        all_goals
          subst hP;go_wp2_with fail;go_ret;exact ⟨_, _, (by rw [hN]; rfl), (by rw [hN]; exact HRD.out.up (Up.refl _).drew), HUF.out.drew⟩
      · have hP : [] = P := by simpa [hx] using hP
        subst hP;go_wp2_with fail
        go_region_held3 (fun w' => Up w9 w' ∧ w'.cell? ⟨w.heap.size, 0, none⟩ = some (.int .u64 (p.id : Int)) ∧ w'.cell? ⟨b, o, none⟩ = some (.int .u64 (x.id : Int)))
          (first | assumption | exact MK2.out _ (Up.refl _).drew) (fail)
        all_goals
          go_wp2_with fail;go_ret;exact rowE4_nil HUF.out.drew
end Go.Proofs.YtcfmidmokciofaaGreatDoor
/- Walks: an auditor's block in later worlds; a look at its map. -/
namespace Go.Proofs.YtcfmidmokciofaaGreatDoor
open Go.RowKit Go.Gz Go.Maps
set_option maxRecDepth 100000
section
variable {w w' : World} {B m c : Nat} {s : Bs} {h : Hdr} {F : Brk}
theorem AuR.bel (a : AuR w B m s h c F) {n : Nat} (u : Below n w w') (hB : B < n) (hm : m < n) : AuR w' B m s h c F := by
  obtain ⟨D, ⟨es, clock, hb, rest⟩, h2, h3⟩ := a.map;exact ⟨(u.block B hB).trans a.blk, ⟨D, ⟨es, clock, (u.block m hm).trans hb, rest⟩, h2, h3⟩, a.ne⟩
theorem AuR.mcell (a : AuR w B m s h c F) : ∀ q ∈ [m], ∀ (o : Nat) (v : Value), w.cell? ⟨q, o, none⟩ ≠ some v := by
  intro q hq o v hc;obtain rfl := List.mem_singleton.1 hq;obtain ⟨D, ⟨es, clock, hb, rest⟩, h2, h3⟩ := a.map;unfold World.cell? at hc;simp [hb] at hc
theorem AuR.rd (a : AuR w B m s h c F) {size n cc : Nat} {A : Option Addr} {xs : List Value} (r : Rd w size A n cc xs) (hx : 0 < n → 0 < xs.length) (t : Tw [m] w w') : Rd w' size A n cc xs :=
  r.tw t 0 fun hn => ⟨_, List.getElem?_eq_getElem (hx hn), fun q hq o => a.mcell q hq o _⟩
theorem AuR.ents (a : AuR w B m s h c F) {cc : Nat} {A : Option Addr} {l : Ents} (r : Rd w 4 A l.length cc (entV l)) (t : Tw [m] w w') : Rd w' 4 A l.length cc (entV l) :=
  a.rd r (fun hn => by have := r.1; omega) t
theorem own_tw {base size n : Nat} {e : TypeId} {v : Value} {xs : List Value} (o : w.ownsRow base e size v n xs) (t : Tw [m] w w') (hm : m < base) : w'.ownsRow base e size v n xs := by
  refine o.kept (row := some m) ⟨t.os, t.tape, t.output, t.size, fun k hk hne => t.block k hk (by simp only [List.mem_singleton]; intro e; exact hne (by rw [e]))⟩ (Or.inr fun e => ?_);have := (o.lt m e).1;omega
/-- a cell of an auditor -/
theorem AuR.at (a : AuR w B m s h c F) {k : Nat} {v : Value} (hk : (auC s h m)[k]? = some v) : w.cell? ⟨B, k, none⟩ = some v := by
  simp [World.cell?, a.blk, hk]
/-- how often a rule is broken, looked up -/
theorem AuR.look (a : AuR w B m s h c F) (r : Nat) (hr : r < 256) : (Instr.lookup 80 (.map (some m)) (.int .u8 (r : Int)) false).run Tryz.prog w = .ok (.int .i64 (F r : Int)) w := by
  obtain ⟨D, ho, hd, _⟩ := a.map;have hw : (Lit.int .u8 (r : Int)).wf = true := by simp [Lit.wf, IntKind.min, IntKind.max, IntKind.bits, IntKind.signed]; omega
  obtain ⟨x, h1, h2, _⟩ := ho.lookup_int lawU8 Tryz.underlying80 Tryz.underlying3 (zeroN w) (keyOf_int_mk Tryz.underlying5 hw);rw [hd.2.1 r hr] at h2;injection h2 with h2;injection h2 with _ h2;rw [h1, h2]
/-- append of one, its address in another spelling -/
theorem app_oneA {P : Program} (w : World) {ops : Array Oper} {rest : List Oper} {o : Oper} {a : Act} {Q : Exit → Act → World → Prop} (hgd : o.guard = none) (s x : Operand) (t : TypeId)
    (ho : o.op = .call { callee := .builtin .append, args := #[s, x], argTypes := #[t, t] })
    (base : Nat) (e : TypeId) (i : TypeInfo) (z : Value) (size bytes : Nat) (ht : P.underlying t = some (.slice e)) (hi : P.info? e = some i) (hz : i.zero = some z)
    (hsize : i.size = size) (hby : i.bytes = bytes) (hzs : z.cells.size = size) (hsz : 0 < size)
    (v : Value) (n : Nat) (xs : List Value) (hown : w.ownsRow base e size v n xs) (hs : a.eval s = v)
    (cs : Array Value) (ad : Addr) (hx : a.eval x = .slice (some ad) 1 1) (had : ad = ⟨w.heap.size, 0, none⟩) (hcs : cs.size = size) (h1 : ∀ u ∈ cs.toList, u.oneCell' = true)
    (hn : n + 1 ≤ 1000000) (hb1 : bytes ≤ 1000) (hbase : base ≤ w.heap.size)
    (h : ∀ v' w', w'.ownsRow base e size v' (n + 1) (xs ++ cs.toList) → w.grownBy w' v.ownBlock → Below base w w' → wpList P ops Q rest (a.put o.dst v') w') :
    wpList P ops Q (o :: rest) a (w.alloc (.cells cs e)) := by
  subst had;exact app_one w hgd s x t ho base e i z size bytes ht hi hz hsize hby hzs hsz v n xs hown hs cs hx hcs h1 hn hb1 hbase h
theorem Tw.bel {S : List Nat} {a b c : World} (h : Tw S a b) (k : Below a.heap.size b c) : Tw S a c :=
  ⟨k.os.trans h.os, k.tape.trans h.tape, k.output.trans h.output, Nat.le_trans h.size k.size, fun q hq hn => (k.block q hq).trans (h.block q hq hn)⟩
theorem AuR.le (a : AuR w B m s h c F) (x : Nat) : F x ≤ c := by
  obtain ⟨D, _, _, h3⟩ := a.map;exact h3 x
theorem AuR.lookz (a : AuR w B m s h c F) (r : Nat) (hr : r < 256) (z : Int) (hz : z = (r : Int)) : (Instr.lookup 80 (.map (some m)) (.int .u8 z) false).run Tryz.prog w = .ok (.int .i64 (F r : Int)) w := by rw [hz]; exact a.look r hr
/-- 'holds', the rule's number as the code has it -/
theorem aholdz_any (B m c : Nat) (s : Bs) (h : Hdr) (F : Brk) (r : Nat) (hr : r < 256) (z : Int) (hz : z = (r : Int)) (g : Bool) (hc : c ≤ 1000000000) (w : World) (a : AuR w B m s h c F) :
    Calls Tryz.prog 71 #[.pointer (some ⟨B, 0, none⟩), .int .u8 z, .bool g] w fun e w' => (∃ v, e = .returned v) ∧ AuR w' B m s h (c + 1) (hold F r g) ∧ Tw [m] w w' := by
  rw [hz]; exact aholds_any B m c s h F r hr g hc w a
end
end Go.Proofs.YtcfmidmokciofaaGreatDoor
/- Walk: the entries of an archive (an audit's entries). -/
namespace Go.Proofs.YtcfmidmokciofaaGreatDoor
open Go.RowKit Go.Gz Go.Maps
set_option maxRecDepth 100000
/-- entries, and whether they may be read on -/
def EntE (w : World) (B m c n : Nat) (s : Bs) (h : Hdr) (D : Brk × Ents) (e : Ending) (w' : World) : Prop :=
  ∃ A cc, e = .returned (.tuple #[.slice A D.2.length cc, .bool (decide (D.1 7 + D.1 8 + D.1 9 = 0))]) ∧ Rd w' 4 A D.2.length cc (entV D.2) ∧ AuR w' B m s h (c + n) D.1 ∧ Tw [m] w w' ∧ D.2.length ≤ 1000000
/-- the outer loop -/
def EnR (w : World) (B m c M : Nat) (s : Bs) (h : Hdr) (root : Ents) (text : Bs) (D : Brk × Ents) (gk : Nat) (v i : Value) (wr : World) : Prop :=
  ∃ (k : Nat) (out : Ents) (F : Brk), k + gk = root.length ∧ i = .int .i64 (k : Int) ∧ wr.ownsRow w.heap.size 72 4 v out.length (entV out) ∧ out.length ≤ k * (M + 1) ∧ AuR wr B m s h (c + 1 + k * (M + 1)) F ∧ (root.drop k).foldl (entStep text) (F, out) = D ∧ Tw [m] w wr
/-- the inner loop -/
def IdR (w : World) (B m c : Nat) (s : Bs) (h : Hdr) (l : Ents) (D : Brk) (gk : Nat) (i : Value) (wr : World) : Prop :=
  ∃ (k : Nat) (F : Brk), k + gk = l.length ∧ i = .int .i64 (k : Int) ∧ AuR wr B m s h (c + k) F ∧ deepF F (l.drop k) = D ∧ Tw [m] w wr
theorem run_gt (y : Ent) : decide ((0 : Int) < (y.run : Int)) = decide (0 < y.run) := by rw [decide_eq_decide]; omega
set_option maxHeartbeats 8000000 in
theorem aentries_any (B m c : Nat) (s : Bs) (hs : s.length ≤ 1000000000) (h : Hdr) (F : Brk) (hr0 : h.r0 + h.r1 ≤ 1099511627776) (hl0 : h.l0 + h.l1 ≤ 1099511627776) (M : Nat)
    (hM : ∀ x ∈ (decD (secT s h.r0 h.r1)).2, x.run = 0 → (leafA x (secT s h.l0 h.l1)).length ≤ M) (hB : (decD (secT s h.r0 h.r1)).2.length * (M + 1) ≤ 1000000) (hc : c ≤ 900000000) (w : World) (a : AuR w B m s h c F) :
    Calls Tryz.prog 33 #[.pointer (some ⟨B, 0, none⟩)] w (EntE w B m c 1000002 s h (entF s h F)) := by
  have TX := fun f n hfn w a => Lib.hid (atext_any B m c s hs h F f n hfn w a);have HH := fun c r (hr : r < 256) z hz F g hc w a => Lib.hid (aholdz_any B m c s h F r hr z hz g hc w a);obtain ⟨i0, hi0, hz0, hz1, hz2⟩ := info_parts infoEn;obtain ⟨D, hD⟩ : ∃ D, entF s h F = D := ⟨_, rfl⟩;rw [hD];unfold entF at hD;have hTl : (secT s h.r0 h.r1).length ≤ 1000000000 := by unfold secT; rw [List.length_take, List.length_drop]; omega
  have hLl : (secT s h.l0 h.l1).length ≤ 1000000000 := by unfold secT; rw [List.length_take, List.length_drop]; omega
  have DC := fun w => Lib.hid (ddec_any (secT s h.r0 h.r1) hTl w);have hrow := decD_row (s := secT s h.r0 h.r1);have hbad := decD_bad (s := secT s h.r0 h.r1);obtain ⟨rt, hrt⟩ : ∃ x, secT s h.r0 h.r1 = x := ⟨_, rfl⟩;have TR := fun w a => TX h.r0 h.r1 hr0 w a;rw [hrt] at hD hM hB DC hrow hbad TR;obtain ⟨⟨E, root⟩, hr⟩ : ∃ r, decD rt = r := ⟨_, rfl⟩;rw [hr] at hD hM hB DC hrow hbad;unfold DdecE at DC;simp only at hD hM hB DC hrow hbad;have hrow' : rowE root = 0 := by
    by_cases hE : E = 0
    · exact hrow hE
    · rw [hbad hE]; rfl
  have hll := row_len hrow';have hchk : ∀ x ∈ root, chkE x = 0 := fun x hx => row_chk hrow' hx;have HBAD := Lib.hid hbad;have c1 : w.cell? ⟨B, 1, none⟩ = some (.int .u64 (h.r0 : Int)) := a.at rfl;have c2 : w.cell? ⟨B, 2, none⟩ = some (.int .u64 (h.r1 : Int)) := a.at rfl;have A0 := Lib.hid a;have HD := Lib.hid hD;have hEd : (E == 0) = decide (E = 0) := by by_cases hE : E = 0 <;> simp [hE]
  clear a hrow hbad hr hrow' hTl hrt;go_enter Tryz.func33, Tryz.ntmps33;go_wp2_with fail;with_reducible refine (TR _ A0.out).out.mono ?_
  rintro e w1 ⟨rfl, hu1⟩;have A1 := Lib.hid (A0.out.up hu1);have T1 := Lib.hid (Tw.up (S := [m]) hu1);clear c1 c2 hu1 TR;go_wp2_with fail;with_reducible refine (DC _).out.mono ?_
  rintro e w2 ⟨v, at2, rfl, hu2, hv1, hv2⟩;have hv : ∃ A c, v = .slice A root.length c ∧ Rd w2 4 A root.length c (entV root) := by
    by_cases hE : E = 0
    · exact hv1 hE
    · rw [HBAD.out hE, hv2 hE];exact ⟨none, 0, rfl, Rd.nil_ w2 4⟩
  obtain ⟨RA, rc, rfl, hrd⟩ := hv;have RD := Lib.hid hrd;have A2 := Lib.hid (A1.out.up hu2);have T2 := Lib.hid (T1.out.trans (Tw.up hu2));clear hv1 hv2 hrd hu2 HBAD A1 T1 DC;have TL := fun w3 c3 F3 (a3 : AuR w3 B m s h c3 F3) => Lib.hid (atext_any B m c3 s hs h F3 h.l0 h.l1 hl0 w3 a3);go_wp2_with (go_at_call 71; (with_reducible refine (HH c 7 (by decide) 7 rfl F _ (by omega) _ A2.out).out.mono ?_); rintro e w3 ⟨⟨v3, rfl⟩, a3, t3⟩; have R3 := Lib.hid (A2.out.ents RD.out t3); have T3 := Lib.hid (T2.out.trans t3); have A3 := Lib.hid a3; have c1 : w3.cell? ⟨B, 5, none⟩ = some (.int .u64 (h.l0 : Int)) := a3.at rfl; have c2 : w3.cell? ⟨B, 6, none⟩ = some (.int .u64 (h.l1 : Int)) := a3.at rfl; clear a3 t3 A2 T2 RD)
  with_reducible refine (TL _ _ _ A3.out).out.mono ?_
  rintro e w4 ⟨rfl, hu4⟩;have A4 := Lib.hid (A3.out.up hu4);have R4 := Lib.hid (R3.out.up hu4);have T4 := Lib.hid (T3.out.trans (Tw.up hu4));clear hu4 A3 R3 T3 c1 c2 TL TX;go_wp2_with fail;generalize hold F 7 (decide (E = 0)) = F0 at *;generalize secT s h.l0 h.l1 = text at *;clear hEd hr0 hl0;have hBm := A4.out.lt;go_loopg [7, 39] root.length (fun gk v i wr => EnR w4 B m c M s h root text D gk v i wr)
  case atStart => exact ⟨0, [], F0, by omega, rfl, by simpa [entV_nil] using World.ownsRow_nil _ _ _ _, by simp, by simpa using A4.out, by rw [List.drop_zero]; exact HD.out, Tw.refl _ _⟩
  case round =>
    obtain ⟨k, out, F1, hk, rfl, ho, hol, ha, hgo, ht⟩ := hrel;have HO := Lib.hid ho;have HA := Lib.hid ha;have HT := Lib.hid ht;have hrr := A4.out.ents R4.out ht;clear ho ha ht;by_cases hlt : k < root.length
    · obtain ⟨gn, rfl⟩ : ∃ x, gk = x + 1 := ⟨gk - 1, by omega⟩;obtain ⟨b, o, rfl, d0, d1, d2, d3⟩ := hrr.ent hlt;have hmem := List.getElem_mem hlt;have hcx := hchk _ hmem;have hpl := hM _ hmem;rw [List.drop_eq_getElem_cons hlt, List.foldl_cons] at hgo;obtain ⟨x, hx⟩ : ∃ x, root[k] = x := ⟨_, rfl⟩;rw [hx] at d0 d1 d2 d3 hcx hgo hpl;have LF := fun w => Lib.hid (aleaf_any B x hcx text hLl w);unfold RowE4 at LF;have hkB : (k + 1) * (M + 1) ≤ 1000000 := Nat.le_trans (Nat.mul_le_mul_right _ (by omega)) hB;have hkB2 : (k + 1) * (M + 1) = k * (M + 1) + (M + 1) := by rw [Nat.add_mul, Nat.one_mul]
      generalize hK : k * (M + 1) = K at *;have kI : (k : Int) < (root.length : Int) := by omega
      obtain ⟨nu, z0, z1, z2, z3⟩ := new4 wr 72 (.int .u64 (x.id : Int)) (.int .u64 (x.off : Int)) (.int .u32 (x.len : Int)) (.int .u32 (x.run : Int));have NU := Lib.hid nu;have HGO := Lib.hid hgo;clear nu hx hmem hcx hgo hrr hM hchk;by_cases hrun : 0 < x.run
      · have r0 : (0 : Int) < (x.run : Int) := by omega
        have hg2 := HGO.out;unfold entStep at hg2;rw [if_pos hrun] at hg2;have HG2 := Lib.hid hg2;have o3 := own_up HO.out NU.out;have hle4 : w4.heap.size ≤ (wr.alloc (.cells #[.int .u64 (x.id : Int), .int .u64 (x.off : Int), .int .u32 (x.len : Int), .int .u32 (x.run : Int)] 72)).heap.size := Nat.le_trans HT.out.size NU.out.le;clear hg2 hrun LF HGO;go_wp2_with (at_builtin; refine app_oneA (wr.alloc (.cells #[.int .u64 (x.id : Int), .int .u64 (x.off : Int), .int .u32 (x.len : Int), .int .u32 (x.run : Int)] 72)) rfl _ _ 38 rfl w4.heap.size 72 i0 _ 4 24 Tryz.underlying38 hi0 hz0 hz1 hz2 rfl (by decide) _ _ _ o3 rfl #[.int .u64 (x.id : Int), .int .u64 (x.off : Int), .int .u32 (x.len : Int), .int .u32 (x.run : Int)] _ rfl (by simp) rfl (by simp [Value.oneCell']) (by omega) (by omega) hle4 ?_; intro v7 w7 ho7 hg7 hb7; have HO7 := Lib.hid ho7; have HB7 := Lib.hid hb7; clear ho7 hg7 hb7)
        go_roundg gn
        case measure => omega
        case rel =>
          refine ⟨k + 1, out ++ [x], F1, by omega, by go_num, ?_, ?_, (((HA.out.up NU.out).bel HB7.out hBm.1 hBm.2).low (by omega)), HG2.out, (HT.out.trans (Tw.up NU.out)).bel HB7.out⟩
          · rw [List.length_append, entV_app]; exact HO7.out
          · rw [List.length_append, List.length_singleton]; omega
      · have r0 : ¬ (0 : Int) < (x.run : Int) := by omega
        have hpl := hpl (by omega);have hg2 := HGO.out;unfold entStep at hg2;rw [if_neg hrun] at hg2;simp only at hg2;have HG2 := Lib.hid hg2;clear hg2 hrun HGO;go_wp2_with fail;with_reducible refine (LF _).out.mono ?_
        rintro e w5 ⟨A1, c1, rfl, r1, hu5⟩;obtain ⟨l, hl⟩ : ∃ l, leafA x text = l := ⟨_, rfl⟩;rw [hl] at HG2 hpl r1 LF;simp only [hl];have O5 := Lib.hid (own_up HO.out (NU.out.trans hu5));have A5 := Lib.hid (HA.out.up (NU.out.trans hu5));have T5 := Lib.hid (HT.out.trans (Tw.up (NU.out.trans hu5)));have R5 := Lib.hid r1;have gt8 : decide ((0 : Int) < (l.length : Int)) = decide (0 < l.length) := by rw [decide_eq_decide]; omega
        clear hu5 r1 HO HA HT NU LF z0 z1 z2 z3 d0 d1 d2 d3 hl;go_wp2_with (go_at_call 71; (with_reducible refine (HH _ 8 (by decide) 8 rfl F1 _ (by omega) _ A5.out).out.mono ?_); rintro e w6 ⟨⟨v6, rfl⟩, a6, t6⟩; have R6 := Lib.hid (A5.out.ents R5.out t6); have T6 := Lib.hid (T5.out.trans t6); have A6 := Lib.hid a6; have O6 := Lib.hid (own_tw O5.out t6 hBm.2); clear a6 t6 A5 T5 R5 O5)
        obtain ⟨F2, hF2⟩ : ∃ F2, hold F1 8 (decide (0 < l.length)) = F2 := ⟨_, rfl⟩;rw [hF2] at A6 HG2;obtain ⟨DD, hDD⟩ : ∃ DD, deepF F2 l = DD := ⟨_, rfl⟩;rw [hDD] at HG2;have HDD := Lib.hid hDD;have HL := Lib.hid hpl;clear hF2 hDD gt8;go_loopg [61] l.length (fun gk i wr => IdR w6 B m (c + 1 + K + 1) s h l DD gk i wr)
        case atStart => exact ⟨0, F2, by omega, rfl, by simpa using A6.out, by rw [List.drop_zero]; exact HDD.out, Tw.refl _ _⟩
        case round =>
          obtain ⟨k3, F3, hk3, rfl, ha3, hgo3, ht3⟩ := hrel;have HA3 := Lib.hid ha3;have HT3 := Lib.hid ht3;have hr3 := A6.out.ents R6.out ht3;clear ha3 ht3;by_cases hlt3 : k3 < l.length
          · obtain ⟨gn3, rfl⟩ : ∃ x, gk = x + 1 := ⟨gk - 1, by omega⟩;obtain ⟨b3, o3, rfl, d0, d1, d2, d3⟩ := hr3.ent hlt3;rw [List.drop_eq_getElem_cons hlt3] at hgo3;obtain ⟨y, hy⟩ : ∃ y, l[k3] = y := ⟨_, rfl⟩;rw [hy] at d0 d1 d2 d3 hgo3;unfold deepF at hgo3;rw [List.foldl_cons] at hgo3;change deepF _ _ = _ at hgo3;have HG3 := Lib.hid hgo3;have k3I : (k3 : Int) < (l.length : Int) := by omega
            have gt9 := run_gt y;obtain ⟨nu, z0, z1, z2, z3⟩ := new4 wr 72 (.int .u64 (y.id : Int)) (.int .u64 (y.off : Int)) (.int .u32 (y.len : Int)) (.int .u32 (y.run : Int));have NU3 := Lib.hid nu;have A7 := Lib.hid (HA3.out.up nu);clear nu hgo3 hr3 hy;go_wp2_with (go_at_call 71; (with_reducible refine (HH _ 9 (by decide) 9 rfl F3 _ (by omega) _ A7.out).out.mono ?_); rintro e w8 ⟨⟨v8, rfl⟩, a8, t8⟩; have A8 := Lib.hid a8; have T8 := Lib.hid ((HT3.out.trans (Tw.up NU3.out)).trans t8); clear a8 t8)
            go_roundg gn3
            case measure => omega
            case rel => exact ⟨k3 + 1, _, by omega, by go_num, A8.out, HG3.out, T8.out⟩
          · obtain rfl : k3 = l.length := by omega
            obtain rfl : gk = 0 := by omega
            rw [List.drop_length] at hgo3;have hgo3 : F3 = DD := hgo3;subst hgo3;have O9 := own_tw O6.out HT3.out hBm.2;have T9 := Lib.hid (T6.out.trans HT3.out);have R9 := Lib.hid hr3;have k3I : ¬ (l.length : Int) < (l.length : Int) := by omega
            clear hr3 hlt3;go_wp2_with (at_builtin; refine wpList_append_rd _ rfl _ _ 38 rfl w4.heap.size 72 i0 _ 4 24 Tryz.underlying38 hi0 hz0 hz1 hz2 rfl (by decide) _ _ _ rfl O9 A1 l.length c1 (entV l) rfl R9.out (entV_one _) (by omega) (by omega) T9.out.size ?_; intro v7 w7 ho7 hb7; have HO7 := Lib.hid ho7; have HB7 := Lib.hid hb7; clear ho7 hb7)
            go_roundg gn
            case measure => omega
            case rel =>
              refine ⟨k + 1, out ++ l, F3, by omega, by go_num, ?_, ?_, ((HA3.out.bel HB7.out hBm.1 hBm.2).low (by have := HL.out; omega)), HG2.out, T9.out.bel HB7.out⟩
              · rw [List.length_append, entV_app]; exact HO7.out
              · have := HL.out; rw [List.length_append]; omega
    · obtain rfl : k = root.length := by omega
      obtain rfl : gk = 0 := by omega
      rw [List.drop_length] at hgo;have hgo : (F1, out) = D := hgo;subst hgo;obtain ⟨A9, c9, rfl, r9⟩ := Rd.of_own HO.out;have AF := Lib.hid ((HA.out.up (Up.refl _).drew).low (show c + 1 + root.length * (M + 1) ≤ c + 1000002 by omega));have RF := Lib.hid (r9.up (Up.refl _).drew);have TF := Lib.hid (T4.out.trans (HT.out.trans (Tw.up (Up.refl _).drew)));have l7 := HA.out.le 7;have l8 := HA.out.le 8;have l9 := HA.out.le 9;have k0 : wr.drew.cell? ⟨B, 25, none⟩ = some (.map (some m)) := AF.out.at rfl;have g7 := AF.out.lookz 7 (by decide) 7 rfl;have g8 := AF.out.lookz 8 (by decide) 8 rfl;have g9 := AF.out.lookz 9 (by decide) 9 rfl;have e1 : IntKind.i64.wrap ((F1 7 : Int) + (F1 8 : Int)) = (F1 7 : Int) + (F1 8 : Int) := IntWalk.i64_in _ (by omega);have e2 : IntKind.i64.wrap ((F1 7 : Int) + (F1 8 : Int) + (F1 9 : Int)) = (F1 7 : Int) + (F1 8 : Int) + (F1 9 : Int) := IntWalk.i64_in _ (by omega);have e3 : ((F1 7 : Int) + (F1 8 : Int) + (F1 9 : Int) == 0) = decide (F1 7 + F1 8 + F1 9 = 0) := by
        rw [Bool.eq_iff_iff]; simp; omega
      have kI : ¬ (root.length : Int) < (root.length : Int) := by omega
      clear hlt HO HA HT hrr r9;have hlen : out.length ≤ 1000000 := by omega
      go_wp2_with fail;have hS : (fun w' : World => w'.cell? ⟨B, 25, none⟩ = some (.map (some m)) ∧ (Instr.lookup 80 (.map (some m)) (.int .u8 7) false).run Tryz.prog w' = .ok (.int .i64 (F1 7 : Int)) w' ∧ (Instr.lookup 80 (.map (some m)) (.int .u8 8) false).run Tryz.prog w' = .ok (.int .i64 (F1 8 : Int)) w' ∧ (Instr.lookup 80 (.map (some m)) (.int .u8 9) false).run Tryz.prog w' = .ok (.int .i64 (F1 9 : Int)) w') wr.drew := ⟨k0, g7, g8, g9⟩;clear k0 g7 g8 g9;go_region_held3 (fun w' => w'.cell? ⟨B, 25, none⟩ = some (.map (some m)) ∧ (Instr.lookup 80 (.map (some m)) (.int .u8 7) false).run Tryz.prog w' = .ok (.int .i64 (F1 7 : Int)) w' ∧ (Instr.lookup 80 (.map (some m)) (.int .u8 8) false).run Tryz.prog w' = .ok (.int .i64 (F1 8 : Int)) w' ∧ (Instr.lookup 80 (.map (some m)) (.int .u8 9) false).run Tryz.prog w' = .ok (.int .i64 (F1 9 : Int)) w') (first | assumption | exact hS) (fail)
      all_goals
        go_wp2_with fail;refine bodyPost_ret (v := .tuple #[.slice A9 out.length c9, .bool (decide (F1 7 + F1 8 + F1 9 = 0))]) (by simp [results, Tryz.results33, go_sem]) rfl ?_;exact ⟨A9, c9, rfl, RF.out, AF.out, TF.out, hlen⟩
end Go.Proofs.YtcfmidmokciofaaGreatDoor
