/- Walks: gazetteerref09.Leaves, gazetteerref14.piece. -/
import Derived.Test.YtbfieomjobbhoaaGreatDoorMN40
import Derived.Test.YtbfieomjobbhoaaGreatDoorMN25
import Derived.Test.YtbfieomjobbhoaaGreatDoorMN19
import Derived.Test.YtbfieomjobbhoaaGreatDoorMN10
import Derived.Test.YtbfieomjobbhoaaGreatDoorMN12
namespace Go.Proofs.YtbfieomjobbhoaaGreatDoor
open Go.RowKit Go.Gz Go.Shelf
set_option maxRecDepth 100000
def isL (e : Ent) : Bool := e.run == 0
set_option maxHeartbeats 2000000 in
theorem r9leaves_any (L : Ents) (hl : L.length ≤ 900000) (A : Option Addr) (c : Nat) (w : World) (hr : Rd w 4 A L.length c (entV L)) :
    Calls Tryz.prog 130 #[.slice A L.length c] w (EBackE w (L.filter isL)) := by
  obtain ⟨i0, hi, hz0, hz1, hz2⟩ := info_parts infoEr;have HR := Lib.hid hr;clear hr;go_enter Tryz.func130, Tryz.ntmps130;go_wp2_with fail;go_loopg [3, 4] L.length (fun gk v i wr => ∃ k : Nat, k + gk = L.length ∧ i = .int .i64 k ∧ OwnRe wr w.heap.size v ((L.take k).filter isL) ∧ Up w wr)
  case atStart => exact ⟨0, by omega, rfl, World.ownsRow_nil _ _ _ _, Up.refl w⟩
  case round =>
    obtain ⟨k, hk, rfl, ho, hu⟩ := hrel;have HO := Lib.hid ho;have HU := Lib.hid hu;clear ho;by_cases hlt : k < L.length
    · obtain ⟨m, rfl⟩ : ∃ m, gk = m + 1 := ⟨gk - 1, by omega⟩;have hd : (L.take (k + 1)).filter isL = (L.take k).filter isL ++ (if isL L[k] = true then [L[k]] else []) := by
        rw [List.take_succ_eq_append_getElem hlt, List.filter_append];by_cases h : isL L[k] = true <;> simp [h]
      obtain ⟨B, o, rfl, hc1, hc2, hc3, hc4⟩ := (HR.out.up hu).ent hlt;obtain ⟨⟨xid, xof, xln, xrn⟩, hx⟩ : ∃ x, L[k]'hlt = x := ⟨_, rfl⟩;rw [hx] at hc1 hc2 hc3 hc4 hd;simp only at hc1 hc2 hc3 hc4;have hltI : (k : Int) < (L.length : Int) := by omega
      have hml : ((L.take k).filter isL).length ≤ k := Nat.le_trans (List.length_filter_le _ _) (by rw [List.length_take]; omega);by_cases h0 : xrn = 0
      · subst h0;have HD := Lib.hid (show (L.take (k + 1)).filter isL = (L.take k).filter isL ++ [⟨xid, xof, xln, 0⟩] from hd);clear hx hu hd;go_wp2_with (at_builtin; refine app_one wr rfl _ _ 28 rfl w.heap.size 87 i0 _ 4 24 Tryz.underlying28 hi hz0 hz1 hz2 rfl (by decide) _ _ _ HO.out rfl #[.int .u64 (xid : Int), .int .u64 (xof : Int), .int .u32 (xln : Int), .int .u32 0] rfl rfl (by simp [Value.oneCell']) (by omega) (by omega) (by have := HU.out.le; omega) ?_; intro v3 w3 ho3 hg3 hb3)
        go_roundg m
        case measure => omega
        case rel =>
          refine ⟨k + 1, by omega, by go_num, ?_, Up.of (Below.trans HU.out.below hb3)⟩;rw [HD.out];unfold OwnRe;rw [entV_app, List.length_append];exact ho3
      · have e0 : ((xrn : Int) == 0) = false := by rw [beq_eq_false_iff_ne]; omega
        have HD := Lib.hid (show (L.take (k + 1)).filter isL = (L.take k).filter isL by rw [hd, if_neg (by simp [isL, h0]), List.append_nil]);clear hx hu hd h0;go_wp2_with fail;go_roundg m
        case measure => omega
        case rel => exact ⟨k + 1, by omega, by go_num, by rw [HD.out]; exact HO.out, HU.out⟩
    · obtain rfl : k = L.length := by omega
      have hO := HO.out;rw [List.take_length] at hO;have HO2 := Lib.hid hO;clear hO hu hlt;go_wp2_with fail;go_ret;exact ⟨_, rfl, HO2.out, HU.out⟩
theorem leaves_any_iff (l : Ents) : (l.any fun e => e.run == 0) = decide (0 < (l.filter isL).length) := by
  rw [Bool.eq_iff_iff, decide_eq_true_eq, List.length_pos_iff, List.any_eq_true];constructor
  · rintro ⟨e, he, h⟩ h0;have : e ∈ l.filter isL := List.mem_filter.2 ⟨he, h⟩;rw [h0] at this;cases this
  · intro h;obtain ⟨e, he⟩ := List.exists_mem_of_ne_nil _ h;exact ⟨e, (List.mem_filter.1 he).1, (List.mem_filter.1 he).2⟩
set_option maxHeartbeats 16000000 in
theorem r14piece_any (p : Ent) (hc : chkE p = 0) (text : Bs) (hs : text.length ≤ 1000000) (w : World) :
    Calls Tryz.prog 70 #[entA p, .string ⟨text.toArray⟩] w (EntsE w (pieceE p text)) := by
  obtain ⟨hck1, _, hck3⟩ := chk_ok hc;have hpe : pieceE p text = if text.length < p.off + p.len then (8, []) else if (decD ((text.drop p.off).take p.len)).1 ≠ 0 then ((decD ((text.drop p.off).take p.len)).1, []) else if (decD ((text.drop p.off).take p.len)).2.any (fun e => e.run == 0) then (20, []) else if ((decD ((text.drop p.off).take p.len)).2.head?.map fun e => e.id) ≠ some p.id then (10, []) else (0, (decD ((text.drop p.off).take p.len)).2) := rfl
  have hss : (⟨text.toArray⟩ : ByteArray).size = text.length := by simp [ByteArray.size]
  have DC := fun w => Lib.hid (r8dec_any ((text.drop p.off).take p.len) (by rw [List.length_take, List.length_drop]; omega) w);have hdl := decD_len (s := (text.drop p.off).take p.len);have hln : ((text.drop p.off).take p.len).length ≤ text.length := by rw [List.length_take, List.length_drop]; omega
  have hpm := part_mk text p.off p.len (p.off + p.len) rfl;unfold Gz.part at hpm;generalize (text.drop p.off).take p.len = T at *;obtain ⟨⟨E, l⟩, hd⟩ : ∃ r, decD T = r := ⟨_, rfl⟩;rw [hd] at hpe DC hdl;unfold DecRE at DC;simp only at hpe DC hdl;generalize pieceE p text = PE at *;obtain ⟨id, off, len, run⟩ := p;simp only [entA] at *;have n0 := new4 w 87 (.int .u64 (id : Int)) (.int .u64 (off : Int)) (.int .u32 (len : Int)) (.int .u32 (run : Int));have HU0 := Lib.hid n0.1;obtain ⟨c0, c1, c2, c3⟩ := n0.2;have e1 : IntKind.u64.wrap (len : Int) = (len : Int) := IntWalk.u64_in _ (by omega);have e2 : IntKind.u64.wrap ((off : Int) + (len : Int)) = (off : Int) + (len : Int) := IntWalk.u64_in _ (by omega);have e3 : IntKind.u64.wrap (text.length : Int) = (text.length : Int) := IntWalk.u64_in _ (by omega);clear n0 hd hc hck1;by_cases g1 : text.length < off + len
  · rw [if_pos g1] at hpe;subst hpe;have gI : (text.length : Int) < (off : Int) + (len : Int) := by omega
    clear DC hdl hln hpm g1 hck3;go_enter Tryz.func70, Tryz.ntmps70;go_wp2_with fail;go_ret2
    exact ents_bad (by decide) HU0.out
  rw [if_neg g1] at hpe;have gI : ¬ (text.length : Int) < (off : Int) + (len : Int) := by omega
  have b0 : (0 : Int) ≤ (off : Int) := by omega
  have b1 : (off : Int) ≤ (off : Int) + (len : Int) := by omega
  have b2 : (off : Int) + (len : Int) ≤ (text.length : Int) := by omega
  have HPE := Lib.hid hpe;clear g1 hck3 hpe;go_enter Tryz.func70, Tryz.ntmps70;go_wp2_with fail;with_reducible refine (DC _).out.mono ?_
  rintro e w1 ⟨A1, d1, at1, rfl, r1, hu1⟩;replace c0 := hu1.cell c0;have HU1 := Lib.hid (HU0.out.trans hu1);have R1 := Lib.hid r1;clear hu1 r1 DC c1 c2 c3 HU0 hpm;by_cases hE : E = 0
  · subst hE;have LV := fun w hr => Lib.hid (r9leaves_any l (by omega) A1 d1 w hr);unfold EBackE at LV;go_wp2_with fail;with_reducible refine (LV _ R1.out).out.mono ?_
    rintro e w2 ⟨v2, rfl, o2, hu2⟩;obtain ⟨A2, d2, rfl, r2⟩ := Rd.of_own o2;replace c0 := hu2.cell c0;have HU2 := Lib.hid (HU1.out.trans hu2);have R2 := Lib.hid (R1.out.up hu2);have hany := leaves_any_iff l;clear o2 r2 hu2 LV R1 HU1;generalize (l.filter isL).length = nl at *;by_cases g3 : 0 < nl
    · have gI3 : (0 : Int) < (nl : Int) := by omega
      have hp2 := HPE.out;rw [if_neg (by simp), if_pos (by rw [hany]; exact decide_eq_true g3)] at hp2;have HP2 := Lib.hid hp2;clear hp2 HPE g3 R2 hany;go_wp2_with fail;go_ret2
      rw [HP2.out];exact ents_bad (by decide) HU2.out
    · have gI3 : ¬ (0 : Int) < (nl : Int) := by omega
      have hp2 := HPE.out;rw [if_neg (by simp), if_neg (by rw [hany, decide_eq_false g3]; simp)] at hp2;have c0d : w2.drew.cell? ⟨w.heap.size, 0, none⟩ = some (.int .u64 (id : Int)) := c0;cases l with
      | nil =>
        rw [if_pos (by simp)] at hp2;have HP2 := Lib.hid hp2;clear hp2 HPE g3 R2 hany;go_wp2_with fail;refine wp_region_held_drew (S := fun w' => w'.cell? ⟨w.heap.size, 0, none⟩ = some (.int .u64 (id : Int))) (by kernel_rfl) ?_ (fun hHeld => ?_)
        · exact c0d
        refine tk 0 rfl ?_;(try simp only [Act.put, tz1, tz2, tz3]);refine tk 1 rfl ?_;(try simp only [Act.put, tz1, tz2, tz3]);refine tk 2 rfl ?_;(try simp only [Act.put, tz1, tz2, tz3]);refine tk 3 rfl ?_;(try simp only [Act.put, tz1, tz2, tz3]);refine tk 4 rfl ?_;(try simp only [Act.put, tz1, tz2, tz3]);refine tk 5 rfl ?_;(try simp only [Act.put, tz1, tz2, tz3]);refine tk 6 rfl ?_;(try simp only [Act.put, tz1, tz2, tz3]);refine tk 7 rfl ?_;(try simp only [Act.put, tz1, tz2, tz3]);refine tk 8 rfl ?_;(try simp only [Act.put, tz1, tz2, tz3]);refine tk 9 rfl ?_;(try simp only [Act.put, tz1, tz2, tz3]);refine tk 10 rfl ?_;(try simp only [Act.put, tz1, tz2, tz3]);refine tk 11 rfl ?_;(try simp only [Act.put, tz1, tz2, tz3]);refine wpAnyH_done (by kernel_rfl) ?_ _;go_wp2_with fail;go_ret2
        rw [HP2.out];exact ents_bad (by decide) HU2.out.drew
      | cons x r =>
        obtain ⟨b, o, rfl, x0, x1, x2, x3⟩ := R2.out.ent (k := 0) (by simp);simp only [Nat.zero_mul, Nat.add_zero, List.getElem_cons_zero] at x0;have x0d : w2.drew.cell? ⟨b, o, none⟩ = some (.int .u64 (x.id : Int)) := x0;have hl0 : (((x :: r).length : Int) == 0) = false := by rw [beq_eq_false_iff_ne, List.length_cons]; omega
        have hl1 : (0 : Int) < ((x :: r).length : Int) := by rw [List.length_cons]; omega
        have hl2 : 0 < (x :: r).length := by simp
        by_cases hid : x.id = id
        · rw [if_neg (by simp [hid])] at hp2;have HP2 := Lib.hid hp2;have hne : ((x.id : Int) != (id : Int)) = false := by rw [bne_eq_false_iff_eq]; omega
          generalize hll : (x :: r).length = n at *;clear hp2 HPE g3 hid x1 x2 x3 hany;go_wp2_with fail;refine wp_region_held_drew (S := fun w' => w'.cell? ⟨w.heap.size, 0, none⟩ = some (.int .u64 (id : Int)) ∧ w'.cell? ⟨b, o, none⟩ = some (.int .u64 (x.id : Int))) (by kernel_rfl) ?_ (fun hHeld => ?_)
          · exact ⟨c0d, x0d⟩
          refine tk 0 rfl ?_;(try simp only [Act.put, tz1, tz2, tz3]);refine tk 1 rfl ?_;(try simp only [Act.put, tz1, tz2, tz3]);refine tk 2 rfl ?_;(try simp only [Act.put, tz1, tz2, tz3]);refine tk 3 rfl ?_;(try simp only [Act.put, tz1, tz2, tz3]);refine tk 4 rfl ?_;(try simp only [Act.put, tz1, tz2, tz3]);refine tk 5 rfl ?_;(try simp only [Act.put, tz1, tz2, tz3]);refine tk 6 rfl ?_;(try simp only [Act.put, tz1, tz2, tz3]);refine tk 7 rfl ?_;(try simp only [Act.put, tz1, tz2, tz3]);refine tk 8 rfl ?_;(try simp only [Act.put, tz1, tz2, tz3]);refine tk 9 rfl ?_;(try simp only [Act.put, tz1, tz2, tz3]);refine tk 10 rfl ?_;(try simp only [Act.put, tz1, tz2, tz3]);refine tk 11 rfl ?_;(try simp only [Act.put, tz1, tz2, tz3]);refine wpAnyH_done (by kernel_rfl) ?_ _;go_wp2_with fail;go_ret2
          rw [HP2.out];exact ⟨_, rfl, HU2.out.drew, fun _ => ⟨some ⟨b, o, none⟩, d1, by rw [hll]; rfl, by rw [hll]; exact R2.out.up (Up.refl w2).drew⟩, fun h => absurd rfl h⟩
        · rw [if_pos (by simp [hid])] at hp2;have HP2 := Lib.hid hp2;have hne : ((x.id : Int) != (id : Int)) = true := by rw [bne_iff_ne]; omega
          generalize hll : (x :: r).length = n at *;clear hp2 HPE g3 hid x1 x2 x3 R2 hany;go_wp2_with fail;refine wp_region_held_drew (S := fun w' => w'.cell? ⟨w.heap.size, 0, none⟩ = some (.int .u64 (id : Int)) ∧ w'.cell? ⟨b, o, none⟩ = some (.int .u64 (x.id : Int))) (by kernel_rfl) ?_ (fun hHeld => ?_)
          · exact ⟨c0d, x0d⟩
          refine tk 0 rfl ?_;(try simp only [Act.put, tz1, tz2, tz3]);refine tk 1 rfl ?_;(try simp only [Act.put, tz1, tz2, tz3]);refine tk 2 rfl ?_;(try simp only [Act.put, tz1, tz2, tz3]);refine tk 3 rfl ?_;(try simp only [Act.put, tz1, tz2, tz3]);refine tk 4 rfl ?_;(try simp only [Act.put, tz1, tz2, tz3]);refine tk 5 rfl ?_;(try simp only [Act.put, tz1, tz2, tz3]);refine tk 6 rfl ?_;(try simp only [Act.put, tz1, tz2, tz3]);refine tk 7 rfl ?_;(try simp only [Act.put, tz1, tz2, tz3]);refine tk 8 rfl ?_;(try simp only [Act.put, tz1, tz2, tz3]);refine tk 9 rfl ?_;(try simp only [Act.put, tz1, tz2, tz3]);refine tk 10 rfl ?_;(try simp only [Act.put, tz1, tz2, tz3]);refine tk 11 rfl ?_;(try simp only [Act.put, tz1, tz2, tz3]);refine wpAnyH_done (by kernel_rfl) ?_ _;go_wp2_with fail;go_ret2
          rw [HP2.out];exact ents_bad (by decide) HU2.out.drew
  · have hp2 := HPE.out;rw [if_pos hE] at hp2;have HP2 := Lib.hid hp2;have eE : (E != 0) = true := by rw [bne_iff_ne]; exact hE
    have HE := Lib.hid hE;clear hp2 HPE hE R1;go_wp2_with fail;go_ret2
    rw [HP2.out];exact ents_bad HE.out HU1.out
end Go.Proofs.YtbfieomjobbhoaaGreatDoor
/- Walk: gazetteerref14.Join of a root that may be, any text. -/
namespace Go.Gz
theorem rpiece_okE {p : Ent} {text : Bs} (h : (pieceE p text).1 = 0) : ∀ e ∈ (pieceE p text).2, okE e := by
  unfold pieceE at h ⊢;split at h
  · simp at h
  · rename_i g1;split at h
    · contradiction
    · rename_i g2;split at h
      · simp at h
      · rename_i g3;split at h
        · simp at h
        · rename_i g4;rw [if_neg g1, if_neg g2, if_neg g3, if_neg g4];exact decD_okE (by omega)
end Go.Gz
namespace Go.Proofs.YtbfieomjobbhoaaGreatDoor
open Go.RowKit Go.Gz Go.Shelf

set_option maxRecDepth 100000
def JnRr (w : World) (root : Ents) (text : Bs) (M : Nat) (J : Int × Ents) (gk : Nat) (v i : Value) (wr : World) : Prop := ∃ (k : Nat) (out : Ents), k + gk = root.length ∧ i = .int .i64 (k : Int) ∧ wr.ownsRow w.heap.size 87 4 v out.length (entV out) ∧ out.length ≤ k * (M + 1) ∧ (∀ e ∈ out, okE e) ∧ joinGo text (root.drop k) out = J ∧ Up w wr
set_option maxHeartbeats 8000000 in
theorem r14join_any (root : Ents) (hok : ∀ e ∈ root, okE e) (hrow : rowE root = 0) (text : Bs) (hs : text.length ≤ 1000000) (M : Nat) (hM : ∀ x ∈ root, x.run = 0 → (pieceE x text).2.length ≤ M) (hB : root.length * (M + 1) ≤ 1000000) (A : Option Addr) (c : Nat) (w : World) (hr : Rd w 4 A root.length c (entV root)) :
    Calls Tryz.prog 29 #[.slice A root.length c, .string ⟨text.toArray⟩] w (EntsE w (joinE root text)) := by
  have hll := row_len hrow;have hchk : ∀ x ∈ root, chkE x = 0 := fun x hx => row_chk hrow hx;have RW := fun w hr => Lib.hid (r7row_any root hok (by omega) A c w hr);rw [hrow] at RW;obtain ⟨i0, hi0, hz0, hz1, hz2⟩ := info_parts infoEr;obtain ⟨D, hD⟩ : ∃ D, joinE root text = D := ⟨_, rfl⟩;rw [hD];unfold joinE at hD;rw [if_neg (by omega)] at hD;obtain ⟨J, hJ⟩ : ∃ J, joinGo text root [] = J := ⟨_, rfl⟩;rw [hJ] at hD;have HR := Lib.hid hr;clear hr hrow;go_enter Tryz.func29, Tryz.ntmps29;go_wp2_with fail;with_reducible refine (RW _ HR.out).out.mono ?_
  rintro e w1 ⟨rfl, hu1⟩;have HU1 := Lib.hid hu1;clear hu1 RW;go_wp2_with fail;go_loopg [7, 8] root.length (fun gk v i wr => JnRr w root text M J gk v i wr)
  case atStart => exact ⟨0, [], by omega, rfl, by simpa [entV_nil] using World.ownsRow_nil _ _ _ _, by simp, by simp, by rw [List.drop_zero]; exact hJ, HU1.out⟩
  case round =>
    obtain ⟨k, out, hk, rfl, ho, hol, hoo, hgo, hu⟩ := hrel;have HO := Lib.hid ho;have HU := Lib.hid hu;have HOO := Lib.hid hoo;clear ho hoo hJ;by_cases hlt : k < root.length
    · obtain ⟨m, rfl⟩ : ∃ x, gk = x + 1 := ⟨gk - 1, by omega⟩;obtain ⟨b, o, rfl, d0, d1, d2, d3⟩ := (HR.out.up hu).ent hlt;have hmem := List.getElem_mem hlt;have hc := hchk _ hmem;have hpl := hM _ hmem;have hxo := hok _ hmem;rw [List.drop_eq_getElem_cons hlt] at hgo;obtain ⟨x, hx⟩ : ∃ x, root[k] = x := ⟨_, rfl⟩;rw [hx] at d0 d1 d2 d3 hc hgo hpl hxo;have PC := fun w => Lib.hid (r14piece_any x hc text hs w);unfold EntsE at PC;have hkB : (k + 1) * (M + 1) ≤ 1000000 := Nat.le_trans (Nat.mul_le_mul_right _ (by omega)) hB;have hkB2 : (k + 1) * (M + 1) = k * (M + 1) + (M + 1) := by rw [Nat.add_mul, Nat.one_mul]
      have kI : (k : Int) < (root.length : Int) := by omega
      have HGO := Lib.hid hgo;simp only [entA] at PC;clear hx hmem hc hgo hu;have o2 := HO.out;have HU2 := Lib.hid HU.out;by_cases hrun : x.run = 0
      · have r0 : ¬ (0 : Int) < (x.run : Int) := by omega
        replace hpl := hpl hrun;have O2 := Lib.hid o2;have hg2 := HGO.out;unfold joinGo at hg2;rw [if_neg (by omega)] at hg2;clear o2 hrun;go_wp2_with fail;with_reducible refine (PC _).out.mono ?_
        rintro e w3 ⟨v3, rfl, hu3, hv3, _⟩;have hpo := rpiece_okE (p := x) (text := text);generalize pieceE x text = PE at *;obtain ⟨E3, l3⟩ := PE;simp only at hg2 hv3 hpo;have hpl : l3.length ≤ M := hpl;by_cases hE3 : E3 = 0
        · subst hE3;rw [if_neg (by simp)] at hg2;obtain ⟨A3, c3, rfl, r3⟩ := hv3 rfl;have o3 := own_up O2.out hu3;have HU3 := Lib.hid (HU2.out.trans hu3);have HG2 := Lib.hid hg2;have HPO := Lib.hid (hpo rfl);have R3 := Lib.hid r3;clear hg2 hpo hv3 hu3 r3 d0 d1 d2 d3 O2 HU2 PC;go_wp2_with (at_builtin; refine wpList_append_rd _ rfl _ _ 28 rfl w.heap.size 87 i0 _ 4 24 Tryz.underlying28 hi0 hz0 hz1 hz2 rfl (by decide) _ _ _ rfl o3 A3 l3.length c3 (entV l3) rfl R3.out (entV_one _) (by omega) (by omega) HU3.out.le ?_; intro v7 w7 ho7 hb7; have HO7 := Lib.hid ho7; have HB7 := Lib.hid hb7; clear ho7 hb7)
          go_roundg m
          case measure => omega
          case rel =>
            refine ⟨k + 1, out ++ l3, by omega, by go_num, ?_, ?_, ?_, HG2.out, HU3.out.base (Nat.le_refl _) HB7.out⟩
            · rw [List.length_append, entV_app]; exact HO7.out
            · rw [List.length_append]; omega
            · intro e he;rcases List.mem_append.1 he with h | h
              · exact HOO.out e h
              · exact HPO.out e h
        · rw [if_pos hE3] at hg2;have hEb : (E3 != 0) = true := by rw [bne_iff_ne]; exact hE3
          rw [← hg2, if_pos hE3] at hD;subst hD;go_wp2_with fail;change bodyPost _ _ _ _ _ _;refine bodyPost_ret (v := .tuple #[.slice none 0 0, .int .i64 E3]) (by simp [results, Tryz.results29, go_sem]) rfl ?_

          exact ents_bad hE3 (HU2.out.trans hu3)
      · have r0 : (0 : Int) < (x.run : Int) := by omega
        have hg2 := HGO.out;unfold joinGo at hg2;rw [if_pos hrun] at hg2;have HG2 := Lib.hid hg2;have o3 := own_up o2 ((Up.refl wr).alloc (.cells #[.int .u64 (x.id : Int), .int .u64 (x.off : Int), .int .u32 (x.len : Int), .int .u32 (x.run : Int)] 87));clear hg2 hrun PC HGO;go_wp2_with (at_builtin; refine app_one wr rfl _ _ 28 rfl w.heap.size 87 i0 _ 4 24 Tryz.underlying28 hi0 hz0 hz1 hz2 rfl (by decide) _ _ _ o2 rfl #[.int .u64 (x.id : Int), .int .u64 (x.off : Int), .int .u32 (x.len : Int), .int .u32 (x.run : Int)] rfl rfl (by simp [Value.oneCell']) (by omega) (by omega) HU2.out.le ?_; intro v7 w7 ho7 hg7 hb7; have HO7 := Lib.hid ho7; have HB7 := Lib.hid hb7; clear ho7 hb7 hg7)
        go_roundg m
        case measure => omega
        case rel =>
          refine ⟨k + 1, out ++ [x], by omega, by go_num, ?_, ?_, ?_, HG2.out, HU2.out.base (Nat.le_refl _) HB7.out⟩
          · rw [List.length_append, entV_snoc]; exact HO7.out
          · rw [List.length_append, List.length_singleton]; omega
          · intro e he;rcases List.mem_append.1 he with h | h
            · exact HOO.out e h
            · rw [List.mem_singleton.1 h]; exact hxo
    · obtain rfl : k = root.length := by omega
      obtain rfl : gk = 0 := by omega
      rw [List.drop_length] at hgo;have hJ2 : (0, out) = J := hgo;subst hJ2;rw [if_neg (by simp)] at hD;obtain ⟨A9, c9, rfl, r9⟩ := Rd.of_own HO.out;have R9 := Lib.hid r9;have RO := fun w hr => Lib.hid (r7row_any out HOO.out (by omega) A9 c9 w hr);obtain ⟨E, hE⟩ : ∃ x, rowE out = x := ⟨_, rfl⟩;simp only at hD;rw [hE] at RO hD;clear r9 hgo hlt hu HR hM hok hchk;go_wp2_with fail;with_reducible refine (RO _ R9.out).out.mono ?_
      rintro e w8 ⟨rfl, hu8⟩;by_cases hE0 : E = 0
      · subst hE0;rw [if_neg (by simp)] at hD;subst hD;go_wp2_with fail;change bodyPost _ _ _ _ _ _;refine bodyPost_ret (v := .tuple #[.slice A9 out.length c9, .int .i64 0]) (by simp [results, Tryz.results29, go_sem]) rfl ?_

        exact ⟨_, rfl, HU.out.trans hu8, fun _ => ⟨A9, c9, rfl, R9.out.up hu8⟩, fun h => absurd rfl h⟩
      · have hEb : (E != 0) = true := by rw [bne_iff_ne]; exact hE0
        rw [if_pos hE0] at hD;subst hD;go_wp2_with fail;change bodyPost _ _ _ _ _ _;refine bodyPost_ret (v := .tuple #[.slice none 0 0, .int .i64 E]) (by simp [results, Tryz.results29, go_sem]) rfl ?_

        exact ents_bad hE0 (HU.out.trans hu8)
end Go.Proofs.YtbfieomjobbhoaaGreatDoor
