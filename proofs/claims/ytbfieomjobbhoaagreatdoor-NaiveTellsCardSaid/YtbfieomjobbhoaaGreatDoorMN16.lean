/- Walks: the notes' reader: fail, wrong, sign, end, blank. -/
import Derived.Test.YtbfieomjobbhoaaGreatDoorMN14
import Derived.Lib.RuneBytes
import Derived.Lib.TrimU
import Derived.Lib.DecodeN
namespace Go.Proofs.YtbfieomjobbhoaaGreatDoor
open Go.RowKit Go.Gz Go.Shelf

set_option maxRecDepth 100000
/-- the reader's block -/
def RB (w : World) (R : Nat) (s : Bs) (a : Nat) (E : Int) : Prop := w.heap[R]? = some (.cells #[.string ⟨s.toArray⟩, .int .i64 (a : Int), .int .i64 E] 242 (0, 0))
theorem RB.cells {w : World} {R : Nat} {s : Bs} {a : Nat} {E : Int} (h : RB w R s a E) : w.cell? ⟨R, 0, none⟩ = some (.string ⟨s.toArray⟩) ∧ w.cell? ⟨R, 1, none⟩ = some (.int .i64 (a : Int)) ∧ w.cell? ⟨R, 2, none⟩ = some (.int .i64 E) ∧ w.frozen? ⟨R, 1, none⟩ = false ∧ w.frozen? ⟨R, 2, none⟩ = false :=
  ⟨blkc h 0 _ rfl, blkc h 1 _ rfl, blkc h 2 _ rfl, blkf h 1, blkf h 2⟩
theorem RB.at {w : World} {R : Nat} {s : Bs} {a : Nat} {E : Int} (h : RB w R s a E) (b : Nat) : RB (w.setCell ⟨R, 1, none⟩ (.int .i64 (b : Int))) R s b E := heap_setCell_same w R 1 _ _ _ h
theorem RB.err {w : World} {R : Nat} {s : Bs} {a : Nat} {E : Int} (h : RB w R s a E) (F : Int) : RB (w.setCell ⟨R, 2, none⟩ (.int .i64 F)) R s a F := heap_setCell_same w R 2 _ _ _ h
/-- what the reader's walk turns: its own block -/
abbrev RK (R : Nat) (w w' : World) : Prop := w.grownBy w' (some R)
theorem RK.refl (R : Nat) (w : World) : RK R w w := ⟨rfl, rfl, rfl, Nat.le_refl _, fun _ _ _ => rfl⟩
theorem RK.drew (R : Nat) (w : World) : RK R w w.drew := ⟨rfl, rfl, rfl, Nat.le_refl _, fun _ _ _ => rfl⟩
theorem RK.trans {R : Nat} {a b c : World} (h : RK R a b) (k : RK R b c) : RK R a c :=
  ⟨k.os.trans h.os, k.tape.trans h.tape, k.output.trans h.output, Nat.le_trans h.size k.size, fun j hj hne => (k.block j (Nat.lt_of_lt_of_le hj h.size) hne).trans (h.block j hj hne)⟩
theorem RK.set (R o : Nat) (w : World) (v : Value) : RK R w (w.setCell ⟨R, o, none⟩ v) := grown_setO' w R o v

/-! ### fail -/
def FailE (w : World) (R : Nat) (s : Bs) (a : Nat) (E : Int) (b : Nat) (F : Int) (en : Ending) (w' : World) : Prop :=
  en = .returned .nilIface ∧ RK R w w' ∧ (if E = 0 then RB w' R s b F else RB w' R s a E)
theorem rfail_any (R : Nat) (s : Bs) (a : Nat) (E : Int) (b : Nat) (F : Int) (w : World) (h : RB w R s a E) :
    Calls Tryz.prog 141 #[.pointer (some ⟨R, 0, none⟩), .int .i64 (b : Int), .int .i64 F] w (FailE w R s a E b F) := by
  obtain ⟨c0, c1, c2, z1, z2⟩ := h.cells;have H := Lib.hid h;clear h;by_cases hE : E = 0
  · subst hE;go_enter Tryz.func141, Tryz.ntmps141;go_wp2_with fail;go_ret;exact ⟨rfl, (RK.set R 1 w _).trans (RK.set R 2 _ _), by rw [if_pos rfl]; exact (H.out.at b).err F⟩
  · have hb : (E == 0) = false := by rw [beq_eq_false_iff_ne]; exact hE
    go_enter Tryz.func141, Tryz.ntmps141;go_wp2_with fail;go_ret;exact ⟨rfl, RK.refl R w, by rw [if_neg hE]; exact H.out⟩
/-- what a region that only reads keeps -/
def RS (w : World) (R : Nat) (s : Bs) (a : Nat) (E : Int) (w' : World) : Prop := RK R w w' ∧ RB w' R s a E
theorem rwrong_any (R : Nat) (s : Bs) (a : Nat) (ha : a ≤ s.length) (E : Int) (w : World) (h : RB w R s a E) :
    Calls Tryz.prog 188 #[.pointer (some ⟨R, 0, none⟩)] w (FailE w R s a E a (if a = s.length then 3 else 4)) := by
  have hh : Hid (RK R w w.drew ∧ RB w.drew R s a E) := Lib.hid ⟨RK.drew R w, h⟩;obtain ⟨c0, c1, c2, z1, z2⟩ := h.cells;have FL := fun F w h => Lib.hid (rfail_any R s a E a F w h);clear h z1 z2;by_cases hE : a = s.length
  · rw [if_pos hE];subst hE;have hb : ((s.length : Int) == (s.length : Int)) = true := by rw [beq_iff_eq]
    go_enter Tryz.func188, Tryz.ntmps188;go_wp2_with fail;go_region_held3 (fun w' => w'.cell? ⟨R, 0, none⟩ = some (.string ⟨s.toArray⟩) ∧ w'.cell? ⟨R, 1, none⟩ = some (.int .i64 (s.length : Int))) (first | assumption | exact ⟨c0, c1⟩) (fail)
    go_wp2_with (go_at_call 141; refine (FL 3 _ hh.out.2).out.mono ?_; rintro e w1 ⟨rfl, hk, hr⟩)
    go_ret;exact ⟨rfl, hh.out.1.trans hk, hr⟩
  · rw [if_neg hE];have hb : ((a : Int) == (s.length : Int)) = false := by rw [beq_eq_false_iff_ne]; omega
    go_enter Tryz.func188, Tryz.ntmps188;go_wp2_with fail;go_region_held3 (fun w' => w'.cell? ⟨R, 0, none⟩ = some (.string ⟨s.toArray⟩) ∧ w'.cell? ⟨R, 1, none⟩ = some (.int .i64 (a : Int))) (first | assumption | exact ⟨c0, c1⟩) (fail)
    go_wp2_with (go_at_call 141; refine (FL 4 _ hh.out.2).out.mono ?_; rintro e w1 ⟨rfl, hk, hr⟩)
    go_ret;exact ⟨rfl, hh.out.1.trans hk, hr⟩
theorem RK.up {R : Nat} {w w' : World} (hu : Up w w') : RK R w w' := ⟨hu.os, hu.tape, hu.output, hu.size, fun _ hj _ => hu.block hj⟩
theorem RB.up {R : Nat} {w w' : World} {s : Bs} {a : Nat} {E : Int} (h : RB w R s a E) (hu : Up w w') : RB w' R s a E := hu.obj h
end Go.Proofs.YtbfieomjobbhoaaGreatDoor
/- Walks: the notes' reader: end. -/
namespace Go.Proofs.YtbfieomjobbhoaaGreatDoor
open Go.RowKit Go.Gz Go.Shelf

set_option maxRecDepth 100000
def EndE (w : World) (R : Nat) (s : Bs) (a : Nat) (E : Int) (c : UInt8) (en : Ending) (w' : World) : Prop :=
  en = .returned (.bool (decide (s[a]? = some c))) ∧ RK R w w' ∧ RB w' R s (if s[a]? = some c then a + 1 else a) E
set_option maxHeartbeats 1000000 in
theorem rend_any (R : Nat) (s : Bs) (hs : s.length ≤ 1000000) (a : Nat) (ha : a ≤ s.length) (E : Int) (c : UInt8) (w : World) (h : RB w R s a E) :
    Calls Tryz.prog 262 #[.pointer (some ⟨R, 0, none⟩), .int .u8 (c.toNat : Int)] w (EndE w R s a E c) := by
  have hh : Hid (RK R w w.drew ∧ RB w.drew R s a E) := Lib.hid ⟨RK.drew R w, h⟩;obtain ⟨c0, c1, c2, z1, z2⟩ := h.cells;clear h;unfold EndE;by_cases hlt : a < s.length
  · obtain ⟨b, hb⟩ : ∃ b, (⟨s.toArray⟩ : ByteArray)[a]'(by rw [size_mk]; exact hlt) = b := ⟨_, rfl⟩;have hbk : s[a]? = some b := by rw [List.getElem?_eq_getElem hlt, ← hb]; rfl
    rw [hbk];clear hbk;have b1 : (0 : Int) ≤ (a : Int) := by omega
    have b2 : (a : Int) < (s.length : Int) := by omega
    have b3 : IntKind.i64.wrap ((a : Int) + 1) = ((a + 1 : Nat) : Int) := by rw [IntWalk.i64_in _ (by omega)]; omega
    by_cases he : b = c
    · subst he;rw [if_pos rfl, decide_eq_true rfl];have d0 : w.drew.cell? ⟨R, 1, none⟩ = some (.int .i64 (a : Int)) := c1;have d1 : w.drew.frozen? ⟨R, 1, none⟩ = false := z1;go_enter Tryz.func262, Tryz.ntmps262;go_wp2_with fail;go_region_held3 (fun w' => w'.cell? ⟨R, 0, none⟩ = some (.string ⟨s.toArray⟩) ∧ w'.cell? ⟨R, 1, none⟩ = some (.int .i64 (a : Int))) (first | assumption | exact ⟨c0, c1⟩) (fail)
      go_wp2_with fail;go_ret;exact ⟨rfl, hh.out.1.trans (RK.set R 1 _ _), hh.out.2.at (a + 1)⟩
    · have hne : (((b.toNat : Int)) == (c.toNat : Int)) = false := by
        rw [beq_eq_false_iff_ne]; intro e; exact he (UInt8.toNat.inj (by omega))
      have hne' : (((c.toNat : Int)) == (b.toNat : Int)) = false := by
        rw [beq_eq_false_iff_ne]; intro e; exact he (UInt8.toNat.inj (by omega))
      rw [if_neg (by intro e; injection e with e; exact he e), decide_eq_false (by intro e; injection e with e; exact he e)];clear he;go_enter Tryz.func262, Tryz.ntmps262;go_wp2_with fail;go_region_held3 (fun w' => w'.cell? ⟨R, 0, none⟩ = some (.string ⟨s.toArray⟩) ∧ w'.cell? ⟨R, 1, none⟩ = some (.int .i64 (a : Int))) (first | assumption | exact ⟨c0, c1⟩) (fail)
      go_wp2_with fail;go_ret;exact ⟨rfl, hh.out.1, hh.out.2⟩
  · have hn : s[a]? = none := by rw [List.getElem?_eq_none_iff]; omega
    rw [hn, if_neg (by simp), decide_eq_false (by simp)];clear hn;have b2 : decide ((a : Int) < (s.length : Int)) = false := by rw [decide_eq_false_iff_not]; omega
    have b3 : ¬ (a : Int) < (s.length : Int) := by omega
    go_enter Tryz.func262, Tryz.ntmps262;go_wp2_with fail;refine wp_region_held_drew (S := fun w' => w'.cell? ⟨R, 0, none⟩ = some (.string ⟨s.toArray⟩) ∧ w'.cell? ⟨R, 1, none⟩ = some (.int .i64 (a : Int))) (by kernel_rfl) ?_ (fun hHeld => ?_)
    · exact ⟨c0, c1⟩
    refine tk 0 rfl ?_;(try simp only [Act.put, tz1, tz2, tz3]);refine tk 1 rfl ?_;(try simp only [Act.put, tz1, tz2, tz3]);refine tk 2 rfl ?_;(try simp only [Act.put, tz1, tz2, tz3]);refine tk 3 rfl ?_;(try simp only [Act.put, tz1, tz2, tz3]);refine tk 4 rfl ?_;(try simp only [Act.put, tz1, tz2, tz3]);refine tk 5 rfl ?_;(try simp only [Act.put, tz1, tz2, tz3]);refine tk 6 rfl ?_;(try simp only [Act.put, tz1, tz2, tz3]);refine tk 7 rfl ?_;(try simp only [Act.put, tz1, tz2, tz3]);refine tk 8 rfl ?_;(try simp only [Act.put, tz1, tz2, tz3]);refine tk 9 rfl ?_;(try simp only [Act.put, tz1, tz2, tz3]);refine tk 10 rfl ?_;(try simp only [Act.put, tz1, tz2, tz3]);refine tk 11 rfl ?_;(try simp only [Act.put, tz1, tz2, tz3]);refine tk 12 rfl ?_;(try simp only [Act.put, tz1, tz2, tz3]);refine tk 13 rfl ?_;(try simp only [Act.put, tz1, tz2, tz3]);refine tk 14 rfl ?_;(try simp only [Act.put, tz1, tz2, tz3]);refine tk 15 rfl ?_;(try simp only [Act.put, tz1, tz2, tz3]);refine tk 16 rfl ?_;(try simp only [Act.put, tz1, tz2, tz3]);refine tk 17 rfl ?_;(try simp only [Act.put, tz1, tz2, tz3]);refine tk 18 rfl ?_;(try simp only [Act.put, tz1, tz2, tz3]);refine tk 19 rfl ?_;(try simp only [Act.put, tz1, tz2, tz3]);refine tk 20 rfl ?_;(try simp only [Act.put, tz1, tz2, tz3]);refine tk 21 rfl ?_;(try simp only [Act.put, tz1, tz2, tz3]);refine tk 22 rfl ?_;(try simp only [Act.put, tz1, tz2, tz3]);refine wpAnyH_done (by kernel_rfl) ?_ _;go_wp2_with fail;go_ret;exact ⟨rfl, hh.out.1, hh.out.2⟩
end Go.Proofs.YtbfieomjobbhoaaGreatDoor
/- Walks: the notes' reader: blank. -/
namespace Go.Proofs.YtbfieomjobbhoaaGreatDoor
open Go.RowKit Go.Gz Go.Shelf

set_option maxRecDepth 100000
def isBl (b : UInt8) : Bool := decide (0 ≤ Lib.indexByte [32, 9, 10, 13] b)
/-- where the blanks from a on end -/
def blkA (s : Bs) (a : Nat) : Nat := a + ((s.drop a).takeWhile isBl).length
theorem blkA_on {s : Bs} {a : Nat} (h : a < s.length) (hb : isBl s[a] = true) : blkA s a = blkA s (a + 1) := by
  unfold blkA;rw [List.drop_eq_getElem_cons h, List.takeWhile_cons_of_pos hb, List.length_cons];omega
theorem blkA_off {s : Bs} {a : Nat} (h : a < s.length) (hb : ¬ isBl s[a] = true) : blkA s a = a := by
  unfold blkA;rw [List.drop_eq_getElem_cons h, List.takeWhile_cons_of_neg hb];rfl
theorem blkA_end {s : Bs} {a : Nat} (h : ¬ a < s.length) : blkA s a = a := by
  unfold blkA;rw [List.drop_eq_nil_of_le (by omega)];rfl
theorem blkA_le {s : Bs} {a : Nat} (h : a ≤ s.length) : blkA s a ≤ s.length := by
  unfold blkA;have := (List.takeWhile_sublist isBl (l := s.drop a)).length_le;rw [List.length_drop] at this;omega
theorem ix_any (b : UInt8) (w : World) : Calls Tryz.prog 187 #[.string ⟨#[32, 9, 10, 13]⟩, .int .u8 (b.toNat : Int)] w fun e w' => e = .returned (.int .i64 (Lib.indexByte [32, 9, 10, 13] b)) ∧ w' = w := by
  refine (Tryz.strings_IndexByte ⟨#[32, 9, 10, 13]⟩ (b.toNat : Int) w).mono ?_;rintro e w' ⟨rfl, rfl⟩;exact ⟨by simp, rfl⟩
set_option maxHeartbeats 2000000 in
theorem rblank_any (R : Nat) (s : Bs) (hs : s.length ≤ 1000000) (a : Nat) (ha : a ≤ s.length) (E : Int) (w : World) (h : RB w R s a E) :
    Calls Tryz.prog 139 #[.pointer (some ⟨R, 0, none⟩)] w fun e w' => e = .returned (.tuple #[]) ∧ RK R w w' ∧ RB w' R s (blkA s a) E := by
  obtain ⟨T, hT⟩ : ∃ T, blkA s a = T := ⟨_, rfl⟩;rw [hT];go_enter Tryz.func139, Tryz.ntmps139;go_wp2_with fail;go_loopg [] (s.length - a) (fun gk wr => ∃ k : Nat, k + gk = s.length ∧ blkA s k = T ∧ RK R w wr ∧ RB wr R s k E)
  case atStart => exact ⟨a, by omega, hT, RK.refl R w, h⟩
  case round =>
    obtain ⟨k, hk, hd, hkk, hb⟩ := hrel;have hh : Hid (RK R w wr.drew ∧ RB wr.drew R s k E) := Lib.hid ⟨hkk.trans (RK.drew R wr), hb⟩;obtain ⟨c0, c1, c2, z1, z2⟩ := hb.cells;clear h hb hkk;by_cases hlt : k < s.length
    · obtain ⟨m, rfl⟩ : ∃ m, gk = m + 1 := ⟨gk - 1, by omega⟩;obtain ⟨b, hb⟩ : ∃ b, (⟨s.toArray⟩ : ByteArray)[k]'(by rw [size_mk]; exact hlt) = b := ⟨_, rfl⟩;have hbk : s[k] = b := hb;have IX := fun w => Lib.hid (ix_any b w);have b1 : (0 : Int) ≤ (k : Int) := by omega
      have b2 : (k : Int) < (s.length : Int) := by omega
      have b3 : IntKind.i64.wrap ((k : Int) + 1) = ((k + 1 : Nat) : Int) := by rw [IntWalk.i64_in _ (by omega)]; omega
      have d0 : wr.drew.cell? ⟨R, 1, none⟩ = some (.int .i64 (k : Int)) := c1;have d1 : wr.drew.frozen? ⟨R, 1, none⟩ = false := z1;by_cases hB : isBl b = true
      · have HD := Lib.hid ((blkA_on hlt (by rw [hbk]; exact hB)).symm.trans hd);have b4 : (0 : Int) ≤ Lib.indexByte [32, 9, 10, 13] b := of_decide_eq_true hB;clear hB hbk hd;generalize Lib.indexByte [32, 9, 10, 13] b = n at *;go_wp2_with fail;go_region_held3 (fun w' => w'.cell? ⟨R, 0, none⟩ = some (.string ⟨s.toArray⟩) ∧ w'.cell? ⟨R, 1, none⟩ = some (.int .i64 (k : Int))) (first | assumption | exact ⟨c0, c1⟩) ((go_at_call 187; refine (IX _).out.mono ?_; rintro e w1 ⟨rfl, rfl⟩))
        go_wp2_with fail;go_roundg m
        case measure => omega
        case rel => exact ⟨k + 1, by omega, HD.out, hh.out.1.trans (RK.set R 1 _ _), hh.out.2.at (k + 1)⟩
      · have HD := Lib.hid ((blkA_off hlt (by rw [hbk]; exact hB)).symm.trans hd);have b4 : ¬ (0 : Int) ≤ Lib.indexByte [32, 9, 10, 13] b := fun e => hB (decide_eq_true e);clear hB hbk hd;generalize Lib.indexByte [32, 9, 10, 13] b = n at *;go_wp2_with fail;go_region_held3 (fun w' => w'.cell? ⟨R, 0, none⟩ = some (.string ⟨s.toArray⟩) ∧ w'.cell? ⟨R, 1, none⟩ = some (.int .i64 (k : Int))) (first | assumption | exact ⟨c0, c1⟩) ((go_at_call 187; refine (IX _).out.mono ?_; rintro e w1 ⟨rfl, rfl⟩))
        go_wp2_with fail;go_end0
        exact ⟨rfl, hh.out.1, by rw [← HD.out]; exact hh.out.2⟩
    · have HD := Lib.hid ((blkA_end hlt).symm.trans hd);have b2 : decide ((k : Int) < (s.length : Int)) = false := by rw [decide_eq_false_iff_not]; omega
      have b3 : ¬ (k : Int) < (s.length : Int) := by omega
      clear hd;go_wp2_with fail;refine wp_region_held_drew (S := fun w' => w'.cell? ⟨R, 0, none⟩ = some (.string ⟨s.toArray⟩) ∧ w'.cell? ⟨R, 1, none⟩ = some (.int .i64 (k : Int))) (by kernel_rfl) ?_ (fun hHeld => ?_)
      · exact ⟨c0, c1⟩
      refine tk 0 rfl ?_;(try simp only [Act.put, tz1, tz2, tz3]);refine tk 1 rfl ?_;(try simp only [Act.put, tz1, tz2, tz3]);refine tk 2 rfl ?_;(try simp only [Act.put, tz1, tz2, tz3]);refine tk 3 rfl ?_;(try simp only [Act.put, tz1, tz2, tz3]);refine tk 4 rfl ?_;(try simp only [Act.put, tz1, tz2, tz3]);refine tk 5 rfl ?_;(try simp only [Act.put, tz1, tz2, tz3]);refine tk 6 rfl ?_;(try simp only [Act.put, tz1, tz2, tz3]);refine tk 7 rfl ?_;(try simp only [Act.put, tz1, tz2, tz3]);refine tk 8 rfl ?_;(try simp only [Act.put, tz1, tz2, tz3]);refine tk 9 rfl ?_;(try simp only [Act.put, tz1, tz2, tz3]);refine tk 10 rfl ?_;(try simp only [Act.put, tz1, tz2, tz3]);refine tk 11 rfl ?_;(try simp only [Act.put, tz1, tz2, tz3]);refine tk 12 rfl ?_;(try simp only [Act.put, tz1, tz2, tz3]);refine tk 13 rfl ?_;(try simp only [Act.put, tz1, tz2, tz3]);refine tk 14 rfl ?_;(try simp only [Act.put, tz1, tz2, tz3]);refine tk 15 rfl ?_;(try simp only [Act.put, tz1, tz2, tz3]);refine tk 16 rfl ?_;(try simp only [Act.put, tz1, tz2, tz3]);refine tk 17 rfl ?_;(try simp only [Act.put, tz1, tz2, tz3]);refine tk 18 rfl ?_;(try simp only [Act.put, tz1, tz2, tz3]);refine tk 19 rfl ?_;(try simp only [Act.put, tz1, tz2, tz3]);refine tk 20 rfl ?_;(try simp only [Act.put, tz1, tz2, tz3]);refine tk 21 rfl ?_;(try simp only [Act.put, tz1, tz2, tz3]);refine tk 22 rfl ?_;(try simp only [Act.put, tz1, tz2, tz3]);refine wpAnyH_done (by kernel_rfl) ?_ _;go_wp2_with fail;go_end0
      exact ⟨rfl, hh.out.1, by rw [← HD.out]; exact hh.out.2⟩
end Go.Proofs.YtbfieomjobbhoaaGreatDoor
/- Plain laws: what a reader of JSON makes of a text: where it stands behind a value, and its first fault. -/
namespace Go.Proofs.YtbfieomjobbhoaaGreatDoor
open Go.RowKit Go.Gz Go.Shelf

/-- a digit of 16 -/
def hexV (b : UInt8) : Option Nat :=
  if 48 ≤ b.toNat ∧ b.toNat ≤ 57 then some (b.toNat - 48) else if 97 ≤ b.toNat ∧ b.toNat ≤ 102 then some (b.toNat - 97 + 10) else if 65 ≤ b.toNat ∧ b.toNat ≤ 70 then some (b.toNat - 65 + 10) else none
/-- a mark of four digits, from its byte i on -/
def codeL (r : Bs) : Nat → Nat → Nat → Nat × Int
  | 0, _, c => (c, 0)
  | f + 1, i, c => match r[i]? with
    | none => (0, 3)
    | some b => if (i = 0 ∧ b ≠ 92) ∨ (i = 1 ∧ b ≠ 117) ∨ (1 < i ∧ hexV b = none) then (0, 4) else codeL r f (i + 1) (if 1 < i then c * 16 + (hexV b).getD 0 else c)
def codeN (r : Bs) : Nat × Int := codeL r 6 0 0
def pairN (r : Bs) : Nat × Nat × Int :=
  if (codeN r).2 ≠ 0 then (0, 0, (codeN r).2)
  else if (codeN r).1 < 55296 ∨ 57343 < (codeN r).1 then ((codeN r).1, 6, 0)
  else if 56320 ≤ (codeN r).1 then (0, 0, 4)
  else if (codeN (r.drop 6)).2 ≠ 0 then (0, 0, (codeN (r.drop 6)).2)
  else if (codeN (r.drop 6)).1 < 56320 ∨ 57343 < (codeN (r.drop 6)).1 then (0, 0, 4)
  else (65536 + ((codeN r).1 - 55296) * 1024 + (codeN (r.drop 6)).1 - 56320, 12, 0)
def markN (r : Bs) : Nat × Nat × Int :=
  match r[1]? with
  | none => (0, 0, 3)
  | some b => if b = 34 ∨ b = 92 ∨ b = 47 then (b.toNat, 2, 0) else if b = 98 then (8, 2, 0) else if b = 102 then (12, 2, 0) else if b = 110 then (10, 2, 0) else if b = 114 then (13, 2, 0) else if b = 116 then (9, 2, 0) else pairN r
/-- the rune with which bytes begin, and its width -/
def runeN (r : Bs) : Nat × Nat := Lib.decodeGoB ⟨r.toArray⟩
/-- a text in quotes, from byte i on, behind acc -/
def takeL (s : Bs) : Nat → Nat → Bs → Bs × Nat × Int
  | 0, _, _ => ([], s.length, 3)
  | f + 1, i, acc => match s[i]? with
    | none => ([], s.length, 3)
    | some b => if b = 34 then (acc, i + 1, 0)
      else if b = 92 then (if (markN (s.drop i)).2.2 = 3 then ([], s.length, 3) else if (markN (s.drop i)).2.2 ≠ 0 then ([], i, (markN (s.drop i)).2.2) else takeL s f (i + (markN (s.drop i)).2.1) (acc ++ Lib.encodeRune ((markN (s.drop i)).1 : Int)))
      else if ((runeN (s.drop i)).1 = 65533 ∧ (runeN (s.drop i)).2 < 2) ∨ (runeN (s.drop i)).1 < 32 then ([], i, 4)
      else takeL s f (i + (runeN (s.drop i)).2) (acc ++ Lib.encodeRune ((runeN (s.drop i)).1 : Int))
def takeN (s : Bs) (a : Nat) : Bs × Nat × Int :=
  if s[a]? = none then ([], a, 3) else if s[a]? ≠ some 34 then ([], a, 4) else takeL s s.length (a + 1) []
/-- where a reader stands, and its fault (0: none) -/
abbrev Stand := Nat × Int
def wrongN (s : Bs) (a : Nat) : Stand := (a, if a = s.length then 3 else 4)
def wordN (s : Bs) (a : Nat) (w : Bs) : Stand := if w.isPrefixOf (s.drop a) then (a + w.length, 0) else if (s.drop a).isPrefixOf w then (s.length, 3) else (a, 4)
def numB (b : UInt8) : Bool := List.contains [48, 49, 50, 51, 52, 53, 54, 55, 56, 57, 43, 45, 46, 101, 69] b
def digB (b : UInt8) : Bool := List.contains [48, 49, 50, 51, 52, 53, 54, 55, 56, 57] b
def runN (s : Bs) (a : Nat) : Bs := (s.drop a).takeWhile numB
def wholeN (r : Bs) : Bs := if r.head? = some 45 then r.tail else r
def numberN (s : Bs) (a : Nat) : Stand :=
  if wholeN (runN s a) = [] ∨ (wholeN (runN s a)).all digB = false then (a, 4)
  else if (wholeN (runN s a)).head? = some 48 ∧ (1 < (wholeN (runN s a)).length ∨ (runN s a).head? = some 45) then (a, 4)
  else if BIG < numv (wholeN (runN s a)) then (a, 11)
  else (a + (runN s a).length, 0)
/-- values between signs, parted by commas, from the n-th on; one: how one is taken, with what is kept from one to the next -/
def eachL {σ : Type} (s : Bs) (cl : UInt8) (one : Nat → σ → Stand × σ) : Nat → Nat → Nat → σ → Stand
  | 0, _, a, _ => (a, 0)
  | f + 1, n, a, st => if n = 64 ∧ a < s.length then (a, 21)
    else if (one a st).1.2 ≠ 0 then (one a st).1
    else if s[blkA s (one a st).1.1]? = some cl then (blkA s (one a st).1.1 + 1, 0)
    else if s[blkA s (one a st).1.1]? = some 44 then eachL s cl one f (n + 1) (blkA s (blkA s (one a st).1.1 + 1)) (one a st).2
    else wrongN s (blkA s (one a st).1.1)
/-- a list or an object: its first sign stands at a -/
def contN {σ : Type} (s : Bs) (cl : UInt8) (one : Nat → σ → Stand × σ) (a : Nat) (st : σ) : Stand :=
  if s[blkA s (a + 1)]? = some cl then (blkA s (a + 1) + 1, 0) else eachL s cl one 66 0 (blkA s (a + 1)) st
def listOne (val : Nat → Stand) (a : Nat) (_ : Unit) : Stand × Unit := (val a, ())
def objOne (s : Bs) (val : Nat → Stand) (a : Nat) (ns : List Bs) : Stand × List Bs :=
  if (takeN s a).2.2 ≠ 0 then (((takeN s a).2.1, (takeN s a).2.2), ns)
  else if (takeN s a).1 ∈ ns then ((a, 22), ns)
  else if s[blkA s (takeN s a).2.1]? = some 58 then (val (blkA s (blkA s (takeN s a).2.1 + 1)), ns ++ [(takeN s a).1])
  else (wrongN s (blkA s (takeN s a).2.1), ns)
/-- a value, so many levels above the deepest -/
def valN (s : Bs) : Nat → Nat → Stand
  | d, a => match s[a]? with
    | none => (a, 3)
    | some b => if b = 110 then wordN s a [110, 117, 108, 108]
      else if b = 102 then wordN s a [102, 97, 108, 115, 101]
      else if b = 116 then wordN s a [116, 114, 117, 101]
      else if b = 34 then (takeN s a).2
      else if b = 91 then (match d with | 0 => (a, 20) | d + 1 => contN s 93 (listOne (valN s d)) a ())
      else if b = 123 then (match d with | 0 => (a, 20) | d + 1 => contN s 125 (objOne s (valN s d)) a [])
      else if b = 45 ∨ digB b = true then numberN s a
      else (a, 4)
/-- the fault of notes -/
def noteN (s : Bs) : Int :=
  if 4096 < s.length then 5 else if (valN s 4 (blkA s 0)).2 ≠ 0 then (valN s 4 (blkA s 0)).2 else if blkA s (valN s 4 (blkA s 0)).1 < s.length then 4 else 0
/-- the fault of a plan -/
def planN (b : Int) (kind : Nat) (s : Bs) : Int :=
  if b < 512 ∨ 16257 < b then 15 else if 5 < kind then 14 else if noteN s ≠ 0 then noteN s else if s[blkA s 0]? = some 123 then 0 else 4
theorem drop_mk (l : Bs) (a : Nat) : (⟨l.toArray⟩ : ByteArray).extract a l.length = ⟨(l.drop a).toArray⟩ := by
  apply ByteArray.ext;rw [ByteArray.data_extract];apply Array.ext';simp only [Array.toList_extract, List.extract_eq_take_drop];rw [List.take_of_length_le (by simp)]
theorem take_mk (l : Bs) (a : Nat) : (⟨l.toArray⟩ : ByteArray).extract 0 a = ⟨(l.take a).toArray⟩ := by
  apply ByteArray.ext;rw [ByteArray.data_extract];apply Array.ext';simp
theorem decN_fit (n b0 b1 b2 b3 : Nat) (hn : 1 ≤ n) (h0 : b0 < 256) : 1 ≤ (Lib.decodeN n b0 b1 b2 b3).2 ∧ (Lib.decodeN n b0 b1 b2 b3).2 ≤ n ∧ (Lib.decodeN n b0 b1 b2 b3).1 ≤ 2000000000 := by
  unfold Lib.decodeN;repeat' split
  all_goals (simp only; omega)
theorem runeN_fit {r : Bs} (h : 1 ≤ r.length) : 1 ≤ (runeN r).2 ∧ (runeN r).2 ≤ r.length ∧ (runeN r).1 ≤ 2000000000 := by
  unfold runeN Lib.decodeGoB;have hs : (⟨r.toArray⟩ : ByteArray).size = r.length := by simp [ByteArray.size]
  rw [if_neg (by omega), Lib.decode_at, hs];exact decN_fit _ _ _ _ _ (by omega) (UInt8.toNat_lt _)
theorem enc_len (r : Int) : (Lib.encodeRune r).length ≤ 4 := by
  have h := (Lib.runeCells_le r).2;unfold Lib.runeCells at h;unfold Lib.encodeRune;rw [List.length_map] at h ⊢;exact h
theorem codeL_fit (r : Bs) : ∀ f i c, (codeL r f i c).2 = 0 → f + i ≤ r.length ∨ f = 0 := by
  intro f;induction f with
  | zero => intro i c _; exact .inr rfl
  | succ f ih =>
    intro i c h;unfold codeL at h;split at h
    · exact absurd h (by decide)
    · rename_i b hb;have hl := (List.getElem?_eq_some_iff.1 hb).1;split at h
      · exact absurd h (by decide)
      · rcases ih _ _ h with g | g
        · exact .inl (by omega)
        · exact .inl (by omega)
theorem codeN_fit {r : Bs} (h : (codeN r).2 = 0) : 6 ≤ r.length := by
  rcases codeL_fit r 6 0 0 h with g | g
  · omega
  · omega
theorem markN_fit {r : Bs} (h : (markN r).2.2 = 0) : 1 ≤ (markN r).2.1 ∧ (markN r).2.1 ≤ r.length := by
  unfold markN at h ⊢;split at h
  · exact absurd h (by decide)
  · rename_i b hb;have hl := (List.getElem?_eq_some_iff.1 hb).1;split
    · simp only; omega
    · split
      · simp only; omega
      · split
        · simp only; omega
        · split
          · simp only; omega
          · split
            · simp only; omega
            · split
              · simp only; omega
              · rename_i h1 h2 h3 h4 h5 h6;rw [if_neg h1, if_neg h2, if_neg h3, if_neg h4, if_neg h5, if_neg h6] at h;unfold pairN at h ⊢;split at h
                · rename_i g; exact absurd h g
                · rename_i g;have hc := codeN_fit (r := r) (by simpa using g);rw [if_neg g];split at h
                  · rename_i g2; rw [if_pos g2]; simp only; omega
                  · rename_i g2;rw [if_neg g2];split at h
                    · exact absurd h (by decide)
                    · rename_i g3;rw [if_neg g3];split at h
                      · rename_i g4; exact absurd h g4
                      · rename_i g4;have hc2 := codeN_fit (r := r.drop 6) (by simpa using g4);rw [List.length_drop] at hc2;rw [if_neg g4];split at h
                        · exact absurd h (by decide)
                        · rename_i g5;rw [if_neg g5]; simp only; omega
theorem hexV_le {b : UInt8} : (hexV b).getD 0 ≤ 15 := by
  unfold hexV;split
  · simp only [Option.getD_some]; omega
  · split
    · simp only [Option.getD_some]; omega
    · split
      · simp only [Option.getD_some]; omega
      · simp
theorem codeL_le (r : Bs) : ∀ f i c, (codeL r f i c).1 < (c + 1) * 16 ^ f := by
  intro f;induction f with
  | zero => intro i c; simp [codeL]
  | succ f ih =>
    intro i c;have hp : 0 < 16 ^ f := Nat.pow_pos (by decide);have hbig : 0 < (c + 1) * 16 ^ (f + 1) := Nat.mul_pos (by omega) (Nat.pow_pos (by decide));have hm : ∀ x, x + 1 ≤ (c + 1) * 16 → (x + 1) * 16 ^ f ≤ (c + 1) * 16 ^ (f + 1) := by
      intro x hx;have := Nat.mul_le_mul_right (16 ^ f) hx;rw [Nat.pow_succ, Nat.mul_comm (16 ^ f) 16, ← Nat.mul_assoc];exact this
    unfold codeL;split
    · exact hbig
    · split
      · exact hbig
      · refine Nat.lt_of_lt_of_le (ih _ _) (hm _ ?_);split
        · have := @hexV_le; have := this (b := by assumption); omega
        · omega
theorem codeN_le (r : Bs) : (codeN r).1 < 16777216 := by
  have := codeL_le r 6 0 0;unfold codeN;simpa using this
theorem markN_le (r : Bs) : (markN r).1 ≤ 200000000 := by
  unfold markN;split
  · simp
  · rename_i b hb;have := b.toNat_lt;split
    · simp only; omega
    · split
      · simp only; omega
      · split
        · simp only; omega
        · split
          · simp only; omega
          · split
            · simp only; omega
            · split
              · simp only; omega
              · have h1 := codeN_le r;have h2 := codeN_le (r.drop 6);unfold pairN;split
                · simp
                · split
                  · simp only; omega
                  · split
                    · simp
                    · split
                      · simp
                      · split
                        · simp
                        · simp only; omega
end Go.Proofs.YtbfieomjobbhoaaGreatDoor
/- Walks: the notes' reader: sign. -/
namespace Go.Proofs.YtbfieomjobbhoaaGreatDoor
open Go.RowKit Go.Gz Go.Shelf

set_option maxRecDepth 100000
def SignE (w : World) (R : Nat) (s : Bs) (a : Nat) (E : Int) (c : UInt8) (en : Ending) (w' : World) : Prop :=
  en = .returned (.bool (decide (s[a]? = some c))) ∧ RK R w w' ∧ RB w' R s (if s[a]? = some c then blkA s (a + 1) else a) E
set_option maxHeartbeats 1000000 in
theorem rsign_any (R : Nat) (s : Bs) (hs : s.length ≤ 1000000) (a : Nat) (ha : a ≤ s.length) (E : Int) (c : UInt8) (w : World) (h : RB w R s a E) :
    Calls Tryz.prog 231 #[.pointer (some ⟨R, 0, none⟩), .int .u8 (c.toNat : Int)] w (SignE w R s a E c) := by
  have hh : Hid (RK R w w.drew ∧ RB w.drew R s a E) := Lib.hid ⟨RK.drew R w, h⟩;obtain ⟨c0, c1, c2, z1, z2⟩ := h.cells;clear h;unfold SignE;by_cases hlt : a < s.length
  · obtain ⟨b, hb⟩ : ∃ b, (⟨s.toArray⟩ : ByteArray)[a]'(by rw [size_mk]; exact hlt) = b := ⟨_, rfl⟩;have hbk : s[a]? = some b := by rw [List.getElem?_eq_getElem hlt, ← hb]; rfl
    rw [hbk];clear hbk;have b1 : (0 : Int) ≤ (a : Int) := by omega
    have b2 : (a : Int) < (s.length : Int) := by omega
    have b3 : IntKind.i64.wrap ((a : Int) + 1) = ((a + 1 : Nat) : Int) := by rw [IntWalk.i64_in _ (by omega)]; omega
    have b4 : ((a : Int) == (s.length : Int)) = false := by rw [beq_eq_false_iff_ne]; omega
    by_cases he : b = c
    · subst he;rw [if_pos rfl, decide_eq_true rfl];have d0 : w.drew.cell? ⟨R, 1, none⟩ = some (.int .i64 (a : Int)) := c1;have d1 : w.drew.frozen? ⟨R, 1, none⟩ = false := z1;have BL := fun w h => Lib.hid (rblank_any R s hs (a + 1) (by omega) E w h);go_enter Tryz.func231, Tryz.ntmps231;go_wp2_with fail;go_region_held3 (fun w' => w'.cell? ⟨R, 0, none⟩ = some (.string ⟨s.toArray⟩) ∧ w'.cell? ⟨R, 1, none⟩ = some (.int .i64 (a : Int))) (first | assumption | exact ⟨c0, c1⟩) (fail)
      go_wp2_with (go_at_call 139; refine (BL _ (hh.out.2.at (a + 1))).out.mono ?_; rintro e w1 ⟨rfl, hk, hr⟩)
      go_ret;exact ⟨rfl, (hh.out.1.trans (RK.set R 1 _ _)).trans hk, hr⟩
    · have hne : (((b.toNat : Int)) != (c.toNat : Int)) = true := by
        rw [bne_iff_ne]; intro e; exact he (UInt8.toNat.inj (by omega))
      rw [if_neg (by intro e; injection e with e; exact he e), decide_eq_false (by intro e; injection e with e; exact he e)];clear he;go_enter Tryz.func231, Tryz.ntmps231;go_wp2_with fail;go_region_held3 (fun w' => w'.cell? ⟨R, 0, none⟩ = some (.string ⟨s.toArray⟩) ∧ w'.cell? ⟨R, 1, none⟩ = some (.int .i64 (a : Int))) (first | assumption | exact ⟨c0, c1⟩) (fail)
      go_wp2_with fail;go_ret;exact ⟨rfl, hh.out.1, hh.out.2⟩
  · have hn : s[a]? = none := by rw [List.getElem?_eq_none_iff]; omega
    rw [hn, if_neg (by simp), decide_eq_false (by simp)];clear hn;have b4 : ((a : Int) == (s.length : Int)) = true := by rw [beq_iff_eq]; omega
    have b5 : (a : Int) = (s.length : Int) := by omega
    go_enter Tryz.func231, Tryz.ntmps231;go_wp2_with fail;refine wp_region_held_drew (S := fun w' => w'.cell? ⟨R, 0, none⟩ = some (.string ⟨s.toArray⟩) ∧ w'.cell? ⟨R, 1, none⟩ = some (.int .i64 (a : Int))) (by kernel_rfl) ?_ (fun hHeld => ?_)
    · exact ⟨c0, c1⟩
    refine tk 0 rfl ?_;(try simp only [Act.put, tz1, tz2, tz3]);refine tk 1 rfl ?_;(try simp only [Act.put, tz1, tz2, tz3]);refine tk 2 rfl ?_;(try simp only [Act.put, tz1, tz2, tz3]);refine tk 3 rfl ?_;(try simp only [Act.put, tz1, tz2, tz3]);refine tk 4 rfl ?_;(try simp only [Act.put, tz1, tz2, tz3]);refine tk 5 rfl ?_;(try simp only [Act.put, tz1, tz2, tz3]);refine tk 6 rfl ?_;(try simp only [Act.put, tz1, tz2, tz3]);refine tk 7 rfl ?_;(try simp only [Act.put, tz1, tz2, tz3]);refine tk 8 rfl ?_;(try simp only [Act.put, tz1, tz2, tz3]);refine tk 9 rfl ?_;(try simp only [Act.put, tz1, tz2, tz3]);refine tk 10 rfl ?_;(try simp only [Act.put, tz1, tz2, tz3]);refine tk 11 rfl ?_;(try simp only [Act.put, tz1, tz2, tz3]);refine tk 12 rfl ?_;(try simp only [Act.put, tz1, tz2, tz3]);refine tk 13 rfl ?_;(try simp only [Act.put, tz1, tz2, tz3]);refine tk 14 rfl ?_;(try simp only [Act.put, tz1, tz2, tz3]);refine tk 15 rfl ?_;(try simp only [Act.put, tz1, tz2, tz3]);refine tk 16 rfl ?_;(try simp only [Act.put, tz1, tz2, tz3]);refine tk 17 rfl ?_;(try simp only [Act.put, tz1, tz2, tz3]);refine tk 18 rfl ?_;(try simp only [Act.put, tz1, tz2, tz3]);refine tk 19 rfl ?_;(try simp only [Act.put, tz1, tz2, tz3]);refine tk 20 rfl ?_;(try simp only [Act.put, tz1, tz2, tz3]);refine tk 21 rfl ?_;(try simp only [Act.put, tz1, tz2, tz3]);refine tk 22 rfl ?_;(try simp only [Act.put, tz1, tz2, tz3]);refine wpAnyH_done (by kernel_rfl) ?_ _;go_wp2_with fail;go_ret;exact ⟨rfl, hh.out.1, hh.out.2⟩
end Go.Proofs.YtbfieomjobbhoaaGreatDoor
/- Plain laws: a reader of JSON stands within the text. -/
namespace Go.Proofs.YtbfieomjobbhoaaGreatDoor
open Go.RowKit Go.Gz Go.Shelf

theorem takeL_le (s : Bs) : ∀ f i acc, (takeL s f i acc).2.2 = 0 → (takeL s f i acc).2.1 ≤ s.length := by
  intro f;induction f with
  | zero => intro i acc h; exact absurd h (show (3 : Int) ≠ 0 by decide)
  | succ f ih =>
    intro i acc h;unfold takeL at h ⊢;split
    · exact Nat.le_refl _
    · rename_i b hb;have hl := (List.getElem?_eq_some_iff.1 hb).1;rw [hb] at h;simp only at h;split
      · simp only; omega
      · rename_i h1;rw [if_neg h1] at h;split
        · rename_i h2;rw [if_pos h2] at h;split
          · exact Nat.le_refl _
          · rename_i h3;rw [if_neg h3] at h;split
            · rename_i h4; rw [if_pos h4] at h; exact absurd h h4
            · rename_i h4; rw [if_neg h4] at h; exact ih _ _ h
        · rename_i h2;rw [if_neg h2] at h;split
          · rename_i h3; rw [if_pos h3] at h; exact absurd h (show (4 : Int) ≠ 0 by decide)
          · rename_i h3; rw [if_neg h3] at h; exact ih _ _ h
theorem takeN_le {s : Bs} {a : Nat} (h : (takeN s a).2.2 = 0) : (takeN s a).2.1 ≤ s.length := by
  unfold takeN at h ⊢;split
  · rename_i h1; rw [if_pos h1] at h; exact absurd h (show (3 : Int) ≠ 0 by decide)
  · rename_i h1;rw [if_neg h1] at h;split
    · rename_i h2; rw [if_pos h2] at h; exact absurd h (show (4 : Int) ≠ 0 by decide)
    · rename_i h2; rw [if_neg h2] at h; exact takeL_le _ _ _ _ h
theorem wordN_le {s : Bs} {a : Nat} {w : Bs} (ha : a ≤ s.length) : (wordN s a w).1 ≤ s.length := by
  unfold wordN;split
  · rename_i h1;have := (List.isPrefixOf_iff_prefix.1 h1).length_le;rw [List.length_drop] at this;simp only; omega
  · split
    · exact Nat.le_refl _
    · exact ha
theorem numberN_le {s : Bs} {a : Nat} (ha : a ≤ s.length) : (numberN s a).1 ≤ s.length := by
  have h : (runN s a).length ≤ s.length - a := by
    unfold runN;have := (List.takeWhile_sublist numB (l := s.drop a)).length_le;rwa [List.length_drop] at this
  unfold numberN;split
  · exact ha
  · split
    · exact ha
    · split
      · exact ha
      · simp only; omega
theorem contN_le {σ : Type} {s : Bs} {cl : UInt8} {one : Nat → σ → Stand × σ} (h1 : ∀ a st, a ≤ s.length → (one a st).1.2 = 0 → (one a st).1.1 ≤ s.length) {a : Nat} {st : σ} (ha : a < s.length) (h : (contN s cl one a st).2 = 0) : (contN s cl one a st).1 ≤ s.length := by
  have key : ∀ f n a st, a ≤ s.length → (eachL s cl one f n a st).2 = 0 → (eachL s cl one f n a st).1 ≤ s.length := by
    intro f;induction f with
    | zero => intro n a st ha _; exact ha
    | succ f ih =>
      intro n a st ha h;unfold eachL at h ⊢;split
      · exact ha
      · rename_i g1;rw [if_neg g1] at h;split
        · rename_i g2; rw [if_pos g2] at h; exact absurd h g2
        · rename_i g2;rw [if_neg g2] at h;have hq := h1 a st ha (by simpa using g2);have hb := blkA_le hq;split
          · rename_i g3; have := (List.getElem?_eq_some_iff.1 g3).1; simp only; omega
          · rename_i g3;rw [if_neg g3] at h;split
            · rename_i g4;rw [if_pos g4] at h;have := (List.getElem?_eq_some_iff.1 g4).1;exact ih _ _ _ (blkA_le (by omega)) h
            · exact hb
  unfold contN at h ⊢;split
  · rename_i g; have := (List.getElem?_eq_some_iff.1 g).1; simp only; omega
  · rename_i g;rw [if_neg g] at h;exact key _ _ _ _ (blkA_le (by omega)) h
theorem valN_le (s : Bs) : ∀ d a, a ≤ s.length → (valN s d a).2 = 0 → (valN s d a).1 ≤ s.length := by
  intro d;induction d with
  | zero =>
    intro a ha h;unfold valN at h ⊢;split
    · exact ha
    · rename_i b hb;rw [hb] at h;simp only at h;split
      · exact wordN_le ha
      · rename_i g; rw [if_neg g] at h;split
        · exact wordN_le ha
        · rename_i g; rw [if_neg g] at h;split
          · exact wordN_le ha
          · rename_i g; rw [if_neg g] at h;split
            · rename_i g; rw [if_pos g] at h; exact takeN_le h
            · rename_i g; rw [if_neg g] at h;split
              · exact ha
              · rename_i g; rw [if_neg g] at h;split
                · exact ha
                · rename_i g; rw [if_neg g] at h;split
                  · exact numberN_le ha
                  · exact ha
  | succ d ih =>
    intro a ha h;unfold valN at h ⊢;split
    · exact ha
    · rename_i b hb;have hl := (List.getElem?_eq_some_iff.1 hb).1;rw [hb] at h;simp only at h;split
      · exact wordN_le ha
      · rename_i g; rw [if_neg g] at h;split
        · exact wordN_le ha
        · rename_i g; rw [if_neg g] at h;split
          · exact wordN_le ha
          · rename_i g; rw [if_neg g] at h;split
            · rename_i g; rw [if_pos g] at h; exact takeN_le h
            · rename_i g; rw [if_neg g] at h;split
              · rename_i g; rw [if_pos g] at h;exact contN_le (fun a _ ha h => ih a ha h) hl h
              · rename_i g; rw [if_neg g] at h;split
                · rename_i g; rw [if_pos g] at h;refine contN_le (fun a ns ha h => ?_) hl h;unfold objOne at h ⊢;split
                  · rename_i g; rw [if_pos g] at h; exact absurd h g
                  · rename_i g; rw [if_neg g] at h;split
                    · exact ha
                    · rename_i g2; rw [if_neg g2] at h;have hq := takeN_le (s := s) (a := a) (by simpa using g);split
                      · rename_i g3; rw [if_pos g3] at h;have := (List.getElem?_eq_some_iff.1 g3).1;exact ih _ (blkA_le (by omega)) h
                      · exact blkA_le hq
                · rename_i g; rw [if_neg g] at h;split
                  · exact numberN_le ha
                  · exact ha
/-- of nothing there is no value -/
theorem valN_end (s : Bs) (d : Nat) : (valN s d s.length).2 ≠ 0 := by
  have h : s[s.length]? = none := List.getElem?_eq_none (Nat.le_refl _);cases d <;> (unfold valN; rw [h]; exact (show (3 : Int) ≠ 0 by decide))
theorem objOne_end (s : Bs) (d : Nat) (ns : List Bs) : (objOne s (valN s d) s.length ns).1.2 ≠ 0 := by
  have h : s[s.length]? = none := List.getElem?_eq_none (Nat.le_refl _);unfold objOne;have e : takeN s s.length = ([], s.length, 3) := by unfold takeN; rw [if_pos h]
  rw [e, if_pos (show (3 : Int) ≠ 0 by decide)];exact (show (3 : Int) ≠ 0 by decide)
end Go.Proofs.YtbfieomjobbhoaaGreatDoor
