/- Walk: press.Press. -/
import Derived.Test.YtbfieomjobbhoaaGreatDoorMN19
import Derived.Test.YtbfieomjobbhoaaGreatDoorMN35
import Derived.Defers
namespace Go.Proofs.YtbfieomjobbhoaaGreatDoor
open Go.RowKit Go.Gz Go.Shelf

set_option maxRecDepth 100000
theorem pdone_ok (pe ps : Nat) (u : FrameMode) (w : World) (hc : w.cell? ⟨pe, 0, none⟩ = some (.int .i64 0)) :
    CallsD Tryz.prog 52 #[.pointer (some ⟨pe, 0, none⟩), .pointer (some ⟨ps, 0, none⟩)] u w fun e u' w' => u' = u ∧ (e = .returned (.tuple #[]) ∧ w' = w) := by
  go_enter_d Tryz.func52, Tryz.ntmps52
  go_wp2_with fail;go_end0
  exact ⟨rfl, rfl⟩
def PressE (w : World) (s : Bs) (E : Int) (en : Ending) (w' : World) : Prop := en = .returned (.tuple #[.string ⟨s.toArray⟩, .int .i64 E]) ∧ Up w w'
theorem build_pt (a b c d : ByteArray) (w : World) : (Instr.build 64 #[(0, .string a), (1, .string b), (2, .string c), (3, .string d)]).run Tryz.prog w = .ok (.agg #[.string a, .string b, .string c, .string d]) w := by kernel_rfl
theorem leaves_tmps {P : Program} {fn : Func} {R : Ending → World → Prop} {t1 t2 : Array Value} (h : ∀ w, (results fn t1).run P w = (results fn t2).run P w) : ∀ (ds : List Deferred) (u : FrameMode) (w : World), Leaves P fn t1 R ds u w → Leaves P fn t2 R ds u w := by
  intro ds;induction ds with
  | nil =>
    intro u w hh;cases u with
    | run => exact hh
    | returning => obtain ⟨v, h1, h2⟩ := hh; exact ⟨v, (h w) ▸ h1, h2⟩
    | panicking c => exact hh
  | cons d ds ih =>
    intro u w hh;obtain ⟨h1, fv, cap, f, args, h2, h3, h4⟩ := hh;refine ⟨h1, fv, cap, f, args, h2, h3, h4.mono (fun e u' w' he => ?_)⟩;cases e with
    | returned v => exact ih _ _ he
    | panicked c => exact ih _ _ he
    | outgrown => exact he
theorem pressQ {R : Ending → World → Prop} {K : Act → World → Prop} {dst : Option Tmp} {v : Value} (hd : ∀ d, dst = some d → d ≠ 4 ∧ d ≠ 5) : ∀ (c : List PanicEntry) (a : Act) (w : World), Exit.then K (bodyPostD Tryz.prog Tryz.f22 R) (.panic c) (a.put dst v) w → Exit.then K (bodyPostD Tryz.prog Tryz.f22 R) (.panic c) a w := by
  intro c a w h;cases dst with
  | none => exact h
  | some d =>
    obtain ⟨h4, h5⟩ := hd d rfl;refine leaves_tmps (t1 := a.tmps.setIfInBounds d v) (fun w => ?_) _ _ _ h;simp [results, Tryz.results22, Array.getElem?_setIfInBounds_ne h4, Array.getElem?_setIfInBounds_ne h5]
theorem cell_self {w : World} {b : Nat} {v : Value} {t : TypeId} (h : w.heap[b]? = some (.cells #[v] t (0, 0))) : w.setCell ⟨b, 0, none⟩ v = w := by
  have e : (w.setCell ⟨b, 0, none⟩ v).heap = w.heap := by
    apply Array.ext_getElem?;intro i;by_cases hi : i = b
    · subst hi; rw [heap_setCell_same w i 0 _ _ v h, h]; rfl
    · exact Below.heap_setCell w ⟨b, 0, none⟩ v i hi
  calc w.setCell ⟨b, 0, none⟩ v = { w.setCell ⟨b, 0, none⟩ v with heap := (w.setCell ⟨b, 0, none⟩ v).heap } := rfl
    _ = { w.setCell ⟨b, 0, none⟩ v with heap := w.heap } := by rw [e]
    _ = w := rfl
set_option maxHeartbeats 16000000 in
theorem press_good (L : Items) (hg : Gz.Good L) (hl : L.length ≤ 1000) (ht : total L ≤ 400000) (A : Option Addr) (c : Nat) (b : Nat) (hb : 512 ≤ b) (hb2 : b ≤ 16257) (kind : Nat) (hk : kind ≤ 5) (note : Bs) (hn : note.length ≤ 4096) (CK : ∀ w, Gl w → Hid (Calls Tryz.prog 53 #[.agg #[.int .i64 (b : Int), .int .u8 (kind : Int), .string ⟨note.toArray⟩]] w fun e w' => e = .returned (.int .i64 0) ∧ Up w w')) (w : World) (hgl : Gl w) (hr : Rd w 2 A L.length c (itV L)) :
    Calls Tryz.prog 22 #[.agg #[.slice A L.length c], .agg #[.int .i64 (b : Int), .int .u8 (kind : Int), .string ⟨note.toArray⟩]] w (PressE w (pressV L b kind note).2 0) := by
  obtain ⟨root, text, hv, hE, hroot, htext, hrl, hrow⟩ := press_ok hg hl (by omega) hb hb2 hk hn;rw [hv];obtain ⟨i1, i2, i3, i4, i5, i6, i7, i8⟩ := rows_inv L hg (by omega);have hrow1 := rows_row hg (by omega);have hok1 := rows_ok hg (by omega);have hrun : ∀ e ∈ (rowsL L).1, 1 ≤ e.run := fun e he => (i6 e he).2.1;obtain ⟨s1, s2, s3, s4⟩ := split_ok hb hb2 hrow1 hok1 (by omega) hrun;have hokr : ∀ e ∈ (splitV (rowsL L).1 b).2.1, okE e := by
    rcases s4 with ⟨_, e⟩ | ⟨n, hn, e, _⟩
    · rw [e]; exact hok1
    · rw [e]; exact root_okE hn hrow1 hok1 (by omega)
  have hrlen := row_len hrow;have henc : encE (splitV (rowsL L).1 b).2.1 = 0 := enc_mk s2 (by omega);have hencB : encB (splitV (rowsL L).1 b).2.1 = root := by unfold encB; rw [if_pos henc, hroot]
  have RW := fun w hr => Lib.hid (rows_any L hg hl ht A c w hr);have SP := fun A c w hr => Lib.hid (split_any (rowsL L).1 hok1 (by omega) hrow1 hrun b hb hb2 A c w hr);have DN := fun A c w hr => Lib.hid (denc_any (splitV (rowsL L).1 b).2.1 hokr (by omega) A c w hr);have PH := fun A2 c2 w hr hr2 => Lib.hid (phead_any L hg hl (rowsL L).1 hok1 (by omega) kind A c A2 c2 w hr hr2);have hfit := (hdr_ok hE).1.2.2.2;have GL : ∀ w, Hid (Calls Tryz.prog 57 #[hdrV (headH L (rowsL L).1 kind), .agg #[.string ⟨root.toArray⟩, .string ⟨note.toArray⟩, .string ⟨text.toArray⟩, .string ⟨(rowsL L).2.flatten.toArray⟩]] w fun e w' => e = .returned (.tuple #[.string ⟨(hdrB (withH (headH L (rowsL L).1 kind) root.length note.length text.length (rowsL L).2.flatten.length) ++ (root ++ (note ++ (text ++ (rowsL L).2.flatten)))).toArray⟩, .int .i64 0]) ∧ Up w w') := fun w =>
    Lib.hid (lglue_any 0 0 0 0 0 0 0 0 L.length (rowsL L).1.length (contE (rowsL L).1) true 1 1 kind (minZ L) (maxZ L) (-1800000000) (-850511287) 1800000000 850511287 (minZ L) 0 0 root note text (rowsL L).2.flatten (by simpa [withH] using hfit) hE ⟨by omega, by omega, by have := seenE_len (rowsL L).1; omega⟩ w)
  simp only [henc, hencB] at DN;unfold RowsE at RW;unfold SplitE at SP;rw [← htext] at SP;have hll : (rowsL L).1.length ≤ 1000 := by omega
  clear hv hE hroot htext hrow i1 i2 i3 i4 i5 i6 i7 i8 hrow1 hok1 hrun s1 s2 s3 s4 hokr henc hencB hfit hrl hg ht;generalize hdrB (withH (headH L (rowsL L).1 kind) root.length note.length text.length (rowsL L).2.flatten.length) ++ (root ++ (note ++ (text ++ (rowsL L).2.flatten))) = res at *;generalize hdrV (headH L (rowsL L).1 kind) = hv at *;generalize (rowsL L).2.flatten = data at *;generalize (splitV (rowsL L).1 b).2.2.2 = sn at *;generalize (splitV (rowsL L).1 b).2.1 = r at *;generalize (rowsL L).1 = l at *;have HR := Lib.hid hr;clear hr;generalize L.length = n at *;generalize hlm : l.length = m at *;generalize hrm : r.length = rl at *;clear hlm hrm;have b0 := heap_alloc_new w (.cells #[.slice A n c] 33);have b1 := heap_alloc_new (w.alloc (.cells #[.slice A n c] 33)) (.cells #[.int .i64 (b : Int), .int .u8 (kind : Int), .string ⟨note.toArray⟩] 58);have b2 := heap_alloc_new ((w.alloc (.cells #[.slice A n c] 33)).alloc (.cells #[.int .i64 (b : Int), .int .u8 (kind : Int), .string ⟨note.toArray⟩] 58)) (.cells #[.string ⟨#[]⟩] 9);have b3 := heap_alloc_new (((w.alloc (.cells #[.slice A n c] 33)).alloc (.cells #[.int .i64 (b : Int), .int .u8 (kind : Int), .string ⟨note.toArray⟩] 58)).alloc (.cells #[.string ⟨#[]⟩] 9)) (.cells #[.int .i64 0] 25);simp only [World.size_alloc] at b1 b2 b3;replace b0 := ((((Up.refl _).alloc (.cells #[.int .i64 (b : Int), .int .u8 (kind : Int), .string ⟨note.toArray⟩] 58)).alloc (.cells #[.string ⟨#[]⟩] 9)).alloc (.cells #[.int .i64 0] 25)).obj b0;replace b1 := (((Up.refl _).alloc (.cells #[.string ⟨#[]⟩] 9)).alloc (.cells #[.int .i64 0] 25)).obj b1;replace b2 := ((Up.refl _).alloc (.cells #[.int .i64 0] 25)).obj b2;have hu0 : Up w ((((w.alloc (.cells #[.slice A n c] 33)).alloc (.cells #[.int .i64 (b : Int), .int .u8 (kind : Int), .string ⟨note.toArray⟩] 58)).alloc (.cells #[.string ⟨#[]⟩] 9)).alloc (.cells #[.int .i64 0] 25)) := ((((Up.refl w).alloc _).alloc _).alloc _).alloc _;have hmf : ∀ (fn : Fn) (first cap : Array Value) (w : World), (Instr.makeFunc fn first cap).run Tryz.prog w = .ok (.func fn first cap) w := fun _ _ _ _ => rfl;have hbp := build_pt ⟨root.toArray⟩ ⟨note.toArray⟩ ⟨text.toArray⟩ ⟨data.toArray⟩;have p0 := blkc b1 0 _ rfl;have p1 := blkc b1 1 _ rfl;have p2 := blkc b1 2 _ rfl;go_enter_defers Tryz.func22, Tryz.ntmps22
  go_wp2_with fail;obtain ⟨X, hX⟩ : ∃ x, ((((w.alloc (.cells #[.slice A n c] 33)).alloc (.cells #[.int .i64 (b : Int), .int .u8 (kind : Int), .string ⟨note.toArray⟩] 58)).alloc (.cells #[.string ⟨#[]⟩] 9)).alloc (.cells #[.int .i64 0] 25)) = x := ⟨_, rfl⟩;rw [hX] at b0 b1 b2 b3 hu0 p0 p1 p2 ⊢;clear hX;refine (CK _ (hgl.up hu0)).out.mono ?_;rintro e w1 ⟨rfl, hu1⟩;have HU1 := Lib.hid (hu0.trans hu1);replace b0 := hu1.obj b0;replace b1 := hu1.obj b1;replace b2 := hu1.obj b2;replace b3 := hu1.obj b3;have hs := cell_self b3;have q3 := (blk_one b3).1;have f3 := (blk_one b3).2;have q0 := (blk_one b0).1;clear hu0 hu1 p0 p1 p2;go_wp2_with fail;refine (RW _ (HR.out.up HU1.out)).out.mono ?_;rintro e w2 ⟨A1, c1, rfl, r1, hu2⟩;have HU2 := Lib.hid (HU1.out.trans hu2);replace b0 := hu2.obj b0;replace b1 := hu2.obj b1;replace b2 := hu2.obj b2;replace b3 := hu2.obj b3;have p0 := blkc b1 0 _ rfl;clear hs q3 f3 q0 hu2 HU1;go_wp2_with fail;refine (SP _ _ _ r1).out.mono ?_;rintro e w3 ⟨A3, c3, rfl, r3, hu3⟩;have R1 := Lib.hid (r1.up hu3);have HU3 := Lib.hid (HU2.out.trans hu3);replace b0 := hu3.obj b0;replace b1 := hu3.obj b1;replace b2 := hu3.obj b2;replace b3 := hu3.obj b3;have hs := cell_self b3;have q3 := (blk_one b3).1;have f3 := (blk_one b3).2;clear p0 hu3 HU2 r1;go_wp2_with fail;refine (DN _ _ _ r3).out.mono ?_;rintro e w4 ⟨rfl, hu4⟩;have R4 := Lib.hid (R1.out.up hu4);have HU4 := Lib.hid (HU3.out.trans hu4);replace b0 := hu4.obj b0;replace b1 := hu4.obj b1;replace b2 := hu4.obj b2;replace b3 := hu4.obj b3;replace hs := cell_self b3;replace q3 := (blk_one b3).1;replace f3 := (blk_one b3).2;have HB := Lib.hid (And.intro b0 (And.intro b1 (And.intro b2 b3)));have MK := Lib.hid (fun (w' : World) (h0 : w'.heap[w.heap.size]? = some (.cells #[.slice A n c] 33 (0, 0))) (h1 : w'.heap[w.heap.size + 1]? = some (.cells #[.int .i64 (b : Int), .int .u8 (kind : Int), .string ⟨note.toArray⟩] 58 (0, 0))) => (⟨h0, h1, (blk_one h0).1, blkc h1 1 _ rfl, blkc h1 2 _ rfl⟩ : w'.heap[w.heap.size]? = some (.cells #[.slice A n c] 33 (0, 0)) ∧ w'.heap[w.heap.size + 1]? = some (.cells #[.int .i64 (b : Int), .int .u8 (kind : Int), .string ⟨note.toArray⟩] 58 (0, 0)) ∧ w'.cell? ⟨w.heap.size, 0, none⟩ = some (.slice A n c) ∧ w'.cell? ⟨w.heap.size + 1, 1, none⟩ = some (.int .u8 (kind : Int)) ∧ w'.cell? ⟨w.heap.size + 1, 2, none⟩ = some (.string ⟨note.toArray⟩)));clear hu4 HU3 R1 r3 b0 b1 b2 b3;go_wp2_with fail;clear hs q3 f3;refine wp_region_held_drew (S := fun w' => w'.heap[w.heap.size]? = some (.cells #[.slice A n c] 33 (0, 0)) ∧ w'.heap[w.heap.size + 1]? = some (.cells #[.int .i64 (b : Int), .int .u8 (kind : Int), .string ⟨note.toArray⟩] 58 (0, 0)) ∧ w'.cell? ⟨w.heap.size, 0, none⟩ = some (.slice A n c) ∧ w'.cell? ⟨w.heap.size + 1, 1, none⟩ = some (.int .u8 (kind : Int)) ∧ w'.cell? ⟨w.heap.size + 1, 2, none⟩ = some (.string ⟨note.toArray⟩)) (by kernel_rfl) ?_ (fun hHeld => ?_)
  · exact MK.out _ HB.out.1 HB.out.2.1
  first
    | (refine wpAnyH_take (i := 0) (oi := ⟨_, _, _, _, _, _⟩) (v := undef) rfl (by kernel_rfl) (by kernel_rfl) (by kernel_rfl) (pressQ (by intro d h; cases h; decide)) (Or.inr ⟨by rfl, rfl⟩) (by assumption) ?_; (try simp only [Act.put, tz1, tz2, tz3]))
    | (refine wpAnyH_take (i := 0) (oi := ⟨_, _, _, _, _, _⟩) (v := ?_) rfl (by kernel_rfl) (by kernel_rfl) (by kernel_rfl) (pressQ (by intro d h; cases h; decide)) (Or.inl ⟨by rfl, ?_⟩) (by assumption) ?_
       rotate_left;focus (intro w hSw; (try dsimp only at hSw); go_simp; first | done | with_reducible rfl)
       (try simp only [Act.put, tz1, tz2, tz3]))
  first
    | (refine wpAnyH_take (i := 1) (oi := ⟨_, _, _, _, _, _⟩) (v := undef) rfl (by kernel_rfl) (by kernel_rfl) (by kernel_rfl) (pressQ (by intro d h; cases h; decide)) (Or.inr ⟨by rfl, rfl⟩) (by assumption) ?_; (try simp only [Act.put, tz1, tz2, tz3]))
    | (refine wpAnyH_take (i := 1) (oi := ⟨_, _, _, _, _, _⟩) (v := ?_) rfl (by kernel_rfl) (by kernel_rfl) (by kernel_rfl) (pressQ (by intro d h; cases h; decide)) (Or.inl ⟨by rfl, ?_⟩) (by assumption) ?_
       rotate_left;focus (intro w hSw; (try dsimp only at hSw); go_simp; first | done | with_reducible rfl)
       (try simp only [Act.put, tz1, tz2, tz3]))
  first
    | (refine wpAnyH_take (i := 2) (oi := ⟨_, _, _, _, _, _⟩) (v := undef) rfl (by kernel_rfl) (by kernel_rfl) (by kernel_rfl) (pressQ (by intro d h; cases h; decide)) (Or.inr ⟨by rfl, rfl⟩) (by assumption) ?_; (try simp only [Act.put, tz1, tz2, tz3]))
    | (refine wpAnyH_take (i := 2) (oi := ⟨_, _, _, _, _, _⟩) (v := ?_) rfl (by kernel_rfl) (by kernel_rfl) (by kernel_rfl) (pressQ (by intro d h; cases h; decide)) (Or.inl ⟨by rfl, ?_⟩) (by assumption) ?_
       rotate_left;focus (intro w hSw; (try dsimp only at hSw); go_simp; first | done | with_reducible rfl)
       (try simp only [Act.put, tz1, tz2, tz3]))
  first
    | (refine wpAnyH_take (i := 3) (oi := ⟨_, _, _, _, _, _⟩) (v := undef) rfl (by kernel_rfl) (by kernel_rfl) (by kernel_rfl) (pressQ (by intro d h; cases h; decide)) (Or.inr ⟨by rfl, rfl⟩) (by assumption) ?_; (try simp only [Act.put, tz1, tz2, tz3]))
    | (refine wpAnyH_take (i := 3) (oi := ⟨_, _, _, _, _, _⟩) (v := ?_) rfl (by kernel_rfl) (by kernel_rfl) (by kernel_rfl) (pressQ (by intro d h; cases h; decide)) (Or.inl ⟨by rfl, ?_⟩) (by assumption) ?_
       rotate_left;focus (intro w hSw; (try dsimp only at hSw); go_simp; first | done | with_reducible rfl)
       (try simp only [Act.put, tz1, tz2, tz3]))
  first
    | (refine wpAnyH_take (i := 5) (oi := ⟨_, _, _, _, _, _⟩) (v := undef) rfl (by kernel_rfl) (by kernel_rfl) (by kernel_rfl) (pressQ (by intro d h; cases h; decide)) (Or.inr ⟨by rfl, rfl⟩) (by assumption) ?_; (try simp only [Act.put, tz1, tz2, tz3]))
    | (refine wpAnyH_take (i := 5) (oi := ⟨_, _, _, _, _, _⟩) (v := ?_) rfl (by kernel_rfl) (by kernel_rfl) (by kernel_rfl) (pressQ (by intro d h; cases h; decide)) (Or.inl ⟨by rfl, ?_⟩) (by assumption) ?_
       rotate_left;focus (intro w hSw; (try dsimp only at hSw); go_simp; first | done | with_reducible rfl)
       (try simp only [Act.put, tz1, tz2, tz3]))
  first
    | (refine wpAnyH_take (i := 6) (oi := ⟨_, _, _, _, _, _⟩) (v := undef) rfl (by kernel_rfl) (by kernel_rfl) (by kernel_rfl) (pressQ (by intro d h; cases h; decide)) (Or.inr ⟨by rfl, rfl⟩) (by assumption) ?_; (try simp only [Act.put, tz1, tz2, tz3]))
    | (refine wpAnyH_take (i := 6) (oi := ⟨_, _, _, _, _, _⟩) (v := ?_) rfl (by kernel_rfl) (by kernel_rfl) (by kernel_rfl) (pressQ (by intro d h; cases h; decide)) (Or.inl ⟨by rfl, ?_⟩) (by assumption) ?_
       rotate_left;focus (intro w hSw; (try dsimp only at hSw); go_simp; first | done | with_reducible rfl)
       (try simp only [Act.put, tz1, tz2, tz3]))
  first
    | (refine wpAnyH_take (i := 7) (oi := ⟨_, _, _, _, _, _⟩) (v := undef) rfl (by kernel_rfl) (by kernel_rfl) (by kernel_rfl) (pressQ (by intro d h; cases h; decide)) (Or.inr ⟨by rfl, rfl⟩) (by assumption) ?_; (try simp only [Act.put, tz1, tz2, tz3]))
    | (refine wpAnyH_take (i := 7) (oi := ⟨_, _, _, _, _, _⟩) (v := ?_) rfl (by kernel_rfl) (by kernel_rfl) (by kernel_rfl) (pressQ (by intro d h; cases h; decide)) (Or.inl ⟨by rfl, ?_⟩) (by assumption) ?_
       rotate_left;focus (intro w hSw; (try dsimp only at hSw); go_simp; first | done | with_reducible rfl)
       (try simp only [Act.put, tz1, tz2, tz3]))
  first
    | (refine wpAnyH_take (i := 8) (oi := ⟨_, _, _, _, _, _⟩) (v := undef) rfl (by kernel_rfl) (by kernel_rfl) (by kernel_rfl) (pressQ (by intro d h; cases h; decide)) (Or.inr ⟨by rfl, rfl⟩) (by assumption) ?_; (try simp only [Act.put, tz1, tz2, tz3]))
    | (refine wpAnyH_take (i := 8) (oi := ⟨_, _, _, _, _, _⟩) (v := ?_) rfl (by kernel_rfl) (by kernel_rfl) (by kernel_rfl) (pressQ (by intro d h; cases h; decide)) (Or.inl ⟨by rfl, ?_⟩) (by assumption) ?_
       rotate_left;focus (intro w hSw; (try dsimp only at hSw); go_simp; first | done | with_reducible rfl)
       (try simp only [Act.put, tz1, tz2, tz3]))
  first
    | (refine wpAnyH_take (i := 9) (oi := ⟨_, _, _, _, _, _⟩) (v := undef) rfl (by kernel_rfl) (by kernel_rfl) (by kernel_rfl) (pressQ (by intro d h; cases h; decide)) (Or.inr ⟨by rfl, rfl⟩) (by assumption) ?_; (try simp only [Act.put, tz1, tz2, tz3]))
    | (refine wpAnyH_take (i := 9) (oi := ⟨_, _, _, _, _, _⟩) (v := ?_) rfl (by kernel_rfl) (by kernel_rfl) (by kernel_rfl) (pressQ (by intro d h; cases h; decide)) (Or.inl ⟨by rfl, ?_⟩) (by assumption) ?_
       rotate_left;focus (intro w hSw; (try dsimp only at hSw); go_simp; first | done | with_reducible rfl)
       (try simp only [Act.put, tz1, tz2, tz3]))
  first
    | (refine wpAnyH_take (i := 10) (oi := ⟨_, _, _, _, _, _⟩) (v := undef) rfl (by kernel_rfl) (by kernel_rfl) (by kernel_rfl) (pressQ (by intro d h; cases h; decide)) (Or.inr ⟨by rfl, rfl⟩) (by assumption) ?_; (try simp only [Act.put, tz1, tz2, tz3]))
    | (refine wpAnyH_take (i := 10) (oi := ⟨_, _, _, _, _, _⟩) (v := ?_) rfl (by kernel_rfl) (by kernel_rfl) (by kernel_rfl) (pressQ (by intro d h; cases h; decide)) (Or.inl ⟨by rfl, ?_⟩) (by assumption) ?_
       rotate_left;focus (intro w hSw; (try dsimp only at hSw); go_simp; first | done | with_reducible rfl)
       (try simp only [Act.put, tz1, tz2, tz3]))
  refine rd1 4 rfl (fun K hK => ?_);go_simp;go_at_call 58;refine (PH _ _ _ (HR.out.up (HU4.out.trans (Up.refl w4).drew)) (R4.out.up (Up.refl w4).drew)).out.mono ?_;rintro e w5 ⟨rfl, hu5⟩;refine hK.out _ _ ?_ (fun hHeld2 => ?_)
  · exact MK.out _ (((Up.refl w4).drew.trans hu5).obj HB.out.1) (((Up.refl w4).drew.trans hu5).obj HB.out.2.1)
  clear hK K hHeld;have hHeld := hHeld2;clear hHeld2;(try simp only [Act.put, tz1, tz2, tz3]);refine rd1 11 rfl (fun K hK => ?_);go_simp;go_at_call 57;refine (GL _).out.mono ?_;rintro e w6 ⟨rfl, hu6⟩;have hu := ((Up.refl w4).drew.trans hu5).trans hu6;have g0 := hu.obj HB.out.1;have g1 := hu.obj HB.out.2.1;have g2 := hu.obj HB.out.2.2.1;have g3 := hu.obj HB.out.2.2.2;have HU6 := Lib.hid (HU4.out.trans hu);refine hK.out _ _ ?_ (fun hHeld2 => ?_)
  · exact MK.out _ g0 g1
  clear hK K hHeld;have hHeld := hHeld2;clear hHeld2;(try simp only [Act.put, tz1, tz2, tz3])
  first
    | (refine wpAnyH_take (i := 12) (oi := ⟨_, _, _, _, _, _⟩) (v := undef) rfl (by kernel_rfl) (by kernel_rfl) (by kernel_rfl) (pressQ (by intro d h; cases h; decide)) (Or.inr ⟨by rfl, rfl⟩) (by assumption) ?_; (try simp only [Act.put, tz1, tz2, tz3]))
    | (refine wpAnyH_take (i := 12) (oi := ⟨_, _, _, _, _, _⟩) (v := ?_) rfl (by kernel_rfl) (by kernel_rfl) (by kernel_rfl) (pressQ (by intro d h; cases h; decide)) (Or.inl ⟨by rfl, ?_⟩) (by assumption) ?_
       rotate_left;focus (intro w hSw; (try dsimp only at hSw); go_simp; first | done | with_reducible rfl)
       (try simp only [Act.put, tz1, tz2, tz3]))
  first
    | (refine wpAnyH_take (i := 13) (oi := ⟨_, _, _, _, _, _⟩) (v := undef) rfl (by kernel_rfl) (by kernel_rfl) (by kernel_rfl) (pressQ (by intro d h; cases h; decide)) (Or.inr ⟨by rfl, rfl⟩) (by assumption) ?_; (try simp only [Act.put, tz1, tz2, tz3]))
    | (refine wpAnyH_take (i := 13) (oi := ⟨_, _, _, _, _, _⟩) (v := ?_) rfl (by kernel_rfl) (by kernel_rfl) (by kernel_rfl) (pressQ (by intro d h; cases h; decide)) (Or.inl ⟨by rfl, ?_⟩) (by assumption) ?_
       rotate_left;focus (intro w hSw; (try dsimp only at hSw); go_simp; first | done | with_reducible rfl)
       (try simp only [Act.put, tz1, tz2, tz3]))
  have q4 := (blk_one g2).1;have f4 := (blk_one g2).2;have n2 := heap_setCell_same w6 (w.heap.size + 1 + 1) 0 _ _ (.string ⟨res.toArray⟩) g2;have n0 := (Below.heap_setCell w6 ⟨w.heap.size + 1 + 1, 0, none⟩ (.string ⟨res.toArray⟩) (w.heap.size) (by simp; omega)).trans g0;have n1 := (Below.heap_setCell w6 ⟨w.heap.size + 1 + 1, 0, none⟩ (.string ⟨res.toArray⟩) (w.heap.size + 1) (by simp)).trans g1;have n3 := (Below.heap_setCell w6 ⟨w.heap.size + 1 + 1, 0, none⟩ (.string ⟨res.toArray⟩) (w.heap.size + 1 + 1 + 1) (by simp)).trans g3;refine rd1 14 rfl (fun K hK => ?_);go_simp;refine hK.out _ _ ?_ (fun hHeld2 => ?_)
  · exact MK.out _ n0 n1
  clear hK K hHeld;have hHeld := hHeld2;clear hHeld2;(try simp only [Act.put, tz1, tz2, tz3]);have HUX := Lib.hid (HU6.out.set (p := ⟨w.heap.size + 1 + 1, 0, none⟩) (by simp; omega) (.string ⟨res.toArray⟩));obtain ⟨X, hX⟩ : ∃ x, w6.setCell ⟨w.heap.size + 1 + 1, 0, none⟩ (.string ⟨res.toArray⟩) = x := ⟨_, rfl⟩;rw [hX] at n0 n1 n2 n3 HUX hHeld ⊢;clear hX q4 f4;have q5 := (blk_one n3).1;have f5 := (blk_one n3).2;have hs := cell_self n3;refine rd1 15 rfl (fun K hK => ?_);go_simp;refine hK.out _ _ ?_ (fun hHeld2 => ?_)
  · exact MK.out _ n0 n1
  clear hK K hHeld;have hHeld := hHeld2;clear hHeld2;(try simp only [Act.put, tz1, tz2, tz3]);refine wpAnyH_done (by kernel_rfl) ?_ _;go_wp2_with fail;refine leaves_cons (f := 52) (args := #[.pointer (some ⟨w.heap.size + 1 + 1 + 1, 0, none⟩), .pointer (some ⟨w.heap.size + 1 + 1, 0, none⟩)]) (by simp) (by simp [go_sem]) ?_;refine (pdone_ok _ _ .returning _ q5).mono ?_;rintro e u' w'' ⟨rfl, rfl, rfl⟩;have k2 := (blk_one n2).1;refine ⟨.tuple #[.string ⟨res.toArray⟩, .int .i64 0], by simp [results, Tryz.results22, go_sem, k2, q5], rfl, HUX.out⟩
end Go.Proofs.YtbfieomjobbhoaaGreatDoor
