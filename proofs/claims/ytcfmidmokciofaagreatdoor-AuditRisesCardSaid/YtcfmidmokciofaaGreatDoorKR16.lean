/- Plain laws: the rules that bytes break (an audit); a pressed archive breaks none. -/
import Derived.Test.YtcfmidmokciofaaGreatDoorKR09
import Derived.Test.YtcfmidmokciofaaGreatDoorKR15
import Derived.Test.YtcfmidmokciofaaGreatDoorKR04
import Derived.Test.YtcfmidmokciofaaGreatDoorKR02
import Derived.Test.YtcfmidmokciofaaGreatDoorKR06
import Derived.Maps.OwnOps
import Derived.Maps.OwnSet
import Derived.Maps.Views
import Derived.Test.YtcfmidmokciofaaGreatDoorKR01
namespace Go.Proofs.YtcfmidmokciofaaGreatDoor
open Go.RowKit Go.Gz
/-- how often a rule is broken -/
abbrev Brk := Nat → Nat
def hold (F : Brk) (r : Nat) (good : Bool) : Brk := if good = true then F else fun q => if q = r then F q + 1 else F q
theorem hold_true (F : Brk) (r : Nat) {g : Bool} (h : g = true) : hold F r g = F := by unfold hold; rw [if_pos h]
def zB : Brk := fun _ => 0
/-- a section's bytes, as far as there are any -/
def secT (s : Bs) (f n : Nat) : Bs := (s.drop (min s.length f)).take (min s.length (f + n) - min s.length f)
theorem secT_in {s : Bs} {f n : Nat} (h : f + n ≤ s.length) : secT s f n = (s.drop f).take n := by
  unfold secT;have e1 : min s.length f = f := by omega
  have e2 : min s.length (f + n) = f + n := by omega
  rw [e1, e2, Nat.add_sub_cancel_left]
def laidE (h : Hdr) (n : Nat) : Int := if hdrE h ≠ 0 then hdrE h else if h.r0 < 127 ∨ h.m0 < h.r0 + h.r1 ∨ h.l0 < h.m0 + h.m1 ∨ h.d0 < h.l0 + h.l1 then 10 else if n < h.d0 + h.d1 then 8 else 0
def tightA (h : Hdr) (n : Nat) : Bool := decide (h.r0 = 127 ∧ h.m0 = h.r0 + h.r1 ∧ h.l0 = h.m0 + h.m1 ∧ h.d0 = h.l0 + h.l1 ∧ h.d0 + h.d1 = n)
def codecA (h : Hdr) : Bool := decide (h.inn = 1 ∧ h.out = 1 ∧ h.clu = true)
def noteA (t : Bs) : Bool := decide (noteN t = 0 ∧ t[blkA t 0]? = some 123)
/-- the rules of the header -/
def secF (s : Bs) (h : Hdr) (b : Int) : Brk :=
  hold (hold (hold (hold (hold zB 2 (decide (laidE h s.length = 0))) 3 (tightA h s.length)) 4 (codecA h)) 5 (noteA (secT s h.m0 h.m1))) 6 (decide (0 ≤ b ∧ (h.r1 : Int) ≤ b))
/-- the entries of a pointer -/
def leafA (p : Ent) (text : Bs) : Ents :=
  if text.length < p.off + p.len then [] else if ((decD ((text.drop p.off).take p.len)).2.head?.map fun e => e.id) ≠ some p.id then [] else (decD ((text.drop p.off).take p.len)).2
def deepF (F : Brk) (l : Ents) : Brk := l.foldl (fun F y => hold F 9 (decide (0 < y.run))) F
def entStep (text : Bs) (st : Brk × Ents) (x : Ent) : Brk × Ents :=
  if 0 < x.run then (st.1, st.2 ++ [x]) else (deepF (hold st.1 8 (decide (0 < (leafA x text).length))) (leafA x text), st.2 ++ leafA x text)
def entF (s : Bs) (h : Hdr) (F : Brk) : Brk × Ents :=
  (decD (secT s h.r0 h.r1)).2.foldl (entStep (secT s h.l0 h.l1)) (hold F 7 (decide ((decD (secT s h.r0 h.r1)).1 = 0)), [])
/-- the rules of the rows, but for the contents' places -/
def prevF (F : Brk) (p : Option Ent) (e : Ent) : Brk :=
  match p with
  | none => F
  | some a => hold (hold F 10 (decide (lastE a < e.id))) 12 (decide (¬ (e.id = lastE a + 1 ∧ e.off = a.off ∧ e.len = a.len)))
def rowsF1 (data : Bs) : Brk → Option Ent → Ents → Brk
  | F, _, [] => F
  | F, p, e :: r => rowsF1 data (hold (prevF F p e) 11 (decide (e.off + e.len ≤ data.length))) (some e) r
/-- the places, each once -/
def plA (l : Ents) : List (Nat × Nat) := l.foldl (fun acc e => if (e.off, e.len) ∈ acc then acc else acc ++ [(e.off, e.len)]) []
def plLe (a b : Nat × Nat) : Bool := decide (a.1 < b.1 ∨ (a.1 = b.1 ∧ a.2 ≤ b.2))
def srtP (l : Ents) : List (Nat × Nat) := (plA l).mergeSort plLe
def onceF : Brk → Nat → List (Nat × Nat) → Brk × Nat
  | F, e, [] => (F, e)
  | F, e, p :: r => onceF (hold F 13 (decide (p.1 = e))) (p.1 + p.2) r
def textsA (data : Bs) (P : List (Nat × Nat)) : List Bs := (P.map fun p => (data.drop p.1).take p.2).foldl addC []
def onceA (data : Bs) (P : List (Nat × Nat)) (F : Brk) : Brk :=
  hold (onceF F 0 P).1 13 (decide ((onceF F 0 P).2 = data.length ∧ (textsA data P).length = P.length))
def loA (l : Ents) : Int := match l.head? with | none => 0 | some e => zoomV e.id
def hiA (l : Ents) : Int := match l.getLast? with | none => 0 | some e => zoomV (lastE e)
def rowF (s : Bs) (h : Hdr) (l : Ents) (F : Brk) : Brk :=
  hold (hold (if rowsF1 (secT s h.d0 h.d1) F none l 11 = 0 then onceA (secT s h.d0 h.d1) (srtP l) (rowsF1 (secT s h.d0 h.d1) F none l) else rowsF1 (secT s h.d0 h.d1) F none l) 14
    (decide (h.adr = (l.map fun e => e.run).sum ∧ h.ent = l.length ∧ h.con = (srtP l).length))) 15 (decide (h.minz = loA l ∧ h.maxz = hiA l))
def checkF (s : Bs) (b : Int) : Brk :=
  if (entF s (hdrD s) (secF s (hdrD s) b)).1 7 + (entF s (hdrD s) (secF s (hdrD s) b)).1 8 + (entF s (hdrD s) (secF s (hdrD s) b)).1 9 = 0
  then rowF s (hdrD s) (entF s (hdrD s) (secF s (hdrD s) b)).2 (entF s (hdrD s) (secF s (hdrD s) b)).1 else (entF s (hdrD s) (secF s (hdrD s) b)).1
/-- the rules that bytes break -/
def audV (s : Bs) (b : Int) : List Nat := if hdrDE s ≠ 0 then [1] else (List.range' 1 15).filter fun r => decide (0 < checkF s b r)
theorem piece_leaf {x : Ent} {text : Bs} (h : (pieceE x text).1 = 0) : leafA x text = (pieceE x text).2 ∧ (pieceE x text).2 ≠ [] ∧ ∀ e ∈ (pieceE x text).2, 0 < e.run := by
  unfold pieceE at h ⊢;unfold leafA;split at h
  · simp at h
  · rename_i h1;rw [if_neg h1, if_neg h1];split at h
    · rename_i h2; exact absurd h h2
    · rename_i h2;rw [if_neg h2];split at h
      · simp at h
      · rename_i h3;rw [if_neg h3];split at h
        · simp at h
        · rename_i h4;rw [if_neg h4, if_neg h4];refine ⟨rfl, ?_, fun e he => ?_⟩
          · intro hn;simp only at hn;rw [hn] at h4;simp at h4
          · have h5 : ¬ ((decD ((text.drop x.off).take x.len)).2.any fun e => e.run == 0) = true := h3;rw [List.any_eq_true] at h5;have : ¬ e.run = 0 := fun h0 => h5 ⟨e, he, by simpa using h0⟩;omega
theorem deep_zero (F : Brk) (l : Ents) (h : ∀ e ∈ l, 0 < e.run) : deepF F l = F := by
  unfold deepF;induction l with
  | nil => rfl
  | cons e r ih =>
    rw [List.foldl_cons, hold_true F 9 (by simpa using h e (by simp))];exact ih fun x hx => h x (by simp [hx])
theorem ent_join (text : Bs) (F : Brk) : ∀ (r : Ents) (out L : Ents), joinGo text r out = (0, L) → r.foldl (entStep text) (F, out) = (F, L)
  | [], out, L, h => by
    unfold joinGo at h;injection h with _ h;subst h;rfl
  | x :: r, out, L, h => by
    unfold joinGo at h;rw [List.foldl_cons];unfold entStep;by_cases hx : x.run = 0
    · rw [if_neg (by simp [hx])] at h;rw [if_neg (by omega)];split at h
      · rename_i h1;injection h with h _;exact absurd h h1
      · rename_i h1;have h1 : (pieceE x text).1 = 0 := by simpa using h1
        obtain ⟨e1, e2, e3⟩ := piece_leaf h1;rw [e1, hold_true F 8 (by
          rw [decide_eq_true_eq];exact List.length_pos_iff.2 e2), deep_zero F _ e3]
        exact ent_join text F r _ L h
    · rw [if_pos (by simpa using hx)] at h;rw [if_pos (by omega)];exact ent_join text F r _ L h
theorem rows1_zero (data : Bs) (F : Brk) : ∀ (l : Ents) (p : Option Ent), (∀ e ∈ l, e.off + e.len ≤ data.length) → (∀ e ∈ l, chkE e = 0) → l.Pairwise (fun a b => a.id + wideE a ≤ b.id) → apartE l →
    (∀ a, p = some a → chkE a = 0 ∧ ∀ e, l.head? = some e → a.id + wideE a ≤ e.id ∧ goesE a e = false) → rowsF1 data F p l = F
  | [], _, _, _, _, _, _ => rfl
  | e :: r, p, h1, h2, h3, h4, h5 => by
    have hp : prevF F p e = F := by
      cases p with
      | none => rfl
      | some a =>
        obtain ⟨ha, hb⟩ := h5 a rfl;obtain ⟨hc, hd⟩ := hb e rfl;have hw := wide_pos a;show hold (hold F 10 _) 12 _ = F
        rw [hold_true F 10 (by
          rw [decide_eq_true_eq, last_ok ha]; omega), hold_true F 12 (by
          rw [decide_eq_true_eq];rintro ⟨g1, g2, g3⟩;unfold goesE at hd;simp [g1, g2, g3] at hd)]
    rw [rowsF1, hp, hold_true F 11 (by simpa using h1 e (by simp))];refine rows1_zero data F r (some e) (fun x hx => h1 x (by simp [hx])) (fun x hx => h2 x (by simp [hx])) h3.of_cons ?_ ?_
    · cases r with
      | nil => trivial
      | cons b r => exact h4.2
    · rintro a ha;injection ha with ha;subst ha;refine ⟨h2 e (by simp), fun x hx => ?_⟩;cases r with
      | nil => simp at hx
      | cons b r =>
        simp at hx;subst hx;exact ⟨(List.pairwise_cons.1 h3).1 b (by simp), h4.1⟩
end Go.Proofs.YtcfmidmokciofaaGreatDoor
/- Walks: the audit's small functions: at, end, holds, text. -/
namespace Go.Proofs.YtcfmidmokciofaaGreatDoor
open Go.RowKit Go.Gz Go.Maps
set_option maxRecDepth 100000
/-- an auditor's cells -/
def auC (s : Bs) (h : Hdr) (m : Nat) : Array Value := #[.string ⟨s.toArray⟩, .int .u64 (h.r0 : Int), .int .u64 (h.r1 : Int), .int .u64 (h.m0 : Int), .int .u64 (h.m1 : Int), .int .u64 (h.l0 : Int), .int .u64 (h.l1 : Int), .int .u64 (h.d0 : Int), .int .u64 (h.d1 : Int), .int .u64 (h.adr : Int), .int .u64 (h.ent : Int), .int .u64 (h.con : Int), .bool h.clu, .int .u8 (h.inn : Int), .int .u8 (h.out : Int), .int .u8 (h.kind : Int), .int .i64 h.minz, .int .i64 h.maxz, .int .i64 h.minlon, .int .i64 h.minlat, .int .i64 h.maxlon, .int .i64 h.maxlat, .int .i64 h.zoom, .int .i64 h.lon, .int .i64 h.lat, .map (some m)]
theorem lawU8 : Keyed Tryz.prog 5 := int_keyed Tryz.underlying5
theorem zeroN (w : World) : (zeroValue 3).run Tryz.prog w = .ok (.int .i64 0) w := by kernel_rfl
/-- what a map of rules reads as -/
def BrkD (D : DataW Unit) (F : Brk) : Prop := Tidy D ∧ (∀ x : Nat, x < 256 → D.atKey (.int .u8 (x : Int)) (.lit (.int .i64 0)) = .lit (.int .i64 (F x : Int))) ∧ (∀ x : Nat, x < 256 → has D (.int .u8 (x : Int)) = decide (0 < F x))
/-- the map of what is broken, in block m; so many times at most it was written -/
def BrkM (w : World) (m c : Nat) (F : Brk) : Prop := ∃ D, w.ownsMap Tryz.prog 5 (plainElem Tryz.prog 3) m c D ∧ BrkD D F ∧ ∀ x, F x ≤ c
theorem brk_nil : BrkD (.map []) zB := ⟨tidy_empty, fun _ _ => rfl, fun _ _ => rfl⟩
theorem brk_put {D : DataW Unit} {F : Brk} (h : BrkD D F) (r : Nat) {v : Int} (hv : v = (F r : Int) + 1) : BrkD (D.put (.int .u8 (r : Int)) (.lit (.int .i64 v))) (fun q => if q = r then F q + 1 else F q) := by
  have hkl : WideAt.IsKeyLit (.int .u8 (r : Int)) := by first | exact trivial | simp [WideAt.IsKeyLit]
  refine ⟨h.1.put hkl _, fun c hc => ?_, fun c hc => ?_⟩
  · by_cases e : c = r
    · subst e;rw [atKey_put_same h.1.isMap hkl];simp only [if_pos, hv]; rfl
    · rw [atKey_put_other (by simp; omega), h.2.1 c hc];simp only [if_neg e]
  · by_cases e : c = r
    · subst e;rw [has_put_same h.1.isMap hkl]; simp
    · rw [has_put_other (by simp; omega), h.2.2 c hc];simp only [if_neg e]
/-- an auditor in its block B, its map in block m -/
structure AuR (w : World) (B m : Nat) (s : Bs) (h : Hdr) (c : Nat) (F : Brk) : Prop where
  blk : w.heap[B]? = some (.cells (auC s h m) 85 (0, 0))
  map : BrkM w m c F
  ne : B ≠ m
theorem BrkM.tw {w w' : World} {m c : Nat} {F : Brk} (h : BrkM w m c F) {S : List Nat} (t : Tw S w w') (hm : m ∉ S) : BrkM w' m c F := by
  obtain ⟨D, ⟨es, clock, hb, rest⟩, h2, h3⟩ := h;exact ⟨D, ⟨es, clock, t.obj hb hm, rest⟩, h2, h3⟩
theorem AuR.up {w w' : World} {B m c : Nat} {s : Bs} {h : Hdr} {F : Brk} (a : AuR w B m s h c F) (u : Up w w') : AuR w' B m s h c F :=
  ⟨u.obj a.blk, a.map.tw (Tw.up (S := []) u) (by simp), a.ne⟩
theorem AuR.low {w : World} {B m c c' : Nat} {s : Bs} {h : Hdr} {F : Brk} (a : AuR w B m s h c F) (hc : c ≤ c') : AuR w B m s h c' F := by
  obtain ⟨D, h1, h2, h3⟩ := a.map;exact ⟨a.blk, ⟨D, h1.mono hc, h2, fun x => Nat.le_trans (h3 x) hc⟩, a.ne⟩
theorem AuR.lt {w : World} {B m c : Nat} {s : Bs} {h : Hdr} {F : Brk} (a : AuR w B m s h c F) : B < w.heap.size ∧ m < w.heap.size := by
  obtain ⟨D, h1, _⟩ := a.map;exact ⟨(Array.getElem?_eq_some_iff.1 a.blk).1, h1.lt⟩
/-- the cells of an auditor -/
theorem AuR.cells {w : World} {B m c : Nat} {s : Bs} {h : Hdr} {F : Brk} (a : AuR w B m s h c F) : w.cell? ⟨B, 0, none⟩ = some (.string ⟨s.toArray⟩) ∧ w.cell? ⟨B, 25, none⟩ = some (.map (some m)) :=
  ⟨by simp [World.cell?, a.blk, auC], by simp [World.cell?, a.blk, auC]⟩
set_option maxHeartbeats 1000000 in
theorem aat_any (e : Ent) (w : World) :
    Calls Tryz.prog 78 #[entA e] w fun en w' => en = .returned (.agg #[.int .u64 (e.off : Int), .int .u32 (e.len : Int)]) ∧ Up w w' := by
  obtain ⟨id, off, len, run⟩ := e;simp only [entA] at *;go_enter Tryz.func78, Tryz.ntmps78;go_wp2_with fail;exact bodyPost_ret (v := .agg #[.int .u64 (off : Int), .int .u32 (len : Int)]) (by simp [results, Tryz.results78, go_sem]) rfl ⟨rfl, ((Up.refl w).alloc _).alloc _⟩
theorem aend_any (off len : Nat) (h : off + len < 18446744073709551616) (w : World) :
    Calls Tryz.prog 79 #[.agg #[.int .u64 (off : Int), .int .u32 (len : Int)]] w fun en w' => en = .returned (.int .u64 ((off + len : Nat) : Int)) ∧ Up w w' := by
  have e1 : IntKind.u64.wrap ((off : Int) + (len : Int)) = (off : Int) + (len : Int) := IntWalk.u64_in _ (by omega);have e2 : IntKind.u64.wrap (len : Int) = (len : Int) := IntWalk.u64_in _ (by omega);go_enter Tryz.func79, Tryz.ntmps79;go_wp2_with fail;go_ret;exact ⟨ret_int (by omega), (Up.refl w).alloc _⟩
set_option maxHeartbeats 2000000 in
/-- 'holds' -/
theorem aholds_any (B m c : Nat) (s : Bs) (h : Hdr) (F : Brk) (r : Nat) (hr : r < 256) (g : Bool) (hc : c ≤ 1000000000) (w : World) (a : AuR w B m s h c F) :
    Calls Tryz.prog 71 #[.pointer (some ⟨B, 0, none⟩), .int .u8 (r : Int), .bool g] w fun e w' => (∃ v, e = .returned v) ∧ AuR w' B m s h (c + 1) (hold F r g) ∧ Tw [m] w w' := by
  cases g with
  | true =>
    have A := Lib.hid a;clear a;go_enter Tryz.func71, Tryz.ntmps71;go_wp2_with fail;go_end0
    exact ⟨⟨_, rfl⟩, (by rw [hold_true F r rfl]; exact A.out.low (Nat.le_succ c)), Tw.refl _ _⟩
  | false =>
    obtain ⟨c0, c25⟩ := a.cells;obtain ⟨D, ho, hd, hF⟩ := a.map;have HO := Lib.hid ho;have HD := Lib.hid hd;have A := Lib.hid a;have hw : (Lit.int .u8 (r : Int)).wf = true := by simp [Lit.wf, IntKind.min, IntKind.max, IntKind.bits, IntKind.signed]; omega
    have HKEY := Lib.hid (keyOf_int_mk Tryz.underlying5 hw);have hFr := hF r;have HF := Lib.hid hF;clear ho hd a hw hF;have hwv : ∀ z : Int, 0 ≤ z ∧ z ≤ 2000000000 → (Lit.int .i64 z).wf = true := fun z hz => by simp [Lit.wf, IntKind.min, IntKind.max, IntKind.bits, IntKind.signed]; omega
    have HWV := Lib.hid hwv;clear hwv;go_enter Tryz.func71, Tryz.ntmps71
    go_wp2_with (first
      | (at_lookup; refine wpList_lookup_own_int _ rfl _ _ 80 rfl 5 3 .i64 lawU8 Tryz.underlying80 Tryz.underlying3 (zeroN _) m c _ rfl HO.out _ _ rfl HKEY.out ?_; intro cc hat hwc; have hcc : cc = (F r : Int) := (by rw [HD.out.2.1 r hr] at hat; injection hat with hat; injection hat with _ hat; exact hat.symm); clear hat hwc; subst hcc)
      | (at_mapUpdate; refine wpList_mapUpdate_own _ rfl _ _ _ 80 rfl 5 3 lawU8 Tryz.underlying80 _ m c _ rfl HO.out (by unfold maxLen; omega) _ _ _ rfl rfl HKEY.out _ [] (plainElem_int Tryz.underlying3 (HWV.out _ (by omega))) ?_; intro w1 hown1 hgrow1))
    go_end0
    refine ⟨⟨_, rfl⟩, ⟨(hgrow1.block B A.out.lt.1 (by simp only [ne_eq, Option.some.injEq]; exact A.out.ne)).trans A.out.blk, ⟨_, hown1, ?_, ?_⟩, A.out.ne⟩, Tw.grown hgrow1 (by simp)⟩
    · exact brk_put HD.out r rfl
    · intro x;show (if x = r then F x + 1 else F x) ≤ c + 1
      have := HF.out x;split <;> omega
theorem ext_mk (l : Bs) (a b : Nat) (_ : a ≤ b) : (⟨l.toArray⟩ : ByteArray).extract a b = ⟨((l.drop a).take (b - a)).toArray⟩ := by
  apply ByteArray.ext;rw [ByteArray.data_extract];apply Array.ext';simp [List.extract_eq_take_drop]
set_option maxHeartbeats 2000000 in
theorem atext_any (B m c : Nat) (s : Bs) (hs : s.length ≤ 1000000000) (h : Hdr) (F : Brk) (f n : Nat) (hfn : f + n ≤ 1099511627776) (w : World) (a : AuR w B m s h c F) :
    Calls Tryz.prog 74 #[.pointer (some ⟨B, 0, none⟩), .agg #[.int .u64 (f : Int), .int .u64 (n : Int)]] w fun e w' => e = .returned (.string ⟨(secT s f n).toArray⟩) ∧ Up w w' := by
  obtain ⟨c0, _⟩ := a.cells;have SE := fun w => Lib.hid (send_any f n (by omega) w);obtain ⟨X, hX⟩ : ∃ X, X = w.alloc (.cells #[.int .u64 (f : Int), .int .u64 (n : Int)] 81) := ⟨_, rfl⟩;have hu : Up w X := by rw [hX]; exact (Up.refl w).alloc _
  have q0 : X.cell? ⟨w.heap.size, 0, none⟩ = some (.int .u64 (f : Int)) := by rw [hX]; simp
  have q1 : X.cell? ⟨w.heap.size, 1, none⟩ = some (.int .u64 (n : Int)) := by rw [hX]; simp
  have MK := Lib.hid (fun w' (h : Up X w') => (⟨h, h.cell q0, h.cell q1, (hu.trans h).cell c0⟩ : Up X w' ∧ w'.cell? ⟨w.heap.size, 0, none⟩ = some (.int .u64 (f : Int)) ∧ w'.cell? ⟨w.heap.size, 1, none⟩ = some (.int .u64 (n : Int)) ∧ w'.cell? ⟨B, 0, none⟩ = some (.string ⟨s.toArray⟩)));have c0L := ((Up.refl w).alloc (.cells #[.int .u64 (f : Int), .int .u64 (n : Int)] 81)).cell c0;have e1 : IntKind.u64.wrap (s.length : Int) = (s.length : Int) := IntWalk.u64_in _ (by omega);have hss : (⟨s.toArray⟩ : ByteArray).size = s.length := by simp [ByteArray.size]
  have hm1 : min s.length f ≤ min s.length (f + n) := by omega
  have hm2 : min s.length (f + n) ≤ s.length := by omega
  have hex := ext_mk s (min s.length f) (min s.length (f + n)) hm1;have HU := Lib.hid hu;have hmn1 : min (s.length : Int) (f : Int) = ((min s.length f : Nat) : Int) := by omega
  have hmn2 : min (s.length : Int) ((f : Int) + (n : Int)) = ((min s.length (f + n) : Nat) : Int) := by omega
  clear q0 q1 hu a;go_enter Tryz.func74, Tryz.ntmps74;go_wp2_with fail;clear c0L;rw [← hX];clear hX
  go_region_held3 (fun w' => Up X w' ∧ w'.cell? ⟨w.heap.size, 0, none⟩ = some (.int .u64 (f : Int)) ∧ w'.cell? ⟨w.heap.size, 1, none⟩ = some (.int .u64 (n : Int)) ∧ w'.cell? ⟨B, 0, none⟩ = some (.string ⟨s.toArray⟩))
    (first
      | assumption
      | exact MK.out _ (Up.refl _).drew
      | exact MK.out _ (Up.trans (And.left (by assumption)) (by assumption)))
    ((go_at_call 73; (with_reducible refine (SE _).out.mono ?_); rintro e w8 ⟨rfl, hu8⟩; have HU8 := Lib.hid (Up.trans (And.left (by assumption)) hu8)))
  all_goals
    go_wp2_with fail;go_ret;exact ⟨rfl, HU.out.trans HU8.out⟩
end Go.Proofs.YtcfmidmokciofaaGreatDoor
/- Walk: audit.order: places held against each other. -/
namespace Go.Proofs.YtcfmidmokciofaaGreatDoor
open Go.RowKit Go.Gz
set_option maxRecDepth 100000
theorem isnan32_any (a : Nat) (w : World) : Calls Tryz.prog 184 #[.int .u32 a] w fun e w' => e = .returned (.bool false) ∧ w = w' := by
  go_enter Tryz.func184, Tryz.ntmps184;go_wp2_with fail;go_ret;exact ⟨rfl, rfl⟩
theorem cmp32_any (a b : Nat) (w : World) : Calls Tryz.prog 136 #[.int .u32 a, .int .u32 b] w fun e w' => e = .returned (.int .i64 (cmpV a b)) ∧ w = w' := by
  have h0 : cmpV a b = if a < b then -1 else if b < a then 1 else 0 := rfl
  generalize cmpV a b = v at *;have H0 := Lib.hid h0;clear h0;go_enter Tryz.func136, Tryz.ntmps136;go_wp2_with (go_at_call 184; refine (isnan32_any _ _).mono ?_; rintro e w' ⟨rfl, rfl⟩)
  all_goals
    go_ret;refine ⟨ret_int ?_, rfl⟩;rw [H0.out]
    first
      | (rw [if_pos (by omega)])
      | (rw [if_neg (by omega), if_pos (by omega)])
      | (rw [if_neg (by omega), if_neg (by omega)])
/-- the first of two numbers that is not zero -/
def orV (a b : Int) : Int := if a ≠ 0 then a else b
theorem or2_any (a b : Int) (N c : Nat) (w : World) (h0 : w.cell? ⟨N, 0, none⟩ = some (.int .i64 a)) (h1 : w.cell? ⟨N, 1, none⟩ = some (.int .i64 b)) :
    Calls Tryz.prog 135 #[.slice (some ⟨N, 0, none⟩) 2 c] w fun e w' => e = .returned (.int .i64 (orV a b)) ∧ w = w' := by
  have hab : orV a b = if a ≠ 0 then a else b := rfl
  generalize orV a b = v at *;have HAB := Lib.hid hab;have H0 := Lib.hid h0;have H1 := Lib.hid h1;clear hab h0 h1;go_enter Tryz.func135, Tryz.ntmps135;go_wp2_with fail;go_loopg [8] 2 (fun gk i wr => ∃ k : Nat, k + gk = 2 ∧ i = .int .i64 (k : Int) ∧ wr = w ∧ (k = 0 ∨ a = 0) ∧ (k ≤ 1 ∨ b = 0))
  case atStart => exact ⟨0, by omega, rfl, rfl, .inl rfl, .inl (by omega)⟩
  case round =>
    obtain ⟨k, hk, rfl, rfl, ha, hb⟩ := hrel;have hk' : k = 0 ∨ k = 1 ∨ k = 2 := by omega
    rcases hk' with rfl | rfl | rfl
    · have h0 := H0.out;clear ha hb;by_cases h : a = 0
      · subst h;go_wp2_with fail;obtain ⟨g, rfl⟩ : ∃ g, gk = g + 1 := ⟨gk - 1, by omega⟩;go_roundg g
        case measure => omega
        case rel => exact ⟨1, by omega, by go_num, rfl, by simp, .inl (by omega)⟩
      · have hb : (a != 0) = true := by rw [bne_iff_ne]; exact h
        go_wp2_with fail;go_ret;exact ⟨ret_int (by rw [HAB.out, if_pos h]), rfl⟩
    · have h1 := H1.out;have ha0 : a = 0 := by omega
      subst ha0;clear ha hb;by_cases h : b = 0
      · subst h;go_wp2_with fail;obtain ⟨g, rfl⟩ : ∃ g, gk = g + 1 := ⟨gk - 1, by omega⟩;go_roundg g
        case measure => omega
        case rel => exact ⟨2, by omega, by go_num, rfl, by simp, by simp⟩
      · have hb : (b != 0) = true := by rw [bne_iff_ne]; exact h
        go_wp2_with fail;go_ret;exact ⟨ret_int (by rw [HAB.out, if_neg (by simp)]), rfl⟩
    · have ha0 : a = 0 := by omega
      have hb0 : b = 0 := by omega
      subst ha0; subst hb0;clear ha hb;go_wp2_with fail;go_ret;exact ⟨ret_int (by rw [HAB.out]; rfl), rfl⟩
/-- places held against each other -/
def cmpP (x y : Nat × Nat) : Int := orV (cmpV x.1 y.1) (cmpV x.2 y.2)
set_option maxHeartbeats 4000000 in
theorem order_any (x y : Nat × Nat) (W : World) : Calls Tryz.prog 82 #[.agg #[.int .u64 (x.1 : Int), .int .u32 (x.2 : Int)], .agg #[.int .u64 (y.1 : Int), .int .u32 (y.2 : Int)]] W fun e w' => e = .returned (.int .i64 (cmpP x y)) ∧ ∃ q os', w' = Go.Sort.grow (W.drewN q) os' := by
  obtain ⟨x1, x2⟩ := x;obtain ⟨y1, y2⟩ := y;unfold cmpP;simp only;have C1 := fun w => Lib.hid (cmp_any x1 y1 w);have C2 := fun w => Lib.hid (cmp32_any x2 y2 w);generalize cmpV x1 y1 = u at *;generalize cmpV x2 y2 = v at *;have OR := fun N c w h0 h1 => Lib.hid (or2_any u v N c w h0 h1);obtain ⟨X, hX⟩ : ∃ X, X = (W.alloc (.cells #[.int .u64 (x1 : Int), .int .u32 (x2 : Int)] 169)).alloc (.cells #[.int .u64 (y1 : Int), .int .u32 (y2 : Int)] 169) := ⟨_, rfl⟩;have q0 : X.cell? ⟨W.heap.size, 0, none⟩ = some (.int .u64 (x1 : Int)) := by rw [hX]; simp
  have q1 : X.cell? ⟨W.heap.size, 1, none⟩ = some (.int .u32 (x2 : Int)) := by rw [hX]; simp
  have q2 : X.cell? ⟨W.heap.size + 1, 0, none⟩ = some (.int .u64 (y1 : Int)) := by rw [hX]; simp
  have q3 : X.cell? ⟨W.heap.size + 1, 1, none⟩ = some (.int .u32 (y2 : Int)) := by rw [hX]; simp
  have hgX : X = Go.Sort.grow W #[.cells #[.int .u64 (x1 : Int), .int .u32 (x2 : Int)] 169, .cells #[.int .u64 (y1 : Int), .int .u32 (y2 : Int)] 169] := by rw [hX, Go.Sort.alloc_eq_grow, Go.Sort.alloc_eq_grow, Go.Sort.grow_grow]; rfl
  have HG := Lib.hid hgX;have MK := Lib.hid (fun w' (h : Up X w') => (⟨h, h.cell q0, h.cell q1, h.cell q2, h.cell q3⟩ : Up X w' ∧ w'.cell? ⟨W.heap.size, 0, none⟩ = some (.int .u64 (x1 : Int)) ∧ w'.cell? ⟨W.heap.size, 1, none⟩ = some (.int .u32 (x2 : Int)) ∧ w'.cell? ⟨W.heap.size + 1, 0, none⟩ = some (.int .u64 (y1 : Int)) ∧ w'.cell? ⟨W.heap.size + 1, 1, none⟩ = some (.int .u32 (y2 : Int))));clear q0 q1 q2 q3 hgX;go_enter Tryz.func82, Tryz.ntmps82;go_wp2_with fail;rw [← hX];clear hX
  go_region_held3 (fun w' => Up X w' ∧ w'.cell? ⟨W.heap.size, 0, none⟩ = some (.int .u64 (x1 : Int)) ∧ w'.cell? ⟨W.heap.size, 1, none⟩ = some (.int .u32 (x2 : Int)) ∧ w'.cell? ⟨W.heap.size + 1, 0, none⟩ = some (.int .u64 (y1 : Int)) ∧ w'.cell? ⟨W.heap.size + 1, 1, none⟩ = some (.int .u32 (y2 : Int)))
    (first
      | assumption
      | exact MK.out _ (Up.refl _).drew
      | exact MK.out _ (Up.alloc (And.left (by assumption)) _))
    (first
      | (go_at_call 44; (with_reducible refine (C1 _).out.mono ?_); rintro e w8 ⟨rfl, rfl⟩)
      | (go_at_call 136; (with_reducible refine (C2 _).out.mono ?_); rintro e w8 ⟨rfl, rfl⟩)
      | (go_at_call 135; (with_reducible refine (OR _ _ _ (by simp) (by simp)).out.mono ?_); rintro e w8 ⟨rfl, rfl⟩))
  all_goals
    go_wp2_with fail;go_ret;refine ⟨rfl, 1, #[.cells #[.int .u64 (x1 : Int), .int .u32 (x2 : Int)] 169, .cells #[.int .u64 (y1 : Int), .int .u32 (y2 : Int)] 169] ++ #[.cells #[.int .i64 u, .int .i64 v] 3], ?_⟩;rw [HG.out, Go.Sort.alloc_eq_grow, Go.Sort.grow_grow];rfl
end Go.Proofs.YtcfmidmokciofaaGreatDoor
/- Plain laws for the rows' rules: no broken rule 11 means that every row lies in the data; a sorted row of places is the sorted row. -/
namespace Go.Proofs.YtcfmidmokciofaaGreatDoor
open Go.RowKit Go.Gz
theorem hold_le (F : Brk) (r : Nat) (g : Bool) (x : Nat) : F x ≤ hold F r g x := by
  unfold hold;split
  · exact Nat.le_refl _
  · show F x ≤ if x = r then F x + 1 else F x
    split <;> omega
theorem hold_no (F : Brk) (r : Nat) {g : Bool} (h : hold F r g r = 0) : g = true := by
  unfold hold at h;split at h
  · assumption
  · simp at h
theorem prev_le (F : Brk) (p : Option Ent) (e : Ent) (x : Nat) : F x ≤ prevF F p e x := by
  cases p with
  | none => exact Nat.le_refl _
  | some a => exact Nat.le_trans (hold_le F 10 _ x) (hold_le _ 12 _ x)
theorem rows_mono (data : Bs) : ∀ (l : Ents) (F : Brk) (p : Option Ent) (x : Nat), F x ≤ rowsF1 data F p l x
  | [], F, p, x => Nat.le_refl _
  | e :: r, F, p, x => by
    rw [rowsF1];exact Nat.le_trans (Nat.le_trans (prev_le F p e x) (hold_le _ 11 _ x)) (rows_mono data r _ _ x)
theorem rows_in (data : Bs) : ∀ (l : Ents) (F : Brk) (p : Option Ent), rowsF1 data F p l 11 = 0 → ∀ e ∈ l, e.off + e.len ≤ data.length
  | [], F, p, _ => fun e he => by simp at he
  | e :: r, F, p, h => by
    rw [rowsF1] at h;have h1 := rows_mono data r (hold (prevF F p e) 11 (decide (e.off + e.len ≤ data.length))) (some e) 11;have h2 := hold_no _ 11 (Nat.le_zero.1 (h ▸ h1));intro x hx;rcases List.mem_cons.1 hx with rfl | hx
    · simpa using h2
    · exact rows_in data r _ _ h x hx
theorem pl_trans (a b c : Nat × Nat) (h1 : plLe a b = true) (h2 : plLe b c = true) : plLe a c = true := by
  unfold plLe at *;rw [decide_eq_true_eq] at *;omega
theorem pl_total (a b : Nat × Nat) : (plLe a b || plLe b a) = true := by
  unfold plLe;rw [Bool.or_eq_true, decide_eq_true_eq, decide_eq_true_eq];omega
theorem pl_anti {a b : Nat × Nat} (h1 : plLe a b = true) (h2 : plLe b a = true) : a = b := by
  unfold plLe at *;rw [decide_eq_true_eq] at *;exact Prod.ext (by omega) (by omega)
theorem srt_eq {L : List (Nat × Nat)} {l : Ents} (hp : L.Perm (plA l)) (hs : ∀ i j (hi : i < L.length) (hj : j < L.length), i < j → plLe L[i] L[j] = true) : L = srtP l := by
  have h1 : L.Pairwise (fun a b => plLe a b = true) := List.pairwise_iff_getElem.2 fun i j hi hj hij => hs i j hi hj hij;have h2 : (srtP l).Pairwise (fun a b => plLe a b = true) := List.pairwise_mergeSort pl_trans pl_total (plA l);have h3 : L.Perm (srtP l) := hp.trans (List.mergeSort_perm (plA l) plLe).symm;exact h3.eq_of_pairwise (fun a b _ _ ha hb => pl_anti ha hb) h1 h2
end Go.Proofs.YtcfmidmokciofaaGreatDoor
/- Plain law: a pressed archive breaks no rule of an audit, by its budget, or by a greater one. -/
namespace Go.Proofs.YtcfmidmokciofaaGreatDoor
open Go.RowKit Go.Gz
/-- the places of contents, one behind the other -/
def chainP : Nat → List Bs → List (Nat × Nat)
  | _, [] => []
  | e, c :: r => (e, c.length) :: chainP (e + c.length) r
theorem chain_get : ∀ (cs : List Bs) (e k : Nat), (chainP e cs)[k]? = cs[k]?.map fun c => (e + offK cs k, c.length)
  | [], _, _ => by simp [chainP]
  | c :: r, e, 0 => by simp [chainP, offK]
  | c :: r, e, k + 1 => by
    rw [chainP, List.getElem?_cons_succ, List.getElem?_cons_succ, chain_get r];cases r[k]? with
    | none => rfl
    | some x =>
      simp only [Option.map_some, offK, List.take_succ_cons, List.flatten_cons, List.length_append];rw [Nat.add_assoc]
theorem chain_len : ∀ (cs : List Bs) (e : Nat), (chainP e cs).length = cs.length
  | [], _ => rfl
  | c :: r, e => by rw [chainP, List.length_cons, chain_len r, List.length_cons]
theorem map_chain {cs : List Bs} (hn : cs.Nodup) : (cs.map fun s => (offC cs s, s.length)) = chainP 0 cs := by
  apply List.ext_getElem?;intro k;rw [chain_get, List.getElem?_map];by_cases hk : k < cs.length
  · rw [List.getElem?_eq_getElem hk];simp only [Option.map_some, off_k hn hk, Nat.zero_add]
  · rw [List.getElem?_eq_none (by omega)]; rfl
theorem once_chain (F : Brk) : ∀ (cs : List Bs) (e : Nat), onceF F e (chainP e cs) = (F, e + cs.flatten.length)
  | [], e => by simp [chainP, onceF]
  | c :: r, e => by
    rw [chainP, onceF, hold_true F 13 (by simp), once_chain F r];simp [Nat.add_assoc]
theorem chain_ge : ∀ (cs : List Bs) (e : Nat), ∀ p ∈ chainP e cs, e ≤ p.1
  | [], _, p, h => by simp [chainP] at h
  | c :: r, e, p, h => by
    rw [chainP, List.mem_cons] at h;rcases h with rfl | h
    · exact Nat.le_refl _
    · have := chain_ge r _ p h; omega
theorem chain_sorted : ∀ (cs : List Bs) (e : Nat), (∀ c ∈ cs, c ≠ []) → (chainP e cs).Pairwise (fun a b => plLe a b = true)
  | [], _, _ => List.Pairwise.nil
  | c :: r, e, h => by
    rw [chainP, List.pairwise_cons];refine ⟨fun p hp => ?_, chain_sorted r _ fun x hx => h x (by simp [hx])⟩;have h1 := chain_ge r _ p hp;have h2 := List.length_pos_iff.2 (h c (by simp));unfold plLe;rw [decide_eq_true_eq];left;show e < p.1
    omega
theorem texts_chain : ∀ (cs pre : List Bs), ((chainP pre.flatten.length cs).map fun p => (((pre ++ cs).flatten).drop p.1).take p.2) = cs
  | [], pre => by simp [chainP]
  | c :: r, pre => by
    rw [chainP, List.map_cons];have e1 : ((pre ++ c :: r).flatten.drop pre.flatten.length).take c.length = c := by
      rw [List.flatten_append, List.flatten_cons, List.drop_left, List.take_left]
    have ih := texts_chain r (pre ++ [c]);rw [List.append_assoc] at ih;have e2 : (pre ++ [c]).flatten.length = pre.flatten.length + c.length := by simp
    rw [e2] at ih;rw [e1];exact congrArg (c :: ·) ih
theorem add_all : ∀ (cs acc : List Bs), cs.Nodup → (∀ c ∈ cs, c ∉ acc) → cs.foldl addC acc = acc ++ cs
  | [], acc, _, _ => by simp
  | c :: r, acc, hn, hd => by
    rw [List.foldl_cons];have h1 : addC acc c = acc ++ [c] := by unfold addC; rw [if_neg (hd c (by simp))]
    have hn' := List.nodup_cons.1 hn;rw [h1, add_all r (acc ++ [c]) hn'.2 (fun x hx => by
      rw [List.mem_append, List.mem_singleton];rintro (g | rfl)
      · exact hd x (by simp [hx]) g
      · exact hn'.1 hx)]
    simp
theorem pl_seen (l : Ents) (h : ∀ e ∈ l, chkE e = 0 ∧ 0 < e.run) : plA l = seenE l := by
  induction l using snoc_ind with
  | h0 => rfl
  | h1 l x ih =>
    have ih := ih fun e he => h e (by simp [he]);rw [seenE_snoc, if_pos (h x (by simp)), ← ih];unfold plA;rw [List.foldl_append];rfl
/-- the places of a chart's rows, in order -/
theorem srt_rows {L : Items} (h : Gz.Good L) (ht : total L ≤ 1099511627776) : srtP (rowsL L).1 = chainP 0 (rowsL L).2 := by
  obtain ⟨i1, i2, i3, i4, i5, i6, i7, i8⟩ := rows_inv L h ht;unfold srtP;rw [pl_seen _ (fun e he => ⟨(i6 e he).1, (i6 e he).2.1⟩), seen_rows L h ht, map_chain i4];exact List.mergeSort_of_pairwise (chain_sorted _ _ fun c hc => by
    obtain ⟨x, hx, rfl⟩ := i3 c hc;exact h.ne x hx)
theorem lo_rows (L : Items) : loA (rowsL L).1 = minZ L := by
  unfold loA minZ;have := rows_head L;revert this
  cases (rowsL L).1.head? <;> cases L.head? <;> simp;intro e; rw [e]
theorem hi_rows {L : Items} (h : Gz.Good L) (ht : total L ≤ 1099511627776) : hiA (rowsL L).1 = maxZ L := by
  obtain ⟨i1, i2, i3, i4, i5, i6, i7, i8⟩ := rows_inv L h ht;unfold hiA maxZ;have hm : ∀ e, (rowsL L).1.getLast? = some e → e ∈ (rowsL L).1 := fun e he => List.mem_of_getLast? he;revert i8 hm
  cases (rowsL L).1.getLast? <;> cases L.getLast? <;> simp;rename_i e x;intro h8 hm;obtain ⟨c1, c2, _⟩ := i6 e hm;rw [last_ok c1];have : e.id + wideE e - 1 = x.1 := by unfold wideE; omega
  rw [this]
theorem plan_ok {b : Nat} {kind : Nat} {note : Bs} (h : planN (b : Int) kind note = 0) : 512 ≤ b ∧ b ≤ 16257 ∧ kind ≤ 5 ∧ noteN note = 0 ∧ note[blkA note 0]? = some 123 := by
  unfold planN at h;split at h
  · exact absurd h (by decide)
  · rename_i h1;split at h
    · exact absurd h (by decide)
    · rename_i h2;split at h
      · rename_i h3; exact absurd h h3
      · rename_i h3;split at h
        · rename_i h4;exact ⟨by omega, by omega, by omega, by simpa using h3, h4⟩
        · exact absurd h (by decide)
theorem note_len {s : Bs} (h : noteN s = 0) : s.length ≤ 4096 := by
  unfold noteN at h;split at h
  · exact absurd h (by decide)
  · omega
theorem join_go {root : Ents} {text : Bs} {J : Ents} (h : joinE root text = (0, J)) : joinGo text root [] = (0, J) := by
  unfold joinE at h;split at h
  · rename_i g; injection h with h _; exact absurd h g
  · split at h
    · rename_i g; injection h with h _; exact absurd h g
    · rename_i g;split at h
      · rename_i g2; injection h with h _; exact absurd h g2
      · injection h with _ h;exact Prod.ext (by simpa using g) h
end Go.Proofs.YtcfmidmokciofaaGreatDoor
