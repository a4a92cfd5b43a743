/- Walks: the notes' reader: what takes one of a list. -/
import Derived.Test.YtbfieomjobbhoaaGreatDoorMN17
import Derived.Test.YtbfieomjobbhoaaGreatDoorMN31
import Derived.Test.YtbfieomjobbhoaaGreatDoorMN16
namespace Go.Proofs.YtbfieomjobbhoaaGreatDoor
open Go.RowKit Go.Gz Go.Shelf

set_option maxRecDepth 100000
/-- what stands behind a value that has been taken -/
def KV (k : Bool) (v : Value) : Prop := if k then ∃ V, v = .iface 170 V else v = .nilIface ∨ (∃ V, v = .iface 3 V) ∨ (∃ V, v = .iface 9 V) ∨ (∃ V, v = .iface 4 V) ∨ (∃ V, v = .iface 333 V)
theorem KV.one {k : Bool} {v : Value} (h : KV k v) : v.oneCell' = true := by
  unfold KV at h;cases k
  · rw [if_neg (by simp)] at h;rcases h with rfl | ⟨V, rfl⟩ | ⟨V, rfl⟩ | ⟨V, rfl⟩ | ⟨V, rfl⟩ <;> rfl
  · rw [if_pos rfl] at h;obtain ⟨V, rfl⟩ := h;rfl
theorem KV.cells {k : Bool} {v : Value} (h : KV k v) : v.cells = #[v] := by
  unfold KV at h;cases k
  · rw [if_neg (by simp)] at h;rcases h with rfl | ⟨V, rfl⟩ | ⟨V, rfl⟩ | ⟨V, rfl⟩ | ⟨V, rfl⟩ <;> rfl
  · rw [if_pos rfl] at h;obtain ⟨V, rfl⟩ := h;rfl
def ValE (w : World) (R : Nat) (s : Bs) (k : Bool) (r : Stand) (e : Ending) (w' : World) : Prop := (∃ v, e = .returned v ∧ KV k v) ∧ RK R w w' ∧ RB w' R s r.1 r.2
def ValOK (s : Bs) (d : Nat) : Prop := ∀ (R a deep : Nat) (w : World), deep + d = 5 → a ≤ s.length → RB w R s a 0 → RG w R →
  Hid (Calls Tryz.prog 140 #[.pointer (some ⟨R, 0, none⟩), .int .i64 (deep : Int)] w (ValE w R s (decide (s[a]? = some 123)) (valN s d a)))
/-- the slice that is being made, in its box; the boxes of the reader and of the depth -/
structure LS (T S : TypeId) (size R B bl br bd deep n : Nat) (xs : List Value) (W : World) : Prop where
  rg : RG W R
  row : ∃ vl, W.heap[bl]? = some (.cells #[vl] S (0, 0)) ∧ W.ownsRow B T size vl n xs
  rb : W.heap[br]? = some (.cells #[.pointer (some ⟨R, 0, none⟩)] 240 (0, 0))
  db : W.heap[bd]? = some (.cells #[.int .i64 (deep : Int)] 3 (0, 0))
/-- the box holds a slice -/
def JL (S : TypeId) (bl : Nat) (W : World) : Prop := ∃ A n c, W.heap[bl]? = some (.cells #[.slice A n c] S (0, 0))
theorem LS.j {T S : TypeId} {size R B bl br bd deep n : Nat} {xs : List Value} {W : World} (h : LS T S size R B bl br bd deep n xs W) : JL S bl W := by
  obtain ⟨vl, h1, h2⟩ := h.row;obtain ⟨A, c, rfl, _⟩ := Rd.of_own h2;exact ⟨A, n, c, h1⟩
theorem JL.rk {S : TypeId} {R bl : Nat} {W W' : World} (hne : bl ≠ R) (h : JL S bl W) (hk : RK R W W') : JL S bl W' := by
  obtain ⟨A, n, c, h⟩ := h;exact ⟨A, n, c, (hk.block _ (Array.getElem?_eq_some_iff.1 h).1 (by intro e; injection e with e; exact hne e)).trans h⟩
structure LH (T S : TypeId) (R B bl br bd : Nat) : Prop where
  R : R < B
  l : B ≤ bl
  r : B ≤ br
  d : B ≤ bd
  lr : bl ≠ br
  ld : bl ≠ bd
  ts : T ≠ S
  tr : T ≠ 240
  td : T ≠ 3
  g : 5 < B ∧ 3 < B ∧ 4 < B ∧ 1 < B ∧ 2 < B
theorem LS.rk {T S : TypeId} {size R B bl br bd deep n : Nat} {xs : List Value} {W W' : World} (H : LH T S R B bl br bd) (h : LS T S size R B bl br bd deep n xs W) (hk : RK R W W') : LS T S size R B bl br bd deep n xs W' := by
  have blk : ∀ {j : Nat} {o : Obj}, B ≤ j → W.heap[j]? = some o → W'.heap[j]? = some o := fun hj ho => (hk.block _ (Array.getElem?_eq_some_iff.1 ho).1 (by intro e; injection e with e; have := H.R; omega)).trans ho;obtain ⟨vl, h1, h2⟩ := h.row;refine ⟨h.rg.keep hk, ⟨vl, blk H.l h1, World.ownsRow.kept (row := some R) h2 hk ?_⟩, blk H.r h.rb, blk H.d h.db⟩;cases hb : vl.ownBlock with
  | none => simp
  | some g =>
    right;have := h2.lt g hb;intro e; injection e with e; have := H.R; omega
/-- an append of one onto it, behind which it is stored -/
theorem LS.push {T S : TypeId} {i : TypeInfo} {z : Value} {size bytes R B bl br bd deep n : Nat} {xs : List Value} {W : World} (H : LH T S R B bl br bd) (ty : TypeId)
    (ht : Tryz.prog.underlying S = some (.slice T)) (hi : Tryz.prog.info? T = some i) (hz : i.zero = some z) (hsize : i.size = size) (hby : i.bytes = bytes) (hzs : z.cells.size = size) (hsz : 0 < size) (hbb : bytes ≤ 1000)
    (h : LS T S size R B bl br bd deep n xs W) (hB : B ≤ W.heap.size) (hn : n ≤ 1000) (cs : Array Value) (hcs : cs.size = size) (h1 : ∀ u ∈ cs.toList, u.oneCell' = true) {vl : Value} (hvl : W.heap[bl]? = some (.cells #[vl] S (0, 0))) :
    ∃ (g' cap' : Nat) (v' : Value) (w' : World), v' = .slice (some ⟨g', 0, none⟩) (n + 1) cap' ∧ (Builtin.append_ #[S, S] ty #[vl, .slice (some ⟨W.heap.size, 0, none⟩) 1 1]).run Tryz.prog (W.alloc (.cells cs T)) = .ok v' w' ∧ w'.heap[bl]? = some (.cells #[vl] S (0, 0)) ∧ LS T S size R B bl br bd deep (n + 1) (xs ++ cs.toList) (w'.setCell ⟨bl, 0, none⟩ v') ∧ KB B R W w' ∧ w'.heap[R]? = W.heap[R]? ∧ B ≤ w'.heap.size := by
  obtain ⟨vl', e1, hown⟩ := h.row;rw [hvl] at e1;injection e1 with e1; injection e1 with e1; injection e1 with e1;simp only [List.cons.injEq, and_true] at e1;subst e1;have hlt : ∀ {j : Nat} {o : Obj}, W.heap[j]? = some o → j < W.heap.size := fun ho => (Array.getElem?_eq_some_iff.1 ho).1;have hmul : (n + 1) * bytes ≤ 140737488355328 := by
    have : (n + 1) * bytes ≤ 1001 * 1000 := Nat.mul_le_mul (by omega) hbb;omega
  obtain ⟨v', w', hrun, ho', hg, _⟩ := run_append_own (P := Tryz.prog) (W.alloc (.cells cs T)) B S ty T i z size bytes ht hi hz hsize hby hzs hsz vl n xs (hown.alloc _) ⟨W.heap.size, 0, none⟩ 1 1 cs.toList (by simpa using hcs) (by
    intro j u hu;have hadd : (⟨W.heap.size, 0, none⟩ : Addr).add j = ⟨W.heap.size, j, none⟩ := by unfold Addr.add; split <;> simp_all
    rw [hadd, cell_of_row _ W.heap.size j cs T (0, 0) (heap_alloc_new W _)];simpa using hu) h1 (by unfold maxLen; omega) hmul (by simp; omega)
  have own : ∀ g, vl.ownBlock = some g → B ≤ g ∧ ∃ cur fz, W.heap[g]? = some (.cells cur T fz) := by
    intro g hgb;rcases hown.2 with ⟨rfl, _⟩ | ⟨g', cap, cur, rfl, hgb', hgh, _⟩
    · cases hgb
    · injection hgb with hgb; have : g' = g := hgb; subst this; exact ⟨hgb', cur, _, hgh⟩
  have old : ∀ {j : Nat} {o : Obj}, W.heap[j]? = some o → (∀ cur fz, o ≠ .cells cur T fz) → w'.heap[j]? = some o := by
    intro j o ho hne;have hj := hlt ho
    rw [hg.block j (by simp; omega) (fun e => by
      obtain ⟨_, cur, fz, hh⟩ := own j e.symm;rw [ho] at hh; injection hh with hh; exact hne _ _ hh), Lib.alloc_old W _ j hj, ho]
  have kept : ∀ j, j < B → w'.heap[j]? = W.heap[j]? := by
    intro j hj;rw [hg.block j (by simp; omega) (fun e => by obtain ⟨h, _⟩ := own j e.symm; omega), Lib.alloc_old W _ j (by omega)]
  have hl := old hvl (fun _ _ e => by injection e with _ e; exact H.ts e.symm);have hr := old h.rb (fun _ _ e => by injection e with _ e; exact H.tr e.symm);have hd := old h.db (fun _ _ e => by injection e with _ e; exact H.td e.symm);have hsz' : W.heap.size ≤ w'.heap.size := by have := hg.size; simp at this; omega
  have hkb : KB B R W w' := ⟨hg.os, hg.tape, hg.output, hsz', fun j hj _ => kept j hj⟩;have hkB : ∀ {j : Nat} {o : Obj} (x : Value), j ≠ bl → w'.heap[j]? = some o → (w'.setCell ⟨bl, 0, none⟩ x).heap[j]? = some o := fun x hj ho => (Below.heap_setCell w' ⟨bl, 0, none⟩ x _ hj).trans ho;have hg2 := grown_set w' bl v';have hkb2 : KB B R W (w'.setCell ⟨bl, 0, none⟩ v') := hkb.trans ⟨hg2.os, hg2.tape, hg2.output, hg2.size, fun j hj _ => hg2.block j (by omega) (by intro e; injection e with e; have := H.l; omega)⟩;obtain ⟨g', cap', hv'⟩ := ownsRow_succ ho';refine ⟨g', cap', v', w', hv', hrun, hl, ⟨?_, ⟨v', heap_setCell_same w' bl 0 #[vl] S v' hl, ?_⟩, hkB _ (Ne.symm H.lr) hr, hkB _ (Ne.symm H.ld) hd⟩, hkb, kept R H.R, Nat.le_trans hB hsz'⟩
  · exact h.rg.keepB H.g hkb2
  · refine World.ownsRow.kept (row := some bl) ho' hg2 (.inr ?_);intro e;rcases ho'.2 with ⟨rfl, _⟩ | ⟨g, cap, cur, rfl, _, hgh, _⟩
    · cases e
    · injection e with e;have : g = bl := e;subst this;rw [hl] at hgh;injection hgh with hgh; injection hgh with _ hgh;exact H.ts hgh.symm
end Go.Proofs.YtbfieomjobbhoaaGreatDoor
/- Walk: the notes' reader: what takes one of a list (the function literal). -/
namespace Go.Proofs.YtbfieomjobbhoaaGreatDoor
open Go.RowKit Go.Gz Go.Shelf

set_option maxRecDepth 100000
theorem infoAny : (Tryz.prog.info? 20).map (fun i => (i.zero, i.size, i.bytes)) = some (some .nilIface, 1, 16) := by kernel_rfl
def LStL (R B bl br bd deep n : Nat) (_ : Unit) (W : World) : Prop := ∃ xs, LS 20 333 1 R B bl br bd deep n xs W
set_option maxHeartbeats 4000000 in
theorem list1_any (s : Bs) (d : Nat) (VO : ValOK s d) (hle : ∀ a, a ≤ s.length → (valN s d a).2 = 0 → (valN s d a).1 ≤ s.length) (R B bl br bd deep : Nat) (H : LH 20 333 R B bl br bd) (hdd : deep + 1 + d = 5) :
    OneOK R s B 227 #[.pointer (some ⟨bl, 0, none⟩), .pointer (some ⟨br, 0, none⟩), .pointer (some ⟨bd, 0, none⟩)] (LStL R B bl br bd deep) (JL 333 bl) (listOne (valN s d)) := by
  intro n a st W hn ha hrb hst _ hB;obtain ⟨i0, hi, hz0, hz1, hz2⟩ := info_parts infoAny;obtain ⟨xs, hls⟩ := hst;refine Lib.hid ?_;unfold listOne;simp only;have HLE := Lib.hid (hle a ha);have VC := fun W1 h1 h2 => VO R a (deep + 1) W1 hdd ha h1 h2;unfold ValE at VC;have b5 : IntKind.i64.wrap ((deep : Int) + 1) = ((deep + 1 : Nat) : Int) := by rw [IntWalk.i64_in _ (by omega)]; omega
  generalize ((deep + 1 : Nat) : Int) = dp at *;obtain ⟨r, hr⟩ : ∃ r, valN s d a = r := ⟨_, rfl⟩;rw [hr] at VC HLE ⊢;clear hr hle VO;generalize decide (s[a]? = some 123) = kk at *;have HRB := Lib.hid hrb;have HLS := Lib.hid hls;have HH := Lib.hid H;obtain ⟨vl, hl, ho⟩ := hls.row;have cl := (blk_one hl).1;have cr := (blk_one hls.rb).1;have cd := (blk_one hls.db).1;have zl := (blk_one hl).2;have hrbd : RB W.drew R s a 0 := HRB.out;have hrgd : RG W.drew R := HLS.out.rg.keep (RK.drew R W);have PU := fun w8 v (hv : KV kk v) (hk : RK R W w8) => Lib.hid (LS.push (cs := #[v]) HH.out 333 Tryz.underlying333 hi hz0 hz1 hz2 rfl (by decide) (by decide) (HLS.out.rk HH.out hk) (Nat.le_trans hB hk.size) (by omega) rfl (by intro u hu; simp at hu; subst hu; exact hv.one) (vl := vl) ((hk.block _ (Array.getElem?_eq_some_iff.1 hl).1 (by intro e; injection e with e; have := HH.out.R; have := HH.out.l; omega)).trans hl));clear hrb hls ho H;show Calls Tryz.prog 227 #[.int .i64 (n : Int), .pointer (some ⟨bl, 0, none⟩), .pointer (some ⟨br, 0, none⟩), .pointer (some ⟨bd, 0, none⟩)] W _
  go_enter Tryz.func227, Tryz.ntmps227;go_wp2_with fail
  go_region_law (first
    | (go_simp
       go_at_call 140;refine (VC W.drew hrbd hrgd).out.mono ?_;rintro e w8 ⟨⟨v, rfl, hv⟩, hk8, hr8⟩;dsimp only;have hcl := hv.cells;simp only [Value.cells] at hcl;have HK8 := Lib.hid ((RK.drew R W).trans hk8);have HR8 := Lib.hid hr8;obtain ⟨g9, cap9, _, w9, rfl, hrun, hl9, hls9, hkb9, hR9, hB9⟩ := (PU w8 v hv HK8.out).out;have hl8 : w8.heap[bl]? = some (.cells #[vl] 333 (0, 0)) := (HK8.out.block _ (Array.getElem?_eq_some_iff.1 hl).1 (by intro e; injection e with e; have := HH.out.R; have := HH.out.l; omega)).trans hl;have c8 := (blk_one hl8).1;have c8a := ((Up.refl w8).alloc (.cells #[v] 20)).cell c8;have c9 := (blk_one hl9).1;have z9 := (blk_one hl9).2;have HRUN := Lib.hid hrun;have HLS9 := Lib.hid hls9;have HKB9 := Lib.hid hkb9;have HR9 := Lib.hid hR9;clear hrun hls9 hkb9 hR9 hr8 hk8 hl8 hl9)
    | (refine step_append_run rfl _ _ 333 (by rfl) (by rfl) (by rfl) HRUN.out ?_))
  all_goals
    go_wp2_with fail;go_end0
    refine ⟨rfl, (KB.of hB HK8.out).trans (HKB9.out.trans ?_), ?_, HLS9.out.j, fun hz => ⟨⟨_, HLS9.out⟩, HLE.out hz⟩⟩
    · exact ⟨rfl, rfl, rfl, by simp, fun j hj _ => Below.heap_setCell w9 ⟨bl, 0, none⟩ _ j (by have := HH.out.l; simp; omega)⟩
    · have h8 : w8.heap[R]? = some (.cells #[.string ⟨s.toArray⟩, .int .i64 (r.1 : Int), .int .i64 r.2] 242 (0, 0)) := HR8.out;exact ((Below.heap_setCell w9 ⟨bl, 0, none⟩ _ R (by have := HH.out.l; have := HH.out.R; simp; omega)).trans HR9.out).trans h8
end Go.Proofs.YtbfieomjobbhoaaGreatDoor
/- Walks: notes.named, slices.ContainsFunc over pairs. -/
namespace Go.Proofs.YtbfieomjobbhoaaGreatDoor
open Go.RowKit Go.Gz Go.Shelf

set_option maxRecDepth 100000
abbrev Pr := Bs × Value
def pV (ps : List Pr) : List Value := ps.flatMap fun p => [.string ⟨p.1.toArray⟩, p.2]
theorem pV_get (ps : List Pr) : ∀ k (h : k < ps.length), (pV ps)[k * 2]? = some (.string ⟨(ps[k].1).toArray⟩) ∧ (pV ps)[k * 2 + 1]? = some ps[k].2 := by
  induction ps with
  | nil => intro k h; simp at h
  | cons x r ih =>
    intro k h;show (Value.string ⟨x.1.toArray⟩ :: x.2 :: pV r)[k * 2]? = _ ∧ (Value.string ⟨x.1.toArray⟩ :: x.2 :: pV r)[k * 2 + 1]? = _
    cases k with
    | zero => exact ⟨rfl, rfl⟩
    | succ k =>
      have := ih k (by simpa using h);rw [show (k + 1) * 2 = k * 2 + 1 + 1 by omega];simpa using this
theorem named1_any (x nm : Bs) (v : Value) (hv : v.cells = #[v]) (bn : Nat) (w : World) (hn : w.cell? ⟨bn, 0, none⟩ = some (.string ⟨nm.toArray⟩)) :
    Calls Tryz.prog 264 #[.agg #[.string ⟨x.toArray⟩, v], .pointer (some ⟨bn, 0, none⟩)] w fun e w' => e = .returned (.bool (decide (x = nm))) ∧ Up w w' := by
  have hcl := hv;simp only [Value.cells] at hcl;obtain ⟨b, hb⟩ : ∃ b, decide (x = nm) = b := ⟨_, rfl⟩;have hbb : (x == nm) = b := by rw [← hb, Bool.eq_iff_iff]; simp
  rw [hb];have hn2 := ((Up.refl w).alloc (.cells #[.string ⟨x.toArray⟩, v] 337)).cell hn;clear hb hv;go_enter Tryz.func264, Tryz.ntmps264;go_wp2_with fail;go_ret;exact ⟨rfl, (Up.refl w).alloc _⟩
def IxEnd (w : World) (P : Prop) (e : Ending) (w' : World) : Prop := ∃ z : Int, e = .returned (.int .i64 z) ∧ (0 ≤ z ↔ P) ∧ Up w w'
set_option maxHeartbeats 1000000 in
theorem ixp_any (ps : List Pr) (hl : ps.length ≤ 1000) (hv : ∀ p ∈ ps, p.2.cells = #[p.2]) (nm : Bs) (A : Option Addr) (c : Nat) (bn : Nat) (w : World) (hr : Rd w 2 A ps.length c (pV ps)) (hn : w.cell? ⟨bn, 0, none⟩ = some (.string ⟨nm.toArray⟩)) :
    Calls Tryz.prog 263 #[.slice A ps.length c, .func (.func 264) #[] #[.pointer (some ⟨bn, 0, none⟩)]] w (IxEnd w (nm ∈ ps.map (·.1))) := by
  have HR := Lib.hid hr;have HN := Lib.hid hn;have HV := Lib.hid hv;clear hr hn hv;go_enter Tryz.func263, Tryz.ntmps263;go_wp2_with fail;go_loopg [8] ps.length (fun gk i wr => ∃ k : Nat, k + gk = ps.length ∧ i = .int .i64 (k : Int) ∧ (∀ j (h : j < ps.length), j < k → ps[j].1 ≠ nm) ∧ Up w wr)
  case atStart => exact ⟨0, by omega, rfl, fun j _ h => absurd h (by omega), Up.refl w⟩
  case round =>
    obtain ⟨k, hk, rfl, hall, hu⟩ := hrel;have HA := Lib.hid hall;have HU := Lib.hid hu;clear hall;by_cases hlt : k < ps.length
    · obtain ⟨g, rfl⟩ : ∃ g, gk = g + 1 := ⟨gk - 1, by omega⟩;obtain ⟨b, o, u, v, rfl, h1, h2, h3, h4⟩ := (HR.out.up hu).two hlt;obtain ⟨g1, g2⟩ := pV_get ps k hlt;rw [g1] at h1; rw [g2] at h2;cases h1; cases h2;have hvk := HV.out _ (List.getElem_mem hlt);obtain ⟨⟨x, v⟩, hx⟩ : ∃ p, ps[k]'hlt = p := ⟨_, rfl⟩;rw [hx] at h3 h4 hvk;simp only at h3 h4 hvk;have HX := Lib.hid hx;have NM := fun w h => Lib.hid (named1_any x nm v hvk bn w h);have hltI : (k : Int) < (ps.length : Int) := by omega
      have hnk := hu.cell HN.out;have hcl := hvk;simp only [Value.cells] at hcl;clear hx g1 g2 hu hvk;by_cases he : x = nm
      · rw [decide_eq_true he] at NM;have HE := Lib.hid he;clear he;go_wp2_with fail;with_reducible refine (NM _ hnk).out.mono ?_
        rintro e w1 ⟨rfl, hu1⟩;go_wp2_with fail;go_ret;refine ⟨(k : Int), rfl, ⟨fun _ => ?_, fun _ => by omega⟩, HU.out.trans hu1⟩;refine List.mem_map.2 ⟨_, List.getElem_mem hlt, ?_⟩;rw [HX.out];exact HE.out
      · rw [decide_eq_false he] at NM;have HE := Lib.hid he;clear he;go_wp2_with fail;with_reducible refine (NM _ hnk).out.mono ?_
        rintro e w1 ⟨rfl, hu1⟩;go_wp2_with fail;go_roundg g
        case measure => omega
        case rel =>
          refine ⟨k + 1, by omega, by go_num, fun j hj hjk => ?_, HU.out.trans hu1⟩;rcases Nat.lt_or_ge j k with g | g
          · exact HA.out j hj g
          · obtain rfl : j = k := by omega
            rw [HX.out]; exact HE.out
    · obtain rfl : k = ps.length := by omega
      clear hlt;go_wp2_with fail;go_ret;refine ⟨-1, rfl, ⟨fun h => absurd h (by decide), fun h => ?_⟩, HU.out⟩;obtain ⟨p, hp, rfl⟩ := List.mem_map.1 h;obtain ⟨j, hj, rfl⟩ := List.getElem_of_mem hp;exact absurd rfl (HA.out j hj hj)
set_option maxHeartbeats 1000000 in
theorem contp_any (ps : List Pr) (hl : ps.length ≤ 1000) (hv : ∀ p ∈ ps, p.2.cells = #[p.2]) (nm : Bs) (A : Option Addr) (c : Nat) (bn : Nat) (w : World) (hr : Rd w 2 A ps.length c (pV ps)) (hn : w.cell? ⟨bn, 0, none⟩ = some (.string ⟨nm.toArray⟩)) :
    Calls Tryz.prog 229 #[.slice A ps.length c, .func (.func 264) #[] #[.pointer (some ⟨bn, 0, none⟩)]] w fun e w' => e = .returned (.bool (decide (nm ∈ ps.map (·.1)))) ∧ Up w w' := by
  have IX := Lib.hid (ixp_any ps hl hv nm A c bn w hr hn);clear hr hn hv;go_enter Tryz.func229, Tryz.ntmps229;go_wp2_with fail;with_reducible refine IX.out.mono ?_
  rintro e w1 ⟨z, rfl, hz, hu⟩;have HZ := Lib.hid hz;have HU := Lib.hid hu;clear hz hu;go_wp2_with fail;go_ret;refine ⟨ret_bool ?_, HU.out⟩;rw [Bool.eq_iff_iff];simp only [decide_eq_true_eq];exact HZ.out
theorem nmd_any (nm : Bs) (w : World) : Calls Tryz.prog 230 #[.string ⟨nm.toArray⟩] w fun e w' => e = .returned (.func (.func 264) #[] #[.pointer (some ⟨w.heap.size, 0, none⟩)]) ∧ w' = w.alloc (.cells #[.string ⟨nm.toArray⟩] 9) := by
  go_enter Tryz.func230, Tryz.ntmps230;go_wp2_with fail;go_ret;exact ⟨rfl, rfl⟩
end Go.Proofs.YtbfieomjobbhoaaGreatDoor
/- Walk: the notes' reader: what takes one of an object (the function literal). -/
namespace Go.Proofs.YtbfieomjobbhoaaGreatDoor
open Go.RowKit Go.Gz Go.Shelf

set_option maxRecDepth 100000
theorem infoPr : (Tryz.prog.info? 337).map (fun i => (i.zero, i.size, i.bytes)) = some (some (.agg #[.string ⟨#[]⟩, .nilIface]), 2, 32) := by kernel_rfl
theorem RK.old {R B : Nat} {w w' : World} (hRB : R < B) (hk : RK R w w') {j : Nat} {o : Obj} (hj : B ≤ j) (ho : w.heap[j]? = some o) : w'.heap[j]? = some o :=
  (hk.block _ (Array.getElem?_eq_some_iff.1 ho).1 (by intro e; injection e with e; omega)).trans ho
def LStO (R B bl br bd deep n : Nat) (ns : List Bs) (W : World) : Prop := ∃ ps : List Pr, ps.map (·.1) = ns ∧ ps.length = n ∧ (∀ p ∈ ps, p.2.cells = #[p.2]) ∧ LS 337 170 2 R B bl br bd deep n (pV ps) W
set_option maxHeartbeats 8000000 in
theorem obj1_any (s : Bs) (hs : s.length ≤ 1000000) (MK : MarkOK s) (d : Nat) (VO : ValOK s d) (hle : ∀ a, a ≤ s.length → (valN s d a).2 = 0 → (valN s d a).1 ≤ s.length) (htl : ∀ a, a ≤ s.length → (takeN s a).2.2 = 0 → (takeN s a).2.1 ≤ s.length) (R B bl br bd deep : Nat) (H : LH 337 170 R B bl br bd) (hdd : deep + 1 + d = 5) :
    OneOK R s B 228 #[.pointer (some ⟨br, 0, none⟩), .pointer (some ⟨bl, 0, none⟩), .pointer (some ⟨bd, 0, none⟩)] (LStO R B bl br bd deep) (JL 170 bl) (objOne s (valN s d)) := by
  intro n a ns W hn ha hrb hst _ hB;obtain ⟨i0, hi, hz0, hz1, hz2⟩ := info_parts infoPr;obtain ⟨ps, hns, hpl, hpc, hls⟩ := hst;refine Lib.hid ?_;have HLS := Lib.hid hls;have HRB := Lib.hid hrb;have HH := Lib.hid H;have TX := Lib.hid (rtext_any R s hs MK a ha W hrb hls.rg);have HTL := Lib.hid (htl a ha);obtain ⟨vl, hl, ho⟩ := hls.row;have cl := (blk_one hl).1;have cr := (blk_one hls.rb).1;have cd := (blk_one hls.db).1;obtain ⟨c0, c1, c2, z1, z2⟩ := hrb.cells;obtain ⟨r, hr⟩ : ∃ r, objOne s (valN s d) a ns = r := ⟨_, rfl⟩;rw [hr];unfold objOne at hr;obtain ⟨⟨t, q, te⟩, hT⟩ : ∃ x, takeN s a = x := ⟨_, rfl⟩;rw [hT] at hr TX HTL;unfold TextE at TX;simp only at hr TX HTL;have HL := Lib.hid hl;clear hT hrb hls ho H MK htl hl;show Calls Tryz.prog 228 #[.int .i64 (n : Int), .pointer (some ⟨br, 0, none⟩), .pointer (some ⟨bl, 0, none⟩), .pointer (some ⟨bd, 0, none⟩)] W _
  go_enter Tryz.func228, Tryz.ntmps228;go_wp2_with fail;with_reducible refine TX.out.mono ?_
  rintro e w1 ⟨rfl, hk1, hr1⟩;have HK1 := Lib.hid hk1;have HR1 := Lib.hid hr1;have HS1 := Lib.hid (HLS.out.rk HH.out hk1);have hl1 := RK.old HH.out.R hk1 HH.out.l HL.out;have HL1 := Lib.hid hl1;have e1l := (blk_one hl1).1;have e1r := (blk_one HS1.out.rb).1;have e1d := (blk_one HS1.out.db).1;obtain ⟨f0, f1, f2, x1, x2⟩ := hr1.cells;clear hk1 hr1 hl1 cl cr cd c0 c1 c2 z1 z2 TX;go_wp2_with fail;by_cases hte : te = 0
  · subst hte;rw [if_neg (by simp)] at hr;obtain ⟨vl', el', ho1⟩ := HS1.out.row;rw [HL1.out] at el';injection el' with el'; injection el' with el'; injection el' with el';simp only [List.cons.injEq, and_true] at el';subst el';obtain ⟨A, c, rfl, hrd⟩ := Rd.of_own ho1;have HRD := Lib.hid hrd;have MKS := Lib.hid (fun w' (hu : Up w1 w') => (⟨hu, hu.cell e1r, hu.cell f2, hu.cell e1l⟩ : Up w1 w' ∧ w'.cell? ⟨br, 0, none⟩ = some (.pointer (some ⟨R, 0, none⟩)) ∧ w'.cell? ⟨R, 2, none⟩ = some (.int .i64 0) ∧ w'.cell? ⟨bl, 0, none⟩ = some (.slice A n c)));have CP := fun bn w h hn => Lib.hid (contp_any ps (by omega) hpc t A c bn w h hn);rw [hpl] at CP;have NMD := fun w => Lib.hid (nmd_any t w);have FL := fun b F w h => Lib.hid (rfail0 R s q b F w h);have hq := HTL.out rfl;clear ho1 hrd;rw [hns] at CP;by_cases hin : t ∈ ns
    · rw [if_pos hin] at hr;subst hr;rw [decide_eq_true hin] at CP
      go_region_held3 (fun w' => Up w1 w' ∧ w'.cell? ⟨br, 0, none⟩ = some (.pointer (some ⟨R, 0, none⟩)) ∧ w'.cell? ⟨R, 2, none⟩ = some (.int .i64 0) ∧ w'.cell? ⟨bl, 0, none⟩ = some (.slice A n c))
        (first
          | assumption
          | exact MKS.out _ (Up.refl _).drew
          | exact MKS.out _ (Up.alloc (And.left (by assumption)) _)
          | exact MKS.out _ (Up.trans (And.left (by assumption)) (by assumption)))
        (first
          | (go_at_call 230; refine (NMD _).out.mono ?_; rintro e w8 ⟨rfl, rfl⟩)
          | (go_at_call 229; refine (CP _ _ (HRD.out.up (And.left (by assumption))) (by simp)).out.mono ?_; rintro e w9 ⟨rfl, hu9⟩))
      have HU9 : Hid (Up w1 w9) := Lib.hid (by go_split_ands; assumption);have HR9 : Hid (RB w9 R s q 0) := Lib.hid (HR1.out.up HU9.out);go_wp2_with fail;with_reducible refine (FL a 22 w9 HR9.out).out.mono ?_
      rintro e w10 ⟨rfl, hk10, hr10⟩;have g0 := (blk_one (RK.old HH.out.R hk10 HH.out.r (HU9.out.obj HS1.out.rb))).1;obtain ⟨_, _, g2, _, _⟩ := hr10.cells;have HR10 := Lib.hid hr10;have HK10 := Lib.hid (HK1.out.trans ((RK.up HU9.out).trans hk10));have HJ10 := Lib.hid ((HS1.out.rk HH.out (RK.up HU9.out)).rk HH.out hk10).j;clear hr10 hk10;go_wp2_with fail;refine bodyPost_ret (results_none rfl _ _ _) rfl ?_
      first
        | exact ⟨rfl, KB.of hB HK10.out, HR10.out, HJ10.out, fun h => absurd h (by decide)⟩
        | exact ⟨rfl, KB.of hB HK10.out, HR10.out, HJ10.out⟩
    · rw [if_neg hin] at hr;rw [decide_eq_false hin] at CP
      go_region_held3 (fun w' => Up w1 w' ∧ w'.cell? ⟨br, 0, none⟩ = some (.pointer (some ⟨R, 0, none⟩)) ∧ w'.cell? ⟨R, 2, none⟩ = some (.int .i64 0) ∧ w'.cell? ⟨bl, 0, none⟩ = some (.slice A n c))
        (first
          | assumption
          | exact MKS.out _ (Up.refl _).drew
          | exact MKS.out _ (Up.alloc (And.left (by assumption)) _)
          | exact MKS.out _ (Up.trans (And.left (by assumption)) (by assumption)))
        (first
          | (go_at_call 230; refine (NMD _).out.mono ?_; rintro e w8 ⟨rfl, rfl⟩)
          | (go_at_call 229; refine (CP _ _ (HRD.out.up (And.left (by assumption))) (by simp)).out.mono ?_; rintro e w9 ⟨rfl, hu9⟩))
      have HU9 : Hid (Up w1 w9) := Lib.hid (by go_split_ands; assumption);have HR9 : Hid (RB w9 R s q 0) := Lib.hid (HR1.out.up HU9.out);have BLK := Lib.hid (rblank_any R s hs q hq 0 w9 HR9.out);have hb0 : blkA s q ≤ s.length := blkA_le hq;generalize blkA s q = b at *;have hS9 : LS 337 170 2 R B bl br bd deep n (pV ps) w9 := HS1.out.rk HH.out (RK.up HU9.out);have e9r := (blk_one hS9.rb).1;obtain ⟨_, _, g2, _, _⟩ := HR9.out.cells;have HS9 := Lib.hid hS9;clear hS9;go_wp2_with fail;with_reducible refine BLK.out.mono ?_
      rintro e w10 ⟨rfl, hk10, hr10⟩;have HS10 := Lib.hid (HS9.out.rk HH.out hk10);have HR10 := Lib.hid hr10;have HK10 := Lib.hid (HK1.out.trans ((RK.up HU9.out).trans hk10));have hl10 := RK.old HH.out.R hk10 HH.out.l (HU9.out.obj HL1.out);have HL10 := Lib.hid hl10;have SG : Hid (Calls Tryz.prog 231 #[.pointer (some ⟨R, 0, none⟩), .int .u8 58] w10 (SignE w10 R s b 0 58)) := Lib.hid (rsign_any R s hs b hb0 0 58 w10 hr10);have e10r := (blk_one HS10.out.rb).1;clear hr10 hk10 hl10 g2 e9r BLK;unfold SignE at SG;by_cases hsg : s[b]? = some 58
      · rw [if_pos hsg] at hr SG;rw [decide_eq_true hsg] at SG;subst hr;have hbb : b < s.length := (List.getElem?_eq_some_iff.1 hsg).1;have hq2 : blkA s (b + 1) ≤ s.length := blkA_le (by omega);clear hsg;go_wp2_with fail;with_reducible refine SG.out.mono ?_
        rintro e w11 ⟨rfl, hk11, hr11⟩;have HS11 := Lib.hid (HS10.out.rk HH.out hk11);have HR11 := Lib.hid hr11;have HK11 := Lib.hid (HK10.out.trans hk11);have hl11 := RK.old HH.out.R hk11 HH.out.l HL10.out;have HL11 := Lib.hid hl11;clear hr11 hk11 e10r SG;go_wp2_with fail;have cl := (blk_one hl11).1;have cr := (blk_one HS11.out.rb).1;have cd := (blk_one HS11.out.db).1;have zl := (blk_one hl11).2;have HLE := Lib.hid (hle (blkA s (b + 1)) hq2);have VC := fun W1 h1 h2 => VO R (blkA s (b + 1)) (deep + 1) W1 hdd hq2 h1 h2;unfold ValE at VC;have b5 : IntKind.i64.wrap ((deep : Int) + 1) = ((deep + 1 : Nat) : Int) := by rw [IntWalk.i64_in _ (by omega)]; omega
        generalize ((deep + 1 : Nat) : Int) = dp at *;clear hle VO hl11;generalize decide (s[blkA s (b + 1)]? = some 123) = kk at *;have hrbd : RB w11.drew R s (blkA s (b + 1)) 0 := HR11.out;have hrgd : RG w11.drew R := HS11.out.rg.keep (RK.drew R w11);have hB11 : B ≤ w11.heap.size := Nat.le_trans hB HK11.out.size;have PU := fun w8 v (hv : KV kk v) (hk : RK R w11 w8) => Lib.hid (LS.push (cs := #[.string ⟨t.toArray⟩, v]) HH.out 170 Tryz.underlying170 hi hz0 hz1 hz2 rfl (by decide) (by decide) (HS11.out.rk HH.out hk) (Nat.le_trans hB11 hk.size) (by omega) rfl (by intro u hu; simp at hu; rcases hu with rfl | rfl <;> first | rfl | exact hv.one) (RK.old HH.out.R hk HH.out.l HL11.out))
        go_region_law (first
          | (go_simp
             go_at_call 140;refine (VC w11.drew hrbd hrgd).out.mono ?_;rintro e w8 ⟨⟨v, rfl, hv⟩, hk8, hr8⟩;dsimp only;have hcl := hv.cells;simp only [Value.cells] at hcl;have HCL := Lib.hid hv.cells;have HK8 := Lib.hid ((RK.drew R w11).trans hk8);have HR8 := Lib.hid hr8;obtain ⟨g9, cap9, _, w9', rfl, hrun, hl9, hls9, hkb9, hR9, hB9⟩ := (PU w8 v hv HK8.out).out;have c8 := (blk_one (RK.old HH.out.R HK8.out HH.out.l HL11.out)).1;have c8a := ((Up.refl w8).alloc (.cells #[.string ⟨t.toArray⟩, v] 337)).cell c8;have c9 := (blk_one hl9).1;have z9 := (blk_one hl9).2;have HRUN := Lib.hid hrun;have HLS9 := Lib.hid hls9;have HKB9 := Lib.hid hkb9;have HR9' := Lib.hid hR9;clear hrun hls9 hkb9 hR9 hr8 hk8 hl9)
          | (refine step_append_run rfl _ _ 170 (by rfl) (by rfl) (by rfl) HRUN.out ?_))
        all_goals
          go_wp2_with fail;go_end0
          refine ⟨rfl, (KB.of hB HK11.out).trans ((KB.of hB11 HK8.out).trans (HKB9.out.trans ?_)), ?_, (show JL 170 bl _ from HLS9.out.j), fun hz => ⟨⟨ps ++ [(t, v)], by rw [List.map_append, hns]; rfl, by rw [List.length_append, hpl]; rfl, ?_, ?_⟩, HLE.out hz⟩⟩
          · exact ⟨rfl, rfl, rfl, by simp, fun j hj _ => Below.heap_setCell w9' ⟨bl, 0, none⟩ _ j (by have := HH.out.l; simp; omega)⟩
          · have h8 : w8.heap[R]? = some (.cells #[.string ⟨s.toArray⟩, .int .i64 ((valN s d (blkA s (b + 1))).1 : Int), .int .i64 (valN s d (blkA s (b + 1))).2] 242 (0, 0)) := HR8.out;exact ((Below.heap_setCell w9' ⟨bl, 0, none⟩ _ R (by have := HH.out.l; have := HH.out.R; simp; omega)).trans HR9'.out).trans h8
          · intro p hp;rcases List.mem_append.1 hp with hp | hp
            · exact hpc p hp
            · obtain rfl : p = (t, v) := by simpa using hp
              exact HCL.out
          · have e : pV (ps ++ [(t, v)]) = pV ps ++ [.string ⟨t.toArray⟩, v] := by unfold pV; rw [List.flatMap_append]; rfl
            rw [e];exact HLS9.out
      · rw [if_neg hsg] at hr SG;rw [decide_eq_false hsg] at SG;have WR := fun w h => (Lib.hid (rwrong_any R s b hb0 0 w h)).out;unfold FailE at WR;simp only [if_true] at WR;unfold wrongN at hr;obtain ⟨F, hFe⟩ : ∃ F, (if b = s.length then (3 : Int) else 4) = F := ⟨_, rfl⟩;rw [hFe] at hr WR;have hF : F ≠ 0 := by rw [← hFe]; split <;> decide
        clear hFe;subst hr;have WRH := Lib.hid WR;clear WR hsg;go_wp2_with fail;with_reducible refine SG.out.mono ?_
        rintro e w11 ⟨rfl, hk11, hr11⟩;have HS11 := Lib.hid (HS10.out.rk HH.out hk11);have HR11 := Lib.hid hr11;have HK11 := Lib.hid (HK10.out.trans hk11);have e11r := (blk_one HS11.out.rb).1;clear hr11 hk11 e10r SG;go_wp2_with fail;with_reducible refine (WRH.out _ HR11.out).mono ?_
        rintro e w12 ⟨rfl, hk12, hr12⟩;have HR12 := Lib.hid hr12;have HK12 := Lib.hid (HK11.out.trans hk12);have HJ12 := Lib.hid (HS11.out.rk HH.out hk12).j;clear hr12 hk12;go_wp2_with fail;refine bodyPost_ret (results_none rfl _ _ _) rfl ?_
        first
          | exact ⟨rfl, KB.of hB HK12.out, HR12.out, HJ12.out, fun h => absurd h hF⟩
          | exact ⟨rfl, KB.of hB HK12.out, HR12.out, HJ12.out⟩
  · have hte0 : (te == 0) = false := by rw [beq_eq_false_iff_ne]; exact hte
    have hte1 : (te != 0) = true := by rw [bne_iff_ne]; exact hte
    rw [if_pos hte] at hr;subst hr;refine wp_region_held_drew (S := fun w' => w'.cell? ⟨br, 0, none⟩ = some (.pointer (some ⟨R, 0, none⟩)) ∧ w'.cell? ⟨R, 2, none⟩ = some (.int .i64 te)) (by kernel_rfl) ?_ (fun hHeld => ?_)
    · exact ⟨e1r, f2⟩
    refine tk 0 rfl ?_;(try simp only [Act.put, tz1, tz2, tz3]);refine tk 1 rfl ?_;(try simp only [Act.put, tz1, tz2, tz3]);refine tk 2 rfl ?_;(try simp only [Act.put, tz1, tz2, tz3]);refine tk 3 rfl ?_;(try simp only [Act.put, tz1, tz2, tz3]);refine tk 4 rfl ?_;(try simp only [Act.put, tz1, tz2, tz3]);refine tk 5 rfl ?_;(try simp only [Act.put, tz1, tz2, tz3]);refine tk 6 rfl ?_;(try simp only [Act.put, tz1, tz2, tz3]);refine tk 7 rfl ?_;(try simp only [Act.put, tz1, tz2, tz3]);refine tk 8 rfl ?_;(try simp only [Act.put, tz1, tz2, tz3]);refine tk 9 rfl ?_;(try simp only [Act.put, tz1, tz2, tz3]);refine tk 10 rfl ?_;(try simp only [Act.put, tz1, tz2, tz3]);refine wpAnyH_done (by kernel_rfl) ?_ _;go_wp2_with fail;refine bodyPost_ret (results_none rfl _ _ _) rfl ?_
    first
      | exact ⟨rfl, KB.of hB (HK1.out.trans (RK.drew R _)), HR1.out, HS1.out.j, fun h => absurd h hte⟩
      | exact ⟨rfl, KB.of hB (HK1.out.trans (RK.drew R _)), HR1.out, HS1.out.j⟩
end Go.Proofs.YtbfieomjobbhoaaGreatDoor
/- Walks: the notes' reader: list, object. -/
namespace Go.Proofs.YtbfieomjobbhoaaGreatDoor
open Go.RowKit Go.Gz Go.Shelf

set_option maxRecDepth 100000
theorem gl_lt {w : World} (gl : Gl w) : 5 < w.heap.size ∧ 3 < w.heap.size ∧ 4 < w.heap.size ∧ 1 < w.heap.size ∧ 2 < w.heap.size := by
  obtain ⟨_, _, e2⟩ := gl.errSyntax;obtain ⟨_, _, e3⟩ := gl.errRange;exact ⟨var_lt g_pow10 gl.pow10, var_lt g_syn e2, var_lt g_rng e3, World.block_lt_of_cell? w _ (gl.utf8.1 0 (by omega)), World.block_lt_of_cell? w _ (gl.utf8.2 0 (by omega)).1⟩
theorem RG.up {w w' : World} {R : Nat} (h : RG w R) (hu : Up w w') : RG w' R := h.keep (RK.up hu)
/-- the world behind the boxes of a list or an object -/
theorem boxes {T S : TypeId} {size : Nat} {R deep : Nat} {w X : World} (hg : RG w R) (hRl : R < w.heap.size) (hX : ((((w.alloc (.cells #[.pointer (some ⟨R, 0, none⟩)] 240)).alloc (.cells #[.int .i64 (deep : Int)] 3)).alloc (.cells #[] T)).alloc (.cells #[.slice (some ⟨w.heap.size + 1 + 1, 0, none⟩) 0 0] S)) = X)
    (ts : T ≠ S) (tr : T ≠ 240) (td : T ≠ 3) : Up w X ∧ LH T S R w.heap.size (w.heap.size + 1 + 1 + 1) w.heap.size (w.heap.size + 1) ∧ LS T S size R w.heap.size (w.heap.size + 1 + 1 + 1) w.heap.size (w.heap.size + 1) deep 0 [] X ∧ JL S (w.heap.size + 1 + 1 + 1) X ∧ w.heap.size ≤ X.heap.size := by
  have hu : Up w X := by rw [← hX]; exact ((((Up.refl w).alloc _).alloc _).alloc _).alloc _
  have q0 := heap_alloc_new w (.cells #[.pointer (some ⟨R, 0, none⟩)] 240);have q1 := heap_alloc_new (w.alloc (.cells #[.pointer (some ⟨R, 0, none⟩)] 240)) (.cells #[.int .i64 (deep : Int)] 3);have q2 := heap_alloc_new ((w.alloc (.cells #[.pointer (some ⟨R, 0, none⟩)] 240)).alloc (.cells #[.int .i64 (deep : Int)] 3)) (.cells #[] T);have q3 := heap_alloc_new (((w.alloc (.cells #[.pointer (some ⟨R, 0, none⟩)] 240)).alloc (.cells #[.int .i64 (deep : Int)] 3)).alloc (.cells #[] T)) (.cells #[.slice (some ⟨w.heap.size + 1 + 1, 0, none⟩) 0 0] S);simp only [World.size_alloc] at q1 q2 q3;have r0 := ((((Up.refl _).alloc (.cells #[.int .i64 (deep : Int)] 3)).alloc (.cells #[] T)).alloc (.cells #[.slice (some ⟨w.heap.size + 1 + 1, 0, none⟩) 0 0] S)).obj q0;have r1 := (((Up.refl _).alloc (.cells #[] T)).alloc (.cells #[.slice (some ⟨w.heap.size + 1 + 1, 0, none⟩) 0 0] S)).obj q1;have r2 := ((Up.refl _).alloc (.cells #[.slice (some ⟨w.heap.size + 1 + 1, 0, none⟩) 0 0] S)).obj q2;rw [hX] at r0 r1 r2 q3;refine ⟨hu, ⟨hRl, by omega, Nat.le_refl _, by omega, by omega, by omega, ts, tr, td, gl_lt hg.gl⟩, ⟨hg.up hu, ⟨_, q3, ?_⟩, r0, r1⟩, ⟨_, _, _, q3⟩, hu.le⟩;refine ⟨by simp, .inr ⟨w.heap.size + 1 + 1, 0, #[], rfl, by omega, r2, Nat.le_refl _, by unfold maxLen; omega, by simp, by simp⟩⟩
def WordOK (s : Bs) : Prop := ∀ (a : Nat) (w : Bs) (v : Value), (s[a]? = some 110 ∧ w = [110, 117, 108, 108] ∧ v = .nilIface) ∨ (s[a]? = some 102 ∧ w = [102, 97, 108, 115, 101] ∧ v = .iface 4 (.bool false)) ∨ (s[a]? = some 116 ∧ w = [116, 114, 117, 101] ∧ v = .iface 4 (.bool true)) →
  ∀ (R : Nat) (W : World), RB W R s a 0 → Hid (Calls Tryz.prog 189 #[.pointer (some ⟨R, 0, none⟩), .string ⟨w.toArray⟩, v] W (ValE W R s false (wordN s a w)))
def NumOK (s : Bs) : Prop := ∀ (a : Nat) (b : UInt8), s[a]? = some b → (b = 45 ∨ digB b = true) → ∀ (R : Nat) (W : World), RB W R s a 0 → RG W R → Hid (Calls Tryz.prog 193 #[.pointer (some ⟨R, 0, none⟩)] W (ValE W R s false (numberN s a)))
set_option maxHeartbeats 2000000 in
theorem rlist_any (s : Bs) (hs : s.length ≤ 1000000) (d : Nat) (VO : d ≠ 0 → ValOK s (d - 1)) (R a deep : Nat) (hdd : deep + d = 5) (hop : s[a]? = some 91) (w : World) (h : RB w R s a 0) (hg : RG w R) :
    Calls Tryz.prog 191 #[.pointer (some ⟨R, 0, none⟩), .int .i64 (deep : Int)] w (ValE w R s false (if d = 0 then (a, 20) else contN s 93 (listOne (valN s (d - 1))) a ())) := by
  obtain ⟨X, hX⟩ : ∃ x, ((((w.alloc (.cells #[.pointer (some ⟨R, 0, none⟩)] 240)).alloc (.cells #[.int .i64 (deep : Int)] 3)).alloc (.cells #[] 20)).alloc (.cells #[.slice (some ⟨w.heap.size + 1 + 1, 0, none⟩) 0 0] 333)) = x := ⟨_, rfl⟩;have hRl := (Array.getElem?_eq_some_iff.1 h).1;obtain ⟨hu, HH, hls, hjl, hXl⟩ := boxes (T := 20) (S := 333) (size := 1) hg hRl hX (by decide) (by decide) (by decide);obtain ⟨r, hr⟩ : ∃ r, (if d = 0 then (a, 20) else contN s 93 (listOne (valN s (d - 1))) a ()) = r := ⟨_, rfl⟩;have EA : Hid (Calls Tryz.prog 226 #[.pointer (some ⟨R, 0, none⟩), .int .i64 (deep : Int), .int .u8 91, .int .u8 93, .func (.func 227) #[] #[.pointer (some ⟨w.heap.size + 1 + 1 + 1, 0, none⟩), .pointer (some ⟨w.heap.size, 0, none⟩), .pointer (some ⟨w.heap.size + 1, 0, none⟩)]] X fun e w' => e = .returned (.tuple #[]) ∧ KB w.heap.size R X w' ∧ RB w' R s r.1 r.2 ∧ JL 333 (w.heap.size + 1 + 1 + 1) w') :=
    Lib.hid (eachg_any R s hs 91 93 deep d hdd w.heap.size 227 _ (enters_of Tryz.func227 (by kernel_rfl) rfl) (LStL R w.heap.size (w.heap.size + 1 + 1 + 1) w.heap.size (w.heap.size + 1) deep) (JL 333 (w.heap.size + 1 + 1 + 1)) (listOne (valN s (d - 1)))
      (fun n st W W' h hk => by obtain ⟨xs, h⟩ := h; exact ⟨xs, h.rk HH hk⟩) (fun W W' h hk => h.rk (by omega) hk)
      (fun hd => list1_any s (d - 1) (VO hd) (valN_le s (d - 1)) R w.heap.size _ _ _ deep HH (by omega)) (fun _ => valN_end s (d - 1)) a hop () X (h.up hu) ⟨[], hls⟩ hjl hXl r hr.symm)
  rw [hr];have HU := Lib.hid hu;have HX := Lib.hid hX;clear h hg hls hjl VO hop hr hX;go_enter Tryz.func191, Tryz.ntmps191;go_wp2_with fail;rw [HX.out];with_reducible refine EA.out.mono ?_
  rintro e w1 ⟨rfl, hk, hr1, ⟨A, n, c, hj⟩⟩;have HK := Lib.hid hk;have HR := Lib.hid hr1;have cl := (blk_one hj).1;clear hk hr1 hj EA;go_wp2_with fail;go_ret;refine ⟨⟨_, rfl, ?_⟩, (KB.trans (KB.of (Nat.le_refl _) (RK.up HU.out)) HK.out).rk, HR.out⟩;unfold KV;rw [if_neg (by simp)];exact .inr (.inr (.inr (.inr ⟨_, rfl⟩)))
set_option maxHeartbeats 2000000 in
theorem robj_any (s : Bs) (hs : s.length ≤ 1000000) (MK : MarkOK s) (d : Nat) (VO : d ≠ 0 → ValOK s (d - 1)) (R a deep : Nat) (hdd : deep + d = 5) (hop : s[a]? = some 123) (w : World) (h : RB w R s a 0) (hg : RG w R) :
    Calls Tryz.prog 192 #[.pointer (some ⟨R, 0, none⟩), .int .i64 (deep : Int)] w (ValE w R s true (if d = 0 then (a, 20) else contN s 125 (objOne s (valN s (d - 1))) a [])) := by
  obtain ⟨X, hX⟩ : ∃ x, ((((w.alloc (.cells #[.pointer (some ⟨R, 0, none⟩)] 240)).alloc (.cells #[.int .i64 (deep : Int)] 3)).alloc (.cells #[] 337)).alloc (.cells #[.slice (some ⟨w.heap.size + 1 + 1, 0, none⟩) 0 0] 170)) = x := ⟨_, rfl⟩;have hRl := (Array.getElem?_eq_some_iff.1 h).1;obtain ⟨hu, HH, hls, hjl, hXl⟩ := boxes (T := 337) (S := 170) (size := 2) hg hRl hX (by decide) (by decide) (by decide);obtain ⟨r, hr⟩ : ∃ r, (if d = 0 then (a, 20) else contN s 125 (objOne s (valN s (d - 1))) a []) = r := ⟨_, rfl⟩;have EA : Hid (Calls Tryz.prog 226 #[.pointer (some ⟨R, 0, none⟩), .int .i64 (deep : Int), .int .u8 123, .int .u8 125, .func (.func 228) #[] #[.pointer (some ⟨w.heap.size, 0, none⟩), .pointer (some ⟨w.heap.size + 1 + 1 + 1, 0, none⟩), .pointer (some ⟨w.heap.size + 1, 0, none⟩)]] X fun e w' => e = .returned (.tuple #[]) ∧ KB w.heap.size R X w' ∧ RB w' R s r.1 r.2 ∧ JL 170 (w.heap.size + 1 + 1 + 1) w') :=
    Lib.hid (eachg_any R s hs 123 125 deep d hdd w.heap.size 228 _ (enters_of Tryz.func228 (by kernel_rfl) rfl) (LStO R w.heap.size (w.heap.size + 1 + 1 + 1) w.heap.size (w.heap.size + 1) deep) (JL 170 (w.heap.size + 1 + 1 + 1)) (objOne s (valN s (d - 1)))
      (fun n st W W' h hk => by obtain ⟨ps, e1, e2, e3, h⟩ := h; exact ⟨ps, e1, e2, e3, h.rk HH hk⟩) (fun W W' h hk => h.rk (by omega) hk)
      (fun hd => obj1_any s hs MK (d - 1) (VO hd) (valN_le s (d - 1)) (fun a _ h => takeN_le h) R w.heap.size _ _ _ deep HH (by omega)) (fun ns => objOne_end s (d - 1) ns) a hop [] X (h.up hu) ⟨[], rfl, rfl, by simp, hls⟩ hjl hXl r hr.symm)
  rw [hr];have HU := Lib.hid hu;have HX := Lib.hid hX;clear h hg hls hjl VO hop hr MK hX;go_enter Tryz.func192, Tryz.ntmps192;go_wp2_with fail;rw [HX.out];with_reducible refine EA.out.mono ?_
  rintro e w1 ⟨rfl, hk, hr1, ⟨A, n, c, hj⟩⟩;have HK := Lib.hid hk;have HR := Lib.hid hr1;have cl := (blk_one hj).1;clear hk hr1 hj EA;go_wp2_with fail;go_ret;refine ⟨⟨_, rfl, ?_⟩, (KB.trans (KB.of (Nat.le_refl _) (RK.up HU.out)) HK.out).rk, HR.out⟩;unfold KV;rw [if_pos rfl];exact ⟨_, rfl⟩
end Go.Proofs.YtbfieomjobbhoaaGreatDoor
/- Walk: the notes' reader: value, given mark, word and number. -/
namespace Go.Proofs.YtbfieomjobbhoaaGreatDoor
open Go.RowKit Go.Gz Go.Shelf

set_option maxRecDepth 100000
theorem digB_ix (b : UInt8) : decide (0 ≤ Lib.indexByte [48, 49, 50, 51, 52, 53, 54, 55, 56, 57] b) = digB b := by
  have key : ∀ n : Fin 256, decide (0 ≤ Lib.indexByte [48, 49, 50, 51, 52, 53, 54, 55, 56, 57] (UInt8.ofNat n.val)) = digB (UInt8.ofNat n.val) := by decide +kernel
  have := key ⟨b.toNat, b.toNat_lt⟩;simpa using this
theorem ixd_any (b : UInt8) (w : World) : Calls Tryz.prog 187 #[.string ⟨#[48, 49, 50, 51, 52, 53, 54, 55, 56, 57]⟩, .int .u8 (b.toNat : Int)] w fun e w' => e = .returned (.int .i64 (Lib.indexByte [48, 49, 50, 51, 52, 53, 54, 55, 56, 57] b)) ∧ w' = w := by
  refine (Tryz.strings_IndexByte ⟨#[48, 49, 50, 51, 52, 53, 54, 55, 56, 57]⟩ (b.toNat : Int) w).mono ?_;rintro e w' ⟨rfl, rfl⟩;exact ⟨by simp, rfl⟩
theorem valN_at {s : Bs} {d a : Nat} {b : UInt8} (h : s[a]? = some b) : valN s d a = if b = 110 then wordN s a [110, 117, 108, 108] else if b = 102 then wordN s a [102, 97, 108, 115, 101] else if b = 116 then wordN s a [116, 114, 117, 101] else if b = 34 then (takeN s a).2
    else if b = 91 then (if d = 0 then (a, 20) else contN s 93 (listOne (valN s (d - 1))) a ()) else if b = 123 then (if d = 0 then (a, 20) else contN s 125 (objOne s (valN s (d - 1))) a []) else if b = 45 ∨ digB b = true then numberN s a else (a, 4) := by
  cases d with
  | zero => unfold valN; rw [h]; simp only [if_true]
  | succ d => unfold valN; rw [h]; simp only [Nat.succ_ne_zero, if_false, Nat.add_sub_cancel]
set_option maxHeartbeats 8000000 in
theorem rval_step (s : Bs) (hs : s.length ≤ 1000000) (MK : MarkOK s) (WO : WordOK s) (NO : NumOK s) (d : Nat) (VO : d ≠ 0 → ValOK s (d - 1)) : ValOK s d := by
  intro R a deep w hdd ha h hg;refine Lib.hid ?_;have HRB := Lib.hid h;have HRG := Lib.hid hg;have HD : Hid (RK R w w.drew.drew ∧ RB w.drew.drew R s a 0 ∧ RG w.drew.drew R) := Lib.hid ⟨(RK.drew R w).trans (RK.drew R _), h, hg.keep ((RK.drew R w).trans (RK.drew R _))⟩;have HD1 : Hid (RK R w w.drew ∧ RB w.drew R s a 0) := Lib.hid ⟨RK.drew R w, h⟩;obtain ⟨c0, c1, c2, z1, z2⟩ := h.cells;have d0 : w.drew.cell? ⟨R, 0, none⟩ = some (.string ⟨s.toArray⟩) := c0;have d1 : w.drew.cell? ⟨R, 1, none⟩ = some (.int .i64 (a : Int)) := c1;unfold ValE;by_cases hlt : a < s.length
  · obtain ⟨b, hb⟩ : ∃ b, (⟨s.toArray⟩ : ByteArray)[a]'(by rw [size_mk]; exact hlt) = b := ⟨_, rfl⟩;have hbk : s[a]? = some b := by rw [List.getElem?_eq_getElem hlt, ← hb]; rfl
    have hv := valN_at (d := d) hbk;obtain ⟨r, hr⟩ : ∃ r, valN s d a = r := ⟨_, rfl⟩;rw [hr] at hv ⊢;obtain ⟨kk, hkk⟩ : ∃ kk, decide (s[a]? = some 123) = kk := ⟨_, rfl⟩;rw [hkk];rw [hbk] at hkk;have b1 : (0 : Int) ≤ (a : Int) := by omega
    have b2 : (a : Int) < (s.length : Int) := by omega
    have b4 : ((a : Int) == (s.length : Int)) = false := by rw [beq_eq_false_iff_ne]; omega
    clear h hg hr;by_cases h110 : b = 110
    · subst h110;obtain rfl : false = kk := hkk;rw [if_pos rfl] at hv;subst hv;have CL := fun W h => (WO a _ _ (.inl ⟨hbk, rfl, rfl⟩) R W h).out;unfold ValE at CL;have CLH := Lib.hid CL;clear CL;clear hbk VO MK WO NO;go_enter Tryz.func140, Tryz.ntmps140;go_wp2_with fail;go_region_held3 (fun w' => w'.cell? ⟨R, 0, none⟩ = some (.string ⟨s.toArray⟩) ∧ w'.cell? ⟨R, 1, none⟩ = some (.int .i64 (a : Int))) (first | assumption | exact ⟨c0, c1⟩) (fail)
      go_wp2_with fail;go_region_held3 (fun w' => w'.cell? ⟨R, 0, none⟩ = some (.string ⟨s.toArray⟩) ∧ w'.cell? ⟨R, 1, none⟩ = some (.int .i64 (a : Int))) (first | assumption | exact ⟨d0, d1⟩) (fail)
      go_wp2_with fail;with_reducible refine (CLH.out _ HD.out.2.1).mono ?_
      rintro e w9 ⟨⟨v9, rfl, hv9⟩, hk9, hr9⟩;have HR9 := Lib.hid hr9;clear hr9;go_wp2_with fail;go_ret;exact ⟨⟨_, rfl, hv9⟩, HD.out.1.trans hk9, HR9.out⟩
    rw [if_neg h110] at hv;by_cases h102 : b = 102
    · subst h102;obtain rfl : false = kk := hkk;rw [if_pos rfl] at hv;subst hv;have CL := fun W h => (WO a _ _ (.inr (.inl ⟨hbk, rfl, rfl⟩)) R W h).out;unfold ValE at CL;have CLH := Lib.hid CL;clear CL;clear hbk VO MK WO NO;go_enter Tryz.func140, Tryz.ntmps140;go_wp2_with fail;go_region_held3 (fun w' => w'.cell? ⟨R, 0, none⟩ = some (.string ⟨s.toArray⟩) ∧ w'.cell? ⟨R, 1, none⟩ = some (.int .i64 (a : Int))) (first | assumption | exact ⟨c0, c1⟩) (fail)
      go_wp2_with fail;go_region_held3 (fun w' => w'.cell? ⟨R, 0, none⟩ = some (.string ⟨s.toArray⟩) ∧ w'.cell? ⟨R, 1, none⟩ = some (.int .i64 (a : Int))) (first | assumption | exact ⟨d0, d1⟩) (fail)
      go_wp2_with fail;with_reducible refine (CLH.out _ HD.out.2.1).mono ?_
      rintro e w9 ⟨⟨v9, rfl, hv9⟩, hk9, hr9⟩;have HR9 := Lib.hid hr9;clear hr9;go_wp2_with fail;go_ret;exact ⟨⟨_, rfl, hv9⟩, HD.out.1.trans hk9, HR9.out⟩
    rw [if_neg h102] at hv;by_cases h116 : b = 116
    · subst h116;obtain rfl : false = kk := hkk;rw [if_pos rfl] at hv;subst hv;have CL := fun W h => (WO a _ _ (.inr (.inr ⟨hbk, rfl, rfl⟩)) R W h).out;unfold ValE at CL;have CLH := Lib.hid CL;clear CL;clear hbk VO MK WO NO;go_enter Tryz.func140, Tryz.ntmps140;go_wp2_with fail;go_region_held3 (fun w' => w'.cell? ⟨R, 0, none⟩ = some (.string ⟨s.toArray⟩) ∧ w'.cell? ⟨R, 1, none⟩ = some (.int .i64 (a : Int))) (first | assumption | exact ⟨c0, c1⟩) (fail)
      go_wp2_with fail;go_region_held3 (fun w' => w'.cell? ⟨R, 0, none⟩ = some (.string ⟨s.toArray⟩) ∧ w'.cell? ⟨R, 1, none⟩ = some (.int .i64 (a : Int))) (first | assumption | exact ⟨d0, d1⟩) (fail)
      go_wp2_with fail;with_reducible refine (CLH.out _ HD.out.2.1).mono ?_
      rintro e w9 ⟨⟨v9, rfl, hv9⟩, hk9, hr9⟩;have HR9 := Lib.hid hr9;clear hr9;go_wp2_with fail;go_ret;exact ⟨⟨_, rfl, hv9⟩, HD.out.1.trans hk9, HR9.out⟩
    rw [if_neg h116] at hv;by_cases h34 : b = 34
    · subst h34;obtain rfl : false = kk := hkk;rw [if_pos rfl] at hv;subst hv;have CL := fun W h hg => rtext_any R s hs MK a ha W h hg;unfold TextE at CL;have CLH := Lib.hid CL;clear CL;clear hbk VO MK WO NO;go_enter Tryz.func140, Tryz.ntmps140;go_wp2_with fail;go_region_held3 (fun w' => w'.cell? ⟨R, 0, none⟩ = some (.string ⟨s.toArray⟩) ∧ w'.cell? ⟨R, 1, none⟩ = some (.int .i64 (a : Int))) (first | assumption | exact ⟨c0, c1⟩) (fail)
      go_wp2_with fail;go_region_held3 (fun w' => w'.cell? ⟨R, 0, none⟩ = some (.string ⟨s.toArray⟩) ∧ w'.cell? ⟨R, 1, none⟩ = some (.int .i64 (a : Int))) (first | assumption | exact ⟨d0, d1⟩) (fail)
      go_wp2_with fail;with_reducible refine (CLH.out _ HD.out.2.1 HD.out.2.2).mono ?_
      rintro e w9 ⟨rfl, hk9, hr9⟩;have HR9 := Lib.hid hr9;clear hr9;go_wp2_with fail;go_ret;exact ⟨⟨_, rfl, .inr (.inr (.inl ⟨_, rfl⟩))⟩, HD.out.1.trans hk9, HR9.out⟩
    rw [if_neg h34] at hv;by_cases h91 : b = 91
    · subst h91;obtain rfl : false = kk := hkk;rw [if_pos rfl] at hv

      have CL := fun W h hg => rlist_any s hs d VO R a deep hdd hbk W h hg;rw [← hv] at CL;clear hv;unfold ValE at CL;have CLH := Lib.hid CL;clear CL;clear hbk VO MK WO NO;go_enter Tryz.func140, Tryz.ntmps140;go_wp2_with fail;go_region_held3 (fun w' => w'.cell? ⟨R, 0, none⟩ = some (.string ⟨s.toArray⟩) ∧ w'.cell? ⟨R, 1, none⟩ = some (.int .i64 (a : Int))) (first | assumption | exact ⟨c0, c1⟩) (fail)
      go_wp2_with fail;go_region_held3 (fun w' => w'.cell? ⟨R, 0, none⟩ = some (.string ⟨s.toArray⟩) ∧ w'.cell? ⟨R, 1, none⟩ = some (.int .i64 (a : Int))) (first | assumption | exact ⟨d0, d1⟩) (fail)
      go_wp2_with fail;with_reducible refine (CLH.out _ HD.out.2.1 HD.out.2.2).mono ?_
      rintro e w9 ⟨⟨v9, rfl, hv9⟩, hk9, hr9⟩;have HR9 := Lib.hid hr9;clear hr9;go_wp2_with fail;go_ret;exact ⟨⟨_, rfl, hv9⟩, HD.out.1.trans hk9, HR9.out⟩
    rw [if_neg h91] at hv;by_cases h123 : b = 123
    · subst h123;obtain rfl : true = kk := hkk;rw [if_pos rfl] at hv

      have CL := fun W h hg => robj_any s hs MK d VO R a deep hdd hbk W h hg;rw [← hv] at CL;clear hv;unfold ValE at CL;have CLH := Lib.hid CL;clear CL;clear hbk VO MK WO NO;go_enter Tryz.func140, Tryz.ntmps140;go_wp2_with fail;go_region_held3 (fun w' => w'.cell? ⟨R, 0, none⟩ = some (.string ⟨s.toArray⟩) ∧ w'.cell? ⟨R, 1, none⟩ = some (.int .i64 (a : Int))) (first | assumption | exact ⟨c0, c1⟩) (fail)
      go_wp2_with fail;go_region_held3 (fun w' => w'.cell? ⟨R, 0, none⟩ = some (.string ⟨s.toArray⟩) ∧ w'.cell? ⟨R, 1, none⟩ = some (.int .i64 (a : Int))) (first | assumption | exact ⟨d0, d1⟩) (fail)
      go_wp2_with fail;with_reducible refine (CLH.out _ HD.out.2.1 HD.out.2.2).mono ?_
      rintro e w9 ⟨⟨v9, rfl, hv9⟩, hk9, hr9⟩;have HR9 := Lib.hid hr9;clear hr9;go_wp2_with fail;go_ret;exact ⟨⟨_, rfl, hv9⟩, HD.out.1.trans hk9, HR9.out⟩
    rw [if_neg h123] at hv;obtain rfl : false = kk := by rw [← hkk]; symm; exact decide_eq_false (by intro e; injection e with e; exact h123 e)
    have t110 : ((b.toNat : Int) == 110) = false := by rw [beq_eq_false_iff_ne]; intro e; exact h110 (UInt8.toNat.inj (by simpa using (by omega : b.toNat = 110)))
    have t102 : ((b.toNat : Int) == 102) = false := by rw [beq_eq_false_iff_ne]; intro e; exact h102 (UInt8.toNat.inj (by simpa using (by omega : b.toNat = 102)))
    have t116 : ((b.toNat : Int) == 116) = false := by rw [beq_eq_false_iff_ne]; intro e; exact h116 (UInt8.toNat.inj (by simpa using (by omega : b.toNat = 116)))
    have t34 : ((b.toNat : Int) == 34) = false := by rw [beq_eq_false_iff_ne]; intro e; exact h34 (UInt8.toNat.inj (by simpa using (by omega : b.toNat = 34)))
    have t91 : ((b.toNat : Int) == 91) = false := by rw [beq_eq_false_iff_ne]; intro e; exact h91 (UInt8.toNat.inj (by simpa using (by omega : b.toNat = 91)))
    have t123 : ((b.toNat : Int) == 123) = false := by rw [beq_eq_false_iff_ne]; intro e; exact h123 (UInt8.toNat.inj (by simpa using (by omega : b.toNat = 123)))
    by_cases h45 : b = 45
    · subst h45;rw [if_pos (.inl rfl)] at hv;subst hv;have CL := fun W h hg => (NO a _ hbk (.inl rfl) R W h hg).out;unfold ValE at CL;have CLH := Lib.hid CL;clear CL hbk VO MK WO NO;go_enter Tryz.func140, Tryz.ntmps140;go_wp2_with fail;go_region_held3 (fun w' => w'.cell? ⟨R, 0, none⟩ = some (.string ⟨s.toArray⟩) ∧ w'.cell? ⟨R, 1, none⟩ = some (.int .i64 (a : Int))) (first | assumption | exact ⟨c0, c1⟩) (fail)
      go_wp2_with fail;go_region_held3 (fun w' => w'.cell? ⟨R, 0, none⟩ = some (.string ⟨s.toArray⟩) ∧ w'.cell? ⟨R, 1, none⟩ = some (.int .i64 (a : Int))) (first | assumption | exact ⟨d0, d1⟩) (fail)
      go_wp2_with fail;with_reducible refine (CLH.out _ HD.out.2.1 HD.out.2.2).mono ?_
      rintro e w9 ⟨⟨v9, rfl, hv9⟩, hk9, hr9⟩;have HR9 := Lib.hid hr9;clear hr9;go_wp2_with fail;go_ret;exact ⟨⟨_, rfl, hv9⟩, HD.out.1.trans hk9, HR9.out⟩
    have t45 : ((b.toNat : Int) == 45) = false := by rw [beq_eq_false_iff_ne]; intro e; exact h45 (UInt8.toNat.inj (by simpa using (by omega : b.toNat = 45)))
    have IX := fun w => Lib.hid (ixd_any b w);have hix := digB_ix b;generalize Lib.indexByte [48, 49, 50, 51, 52, 53, 54, 55, 56, 57] b = ix at *;by_cases hdg : digB b = true
    · rw [if_pos (.inr hdg)] at hv;subst hv;rw [hdg, decide_eq_true_iff] at hix;have CL := fun W h hg => (NO a _ hbk (.inr hdg) R W h hg).out;unfold ValE at CL;have CLH := Lib.hid CL;clear CL hbk VO MK WO NO;go_enter Tryz.func140, Tryz.ntmps140;go_wp2_with fail;go_region_held3 (fun w' => w'.cell? ⟨R, 0, none⟩ = some (.string ⟨s.toArray⟩) ∧ w'.cell? ⟨R, 1, none⟩ = some (.int .i64 (a : Int))) (first | assumption | exact ⟨c0, c1⟩) (fail)
      go_wp2_with fail;go_region_held3 (fun w' => w'.cell? ⟨R, 0, none⟩ = some (.string ⟨s.toArray⟩) ∧ w'.cell? ⟨R, 1, none⟩ = some (.int .i64 (a : Int))) (first | assumption | exact ⟨d0, d1⟩) (fail)
      go_wp2_with fail;with_reducible refine (IX _).out.mono ?_
      rintro e w8 ⟨rfl, rfl⟩;go_wp2_with fail;with_reducible refine (CLH.out _ HD.out.2.1 HD.out.2.2).mono ?_
      rintro e w9 ⟨⟨v9, rfl, hv9⟩, hk9, hr9⟩;have HR9 := Lib.hid hr9;clear hr9;go_wp2_with fail;go_ret;exact ⟨⟨_, rfl, hv9⟩, HD.out.1.trans hk9, HR9.out⟩
    · rw [if_neg (fun e => e.elim h45 hdg)] at hv;subst hv;have hdg' : digB b = false := by simpa using hdg
      rw [hdg', decide_eq_false_iff_not] at hix;have CL := fun W h => rwrong_any R s a ha 0 W h;unfold FailE at CL;rw [if_neg (by omega : ¬ a = s.length)] at CL;simp only [if_true] at CL;have CLH := Lib.hid CL;clear CL hbk VO MK WO NO hdg';go_enter Tryz.func140, Tryz.ntmps140;go_wp2_with fail;go_region_held3 (fun w' => w'.cell? ⟨R, 0, none⟩ = some (.string ⟨s.toArray⟩) ∧ w'.cell? ⟨R, 1, none⟩ = some (.int .i64 (a : Int))) (first | assumption | exact ⟨c0, c1⟩) (fail)
      go_wp2_with fail;go_region_held3 (fun w' => w'.cell? ⟨R, 0, none⟩ = some (.string ⟨s.toArray⟩) ∧ w'.cell? ⟨R, 1, none⟩ = some (.int .i64 (a : Int))) (first | assumption | exact ⟨d0, d1⟩) (fail)
      go_wp2_with fail;with_reducible refine (IX _).out.mono ?_
      rintro e w8 ⟨rfl, rfl⟩;go_wp2_with fail;with_reducible refine (CLH.out _ HD.out.2.1).mono ?_
      rintro e w9 ⟨rfl, hk9, hr9⟩;have HR9 := Lib.hid hr9;clear hr9;go_wp2_with fail;go_ret;exact ⟨⟨_, rfl, .inl rfl⟩, HD.out.1.trans hk9, HR9.out⟩
  · obtain rfl : a = s.length := by omega
    have hn : s[s.length]? = none := List.getElem?_eq_none (Nat.le_refl _);have hv : valN s d s.length = (s.length, 3) := by cases d <;> (unfold valN; rw [hn])
    rw [hv, hn, decide_eq_false (by simp)];have b4 : ((s.length : Int) == (s.length : Int)) = true := by rw [beq_iff_eq]
    have CL := fun W h => rwrong_any R s s.length ha 0 W h;unfold FailE at CL;simp only [if_true] at CL;have CLH := Lib.hid CL;clear h hg hlt hn hv CL d0 d1 VO MK WO NO;go_enter Tryz.func140, Tryz.ntmps140;go_wp2_with fail;go_region_held3 (fun w' => w'.cell? ⟨R, 0, none⟩ = some (.string ⟨s.toArray⟩) ∧ w'.cell? ⟨R, 1, none⟩ = some (.int .i64 (s.length : Int))) (first | assumption | exact ⟨c0, c1⟩) (fail)
    go_wp2_with fail;with_reducible refine (CLH.out _ HD1.out.2).mono ?_
    rintro e w9 ⟨rfl, hk9, hr9⟩;have HR9 := Lib.hid hr9;clear hr9;go_wp2_with fail;go_ret;exact ⟨⟨_, rfl, .inl rfl⟩, HD1.out.1.trans hk9, HR9.out⟩
theorem rval_any (s : Bs) (hs : s.length ≤ 1000000) (MK : MarkOK s) (WO : WordOK s) (NO : NumOK s) : ∀ d, ValOK s d := by
  intro d;induction d with
  | zero => exact rval_step s hs MK WO NO 0 (fun h => absurd rfl h)
  | succ d ih => exact rval_step s hs MK WO NO (d + 1) (fun _ => ih)
end Go.Proofs.YtbfieomjobbhoaaGreatDoor
/- Walks: notes.Take, press.Check at every text, given mark, word and number. -/
namespace Go.Proofs.YtbfieomjobbhoaaGreatDoor
open Go.RowKit Go.Gz Go.Shelf

set_option maxRecDepth 100000
def NTakeE (w : World) (s : Bs) (e : Ending) (w' : World) : Prop := (∃ v n, e = .returned (.tuple #[v, .int .i64 n, .int .i64 (noteN s)]) ∧ (noteN s = 0 → KV (decide (s[blkA s 0]? = some 123)) v)) ∧ Up w w'
set_option maxHeartbeats 2000000 in
theorem ntake_any (s : Bs) (hs : s.length ≤ 1000000) (VO : ValOK s 4) (w : World) (hg : Gl w) :
    Calls Tryz.prog 83 #[.string ⟨s.toArray⟩] w (NTakeE w s) := by
  unfold NTakeE;by_cases hbig : 4096 < s.length
  · have hn : noteN s = 5 := by unfold noteN; rw [if_pos hbig]
    rw [hn];have b1 : (4096 : Int) < (s.length : Int) := by omega
    clear hn VO;go_enter Tryz.func83, Tryz.ntmps83;go_wp2_with fail;go_ret3
    first
      | exact ⟨⟨_, _, rfl, fun h => absurd h (by decide)⟩, Up.refl w⟩
      | exact ⟨⟨_, _, rfl⟩, Up.refl w⟩
  obtain ⟨X, hX⟩ : ∃ x, w.alloc (.cells #[.string ⟨s.toArray⟩, .int .i64 0, .int .i64 0] 242) = x := ⟨_, rfl⟩;have hu : Up w X := by rw [← hX]; exact (Up.refl w).alloc _
  have hr0 : RB X w.heap.size s 0 0 := by rw [← hX]; exact heap_alloc_new w _
  have hrg : RG X w.heap.size := by rw [← hX]; exact RG.of hg _
  have BL := fun k hk w1 h => Lib.hid (rblank_any w.heap.size s (by omega) k hk 0 w1 h);have FL := fun a b F w1 h => Lib.hid (rfail0 w.heap.size s a b F w1 h);have b1 : ¬ (4096 : Int) < (s.length : Int) := by omega
  have b2 : ¬ 4096 < s.length := by omega
  have hq0 : blkA s 0 ≤ s.length := blkA_le (by omega);have hup : ∀ {w' : World}, RK w.heap.size w w' → Up w w' := fun hk => Up.of (Below.grown (Below.refl _ w) hk (Nat.le_refl _) (fun k hk => by injection hk with hk; omega));have HUP := Lib.hid (fun (w' : World) (hk : RK w.heap.size w w') => hup hk);have hn : noteN s = if (valN s 4 (blkA s 0)).2 ≠ 0 then (valN s 4 (blkA s 0)).2 else if blkA s (valN s 4 (blkA s 0)).1 < s.length then 4 else 0 := by unfold noteN; rw [if_neg hbig]
  have hle := valN_le s 4 (blkA s 0) hq0;obtain ⟨N, hN⟩ : ∃ N, noteN s = N := ⟨_, rfl⟩;rw [hN] at hn ⊢;clear hN;have VC : ∀ w1, RB w1 w.heap.size s (blkA s 0) 0 → RG w1 w.heap.size → Hid (Calls Tryz.prog 140 #[.pointer (some ⟨w.heap.size, 0, none⟩), .int .i64 1] w1 (ValE w1 w.heap.size s (decide (s[blkA s 0]? = some 123)) (valN s 4 (blkA s 0)))) := fun w1 h1 h2 => VO w.heap.size (blkA s 0) 1 w1 rfl hq0 h1 h2;unfold ValE at VC;obtain ⟨q, hqq⟩ : ∃ q, blkA s 0 = q := ⟨_, rfl⟩;rw [hqq] at VC hn hle hq0 ⊢;generalize decide (s[q]? = some 123) = kk at *;obtain ⟨⟨p, E⟩, hr⟩ : ∃ r, valN s 4 q = r := ⟨_, rfl⟩;rw [hr] at VC hn hle;simp only at VC hn hle;have BL0 := fun w1 h => (BL 0 (by omega) w1 h).out;rw [hqq] at BL0;have BLH := Lib.hid BL0;have HU := Lib.hid hu;have HX := Lib.hid hX;clear hr hqq BL0 VO hbig hX hup;go_enter Tryz.func83, Tryz.ntmps83;go_wp2_with fail;rw [HX.out];with_reducible refine (BLH.out _ hr0).mono ?_
  rintro e w1 ⟨rfl, hk1, hr1⟩;have hg1 := hrg.keep hk1;go_wp2_with fail;with_reducible refine (VC _ hr1 hg1).out.mono ?_
  rintro e w2 ⟨⟨v, rfl, hv⟩, hk2, hr2⟩;have HK2 := Lib.hid ((RK.up HU.out).trans (hk1.trans hk2));have HR2 := Lib.hid hr2;have HV := Lib.hid hv;obtain ⟨c0, c1, c2, z1, z2⟩ := hr2.cells;clear hr2 hr1 hr0 hk1 hk2 hg1 hrg hv hu;by_cases hE : E = 0
  · subst hE;rw [if_neg (by simp)] at hn;have hp := hle rfl;have BLP := Lib.hid (BL p hp w2 HR2.out);have hpp : blkA s p ≤ s.length := blkA_le hp;generalize blkA s p = y at *;go_wp2_with fail;with_reducible refine BLP.out.out.mono ?_
    rintro e w3 ⟨rfl, hk3, hr3⟩;have HR3 := Lib.hid hr3;have HK3 := Lib.hid (HK2.out.trans hk3);obtain ⟨e0, e1, e2, y1, y2⟩ := hr3.cells;clear c0 c1 c2 z1 z2 hr3 hk3 hle;by_cases hlt : y < s.length
    · rw [if_pos hlt] at hn;subst hn;have b3 : (y : Int) < (s.length : Int) := by omega
      go_wp2_with fail;with_reducible refine (FL y y 4 _ HR3.out).out.mono ?_
      rintro e w4 ⟨rfl, hk4, hr4⟩;obtain ⟨f0, f1, f2, x1, x2⟩ := hr4.cells;have HK4 := Lib.hid (HK3.out.trans hk4);clear hr4 hk4 e0 e1 e2 y1 y2;go_wp2_with fail;go_region_held3 (fun w' => w'.cell? ⟨w.heap.size, 1, none⟩ = some (.int .i64 (y : Int)) ∧ w'.cell? ⟨w.heap.size, 2, none⟩ = some (.int .i64 4)) (first | assumption | exact ⟨f1, f2⟩) (fail)
      go_wp2_with fail;go_ret3
      first
        | exact ⟨⟨_, _, rfl, fun h => absurd h (by decide)⟩, HUP.out _ (HK4.out.trans (RK.drew _ _))⟩
        | exact ⟨⟨_, _, rfl⟩, HUP.out _ (HK4.out.trans (RK.drew _ _))⟩
    · rw [if_neg hlt] at hn;subst hn;have b3 : ¬ (y : Int) < (s.length : Int) := by omega
      go_wp2_with fail;go_ret3
      first
        | exact ⟨⟨v, _, rfl, fun _ => HV.out⟩, HUP.out _ HK3.out⟩
        | exact ⟨⟨v, ⟨_, rfl⟩, HV.out⟩, HUP.out _ HK3.out⟩
  · rw [if_pos hE] at hn;have hn' := hn.symm;subst hn';clear hn;have e0b : (E == 0) = false := by rw [beq_eq_false_iff_ne]; exact hE
    have e1b : (E != 0) = true := by rw [bne_iff_ne]; exact hE
    clear hle;go_wp2_with fail;go_region_held3 (fun w' => w'.cell? ⟨w.heap.size, 1, none⟩ = some (.int .i64 (p : Int)) ∧ w'.cell? ⟨w.heap.size, 2, none⟩ = some (.int .i64 E)) (first | assumption | exact ⟨c1, c2⟩) (fail)
    go_wp2_with fail;go_ret3
    first
      | exact ⟨⟨_, _, rfl, fun h => absurd h hE⟩, HUP.out _ (HK2.out.trans (RK.drew _ _))⟩
      | exact ⟨⟨_, _, rfl⟩, HUP.out _ (HK2.out.trans (RK.drew _ _))⟩
end Go.Proofs.YtbfieomjobbhoaaGreatDoor
/- Walk: press.Check at every text, given mark, word and number. -/
namespace Go.Proofs.YtbfieomjobbhoaaGreatDoor
open Go.RowKit Go.Gz Go.Shelf

set_option maxRecDepth 100000
set_option maxHeartbeats 2000000 in
theorem pcheck_any (b : Int) (kind : Nat) (s : Bs) (hs : s.length ≤ 1000000) (VO : ValOK s 4) (w : World) (hg : Gl w) :
    Calls Tryz.prog 53 #[.agg #[.int .i64 b, .int .u8 (kind : Int), .string ⟨s.toArray⟩]] w fun e w' => e = .returned (.int .i64 (planN b kind s)) ∧ Up w w' := by
  have h0 := heap_alloc_new w (.cells #[.int .i64 b, .int .u8 (kind : Int), .string ⟨s.toArray⟩] 58);have hu := (Up.refl w).alloc (.cells #[.int .i64 b, .int .u8 (kind : Int), .string ⟨s.toArray⟩] 58);have c0 := blkc h0 0 _ rfl;have c1 := blkc h0 1 _ rfl;have c2 := blkc h0 2 _ rfl;have hg1 := hg.up hu;have HU := Lib.hid hu;clear h0 hu;by_cases t0 : b < 512
  · have hn : planN b kind s = 15 := by unfold planN; rw [if_pos (.inl t0)]
    rw [hn];clear hn VO hg1;go_enter Tryz.func53, Tryz.ntmps53;go_wp2_with fail;go_ret;exact ⟨rfl, HU.out⟩
  by_cases t1 : 16257 < b
  · have hn : planN b kind s = 15 := by unfold planN; rw [if_pos (.inr t1)]
    rw [hn];clear hn VO hg1;go_enter Tryz.func53, Tryz.ntmps53;go_wp2_with fail;go_ret;exact ⟨rfl, HU.out⟩
  by_cases t3 : 5 < kind
  · have hn : planN b kind s = 14 := by unfold planN; rw [if_neg (fun e => e.elim t0 t1), if_pos t3]
    rw [hn];have t2 : 5 < (kind : Int) := by omega
    clear hn VO hg1;go_enter Tryz.func53, Tryz.ntmps53;go_wp2_with fail;go_ret;exact ⟨rfl, HU.out⟩
  have t2 : ¬ 5 < (kind : Int) := by omega
  have NT := Lib.hid (fun w1 h => ntake_any s hs VO w1 h);have hn : planN b kind s = if noteN s ≠ 0 then noteN s else if s[blkA s 0]? = some 123 then 0 else 4 := by unfold planN; rw [if_neg (fun e => e.elim t0 t1), if_neg t3]
  unfold NTakeE at NT;generalize noteN s = E at *;clear VO;by_cases hE : E = 0
  · subst hE;rw [if_neg (by simp)] at hn;by_cases hk : s[blkA s 0]? = some 123
    · rw [if_pos hk] at hn;rw [decide_eq_true hk] at NT;rw [hn];clear hn hk;go_enter Tryz.func53, Tryz.ntmps53;go_wp2_with fail;with_reducible refine (NT.out _ hg1).mono ?_
      rintro e w1 ⟨⟨v, n, rfl, hv⟩, hu1⟩;obtain ⟨V, rfl⟩ := (by simpa [KV] using hv (by trivial) : ∃ V, v = .iface 170 V);have hta : ∀ w, (Instr.typeAssert (.iface 170 V) 20 170 true).run Tryz.prog w = .ok (.tuple #[V, .bool true]) w := fun w => by kernel_rfl
      clear hv;go_wp2_with fail;go_ret;exact ⟨rfl, HU.out.trans hu1⟩
    · rw [if_neg hk] at hn;rw [decide_eq_false hk] at NT;rw [hn];clear hn hk;go_enter Tryz.func53, Tryz.ntmps53;go_wp2_with fail;with_reducible refine (NT.out _ hg1).mono ?_
      rintro e w1 ⟨⟨v, n, rfl, hv⟩, hu1⟩;have hv2 := hv (by trivial);unfold KV at hv2;rw [if_neg (by simp)] at hv2;clear hv;rcases hv2 with rfl | ⟨V, rfl⟩ | ⟨V, rfl⟩ | ⟨V, rfl⟩ | ⟨V, rfl⟩
      · have hta : ∀ w, (Instr.typeAssert .nilIface 20 170 true).run Tryz.prog w = .ok (.tuple #[.slice none 0 0, .bool false]) w := fun w => by kernel_rfl
        go_wp2_with fail;go_ret;exact ⟨rfl, HU.out.trans hu1⟩
      · have hta : ∀ w, (Instr.typeAssert (.iface 3 V) 20 170 true).run Tryz.prog w = .ok (.tuple #[.slice none 0 0, .bool false]) w := fun w => by kernel_rfl
        go_wp2_with fail;go_ret;exact ⟨rfl, HU.out.trans hu1⟩
      · have hta : ∀ w, (Instr.typeAssert (.iface 9 V) 20 170 true).run Tryz.prog w = .ok (.tuple #[.slice none 0 0, .bool false]) w := fun w => by kernel_rfl
        go_wp2_with fail;go_ret;exact ⟨rfl, HU.out.trans hu1⟩
      · have hta : ∀ w, (Instr.typeAssert (.iface 4 V) 20 170 true).run Tryz.prog w = .ok (.tuple #[.slice none 0 0, .bool false]) w := fun w => by kernel_rfl
        go_wp2_with fail;go_ret;exact ⟨rfl, HU.out.trans hu1⟩
      · have hta : ∀ w, (Instr.typeAssert (.iface 333 V) 20 170 true).run Tryz.prog w = .ok (.tuple #[.slice none 0 0, .bool false]) w := fun w => by kernel_rfl
        go_wp2_with fail;go_ret;exact ⟨rfl, HU.out.trans hu1⟩
  · rw [if_pos hE] at hn;rw [hn];have e1b : (E != 0) = true := by rw [bne_iff_ne]; exact hE
    clear hn;go_enter Tryz.func53, Tryz.ntmps53;go_wp2_with fail;with_reducible refine (NT.out _ hg1).mono ?_
    rintro e w1 ⟨⟨v, n, rfl, hv⟩, hu1⟩;clear hv;go_wp2_with fail;go_ret;exact ⟨rfl, HU.out.trans hu1⟩
end Go.Proofs.YtbfieomjobbhoaaGreatDoor
/- Walks: what the notes' reader's number asks of the library. -/
namespace Go.Proofs.YtbfieomjobbhoaaGreatDoor
open Go.RowKit Go.Gz Go.Shelf

set_option maxRecDepth 100000
theorem digB_dig (b : UInt8) : digB b = dig b := by
  have key : ∀ n : Fin 256, digB (UInt8.ofNat n.val) = dig (UInt8.ofNat n.val) := by decide +kernel
  have := key ⟨b.toNat, b.toNat_lt⟩;simpa using this
theorem all_digB (l : Bs) : l.all digB = l.all dig := by congr 1; funext b; exact digB_dig b
theorem tleft_any (r : Bs) (w : World) : Calls Tryz.prog 232 #[.string ⟨r.toArray⟩, .string ⟨#[48, 49, 50, 51, 52, 53, 54, 55, 56, 57, 43, 45, 46, 101, 69]⟩] w fun e w' => e = .returned (.string ⟨(r.dropWhile numB).toArray⟩) ∧ Up w w' := by
  have h := Any.strings_TrimLeft_laid Tryz.lays161 (by kernel_rfl) ⟨r.toArray⟩ ⟨#[48, 49, 50, 51, 52, 53, 54, 55, 56, 57, 43, 45, 46, 101, 69]⟩ w (by decide) (ascii_of_all (by decide));exact h
theorem dw_head {p : UInt8 → Bool} : ∀ {l : Bs} {b : UInt8} {t : Bs}, l.dropWhile p = b :: t → p b = false := by
  intro l;induction l with
  | nil => intro b t h; cases h
  | cons x r ih =>
    intro b t h;rw [List.dropWhile_cons] at h;by_cases hx : p x = true
    · rw [if_pos hx] at h; exact ih h
    · rw [if_neg hx] at h;injection h with h _;rw [← h];exact Bool.eq_false_iff.2 hx
theorem trimS_nil (l cs : Bs) : Lib.trimS l cs = [] ↔ l.all (cs.contains ·) = true := by
  have hd : ∀ l : Bs, l.dropWhile (cs.contains ·) = [] ↔ l.all (cs.contains ·) = true := by
    intro l;induction l with
    | nil => simp
    | cons b r ih =>
      rw [List.dropWhile_cons, List.all_cons];by_cases h : cs.contains b = true
      · rw [if_pos h, h, ih]; simp
      · have hf : cs.contains b = false := Bool.eq_false_iff.2 h;rw [if_neg h, hf, Bool.false_and];exact ⟨fun e => (by cases e), fun e => (by cases e)⟩
  have hr : ∀ l : Bs, l.reverse.all (cs.contains ·) = l.all (cs.contains ·) := fun l => List.all_reverse;unfold Lib.trimS Lib.trimLeftS Lib.trimRightS;constructor
  · intro h;have h1 := (hd _).1 h;rw [hr] at h1;rcases hq : l.reverse.dropWhile (cs.contains ·) with _ | ⟨b, t⟩
    · have := (hd _).1 hq;rwa [hr] at this
    · exfalso;rw [hq, List.all_cons, dw_head hq, Bool.false_and] at h1;cases h1
  · intro h;have : l.reverse.dropWhile (cs.contains ·) = [] := (hd _).2 (by rw [hr]; exact h);rw [this]; rfl
theorem trim_any (l : Bs) (hl : l.length ≤ 1000000) (w : World) : Calls Tryz.prog 234 #[.string ⟨l.toArray⟩, .string ⟨#[48, 49, 50, 51, 52, 53, 54, 55, 56, 57]⟩] w fun e w' => (∃ t : Bs, e = .returned (.string ⟨t.toArray⟩) ∧ (t = [] ↔ l.all digB = true)) ∧ Up w w' := by
  have h := Any.strings_Trim_laid Tryz.lays160 (by kernel_rfl) ⟨l.toArray⟩ ⟨#[48, 49, 50, 51, 52, 53, 54, 55, 56, 57]⟩ w (by rw [size_mk]; omega) (by decide) (ascii_of_all (by decide));refine Calls.mono h ?_;rintro e w' ⟨rfl, hb⟩;exact ⟨⟨_, rfl, trimS_nil _ _⟩, hb⟩
theorem cany_any (l : Bs) (hl : l.length ≤ 1000000) (hd : l.all digB = true) (w : World) : Calls Tryz.prog 235 #[.string ⟨l.toArray⟩, .string ⟨#[43, 45, 46, 101, 69]⟩] w fun e w' => e = .returned (.bool false) ∧ Up w w' := by
  rw [all_digB] at hd;have hall := List.all_eq_true.1 hd
  have h := Tryz.strings_ContainsAny_laid ⟨l.toArray⟩ ⟨#[43, 45, 46, 101, 69]⟩ w (by rw [size_mk]; omega) (by decide) (fun j b hb => by
    have := (dig_iff b).1 (hall b (List.mem_of_getElem? hb)); omega) (ascii_of_all (by decide))
  have e : Lib.containsAny l [43, 45, 46, 101, 69] = false := by
    have key : ∀ l : Bs, (∀ b ∈ l, dig b = true) → Lib.indexAny l [43, 45, 46, 101, 69] = -1 := by
      intro l;induction l with
      | nil => intro _; rfl
      | cons b r ih =>
        intro h;have hb := (dig_iff b).1 (h b (by simp));have hc : List.contains [43, 45, 46, 101, 69] b = false := by
          have key : ∀ n : Fin 256, (dig (UInt8.ofNat n.val) = true) → List.contains [43, 45, 46, 101, 69] (UInt8.ofNat n.val) = false := by decide +kernel
          have := key ⟨b.toNat, b.toNat_lt⟩ (by simpa using h b (by simp));simpa using this
        unfold Lib.indexAny;rw [hc, if_neg (by simp), ih (fun b hb => h b (by simp [hb]))];rfl
    unfold Lib.containsAny;rw [key l hall];rfl
  refine h.mono ?_;rintro e' w' ⟨rfl, hb⟩;exact ⟨by rw [← e], hb⟩
theorem cutp_any (l : Bs) (w : World) : Calls Tryz.prog 233 #[.string ⟨l.toArray⟩, .string ⟨#[45]⟩] w fun e w' => e = .returned (.tuple #[.string ⟨(wholeN l).toArray⟩, .bool (decide (l.head? = some 45))]) ∧ w' = w := by
  refine (Tryz.strings_CutPrefix ⟨l.toArray⟩ ⟨#[45]⟩ w).mono ?_;rintro e w' ⟨rfl, rfl⟩;refine ⟨?_, rfl⟩;have h1 : Lib.hasPrefix l [45] = decide (l.head? = some 45) := by
    unfold Lib.hasPrefix;cases l with
    | nil => rfl
    | cons b r =>
      rw [Bool.eq_iff_iff];simp [List.isPrefixOf];exact eq_comm
  have h2 : Lib.trimPrefix l [45] = wholeN l := by
    unfold Lib.trimPrefix wholeN;rw [h1];by_cases h : l.head? = some 45
    · rw [if_pos (by simpa using h), if_pos h];cases l <;> simp
    · rw [if_neg (by simpa using h), if_neg h]
  show Ending.returned (.tuple #[.string ⟨(Lib.trimPrefix l [45]).toArray⟩, .bool (Lib.hasPrefix l [45])]) = _
  rw [h1, h2]
/-- strconv.Atoi at digits that an int holds -/
theorem natoi_ok (l : Bs) (hn : l ≠ []) (hd : l.all digB = true) (hv : numv l < 9223372036854775808) (hl : l.length ≤ 1000000) (w : World) :
    Calls Tryz.prog 236 #[.string ⟨l.toArray⟩] w fun e w' => e = .returned (.tuple #[.int .i64 (numv l), .nilIface]) ∧ Up w w' := by
  rw [all_digB] at hd;refine (Tryz.strconv_Atoi_ok ⟨l.toArray⟩ (by rw [size_mk]; omega) (numv l) (by show Lib.atoiAll l = _; rw [atoi_dig hn hd, if_pos hv]) w).mono ?_;rintro e w' ⟨rfl, h⟩;refine ⟨rfl, ?_⟩;rcases h with rfl | ⟨t, rfl⟩
  · exact Up.refl _
  · exact Lib.bytesWorld_below _ _ _
theorem natoi_over (l : Bs) (hn : l ≠ []) (hd : l.all digB = true) (hv : ¬ numv l < 9223372036854775808) (hl : l.length ≤ 1000000) (w : World) (hg : Gl w) :
    Calls Tryz.prog 236 #[.string ⟨l.toArray⟩] w fun e w' => (∃ n t a, e = .returned (.tuple #[.int .i64 n, .iface t (.pointer (some a))])) ∧ Up w w' := by
  rw [all_digB] at hd;obtain ⟨tp, p, hr⟩ := hg.errRange;refine (Tryz.strconv_Atoi_range_var ⟨l.toArray⟩ (by rw [size_mk]; omega) (by show Lib.atoiAll l = _; rw [atoi_dig hn hd, if_neg hv]) tp p w hr).mono ?_;rintro e w' ⟨N, rfl, _, _, hb⟩;exact ⟨⟨_, _, _, rfl⟩, hb⟩
theorem run_split (r : Bs) : r.length - (r.dropWhile numB).length = (r.takeWhile numB).length ∧ (r.dropWhile numB).length ≤ r.length ∧ r.take (r.takeWhile numB).length = r.takeWhile numB := by
  have h := List.takeWhile_append_dropWhile (p := numB) (l := r);have hl := congrArg List.length h;rw [List.length_append] at hl;refine ⟨by omega, by omega, ?_⟩
  calc r.take (r.takeWhile numB).length = (r.takeWhile numB ++ r.dropWhile numB).take (r.takeWhile numB).length := by rw [h]
    _ = r.takeWhile numB := List.take_left
end Go.Proofs.YtbfieomjobbhoaaGreatDoor
/- Walk: the notes' reader: number. -/
namespace Go.Proofs.YtbfieomjobbhoaaGreatDoor
open Go.RowKit Go.Gz Go.Shelf

set_option maxRecDepth 100000
set_option maxHeartbeats 8000000 in
theorem rnumber_any (R : Nat) (s : Bs) (hs : s.length ≤ 1000000) (a : Nat) (ha : a ≤ s.length) (w : World) (h : RB w R s a 0) (hg : RG w R) :
    Calls Tryz.prog 193 #[.pointer (some ⟨R, 0, none⟩)] w (ValE w R s false (numberN s a)) := by
  have HB := Lib.hid h;have HG := Lib.hid hg.gl;obtain ⟨c0, c1, c2, z1, z2⟩ := h.cells;have FL := fun F w h => Lib.hid (rfail0 R s a a F w h);obtain ⟨N, hN⟩ : ∃ N, numberN s a = N := ⟨_, rfl⟩;rw [hN];unfold numberN at hN;have hx := drop_mk s a;have hrl : (s.drop a).length = s.length - a := List.length_drop;obtain ⟨T, hT⟩ : ∃ T, runN s a = T := ⟨_, rfl⟩;rw [hT] at hN;unfold runN at hT;have b1 : (0 : Int) ≤ (a : Int) := by omega
  have b2 : (a : Int) ≤ (s.length : Int) := by omega
  have b3 : ¬ (s.length : Int) < (a : Int) := by omega
  generalize s.drop a = r at *;obtain ⟨e1, e2, e3⟩ := run_split r;have hx2 := take_mk r T.length;rw [hT] at e1 e3;rw [e3] at hx2;obtain ⟨D, hD⟩ : ∃ D, r.dropWhile numB = D := ⟨_, rfl⟩;rw [hD] at e1 e2;have b4 : IntKind.i64.wrap ((r.length : Int) - (D.length : Int)) = (T.length : Int) := by rw [IntWalk.i64_in _ (by omega)]; omega
  have b5 : ¬ (r.length : Int) < (T.length : Int) := by omega
  have b6 : (0 : Int) ≤ (T.length : Int) := by omega
  have b6' : (T.length : Int) ≤ (r.length : Int) := by omega
  have b7 : IntKind.i64.wrap ((a : Int) + (T.length : Int)) = ((a + T.length : Nat) : Int) := by rw [IntWalk.i64_in _ (by omega)]; omega
  have htl : T.length ≤ 1000000 := by omega
  have TL := fun w => Lib.hid (tleft_any r w);rw [hD] at TL;have CP := fun w => Lib.hid (cutp_any T w);have hwl : (wholeN T).length ≤ T.length := by unfold wholeN; split <;> simp
  generalize wholeN T = wh at *;obtain ⟨m, hm⟩ : ∃ m, decide (T.head? = some 45) = m := ⟨_, rfl⟩;rw [hm] at CP;have HM : Hid (T.head? = some 45 ↔ m = true) := Lib.hid (by rw [← hm]; simp);have HN := Lib.hid hN;clear h hg hN hT hm hD e1 e3 hrl;go_enter Tryz.func193, Tryz.ntmps193;go_wp2_with fail;go_region_held3 (fun w' => w'.cell? ⟨R, 0, none⟩ = some (.string ⟨s.toArray⟩) ∧ w'.cell? ⟨R, 1, none⟩ = some (.int .i64 (a : Int))) (first | assumption | exact ⟨c0, c1⟩) (fail)
  go_wp2_with fail;with_reducible refine (TL _).out.mono ?_
  rintro e w1 ⟨rfl, hu1⟩;have hu1' : Up w w1 := (Up.refl w).drew.trans hu1;have HU1 := Lib.hid hu1';clear hu1 hu1' hx b1 b2 b3;go_wp2_with fail;with_reducible refine (CP _).out.mono ?_
  rintro e w1' ⟨rfl, rfl⟩;have HB1 := Lib.hid (HB.out.up HU1.out);clear b4 b5 b6 b6' hx2 e2;by_cases hwn : wh = []
  · subst hwn;have hN := HN.out;rw [if_pos (.inl rfl)] at hN;subst hN;obtain ⟨d0, d1, d2, y1, y2⟩ := (HB.out.up HU1.out).cells;go_wp2_with fail;with_reducible refine (FL 4 _ (HB.out.up HU1.out)).out.mono ?_
    rintro e w9 ⟨rfl, hk9, hr9⟩;have HR9 := Lib.hid hr9;clear hr9;go_wp2_with fail;go_ret;exact ⟨⟨_, rfl, .inl rfl⟩, (RK.up HU1.out).trans hk9, HR9.out⟩
  have hwb : (wh == []) = false := by rw [beq_eq_false_iff_ne]; exact hwn
  have TR := fun w => Lib.hid (trim_any wh (by omega) w);go_wp2_with fail;with_reducible refine (TR _).out.mono ?_
  rintro e w2 ⟨⟨t, rfl, ht⟩, hu2⟩;have HU2 := Lib.hid (HU1.out.trans hu2);have HT := Lib.hid ht;clear hu2 ht TR;by_cases htn : t ≠ []
  · have htb : (t != []) = true := by rw [bne_iff_ne]; exact htn
    have hN := HN.out;rw [if_pos (.inr (by
      cases hq : wh.all digB with
      | false => rfl
      | true => exact absurd (HT.out.2 hq) htn))] at hN
    subst hN;obtain ⟨d0, d1, d2, y1, y2⟩ := (HB.out.up HU2.out).cells;go_wp2_with fail;with_reducible refine (FL 4 _ (HB.out.up HU2.out)).out.mono ?_
    rintro e w9 ⟨rfl, hk9, hr9⟩;have HR9 := Lib.hid hr9;clear hr9;go_wp2_with fail;go_ret;exact ⟨⟨_, rfl, .inl rfl⟩, (RK.up HU2.out).trans hk9, HR9.out⟩
  have htn' : t = [] := by simpa using htn
  subst htn';clear htn;have hall := HT.out.1 rfl;have CA := fun w => Lib.hid (cany_any wh (by omega) hall w);obtain ⟨c, rr, rfl⟩ : ∃ c rr, wh = c :: rr := by
    cases wh with
    | nil => exact absurd rfl hwn
    | cons c rr => exact ⟨c, rr, rfl⟩
  generalize hwh : c :: rr = wh at *;have hl0' : 0 < wh.length := by rw [← hwh]; exact Nat.succ_pos _
  have hb0 : (⟨wh.toArray⟩ : ByteArray)[0]'(by rw [size_mk]; exact hl0') = c := by
    subst hwh; rfl
  have hhd : wh.head? = some c := by rw [← hwh]; rfl
  have hl0 : (0 : Int) < (wh.length : Int) := by omega
  rw [hhd] at HN;have HHD := Lib.hid hhd;clear hwh hhd HT;have htb : (([] : Bs) != []) = false := rfl;go_wp2_with fail;with_reducible refine (CA _).out.mono ?_
  rintro e w3 ⟨rfl, hu3⟩;have HU3 := Lib.hid (HU2.out.trans hu3);clear hu3 CA;by_cases h48 : c = 48
  · subst h48;by_cases hl1 : 1 < wh.length
    · have hl1I : (1 : Int) < (wh.length : Int) := by omega
      have hN := HN.out;rw [if_neg (fun e => e.elim hwn (fun h => by rw [hall] at h; cases h)), if_pos ⟨rfl, .inl hl1⟩] at hN;subst hN;obtain ⟨d0, d1, d2, y1, y2⟩ := (HB.out.up HU3.out).cells;go_wp2_with fail;with_reducible refine (FL 4 _ (HB.out.up HU3.out)).out.mono ?_
      rintro e w9 ⟨rfl, hk9, hr9⟩;have HR9 := Lib.hid hr9;clear hr9;go_wp2_with fail;go_ret;exact ⟨⟨_, rfl, .inl rfl⟩, (RK.up HU3.out).trans hk9, HR9.out⟩
    · have hl1I : ¬ (1 : Int) < (wh.length : Int) := by omega
      cases m with
      | true =>
        have hN := HN.out;rw [if_neg (fun e => e.elim hwn (fun h => by rw [hall] at h; cases h)), if_pos ⟨rfl, .inr (HM.out.2 rfl)⟩] at hN;subst hN;obtain ⟨d0, d1, d2, y1, y2⟩ := (HB.out.up HU3.out).cells;go_wp2_with fail;with_reducible refine (FL 4 _ (HB.out.up HU3.out)).out.mono ?_
        rintro e w9 ⟨rfl, hk9, hr9⟩;have HR9 := Lib.hid hr9;clear hr9;go_wp2_with fail;go_ret;exact ⟨⟨_, rfl, .inl rfl⟩, (RK.up HU3.out).trans hk9, HR9.out⟩
      | false =>
        have hN := HN.out;rw [if_neg (fun e => e.elim hwn (fun h => by rw [hall] at h; cases h)), if_neg (fun e => e.2.elim hl1 (fun h => Bool.noConfusion (HM.out.1 h)))] at hN;by_cases hov : numv wh < 9223372036854775808
        · have AO := fun w => Lib.hid (natoi_ok wh hwn hall hov (by omega) w);generalize hnv : numv wh = nv at *;by_cases hbig : BIG < nv
          · rw [if_pos hbig] at hN;subst hN;have hbI : (9007199254740991 : Int) < (nv : Int) := by unfold BIG at hbig; omega
            clear hbig;go_wp2_with fail;with_reducible refine (AO _).out.mono ?_
            rintro e w4 ⟨rfl, hu4⟩;have HU4 := Lib.hid (HU3.out.trans hu4);clear hu4 AO;obtain ⟨d0, d1, d2, y1, y2⟩ := (HB.out.up HU4.out).cells;go_wp2_with fail;with_reducible refine (FL 11 _ (HB.out.up HU4.out)).out.mono ?_
            rintro e w9 ⟨rfl, hk9, hr9⟩;have HR9 := Lib.hid hr9;clear hr9;go_wp2_with fail;go_ret;exact ⟨⟨_, rfl, .inl rfl⟩, (RK.up HU4.out).trans hk9, HR9.out⟩
          · rw [if_neg hbig] at hN;subst hN;have hbI : ¬ (9007199254740991 : Int) < (nv : Int) := by unfold BIG at hbig; omega
            clear hbig;go_wp2_with fail;with_reducible refine (AO _).out.mono ?_
            rintro e w4 ⟨rfl, hu4⟩;have HU4 := Lib.hid (HU3.out.trans hu4);have HB4 := Lib.hid (HB.out.up HU4.out);obtain ⟨d0, d1, d2, y1, y2⟩ := HB4.out.cells;clear hu4 AO;go_wp2_with fail;go_ret;exact ⟨⟨_, rfl, .inr (.inl ⟨_, rfl⟩)⟩, (RK.up HU4.out).trans (RK.set R 1 _ _), HB4.out.at (a + T.length)⟩
        · have hbig : BIG < numv wh := by unfold BIG; omega
          rw [if_pos hbig] at hN;subst hN;have AO := fun w hg => Lib.hid (natoi_over wh hwn hall hov (by omega) w hg);clear hov hbig;go_wp2_with fail;with_reducible refine (AO _ (HG.out.up HU3.out)).out.mono ?_
          rintro e w4 ⟨⟨n4, t4, a4, rfl⟩, hu4⟩;have HU4 := Lib.hid (HU3.out.trans hu4);clear hu4 AO;obtain ⟨d0, d1, d2, y1, y2⟩ := (HB.out.up HU4.out).cells;go_wp2_with fail;with_reducible refine (FL 11 _ (HB.out.up HU4.out)).out.mono ?_
          rintro e w9 ⟨rfl, hk9, hr9⟩;have HR9 := Lib.hid hr9;clear hr9;go_wp2_with fail;go_ret;exact ⟨⟨_, rfl, .inl rfl⟩, (RK.up HU4.out).trans hk9, HR9.out⟩
  · have h48b : ((c.toNat : Int) == 48) = false := by rw [beq_eq_false_iff_ne]; intro e; exact h48 (UInt8.toNat.inj (by simpa using (by omega : c.toNat = 48)))
    cases m with
    | true =>
      have hN := HN.out;rw [if_neg (fun e => e.elim hwn (fun h => by rw [hall] at h; cases h)), if_neg (fun e => h48 (by injection e.1))] at hN;by_cases hov : numv wh < 9223372036854775808
      · have AO := fun w => Lib.hid (natoi_ok wh hwn hall hov (by omega) w);generalize hnv : numv wh = nv at *;by_cases hbig : BIG < nv
        · rw [if_pos hbig] at hN;subst hN;have hbI : (9007199254740991 : Int) < (nv : Int) := by unfold BIG at hbig; omega
          clear hbig;go_wp2_with fail;with_reducible refine (AO _).out.mono ?_
          rintro e w4 ⟨rfl, hu4⟩;have HU4 := Lib.hid (HU3.out.trans hu4);clear hu4 AO;obtain ⟨d0, d1, d2, y1, y2⟩ := (HB.out.up HU4.out).cells;go_wp2_with fail;with_reducible refine (FL 11 _ (HB.out.up HU4.out)).out.mono ?_
          rintro e w9 ⟨rfl, hk9, hr9⟩;have HR9 := Lib.hid hr9;clear hr9;go_wp2_with fail;go_ret;exact ⟨⟨_, rfl, .inl rfl⟩, (RK.up HU4.out).trans hk9, HR9.out⟩
        · rw [if_neg hbig] at hN;subst hN;have hbI : ¬ (9007199254740991 : Int) < (nv : Int) := by unfold BIG at hbig; omega
          clear hbig;go_wp2_with fail;with_reducible refine (AO _).out.mono ?_
          rintro e w4 ⟨rfl, hu4⟩;have HU4 := Lib.hid (HU3.out.trans hu4);have HB4 := Lib.hid (HB.out.up HU4.out);obtain ⟨d0, d1, d2, y1, y2⟩ := HB4.out.cells;clear hu4 AO;go_wp2_with fail;go_ret;exact ⟨⟨_, rfl, .inr (.inl ⟨_, rfl⟩)⟩, (RK.up HU4.out).trans (RK.set R 1 _ _), HB4.out.at (a + T.length)⟩
      · have hbig : BIG < numv wh := by unfold BIG; omega
        rw [if_pos hbig] at hN;subst hN;have AO := fun w hg => Lib.hid (natoi_over wh hwn hall hov (by omega) w hg);clear hov hbig;go_wp2_with fail;with_reducible refine (AO _ (HG.out.up HU3.out)).out.mono ?_
        rintro e w4 ⟨⟨n4, t4, a4, rfl⟩, hu4⟩;have HU4 := Lib.hid (HU3.out.trans hu4);clear hu4 AO;obtain ⟨d0, d1, d2, y1, y2⟩ := (HB.out.up HU4.out).cells;go_wp2_with fail;with_reducible refine (FL 11 _ (HB.out.up HU4.out)).out.mono ?_
        rintro e w9 ⟨rfl, hk9, hr9⟩;have HR9 := Lib.hid hr9;clear hr9;go_wp2_with fail;go_ret;exact ⟨⟨_, rfl, .inl rfl⟩, (RK.up HU4.out).trans hk9, HR9.out⟩
    | false =>
      have hN := HN.out;rw [if_neg (fun e => e.elim hwn (fun h => by rw [hall] at h; cases h)), if_neg (fun e => h48 (by injection e.1))] at hN;by_cases hov : numv wh < 9223372036854775808
      · have AO := fun w => Lib.hid (natoi_ok wh hwn hall hov (by omega) w);generalize hnv : numv wh = nv at *;by_cases hbig : BIG < nv
        · rw [if_pos hbig] at hN;subst hN;have hbI : (9007199254740991 : Int) < (nv : Int) := by unfold BIG at hbig; omega
          clear hbig;go_wp2_with fail;with_reducible refine (AO _).out.mono ?_
          rintro e w4 ⟨rfl, hu4⟩;have HU4 := Lib.hid (HU3.out.trans hu4);clear hu4 AO;obtain ⟨d0, d1, d2, y1, y2⟩ := (HB.out.up HU4.out).cells;go_wp2_with fail;with_reducible refine (FL 11 _ (HB.out.up HU4.out)).out.mono ?_
          rintro e w9 ⟨rfl, hk9, hr9⟩;have HR9 := Lib.hid hr9;clear hr9;go_wp2_with fail;go_ret;exact ⟨⟨_, rfl, .inl rfl⟩, (RK.up HU4.out).trans hk9, HR9.out⟩
        · rw [if_neg hbig] at hN;subst hN;have hbI : ¬ (9007199254740991 : Int) < (nv : Int) := by unfold BIG at hbig; omega
          clear hbig;go_wp2_with fail;with_reducible refine (AO _).out.mono ?_
          rintro e w4 ⟨rfl, hu4⟩;have HU4 := Lib.hid (HU3.out.trans hu4);have HB4 := Lib.hid (HB.out.up HU4.out);obtain ⟨d0, d1, d2, y1, y2⟩ := HB4.out.cells;clear hu4 AO;go_wp2_with fail;go_ret;exact ⟨⟨_, rfl, .inr (.inl ⟨_, rfl⟩)⟩, (RK.up HU4.out).trans (RK.set R 1 _ _), HB4.out.at (a + T.length)⟩
      · have hbig : BIG < numv wh := by unfold BIG; omega
        rw [if_pos hbig] at hN;subst hN;have AO := fun w hg => Lib.hid (natoi_over wh hwn hall hov (by omega) w hg);clear hov hbig;go_wp2_with fail;with_reducible refine (AO _ (HG.out.up HU3.out)).out.mono ?_
        rintro e w4 ⟨⟨n4, t4, a4, rfl⟩, hu4⟩;have HU4 := Lib.hid (HU3.out.trans hu4);clear hu4 AO;obtain ⟨d0, d1, d2, y1, y2⟩ := (HB.out.up HU4.out).cells;go_wp2_with fail;with_reducible refine (FL 11 _ (HB.out.up HU4.out)).out.mono ?_
        rintro e w9 ⟨rfl, hk9, hr9⟩;have HR9 := Lib.hid hr9;clear hr9;go_wp2_with fail;go_ret;exact ⟨⟨_, rfl, .inl rfl⟩, (RK.up HU4.out).trans hk9, HR9.out⟩
theorem numOK (s : Bs) (hs : s.length ≤ 1000000) : NumOK s := by
  intro a b hb _ R W h hg;exact Lib.hid (rnumber_any R s hs a (Nat.le_of_lt (List.getElem?_eq_some_iff.1 hb).1) W h hg)
end Go.Proofs.YtbfieomjobbhoaaGreatDoor
