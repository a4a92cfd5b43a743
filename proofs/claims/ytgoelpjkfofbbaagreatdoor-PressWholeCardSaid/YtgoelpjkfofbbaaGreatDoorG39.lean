/- Walks: what an archive's parts tell. -/
import Derived.Test.YtgoelpjkfofbbaaGreatDoorG28
import Derived.Test.YtgoelpjkfofbbaaGreatDoorG30
import Derived.Test.YtgoelpjkfofbbaaGreatDoorG23
import Derived.Test.YtgoelpjkfofbbaaGreatDoorG38
import Derived.Test.YtgoelpjkfofbbaaGreatDoorG10
namespace Go.Gz
theorem joinGo_len (text : Bs) : ∀ (root out J : Ents), joinGo text root out = (0, J) → out.length ≤ J.length ∧ ∀ x ∈ root, x.run = 0 → (pieceE x text).2.length ≤ J.length := by
  intro root
  induction root with
  | nil =>
    intro out J h
    unfold joinGo at h
    injection h with _ h
    subst h
    exact ⟨Nat.le_refl _, by simp⟩
  | cons x r ih =>
    intro out J h
    unfold joinGo at h
    by_cases hr : x.run ≠ 0
    · rw [if_pos hr] at h
      obtain ⟨h1, h2⟩ := ih _ _ h
      rw [List.length_append] at h1
      refine ⟨by omega, fun y hy hy0 => ?_⟩
      rcases List.mem_cons.1 hy with rfl | hy
      · exact absurd hy0 hr
      · exact h2 y hy hy0
    · rw [if_neg hr] at h
      by_cases hp : (pieceE x text).1 ≠ 0
      · rw [if_pos hp] at h
        injection h with h _
        exact absurd h hp
      · rw [if_neg hp] at h
        obtain ⟨h1, h2⟩ := ih _ _ h
        rw [List.length_append] at h1
        refine ⟨by omega, fun y hy hy0 => ?_⟩
        rcases List.mem_cons.1 hy with rfl | hy
        · omega
        · exact h2 y hy hy0
theorem joinE_go {root : Ents} {text : Bs} {J : Ents} (h : joinE root text = (0, J)) : joinGo text root [] = (0, J) := by
  unfold joinE at h
  split at h
  · rename_i g; injection h with h; exact absurd h g
  · split at h
    · rename_i g; injection h with h; exact absurd h g
    · rename_i g1 g2
      split at h
      · rename_i g; injection h with h; exact absurd h g
      · injection h with _ h
        have : (joinGo text root []).1 = 0 := by omega
        exact Prod.ext this h
theorem sizeL_ge (xs : List Nat) : xs.length ≤ sizeL xs := by
  induction xs with
  | nil => simp [sizeL]
  | cons x r ih =>
    have := vB_pos x
    unfold sizeL at *
    simp only [List.length_cons, List.map_cons, List.sum_cons]
    omega
theorem dirB_ge (l : Ents) : 1 + 4 * l.length ≤ (dirB l).length := by
  rw [dirB_len, ← nums_len]
  exact sizeL_ge _
end Go.Gz
namespace Go.Proofs.YtgoelpjkfofbbaaGreatDoor
open Go.RowKit Go.Gz Go.Shelf

set_option maxRecDepth 100000
/-- a pressed archive's header's cells -/
abbrev HW (h : Hdr) (n m : Nat) : Array Value := #[.int .u64 127, .int .u64 (h.r1 : Int), .int .u64 (h.m0 : Int), .int .u64 (h.m1 : Int), .int .u64 (h.l0 : Int), .int .u64 (h.l1 : Int), .int .u64 (h.d0 : Int), .int .u64 (h.d1 : Int), .int .u64 (n : Int), .int .u64 (m : Int), .int .u64 (h.con : Int), .bool true, .int .u8 1, .int .u8 1, .int .u8 (h.kind : Int), .int .i64 h.minz, .int .i64 h.maxz, .int .i64 h.minlon, .int .i64 h.minlat, .int .i64 h.maxlon, .int .i64 h.maxlat, .int .i64 h.zoom, .int .i64 h.lon, .int .i64 h.lat]
theorem arch_whole {M : Items} (hg : Gz.Good M) (hl : M.length ≤ 80) (ht : total M ≤ 400000) {b kind : Nat} (hb : 512 ≤ b) (hb2 : b ≤ 16257) (hk : kind ≤ 5) {note : Bs} (hn : note.length ≤ 4096) :
    ∃ (T : Bs) (h : Hdr) (rt tx dt : Bs) (R L : Ents), T = (pressV M b kind note).2 ∧
    (∀ (t : Bs), t.length ≤ 1000000 → ∀ w, Hid (Calls Tryz.prog 17 #[.string ⟨(T ++ t).toArray⟩] w fun e w' => e = .returned (.tuple #[.agg (HW h M.length L.length), .agg (S4 rt note tx dt), .int .i64 0]) ∧ Up w w')) ∧
    (∀ w, Hid (Calls Tryz.prog 19 #[.string ⟨rt.toArray⟩] w (DdecE w (0, R)))) ∧
    (∀ A c w, Rd w 4 A R.length c (entV R) → Hid (Calls Tryz.prog 20 #[.slice A R.length c, .string ⟨tx.toArray⟩] w (EntsE w (0, L)))) ∧
    (∀ A c w, Rd w 4 A L.length c (entV L) → Hid (Calls Tryz.prog 21 #[.slice A L.length c, .string ⟨dt.toArray⟩] w (ChartE w (0, M)))) ∧
    (∀ w, Hid (Calls Tryz.prog 23 #[.agg (HW h M.length L.length), .int .u64 (T.length : Int)] w fun e w' => e = .returned (.int .i64 0) ∧ Up w w')) ∧
    h.d0 + h.d1 = T.length ∧ 127 + h.r1 ≤ 16384 ∧ rt.length ≤ b ∧ T.length ≤ 900000000 ∧ L.length ≤ 80 := by
  obtain ⟨i1, i2, i3, i4, i5, i6, i7, i8⟩ := rows_inv M hg (by omega)
  have hrow := rows_row hg (by omega)
  have hok := rows_ok hg (by omega)
  obtain ⟨s1, s2, s3, s4⟩ := split_ok hb hb2 hrow hok (by omega) (fun e he => (i6 e he).2.1)
  have hRok : ∀ e ∈ (splitV (rowsL M).1 b).2.1, okE e := by
    rcases s4 with ⟨_, e⟩ | ⟨n, hn, e, _, _⟩
    · rw [e]; exact hok
    · rw [e]; exact root_okE hn hrow hok (by omega)
  have hdec := decD_dirB s2 hRok (by omega)
  have hjoin := join_split hb hb2 hrow hok (by omega) (fun e he => (i6 e he).2.1)
  have hback := back_rows hg (by omega : total M ≤ 1099511627776)
  obtain ⟨hT, h0, hoH, hrl, hdl⟩ := press_at hg (by omega) ht hb hb2 hk hn
  have htx := split_len hg (by omega) (by omega : total M ≤ 1000000000) hb hb2
  have hRl := dirB_ge (splitV (rowsL M).1 b).2.1
  have hjl := (joinGo_len _ _ _ _ (joinE_go hjoin)).2
  have hhl := hdrB_len (pressH M b kind note)
  have hTl : (pressV M b kind note).2.length = 127 + (dirB (splitV (rowsL M).1 b).2.1).length + note.length + (splitV (rowsL M).1 b).2.2.1.length + (rowsL M).2.flatten.length := by
    rw [hT]
    simp only [List.length_append, hhl]
    omega
  have CT := fun (t : Bs) (ht2 : t.length ≤ 1000000) w => acut_any hg (by omega) ht hb hb2 hk hn t ht2 w
  have LD := fun w => laid_good (pressH M b kind note).r0 (pressH M b kind note).r1 (pressH M b kind note).m0 (pressH M b kind note).m1 (pressH M b kind note).l0 (pressH M b kind note).l1 (pressH M b kind note).d0 (pressH M b kind note).d1 (pressH M b kind note).adr (pressH M b kind note).ent (pressH M b kind note).con (pressH M b kind note).clu (pressH M b kind note).inn (pressH M b kind note).out (pressH M b kind note).kind (pressH M b kind note).minz (pressH M b kind note).maxz (pressH M b kind note).minlon (pressH M b kind note).minlat (pressH M b kind note).maxlon (pressH M b kind note).maxlat (pressH M b kind note).zoom (pressH M b kind note).lon (pressH M b kind note).lat (pressV M b kind note).2.length h0 (Nat.le_refl 127) (Nat.le_refl _) (Nat.le_refl _) (Nat.le_refl _) (by rw [hTl]; exact Nat.le_refl _) w
  refine ⟨(pressV M b kind note).2, pressH M b kind note, dirB (splitV (rowsL M).1 b).2.1, (splitV (rowsL M).1 b).2.2.1, (rowsL M).2.flatten, (splitV (rowsL M).1 b).2.1, (rowsL M).1, rfl, fun t ht2 w => Lib.hid (CT t ht2 w), fun w => Lib.hid ?_, fun A c w hr => Lib.hid ?_, fun A c w hr => Lib.hid ?_, fun w => Lib.hid (LD w), ?_, ?_, s3, by omega, by omega⟩
  · rw [← hdec]
    exact ddec_any _ (by omega) w
  · rw [← hjoin]
    have hq : (splitV (rowsL M).1 b).2.1.length * ((rowsL M).1.length + 1) ≤ 4064 * 81 := Nat.mul_le_mul (by omega) (by omega)
    exact join_any _ hRok s2 _ (by omega) (rowsL M).1.length hjl (by omega) A c w hr
  · rw [← hback]
    exact back_any _ hok hrow _ (by omega) (fun _ => by rw [hback]; show M.length ≤ 1000; omega) A c w hr
  · rw [hTl]; rfl
  · show 127 + (dirB (splitV (rowsL M).1 b).2.1).length ≤ 16384
    omega
theorem wpList_load_g {P : Program} {ops : Array Oper} {rest : List Oper} {op : Oper} {a : Act} {w : World} {Q : Exit → Act → World → Prop} (hw : Region.wanted op (yielded ops a.tmps) = true) (ty : TypeId) (x : Operand) (ho : op.op = .load ty x)
    (b o : Nat) (hx : a.eval x = .pointer (some ⟨b, o, none⟩)) (cs : List Value) (d : TypeDesc) (hc : w.rangeAt b o cs)
    (hu : P.underlying ty = some d) (hd : d.isRow = true) (hi : (P.info? ty).map (·.size) = some cs.length)
    (h : wpList P ops Q rest (a.put op.dst (.agg cs.toArray)) w) : wpList P ops Q (op :: rest) a w := by
  simp only [wpList, hw, if_true]
  exact Or.inl (wp_load_mid ty x ho b o hx cs d hc hu hd hi h)
theorem whole_blocks (w : World) (b0 : Nat) (hb0 : w.heap.size = b0) (h : Hdr) (n m : Nat) (a b c d : Bs) : ∃ X1 X2, ((w.alloc (.cells HZ 51)).alloc (.cells E4 52)).setCells b0 0 (HW h n m).toList = X1 ∧ X1.setCells (b0 + 1) 0 (S4 a b c d).toList = X2 ∧
    ((w.alloc (.cells HZ 51)).alloc (.cells E4 52)).there b0 0 24 ∧ X1.there (b0 + 1) 0 4 ∧ Up w X2 ∧ X2.rangeAt b0 0 (HW h n m).toList ∧ X2.rangeAt (b0 + 1) 0 (S4 a b c d).toList := by
  subst hb0
  have g1 := ((Up.refl _).alloc (.cells E4 52)).obj (heap_alloc_new w (.cells HZ 51))
  have g2 := heap_alloc_new (w.alloc (.cells HZ 51)) (.cells E4 52)
  rw [World.size_alloc] at g2
  have T1 : ((w.alloc (.cells HZ 51)).alloc (.cells E4 52)).there w.heap.size 0 24 := show _ from (th_blk g1 : World.there _ _ _ (HZ).size)
  have T2 : ((w.alloc (.cells HZ 51)).alloc (.cells E4 52)).there (w.heap.size + 1) 0 4 := show _ from (th_blk g2 : World.there _ _ _ (E4).size)
  have hu : Up w ((w.alloc (.cells HZ 51)).alloc (.cells E4 52)) := ((Up.refl w).alloc _).alloc _
  generalize (w.alloc (.cells HZ 51)).alloc (.cells E4 52) = X0 at *
  have r1 := World.rangeAt_setCells_apart (World.rangeAt_setCells_same X0 w.heap.size 0 (HW h n m).toList T1) (w.heap.size + 1) 0 (S4 a b c d).toList (.inl (by omega))
  exact ⟨_, _, rfl, rfl, T1, World.there_setCells T2 _ _ _, up_setCells _ (up_setCells _ hu (Nat.le_refl _)) (by omega), r1, World.rangeAt_setCells_same _ _ _ _ (World.there_setCells T2 _ _ _)⟩
end Go.Proofs.YtgoelpjkfofbbaaGreatDoor
