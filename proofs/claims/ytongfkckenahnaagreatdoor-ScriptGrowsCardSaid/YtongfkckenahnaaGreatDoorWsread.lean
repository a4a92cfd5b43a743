/- script.Read: the play of bytes. -/
import Derived.Test.YtongfkckenahnaaGreatDoorTab
import Derived.Test.YtongfkckenahnaaGreatDoorRep
import Derived.Test.YtongfkckenahnaaGreatDoorWnext
import Derived.Test.YtongfkckenahnaaGreatDoorWsdef
import Derived.Lib.ConvBytes
import Derived.Laws.IdiomStrings
import Derived.OrdersHeld
namespace Go.Proofs.YtongfkckenahnaaGreatDoor
open Go.RowKit Go.Gz
open Go.Ev (GlobW Kept GVar)
set_option maxRecDepth 100000
/-- what lies there while script.Read runs: the text in block N, the place in M, the result in RB, the play in PB -/
structure LS (w : World) (N M RB PB : Nat) (l R : Bs) (v : Value) (r s : Int) (u : Value) (X : World) : Prop where
  st : ST N M l R X
  res : X.heap[RB]? = some (.cells #[.slice none 0 0, .int .i64 0, .int .i64 0, .slice none 0 0] 26 (0, 0))
  pl : X.heap[PB]? = some (.cells #[v, .int .i64 r, .int .i64 s, u] 26 (0, 0))
  up : Up w X
theorem blkc5 {w : World} {b : Nat} {x y z u : Value} {t : TypeId} (h : w.heap[b]? = some (.cells #[x, y, z, u] t (0, 0))) : w.cell? ⟨b, 0, none⟩ = some x ∧ w.frozen? ⟨b, 0, none⟩ = false ∧ w.cell? ⟨b, 3, none⟩ = some u ∧ w.frozen? ⟨b, 3, none⟩ = false :=
  ⟨by simp [World.cell?, h], by simp [World.frozen?, h], by simp [World.cell?, h], by simp [World.frozen?, h]⟩
theorem blk4 {w : World} {b : Nat} {x y z u : Value} {t : TypeId} (h : w.heap[b]? = some (.cells #[x, y, z, u] t (0, 0))) : w.cell? ⟨b, 0, none⟩ = some x ∧ w.cell? ⟨b, 1, none⟩ = some y ∧ w.cell? ⟨b, 2, none⟩ = some z ∧ w.cell? ⟨b, 3, none⟩ = some u ∧ w.frozen? ⟨b, 0, none⟩ = false ∧ w.frozen? ⟨b, 1, none⟩ = false ∧ w.frozen? ⟨b, 2, none⟩ = false ∧ w.frozen? ⟨b, 3, none⟩ = false :=
  ⟨by simp [World.cell?, h], by simp [World.cell?, h], by simp [World.cell?, h], by simp [World.cell?, h], by simp [World.frozen?, h], by simp [World.frozen?, h], by simp [World.frozen?, h], by simp [World.frozen?, h]⟩
/-- an append whose run is known, in a drawn region -/
theorem step_append_run {P : Program} {w w' : World} {ops : Array Oper} {o : Oper} {a : Act} {K : Act → World → Prop} {Q : Exit → Act → World → Prop} {E : Prop} (hgd : o.guard = none) (s x : Operand) (t : TypeId)
    (ho : o.op = .call { callee := .builtin .append, args := #[s, x], argTypes := #[t, t] }) {vs vx v' : Value} (hs : a.eval s = vs) (hx : a.eval x = vx)
    (hr : (Builtin.append_ #[t, t] o.type #[vs, vx]).run P w = .ok v' w') (h : K (a.put o.dst v') w') :
    if Region.wanted o (yielded ops a.tmps) = true then Oper.wp P o a w K Q else E := by
  have hw : Region.wanted o (yielded ops a.tmps) = true := by simp [Region.wanted, hgd]
  rw [if_pos hw]
  unfold Oper.wp execOp
  simp only [ho, resolve, invoke, builtin, Sem.run_bind, Sem.run_pure, Result.andThen_ok, List.map_toArray, List.map_cons, List.map_nil, hs, hx, hr]
  exact h
theorem nxN_lt (s : Bs) : nxN s < 256 := UInt8.toNat_lt _
theorem stepsV_cons {g : Nat} {R : Bs} (h : R ≠ []) : stepsV (g + 1) R = (nxN R, nxN (R.drop 1) % 4) :: stepsV g (R.drop (2 + nxN (R.drop 1) % 4)) := by
  cases R with
  | nil => exact absurd rfl h
  | cons c s =>
    rw [stepsV, List.drop_drop]
    show _ = (c.toNat, nxN s % 4) :: stepsV g ((c :: s).drop (2 + nxN s % 4))
    rw [show 2 + nxN s % 4 = (1 + nxN s % 4) + 1 by omega, List.drop_succ_cons]
theorem stepsV_nil (g : Nat) : stepsV g [] = [] := by cases g <;> rfl
theorem ownNe {w : World} {base : Nat} {e : TypeId} {s : Nat} {v : Value} {n : Nat} {xs : List Value} (o : w.ownsRow base e s v n xs) {M : Nat} (h : M < base) : v.ownBlock = none ∨ v.ownBlock ≠ some M := by
  cases hb : v.ownBlock with
  | none => exact .inl rfl
  | some q => refine .inr ?_; have := (o.lt q hb).1; simp only [ne_eq, Option.some.injEq]; omega
theorem ownUp {w w' : World} {base : Nat} {e : TypeId} {s : Nat} {v : Value} {n : Nat} {xs : List Value} (o : w.ownsRow base e s v n xs) (h : Up w w') : w'.ownsRow base e s v n xs :=
  o.kept (row := none) ⟨h.os, h.tape, h.output, h.size, fun q hq _ => h.block hq⟩ (by cases v.ownBlock <;> simp)
theorem own_slice {w : World} {base : Nat} {e : TypeId} {s : Nat} {v : Value} {n : Nat} {xs : List Value} (o : w.ownsRow base e s v n xs) : ∃ a c, v = .slice a n c := by
  rcases o.2 with ⟨hv, hx⟩ | ⟨_, _, _, hv, _⟩
  · exact ⟨none, 0, by rw [hv, hx]⟩
  · exact ⟨_, _, hv⟩
theorem grown_cell (w : World) (b o : Nat) (v : Value) : w.grownBy (w.setCell ⟨b, o, none⟩ v) (some b) :=
  ⟨rfl, rfl, rfl, by simp, fun q _ hq => heap_setCell_other _ _ _ _ (fun e => hq (by rw [e]))⟩
theorem ownNeB {v : Value} {X : Nat} (h : ∀ q, v.ownBlock = some q → q < X) : v.ownBlock = none ∨ v.ownBlock ≠ some X := by
  cases hb : v.ownBlock with
  | none => exact .inl rfl
  | some q => refine .inr ?_; have := h q hb; simp only [ne_eq, Option.some.injEq]; omega
theorem ownNeq {u v : Value} {w : World} {e : TypeId} {s : Nat} {n : Nat} {xs : List Value} {X : Nat} (h : ∀ q, u.ownBlock = some q → q < X) (o : w.ownsRow (X + 1) e s v n xs) : u.ownBlock = none ∨ u.ownBlock ≠ v.ownBlock := by
  cases hb : u.ownBlock with
  | none => exact .inl rfl
  | some q =>
    refine .inr ?_
    have h1 := h q hb
    intro e
    have := (o.lt q e.symm).1
    omega
theorem set4 {w : World} {b : Nat} {x0 x1 x2 x3 y0 y1 y2 y3 : Value} {t : TypeId} (h : w.heap[b]? = some (.cells #[x0, x1, x2, x3] t (0, 0))) :
    ((((w.setCell ⟨b, 0, none⟩ y0).setCell ⟨b, 1, none⟩ y1).setCell ⟨b, 2, none⟩ y2).setCell ⟨b, 3, none⟩ y3).heap[b]? = some (.cells #[y0, y1, y2, y3] t (0, 0)) := by
  have h0 := heap_setCell_same w b 0 _ _ y0 h
  have h1 := heap_setCell_same _ b 1 _ _ y1 h0
  have h2 := heap_setCell_same _ b 2 _ _ y2 h1
  have h3 := heap_setCell_same _ b 3 _ _ y3 h2
  simpa using h3
/-- a slice of one's own, read as cells -/
theorem slR_own {w w' : World} {base : Nat} {e : TypeId} {s : Nat} {a : Option Addr} {n c : Nat} {xs : List Value} (o : w.ownsRow base e s (.slice a n c) n xs) (h : ∀ q, base ≤ q → w'.heap[q]? = w.heap[q]?) : SlR w' a xs := by
  rcases o.2 with ⟨hv, h0⟩ | ⟨g, cap, cur, hv, hb, _⟩
  · left
    have := o.1
    rw [h0] at this
    simpa using this
  · injection hv with hv _ _
    subst hv
    refine .inr ⟨g, rfl, fun j v hj => ?_⟩
    have h1 := o.cells (g := g) rfl j v hj
    have h2 : (⟨g, 0, none⟩ : Addr).add j = ⟨g, j, none⟩ := by unfold Addr.add; split <;> simp_all
    rw [h2] at h1
    unfold World.cell? at h1 ⊢
    rwa [h g hb]
theorem blk2 {w : World} {b : Nat} {x y : Value} {t : TypeId} (h : w.heap[b]? = some (.cells #[x, y] t (0, 0))) : w.cell? ⟨b, 0, none⟩ = some x ∧ w.cell? ⟨b, 1, none⟩ = some y ∧ w.frozen? ⟨b, 0, none⟩ = false ∧ w.frozen? ⟨b, 1, none⟩ = false :=
  ⟨by simp [World.cell?, h], by simp [World.cell?, h], by simp [World.frozen?, h], by simp [World.frozen?, h]⟩
theorem infoF : (Tryz.prog.info? 49).map (fun i => (i.zero, i.size, i.bytes)) = some (some (.agg #[.int .u8 0, .int .i64 0, .string ⟨#[]⟩]), 3, 32) := by kernel_rfl
theorem infoS : (Tryz.prog.info? 30).map (fun i => (i.zero, i.size, i.bytes)) = some (some (.agg #[.string ⟨#[]⟩, .slice none 0 0]), 2, 40) := by kernel_rfl
set_option maxHeartbeats 8000000 in
theorem read_any (PA : ∀ n : Nat, n < 256 → ∀ w, GlobW Tryz.prog gv w → Calls Tryz.prog 11 #[.int .i64 (n : Int)] w fun e w' => e = .returned (.string ⟨(pathT n).toArray⟩) ∧ Up w w')
    (l : Bs) (hl : l.length ≤ 400) (w : World) (hg : GlobW Tryz.prog gv w) :
    Calls Tryz.prog 5 #[.string ⟨l.toArray⟩] w (ReadE l w) := by
  have NX := fun N M hne R w h => Lib.hid (next_any N M hne l (by omega) R w h)
  have PTH := fun n h w hw => Lib.hid (PA n h w hw)
  clear PA
  have HLn := Lib.hid hl
  clear hl
  obtain ⟨X0, hX0⟩ : ∃ X, X = (((w.alloc (.cells #[.string ⟨l.toArray⟩] 9)).alloc (.cells #[.slice none 0 0, .int .i64 0, .int .i64 0, .slice none 0 0] 26)).alloc (.cells #[.int .i64 0] 3)) := ⟨_, rfl⟩
  have hne : w.heap.size ≠ w.heap.size + 1 + 1 := by omega
  have s0 : ST w.heap.size (w.heap.size + 1 + 1) l l X0 := by
    refine ⟨0, Nat.zero_le _, rfl, ?_, ?_⟩
    · rw [hX0]
      have := heap_alloc_new ((w.alloc (.cells #[.string ⟨l.toArray⟩] 9)).alloc (.cells #[.slice none 0 0, .int .i64 0, .int .i64 0, .slice none 0 0] 26)) (.cells #[.int .i64 0] 3)
      simpa using this
    · rw [hX0]
      exact ((Up.refl _).alloc _ |>.alloc _).obj (heap_alloc_new w _)
  have r0 : X0.heap[w.heap.size + 1]? = some (.cells #[.slice none 0 0, .int .i64 0, .int .i64 0, .slice none 0 0] 26 (0, 0)) := by
    rw [hX0]
    refine ((Up.refl _).alloc _).obj ?_
    have := heap_alloc_new (w.alloc (.cells #[.string ⟨l.toArray⟩] 9)) (.cells #[.slice none 0 0, .int .i64 0, .int .i64 0, .slice none 0 0] 26)
    simpa using this
  have u0 : Up w X0 := by rw [hX0]; exact (((Up.refl w).alloc _).alloc _).alloc _
  have S0 := Lib.hid s0
  have R0 := Lib.hid r0
  have U0 := Lib.hid u0
  clear s0 r0 u0
  go_enter Tryz.func5, Tryz.ntmps5
  go_wp2_with fail
  rw [← hX0]
  with_reducible refine (NX _ _ hne _ _ S0.out).out.mono ?_
  rintro e X1 ⟨rfl, s1, g1⟩
  have U1 := Lib.hid (up_grown U0.out g1 (by omega))
  have R1 := Lib.hid (grown_obj g1 R0.out (by omega))
  have S1 := Lib.hid s1
  clear s1 g1
  go_wp2_with fail
  with_reducible refine (NX _ _ hne _ _ S1.out).out.mono ?_
  rintro e X2 ⟨rfl, s2, g2⟩
  have U2 := Lib.hid (up_grown U1.out g2 (by omega))
  have R2 := Lib.hid (grown_obj g2 R1.out (by omega))
  have S2 := Lib.hid s2
  clear s2 g2
  have hM2 : w.heap.size + 1 + 1 < X2.heap.size := by
    obtain ⟨k, _, _, h, _⟩ := S2.out
    exact (Array.getElem?_eq_some_iff.1 h).1
  rw [List.drop_drop] at S2
  have e4 : ((nxN l : Int) % 4) = (retV l : Int) := by unfold retV; omega
  have e5 : ((nxN (l.drop 1) : Int) % 5) = (mosV l : Int) := by unfold mosV; omega
  obtain ⟨X3, hX3⟩ : ∃ X, X = X2.alloc (.cells #[.slice none 0 0, .int .i64 (retV l : Int), .int .i64 (mosV l : Int), .slice none 0 0] 26) := ⟨_, rfl⟩
  have P3 := Lib.hid (show X3.heap[X2.heap.size]? = some (.cells #[.slice none 0 0, .int .i64 (retV l : Int), .int .i64 (mosV l : Int), .slice none 0 0] 26 (0, 0)) by rw [hX3]; exact heap_alloc_new _ _)
  have hu3 : Up X2 X3 := by rw [hX3]; exact (Up.refl X2).alloc _
  have S3 := Lib.hid (S2.out.kept (hu3.block hM2) (hu3.block (by omega)))
  have R3 := Lib.hid (hu3.obj R2.out)
  have U3 := Lib.hid (U2.out.trans hu3)
  have Z3 := Lib.hid (show X3.heap.size = X2.heap.size + 1 by rw [hX3]; simp)
  simp only [List.drop_one] at e5
  go_wp2_with fail
  rw [← hX3]
  clear hX3 hu3 S2 R2 U2
  with_reducible refine (NX _ _ hne _ _ S3.out).out.mono ?_
  rintro e X4 ⟨rfl, s4, g4⟩
  generalize X2.heap.size = PB at *
  have U4 := Lib.hid (up_grown U3.out g4 (by omega))
  have R4 := Lib.hid (grown_obj g4 R3.out (by omega))
  have P4 := Lib.hid (grown_obj g4 P3.out (by omega))
  have Z4 := Lib.hid (show PB + 1 ≤ X4.heap.size by have := g4.size; have := Z3.out; omega)
  have S4 := Lib.hid s4
  clear s4 g4 S3 R3 P3 U3 Z3 hX0 S0 R0 U0 S1 R1 U1 e4 e5
  rw [List.drop_drop] at S4
  have e6 : ((nxN (l.drop 2) : Int) % 32) = (itmN l : Int) := by unfold itmN; omega
  go_wp2_with fail
  simp only [e6]
  clear e6
  have h31 : itmN l < 32 := Nat.mod_lt _ (by omega)
  generalize hret : retV l = rt at *
  generalize hmos : mosV l = ms at *
  generalize hitm : itmN l = im at *
  have HIM := Lib.hid hitm
  have HRT := Lib.hid hret
  have HMS := Lib.hid hmos
  clear hret hmos hitm
  go_loopg [21] im (fun gk i wr => ∃ (k : Nat) (v : Value) (xs : List Value), k + gk = im ∧ i = .int .i64 k ∧ ST w.heap.size (w.heap.size + 1 + 1) l (l.drop (3 + 2 * k)) wr ∧ wr.heap[w.heap.size + 1]? = some (.cells #[.slice none 0 0, .int .i64 0, .int .i64 0, .slice none 0 0] 26 (0, 0)) ∧
    wr.heap[PB]? = some (.cells #[v, .int .i64 (rt : Int), .int .i64 (ms : Int), .slice none 0 0] 26 (0, 0)) ∧ wr.ownsRow (PB + 1) 40 2 v k xs ∧ Up w wr ∧ PB + 1 ≤ wr.heap.size)
  case atStart => exact ⟨0, .slice none 0 0, [], by omega, rfl, S4.out, R4.out, P4.out, World.ownsRow_nil _ _ _ _, U4.out, Z4.out⟩
  case round =>
    obtain ⟨k, v, xs, hk, rfl, s5, r5, p5, o5, u5, z5⟩ := hrel
    have S5 := Lib.hid s5
    have R5 := Lib.hid r5
    have P5 := Lib.hid p5
    have O5 := Lib.hid o5
    have U5 := Lib.hid u5
    have Z5 := Lib.hid z5
    clear s5 r5 p5 o5 u5 z5
    by_cases hlt : k < im
    · have hltI : (k : Int) < (im : Int) := by omega
      obtain ⟨g, rfl⟩ : ∃ g, gk = g + 1 := ⟨gk - 1, by omega⟩
      go_wp2_with fail
      with_reducible refine (NX _ _ hne _ _ S5.out).out.mono ?_
      rintro e X6 ⟨rfl, s6, g6⟩
      have S6 := Lib.hid s6
      have R6 := Lib.hid (grown_obj g6 R5.out (by omega))
      have P6 := Lib.hid (grown_obj g6 P5.out (by omega))
      have U6 := Lib.hid (up_grown U5.out g6 (by omega))
      have Z6 := Lib.hid (Nat.le_trans Z5.out g6.size)
      clear s6
      go_wp2_with fail
      with_reducible refine (NX _ _ hne _ _ S6.out).out.mono ?_
      rintro e X7 ⟨rfl, s7, g7⟩
      have S7 := Lib.hid s7
      have R7 := Lib.hid (grown_obj g7 R6.out (by omega))
      have P7 := Lib.hid (grown_obj g7 P6.out (by omega))
      have U7 := Lib.hid (up_grown U6.out g7 (by omega))
      have Z7 := Lib.hid (Nat.le_trans Z6.out g7.size)
      have hM : w.heap.size + 1 + 1 < PB + 1 := by omega
      have o6 := O5.out.kept g6 (by
        cases hb : v.ownBlock with
        | none => exact .inl rfl
        | some q => refine .inr ?_; have := (O5.out.lt q hb).1; simp only [ne_eq, Option.some.injEq]; omega)
      have O7 := Lib.hid (o6.kept g7 (by
        cases hb : v.ownBlock with
        | none => exact .inl rfl
        | some q => refine .inr ?_; have := (O5.out.lt q hb).1; simp only [ne_eq, Option.some.injEq]; omega))
      clear s7 g7 o6
      rw [show List.drop 1 (List.drop 1 (l.drop (3 + 2 * k))) = l.drop (3 + 2 * (k + 1)) by rw [List.drop_drop, List.drop_drop]; congr 1] at S7
      obtain ⟨cb, hcb⟩ : ∃ cb : UInt8, nxN ((l.drop (3 + 2 * k)).drop 1) = cb.toNat := ⟨_, rfl⟩
      have hcbI : ((nxN ((l.drop (3 + 2 * k)).drop 1) : Nat) : Int) = (cb.toNat : Int) := by rw [hcb]
      obtain ⟨ci, hci⟩ : ∃ ci : UInt8, nxN (l.drop (3 + 2 * k)) = ci.toNat := ⟨_, rfl⟩
      have hciI : ((nxN (l.drop (3 + 2 * k)) : Nat) : Int) = (ci.toNat : Int) := by rw [hci]
      clear S4 R4 P4 U4 Z4 S5 R5 P5 U5 Z5 S6 R6 P6 U6 Z6 O5
      have hcl := cb.toNat_lt
      have hcl2 := ci.toNat_lt
      simp only [List.drop_drop] at hcbI hciI
      have p0 := blkc5 P7.out
      clear hcb hci
      have w1 : IntKind.u8.wrap (cb.toNat : Int) = (cb.toNat : Int) := by rw [IntKind.wrap_u8]; omega
      have w2 : IntKind.u64.wrap ((ci.toNat : Int) % 85) = (ci.toNat : Int) % 85 := by rw [IntKind.wrap_u64]; omega
      have w3 : (cb.toNat : Int).tmod 3 = (cb.toNat : Int) % 3 := Int.tmod_eq_emod_of_nonneg (by omega)
      have w4 : IntKind.i64.wrap (1 + (cb.toNat : Int) % 3) = 1 + (cb.toNat : Int) % 3 := by rw [IntKind.wrap_i64]; omega
      have HCV : (convert 46 9 (.slice (some ⟨X7.heap.size, 0, none⟩) 1 1)).run Tryz.prog (X7.alloc (.cells #[.int .u8 (cb.toNat : Int)] 5)).drew = .ok (.string ⟨#[cb]⟩) (X7.alloc (.cells #[.int .u8 (cb.toNat : Int)] 5)).drew := by
        refine Go.run_convert_bytes_back _ 46 9 5 ⟨X7.heap.size, 0, none⟩ 1 [cb] Tryz.underlying46 Tryz.underlying5 Tryz.underlying9 (fun j hj => ?_)
        cases j with
        | zero => simp [Addr.add]
        | succ j => simp at hj
      have pA := ((Up.refl X7).alloc (.cells #[.int .u8 (cb.toNat : Int)] 5)).cell p0.1
      have RA := fun w => Lib.hid (show Calls Tryz.prog 10 #[.string ⟨#[cb]⟩, .int .i64 (1 + (cb.toNat : Int) % 3)] w fun e w' => (∃ s, e = .returned (.string s)) ∧ Up w w' by
        have := rep_any cb (1 + cb.toNat % 3) (by omega) w
        rwa [show ((1 + cb.toNat % 3 : Nat) : Int) = 1 + (cb.toNat : Int) % 3 by omega] at this)
      obtain ⟨i0, hi0, hz0, hz1, hz2⟩ := info_parts (show (Tryz.prog.info? 40).map (fun i => (i.zero, i.size, i.bytes)) = some (some (.agg #[.int .u64 0, .string ⟨#[]⟩]), 2, 24) by kernel_rfl)
      have AP := Lib.hid (fun (w8 : World) (hu : Up X7 w8) (x : Int) (s8 : ByteArray) (ty : TypeId) => run_append_own (P := Tryz.prog) (w := w8.alloc (.cells #[.int .u64 x, .string s8] 40)) (PB + 1) 23 ty 40 i0 _ 2 24 Tryz.underlying23 hi0 hz0 hz1 hz2 rfl (by decide) v k xs
        ((O7.out.kept (row := none) ⟨hu.os, hu.tape, hu.output, hu.size, fun q hq _ => hu.block hq⟩ (by cases v.ownBlock <;> simp)).alloc _) ⟨w8.heap.size, 0, none⟩ 1 1 [.int .u64 x, .string s8] rfl
        (by intro j u hj
            match j, hj with
            | 0, hj => simp at hj; subst hj; simp [Addr.add]
            | 1, hj => simp at hj; subst hj; simp [Addr.add]
            | (j + 2), hj => simp at hj) (by intro u hu; simp at hu; rcases hu with rfl | rfl <;> rfl) (by unfold maxLen; omega) (by omega) (by have := Z7.out; have := hu.size; simp; omega))
      go_wp2_with fail
      go_region_law (first
        | (refine step_append_run rfl _ _ 23 rfl (by rfl) (by rfl) hrun ?_)
        | (go_simp
           go_at_call 10
           with_reducible refine (RA _).out.mono ?_
           rintro e w8 ⟨⟨s8, rfl⟩, hu8⟩
           have hu8' := ((Up.refl X7).alloc (.cells #[.int .u8 (cb.toNat : Int)] 5)).drew.trans hu8
           have p8 := hu8'.cell p0.1
           have p8' := ((Up.refl w8).alloc (.cells #[.int .u64 ((ci.toNat : Int) % 85), .string s8] 40)).cell p8
           obtain ⟨v9, w9, hrun, hown, hgrow, _⟩ := AP.out w8 hu8' ((ci.toNat : Int) % 85) s8 23
           obtain ⟨ao, n9, cap9, rfl⟩ : ∃ ao n' cap, v9 = .slice ao n' cap := by
             rcases hown.2 with ⟨hv, _⟩ | ⟨_, _, _, hv, _⟩
             · exact ⟨_, _, _, hv⟩
             · exact ⟨_, _, _, hv⟩
           have HOWN := Lib.hid hown
           clear hown
           have hold : ∀ q, q ≤ PB → w9.heap[q]? = X7.heap[q]? := fun q hq => by
             rw [hgrow.block q (by have := hu8'.size; have := Z7.out; simp; omega) (by
               intro e
               have := (O7.out.lt q e.symm).1
               omega), ((Up.refl w8).alloc _).block (by have := hu8'.size; have := Z7.out; omega), hu8'.block (by have := Z7.out; omega)]
           have hP9 := (hold PB (Nat.le_refl _)).trans P7.out
           obtain ⟨q0, q1, _, _⟩ := blkc5 hP9
           have HP9 := Lib.hid hP9
           have HOLD := Lib.hid hold
           have HU9 := Lib.hid (((U7.out.trans hu8').alloc _).base (by omega) ((Below.refl (PB + 1) (w8.alloc (.cells #[.int .u64 ((ci.toNat : Int) % 85), .string s8] 40))).grown hgrow (by have := hu8'.size; have := Z7.out; simp; omega) (fun q hq => (O7.out.lt q hq).1)))
           have HZ9 := Lib.hid (show PB + 1 ≤ w9.heap.size by have := hgrow.size; have := hu8'.size; have := Z7.out; simp at *; omega)
           clear hgrow hold hP9
           dsimp only))
      all_goals
        go_wp2_with fail
        go_roundg g
        case measure => omega
        case rel =>
          refine ⟨k + 1, _, _, by omega, by go_num, S7.out.kept ?_ ?_, ?_, ?_, HOWN.out.kept (row := some PB) ⟨rfl, rfl, rfl, by simp, fun q _ hq => heap_setCell_other _ _ _ _ (fun e => hq (by rw [e]))⟩ ?_, HU9.out.set (by show w.heap.size ≤ PB; omega) _, by simpa using HZ9.out⟩
          · rw [heap_setCell_other _ _ _ _ (by show w.heap.size + 1 + 1 ≠ PB; omega)]; exact HOLD.out _ (by omega)
          · rw [heap_setCell_other _ _ _ _ (by show w.heap.size ≠ PB; omega)]; exact HOLD.out _ (by omega)
          · rw [heap_setCell_other _ _ _ _ (by show w.heap.size + 1 ≠ PB; omega), HOLD.out _ (by omega)]; exact R7.out
          · rw [heap_setCell_same _ _ _ _ _ _ HP9.out]; simp
          · cases hb : (Value.slice ao n9 cap9).ownBlock with
            | none => exact .inl rfl
            | some q => refine .inr ?_; have := (HOWN.out.lt q hb).1; simp only [ne_eq, Option.some.injEq]; omega
    · have hltI : (im : Int) ≤ (k : Int) := by omega
      have hkm : k = im := by omega
      obtain ⟨ao, ac, hv⟩ : ∃ ao ac, v = .slice ao k ac := by
        rcases O5.out.2 with ⟨hv, hx⟩ | ⟨_, _, _, hv, _⟩
        · exact ⟨none, 0, by rw [hv, hx]⟩
        · exact ⟨_, _, hv⟩
      subst hv
      have HKM := Lib.hid hkm
      clear hkm
      go_wp2_with fail
      go_loopg [] 64 (fun gk wr => ∃ (R : Bs) (P : List (Nat × Nat)) (u : Value) (us : List Value), P.length + gk = 64 ∧ P ++ stepsV gk R = plyV l ∧ StX P us ∧ ST w.heap.size (w.heap.size + 1 + 1) l R wr ∧ wr.heap[w.heap.size + 1]? = some (.cells #[.slice none 0 0, .int .i64 0, .int .i64 0, .slice none 0 0] 26 (0, 0)) ∧
        wr.heap[PB]? = some (.cells #[.slice ao k ac, .int .i64 (rt : Int), .int .i64 (ms : Int), u] 26 (0, 0)) ∧ wr.ownsRow (PB + 1) 30 2 u P.length us ∧ Up w wr ∧ PB + 1 ≤ wr.heap.size)
      case atStart => exact ⟨l.drop (3 + 2 * k), [], .slice none 0 0, [], by simp, (by show stepsV 64 _ = plyV l; unfold plyV rstV; rw [HIM.out, ← HKM.out, List.drop_drop]), stX_nil, S5.out, R5.out, P5.out, World.ownsRow_nil _ _ _ _, U5.out, Z5.out⟩
      case round =>
        obtain ⟨R, P, u, us, hPk, hPl, hPx, s8, r8, p8, o8, u8, z8⟩ := hrel
        obtain ⟨ua, uc, hu⟩ : ∃ ua uc, u = .slice ua P.length uc := by
          rcases o8.2 with ⟨hv, hx⟩ | ⟨_, _, _, hv, _⟩
          · exact ⟨none, 0, by rw [hv, hx]⟩
          · exact ⟨_, _, hv⟩
        subst hu
        obtain ⟨q, hq, hR, hM8, hN8⟩ := s8
        obtain ⟨cM, fM⟩ := blk1 hM8
        obtain ⟨cN, fN⟩ := blk1 hN8
        obtain ⟨cP0, cP1, cP2, cP3, fP0, fP1, fP2, fP3⟩ := blk4 p8
        obtain ⟨cR0, cR1, cR2, cR3, fR0, fR1, fR2, fR3⟩ := blk4 r8
        have S8 := Lib.hid (show ST w.heap.size (w.heap.size + 1 + 1) l R wr from ⟨q, hq, hR, hM8, hN8⟩)
        have R8 := Lib.hid r8
        have P8 := Lib.hid p8
        have O8 := Lib.hid o8
        have U8 := Lib.hid u8
        have Z8 := Lib.hid z8
        have HPL := Lib.hid hPl
        have HPX := Lib.hid hPx
        have HRR := Lib.hid hR
        clear hPl hPx hM8 hN8 r8 p8 o8 u8 z8 hR S5 R5 P5 O5 U5 Z5
        by_cases hqn : q < l.length
        · have hqI : (q : Int) < (l.length : Int) := by omega
          by_cases hp64 : P.length < 64
          · have hp64I : (P.length : Int) < 64 := by omega
            obtain ⟨g, rfl⟩ : ∃ g, gk = g + 1 := ⟨gk - 1, by omega⟩
            have hRne : R ≠ [] := by
              rintro rfl
              have := congrArg List.length HRR.out
              rw [List.length_drop, List.length_nil] at this
              omega
            have HST := Lib.hid (stepsV_cons (g := g) hRne)
            clear hRne
            have hMP : w.heap.size + 1 + 1 < PB := hM2
            go_wp2_with fail
            with_reducible refine (NX _ _ hne _ _ S8.out).out.mono ?_
            rintro e X9 ⟨rfl, s9, g9⟩
            have S9 := Lib.hid s9
            have R9 := Lib.hid (grown_obj g9 R8.out (by omega))
            have P9 := Lib.hid (grown_obj g9 P8.out (by omega))
            have U9 := Lib.hid (up_grown U8.out g9 (by omega))
            have Z9 := Lib.hid (Nat.le_trans Z8.out g9.size)
            have O9 := Lib.hid (O8.out.kept g9 (ownNe O8.out (by omega)))
            clear s9 g9 S8 R8 P8 U8 Z8 O8 cM fM cN fN cP0 cP1 cP2 cP3 fP0 fP1 fP2 fP3 cR0 cR1 cR2 cR3 fR0 fR1 fR2 fR3
            have hc256 := nxN_lt R
            have hg9 := globW_up hg U9.out
            go_wp2_with fail
            with_reducible refine (PTH _ hc256 _ ?_).out.mono ?_
            · exact hg9
            rintro e X10 ⟨rfl, hu10⟩
            obtain ⟨ps, hps⟩ : ∃ ps, pathT (nxN R) = ps := ⟨_, rfl⟩
            have HPS := Lib.hid hps
            rw [hps]
            clear hps hg9
            obtain ⟨X11, hX11⟩ : ∃ X, X = X10.alloc (.cells #[.string ⟨ps.toArray⟩, .slice none 0 0] 30) := ⟨_, rfl⟩
            have B11 := Lib.hid (show X11.heap[X10.heap.size]? = some (.cells #[.string ⟨ps.toArray⟩, .slice none 0 0] 30 (0, 0)) by rw [hX11]; exact heap_alloc_new _ _)
            have hu11 : Up X9 X11 := by rw [hX11]; exact hu10.alloc _
            have hz9 := Z9.out
            have S11 := Lib.hid (S9.out.kept (hu11.block (by omega)) (hu11.block (by omega)))
            have R11 := Lib.hid (hu11.obj R9.out)
            have P11 := Lib.hid (hu11.obj P9.out)
            have U11 := Lib.hid (U9.out.trans hu11)
            have Z11 := Lib.hid (show X10.heap.size + 1 ≤ X11.heap.size by rw [hX11]; simp)
            have hXB : PB + 1 ≤ X10.heap.size := Nat.le_trans hz9 hu10.size
            have O11 := Lib.hid (ownUp O9.out hu11)
            have hOB : ∀ q, (Value.slice ua P.length uc).ownBlock = some q → q < X10.heap.size := fun q hq => Nat.lt_of_lt_of_le (O9.out.lt q hq).2 hu10.size
            have HOB := Lib.hid hOB
            clear hOB hz9
            go_wp2_with fail
            rw [← hX11]
            clear hX11 hu11 hu10 S9 R9 P9 U9 Z9 O9
            generalize X10.heap.size = XB at *
            with_reducible refine (NX _ _ hne _ _ S11.out).out.mono ?_
            rintro e X12 ⟨rfl, s12, g12⟩
            have S12 := Lib.hid s12
            have R12 := Lib.hid (grown_obj g12 R11.out (by omega))
            have P12 := Lib.hid (grown_obj g12 P11.out (by omega))
            have B12 := Lib.hid (grown_obj g12 B11.out (by omega))
            have U12 := Lib.hid (up_grown U11.out g12 (by omega))
            have Z12 := Lib.hid (Nat.le_trans Z11.out g12.size)
            have O12 := Lib.hid (O11.out.kept g12 (ownNe O11.out (by omega)))
            clear s12 g12 S11 R11 P11 U11 Z11 O11 B11
            rw [List.drop_drop] at S12
            obtain ⟨m, hm⟩ : ∃ m, nxN (R.drop 1) % 4 = m := ⟨_, rfl⟩
            have hmI : ((nxN (R.drop 1) : Int) % 4) = (m : Int) := by omega
            have hm4 : m < 4 := by omega
            have HMM := Lib.hid hm
            clear hm
            simp only [List.drop_one] at hmI
            go_wp2_with fail
            try simp only [hmI]
            clear hmI
            obtain ⟨i1, hi1, hz1, hy1, hb1⟩ := info_parts infoF
            obtain ⟨i2, hi2, hz2, hy2, hb2⟩ := info_parts infoS
            go_loopg [62] m (fun gk i wr => ∃ (j : Nat) (v : Value) (ys : List Value), j + gk = m ∧ i = .int .i64 j ∧ ST w.heap.size (w.heap.size + 1 + 1) l (R.drop (2 + j)) wr ∧ wr.heap[w.heap.size + 1]? = some (.cells #[.slice none 0 0, .int .i64 0, .int .i64 0, .slice none 0 0] 26 (0, 0)) ∧
              wr.heap[PB]? = some (.cells #[.slice ao k ac, .int .i64 (rt : Int), .int .i64 (ms : Int), .slice ua P.length uc] 26 (0, 0)) ∧ wr.heap[XB]? = some (.cells #[.string ⟨ps.toArray⟩, v] 30 (0, 0)) ∧
              wr.ownsRow (XB + 1) 49 3 v j ys ∧ wr.ownsRow (PB + 1) 30 2 (.slice ua P.length uc) P.length us ∧ Up w wr ∧ XB + 1 ≤ wr.heap.size)
            case atStart => exact ⟨0, .slice none 0 0, [], by omega, rfl, S12.out, R12.out, P12.out, B12.out, World.ownsRow_nil _ _ _ _, O12.out, U12.out, Z12.out⟩
            case round =>
              obtain ⟨j, v, ys, hj, rfl, s13, r13, p13, b13, f13, o13, u13, z13⟩ := hrel
              have S13 := Lib.hid s13
              have R13 := Lib.hid r13
              have P13 := Lib.hid p13
              have B13 := Lib.hid b13
              have F13 := Lib.hid f13
              have O13 := Lib.hid o13
              have U13 := Lib.hid u13
              have Z13 := Lib.hid z13
              clear s13 r13 p13 b13 f13 o13 u13 z13 S12 R12 P12 B12 O12 U12 Z12
              by_cases hjm : j < m
              · have hjI : (j : Int) < (m : Int) := by omega
                obtain ⟨h, rfl⟩ : ∃ h, gk = h + 1 := ⟨gk - 1, by omega⟩
                go_wp2_with fail
                with_reducible refine (NX _ _ hne _ _ S13.out).out.mono ?_
                rintro e X14 ⟨rfl, s14, g14⟩
                have R14 := Lib.hid (grown_obj g14 R13.out (by omega))
                have P14 := Lib.hid (grown_obj g14 P13.out (by omega))
                have B14 := Lib.hid (grown_obj g14 B13.out (by omega))
                have U14 := Lib.hid (up_grown U13.out g14 (by omega))
                have Z14 := Lib.hid (Nat.le_trans Z13.out g14.size)
                have F14 := Lib.hid (F13.out.kept g14 (ownNe F13.out (by omega)))
                have O14 := Lib.hid (O13.out.kept g14 (ownNe O13.out (by omega)))
                rw [List.drop_drop] at s14
                have S14 := Lib.hid s14
                clear s14 g14 S13 R13 P13 B13 U13 Z13 F13 O13
                obtain ⟨kb, hkb⟩ : ∃ kb : UInt8, nxN (R.drop (2 + j)) = kb.toNat := ⟨_, rfl⟩
                have hkbI : ((nxN (R.drop (2 + j)) : Nat) : Int) = (kb.toNat : Int) := by rw [hkb]
                clear hkb
                have hkl := kb.toNat_lt
                have w1 : IntKind.u8.wrap (kb.toNat : Int) = (kb.toNat : Int) := by rw [IntKind.wrap_u8]; omega
                have w3 : (kb.toNat : Int).tmod 5 = (kb.toNat : Int) % 5 := Int.tmod_eq_emod_of_nonneg (by omega)
                have w4 : IntKind.u8.wrap (1 + (kb.toNat : Int) % 5) = 1 + (kb.toNat : Int) % 5 := by rw [IntKind.wrap_u8]; omega
                have w5 : IntKind.i64.wrap (1 + (kb.toNat : Int) % 5) = 1 + (kb.toNat : Int) % 5 := by rw [IntKind.wrap_i64]; omega
                obtain ⟨b0, b1, fb0, fb1⟩ := blk2 B14.out
                have HCV : (convert 46 9 (.slice (some ⟨X14.heap.size, 0, none⟩) 1 1)).run Tryz.prog (X14.alloc (.cells #[.int .u8 (kb.toNat : Int)] 5)) = .ok (.string ⟨#[kb]⟩) (X14.alloc (.cells #[.int .u8 (kb.toNat : Int)] 5)) := by
                  refine Go.run_convert_bytes_back _ 46 9 5 ⟨X14.heap.size, 0, none⟩ 1 [kb] Tryz.underlying46 Tryz.underlying5 Tryz.underlying9 (fun j hj => ?_)
                  cases j with
                  | zero => simp [Addr.add]
                  | succ j => simp at hj
                have huY : Up X14 (X14.alloc (.cells #[.int .u8 (kb.toNat : Int)] 5)) := (Up.refl X14).alloc _
                have FY := Lib.hid (ownUp F14.out huY)
                have OY := Lib.hid (ownUp O14.out huY)
                have HUY := Lib.hid huY
                have hXY : XB + 1 ≤ X14.heap.size := Z14.out
                clear huY
                go_wp2_with (at_builtin; refine app_one (X14.alloc (.cells #[.int .u8 (kb.toNat : Int)] 5)) rfl _ _ 28 rfl (XB + 1) 49 i1 _ 3 32 Tryz.underlying28 hi1 hz1 hy1 hb1 rfl (by decide) _ _ _ FY.out rfl #[.int .u8 (1 + (kb.toNat : Int) % 5), .int .i64 (kb.toNat : Int), .string ⟨#[kb]⟩] (by simp [Act.eval]; done) rfl (by simp [Value.oneCell']) (by omega) (by omega) (by simp; omega) ?_; intro v3 w3 ho3 hg3 hb3; obtain ⟨ao3, ac3, rfl⟩ := own_slice ho3; have HB3 := Lib.hid ((hb3.block XB (by omega)).trans ((HUY.out.block (by omega)).trans B14.out)); have HO3 := Lib.hid ho3; have HG3 := Lib.hid hg3; have HBB := Lib.hid hb3; clear ho3 hg3 hb3; obtain ⟨n0, n1, n2, n3⟩ := blk2 HB3.out)
                go_roundg h
                case measure => omega
                case rel =>
                  have hO := OY.out.kept HG3.out (ownNeq HOB.out FY.out)
                  have hB3 : ∀ q, q < XB → w3.heap[q]? = X14.heap[q]? := fun q hq => (HBB.out.block q (by omega)).trans (HUY.out.block (by omega))
                  refine ⟨j + 1, .slice ao3 (j + 1) ac3, _, by omega, by go_num, ?_, ?_, ?_, ?_, HO3.out.kept (row := some XB) (grown_cell w3 XB 1 _) ?_, hO.kept (row := some XB) (grown_cell w3 XB 1 _) (ownNeB HOB.out), ?_, ?_⟩
                  · rw [show 2 + (j + 1) = 2 + j + 1 by omega]
                    refine S14.out.kept ?_ ?_
                    · rw [heap_setCell_other _ _ _ _ (by show w.heap.size + 1 + 1 ≠ XB; omega)]; exact hB3 _ (by omega)
                    · rw [heap_setCell_other _ _ _ _ (by show w.heap.size ≠ XB; omega)]; exact hB3 _ (by omega)
                  · rw [heap_setCell_other _ _ _ _ (by show w.heap.size + 1 ≠ XB; omega), hB3 _ (by omega)]; exact R14.out
                  · rw [heap_setCell_other _ _ _ _ (by show PB ≠ XB; omega), hB3 _ (by omega)]; exact P14.out
                  · rw [heap_setCell_same _ _ _ _ _ _ HB3.out]; simp
                  · exact ownNe HO3.out (Nat.lt_succ_self XB)
                  · exact Up.set (((U14.out.trans HUY.out).base (base := XB + 1) (by omega) HBB.out)) (by show w.heap.size ≤ XB; omega) _
                  · have h1 := HBB.out.size; have h2 := HUY.out.size; simp only [World.size_setCell] at *; omega
              · have hjI : (m : Int) ≤ (j : Int) := by omega
                have hjm2 : j = m := by omega
                have HJM := Lib.hid hjm2
                clear hjm2
                obtain ⟨av, cv, rfl⟩ := own_slice F13.out
                obtain ⟨b0, b1, fb0, fb1⟩ := blk2 B13.out
                obtain ⟨cP0, cP1, cP2, cP3, fP0, fP1, fP2, fP3⟩ := blk4 P13.out
                have hXY : XB + 1 ≤ wr.heap.size := Z13.out
                go_wp2_with (at_builtin; refine app_one wr rfl _ _ 24 rfl (PB + 1) 30 i2 _ 2 40 Tryz.underlying24 hi2 hz2 hy2 hb2 rfl (by decide) _ _ _ O13.out rfl #[.string ⟨ps.toArray⟩, .slice av j cv] (by simp [Act.eval]; done) rfl (by simp [Value.oneCell']) (by omega) (by omega) (by omega) ?_; intro v3 w3 ho3 hg3 hb3; obtain ⟨ao3, ac3, rfl⟩ := own_slice ho3; have HB3 := Lib.hid ((hb3.block PB (by omega)).trans P13.out); have HO3 := Lib.hid ho3; have HG3 := Lib.hid hg3; have HBB := Lib.hid hb3; clear ho3 hg3 hb3; obtain ⟨n0, n1, n2, n3, m0, m1, m2, m3⟩ := blk4 HB3.out)
                go_roundg g
                case measure => omega
                case rel =>
                  have hB3 : ∀ q, q ≤ PB → w3.heap[q]? = wr.heap[q]? := fun q hq => HBB.out.block q (by omega)
                  refine ⟨R.drop (2 + j), P ++ [(nxN R, j)], .slice ao3 (P.length + 1) ac3, us ++ [.string ⟨ps.toArray⟩, .slice av j cv], ?_, ?_, ?_, ?_, ?_, ?_, ?_, ?_, ?_⟩
                  · rw [List.length_append]; show P.length + 1 + g = 64; omega
                  · rw [List.append_assoc, ← HPL.out, HST.out, HMM.out, ← HJM.out]; rfl
                  · rw [← HPS.out]; exact stX_snoc HPX.out _ _ _ _
                  · refine S13.out.kept ?_ ?_
                    · rw [heap_setCell_other _ _ _ _ (by show w.heap.size + 1 + 1 ≠ PB; omega)]; exact hB3 _ (by omega)
                    · rw [heap_setCell_other _ _ _ _ (by show w.heap.size ≠ PB; omega)]; exact hB3 _ (by omega)
                  · rw [heap_setCell_other _ _ _ _ (by show w.heap.size + 1 ≠ PB; omega), hB3 _ (by omega)]; exact R13.out
                  · rw [heap_setCell_same _ _ _ _ _ _ HB3.out]; simp
                  · rw [List.length_append]; exact HO3.out.kept (row := some PB) (grown_cell w3 PB 3 _) (ownNe HO3.out (Nat.lt_succ_self PB))
                  · exact Up.set (U13.out.base (base := PB + 1) (by omega) HBB.out) (by show w.heap.size ≤ PB; omega) _
                  · have h1 := HBB.out.size; simp only [World.size_setCell] at *; omega
          · have hp64I : (64 : Int) ≤ (P.length : Int) := by omega
            have hg0 : gk = 0 := by omega
            have HG0 := Lib.hid hg0
            clear hg0
            go_wp2_with fail
            refine bodyPost_ret (results_cell_row rfl _ _ (w.heap.size + 1) 26 #[.slice ao k ac, .int .i64 (rt : Int), .int .i64 (ms : Int), .slice ua P.length uc] (0, 0) _ rfl (set4 R8.out) Tryz.underlying26 rfl (by kernel_rfl)) rfl ?_
            have hpl : plyV l = P := by rw [← HPL.out, HG0.out, stepsV, List.append_nil]
            refine ⟨ao, ac, ua, uc, us, ?_, ?_, slR_own O8.out ?_, ?_⟩
            · rw [hpl, HIM.out, HRT.out, HMS.out, ← HKM.out]
            · rw [hpl]; exact HPX.out
            · intro q hq
              rw [heap_setCell_other _ _ _ _ (by show q ≠ w.heap.size + 1; omega), heap_setCell_other _ _ _ _ (by show q ≠ w.heap.size + 1; omega), heap_setCell_other _ _ _ _ (by show q ≠ w.heap.size + 1; omega), heap_setCell_other _ _ _ _ (by show q ≠ w.heap.size + 1; omega)]
            · exact (((U8.out.set (by show w.heap.size ≤ w.heap.size + 1; omega) _).set (by show w.heap.size ≤ w.heap.size + 1; omega) _).set (by show w.heap.size ≤ w.heap.size + 1; omega) _).set (by show w.heap.size ≤ w.heap.size + 1; omega) _
        · have hqI : (l.length : Int) ≤ (q : Int) := by omega
          have HRN := Lib.hid (show R = [] by rw [HRR.out]; exact List.drop_eq_nil_of_le (by omega))
          go_wp2_with fail
          refine bodyPost_ret (results_cell_row rfl _ _ (w.heap.size + 1) 26 #[.slice ao k ac, .int .i64 (rt : Int), .int .i64 (ms : Int), .slice ua P.length uc] (0, 0) _ rfl (set4 R8.out) Tryz.underlying26 rfl (by kernel_rfl)) rfl ?_
          have hpl : plyV l = P := by rw [← HPL.out, HRN.out, stepsV_nil, List.append_nil]
          refine ⟨ao, ac, ua, uc, us, ?_, ?_, slR_own O8.out ?_, ?_⟩
          · rw [hpl, HIM.out, HRT.out, HMS.out, ← HKM.out]
          · rw [hpl]; exact HPX.out
          · intro q hq
            rw [heap_setCell_other _ _ _ _ (by show q ≠ w.heap.size + 1; omega), heap_setCell_other _ _ _ _ (by show q ≠ w.heap.size + 1; omega), heap_setCell_other _ _ _ _ (by show q ≠ w.heap.size + 1; omega), heap_setCell_other _ _ _ _ (by show q ≠ w.heap.size + 1; omega)]
          · exact (((U8.out.set (by show w.heap.size ≤ w.heap.size + 1; omega) _).set (by show w.heap.size ≤ w.heap.size + 1; omega) _).set (by show w.heap.size ≤ w.heap.size + 1; omega) _).set (by show w.heap.size ≤ w.heap.size + 1; omega) _
end Go.Proofs.YtongfkckenahnaaGreatDoor
