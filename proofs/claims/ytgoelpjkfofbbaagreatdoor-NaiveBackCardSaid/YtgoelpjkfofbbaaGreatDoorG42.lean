/- Walk: gazetteerlaw18.awake. -/
import Derived.Test.YtgoelpjkfofbbaaGreatDoorG38
import Derived.Test.YtgoelpjkfofbbaaGreatDoorG41
import Derived.Test.YtgoelpjkfofbbaaGreatDoorG40
import Derived.Test.YtgoelpjkfofbbaaGreatDoorG27
namespace Go.Proofs.YtgoelpjkfofbbaaGreatDoor
open Go.RowKit Go.Gz Go.Shelf

set_option maxRecDepth 100000
theorem mark_no {s : Bs} (h : s.contains 92 = false) : MarkOK s := fun i hi => by
  have := List.mem_of_getElem? hi
  rw [List.contains_eq_mem] at h
  simp [this] at h
theorem word_no {s : Bs} (h : s.contains 110 = false) (h2 : s.contains 102 = false) (h3 : s.contains 116 = false) : WordOK s := fun a w v hc => by
  rw [List.contains_eq_mem] at h h2 h3
  rcases hc with ⟨e, _⟩ | ⟨e, _⟩ | ⟨e, _⟩
  · have := List.mem_of_getElem? e; simp [this] at h
  · have := List.mem_of_getElem? e; simp [this] at h2
  · have := List.mem_of_getElem? e; simp [this] at h3
theorem check_no (b : Int) (kind : Nat) {s : Bs} (hs : s.length ≤ 1000000) (h0 : s.contains 92 = false) (h : s.contains 110 = false) (h2 : s.contains 102 = false) (h3 : s.contains 116 = false) (E : Int) (hE : planN b kind s = E) (w : World) (hg : Gl w) :
    Calls Tryz.prog 18 #[.agg #[.int .i64 b, .int .u8 (kind : Int), .string ⟨s.toArray⟩]] w fun e w' => e = .returned (.int .i64 E) ∧ Up w w' := by
  rw [← hE]
  exact pcheck_any b kind s hs (rval_any s hs (mark_no h0) (word_no h h2 h3) (numOK s hs) 4) w hg
def L1 : Items := [(0, [120])]
theorem good1 : Gz.Good L1 := ⟨by intro i j hi hj h; simp [L1] at hi hj; omega, by decide, by decide, by decide, by decide⟩
theorem srt1 : Srt L1 := good1.srt
theorem fit1 : Fit L1 := good_fit good1
def T1 : Bs := (pressV L1 512 0 [123, 125]).2
theorem t1_len : T1.length = 135 := by decide +kernel
theorem t1_end : T1.drop 127 = [1, 0, 1, 1, 1, 123, 125, 120] := by decide +kernel
def Of1 (w : World) (e : Ending) (w' : World) : Prop := ∃ A c, e = .returned (.tuple #[.agg #[.slice A 1 c], .int .i64 0]) ∧ Rd w' 2 A 1 c (itV L1) ∧ Up w w'
theorem of1_any (b : Nat) (w : World) (h : w.heap[b]? = some (.cells #[.int .u64 0, .string ⟨#[120]⟩] 47 (0, 0))) :
    Calls Tryz.prog 12 #[.slice (some ⟨b, 0, none⟩) 1 1] w (Of1 w) := by
  refine (of_any L1 fit1 (by decide) (some ⟨b, 0, none⟩) 1 w ?_).mono ?_
  · exact ⟨rfl, by decide, by unfold maxLen; omega, fun h => by (cases h), fun _ => ⟨b, 0, rfl, fun j u hj => by
      rw [cell_of_row w b (0 + j) _ _ (0, 0) h, Nat.zero_add]
      simpa [itV, L1] using hj⟩⟩
  · rintro e w' ⟨M, hp, hs, A, c, he, hr, hu⟩
    obtain rfl := srt_perm srt1 hs hp
    exact ⟨A, c, he, hr, hu⟩
set_option maxHeartbeats 8000000 in
theorem awake18 (w : World) (hg : Gl w) :
    Calls Tryz.prog 9 #[] w fun e w' => e = .returned (.bool true) ∧ Up w w' := by
  have OF := fun b w h => Lib.hid (of1_any b w h)
  have PG : ∀ A c w, Gl w → Rd w 2 A 1 c (itV L1) → Hid (Calls Tryz.prog 16 #[.agg #[.slice A 1 c], .agg #[.int .i64 512, .int .u8 0, .string ⟨#[123, 125]⟩]] w (PressE w T1 0)) := fun A c w hg hr => Lib.hid (press_good L1 good1 (by decide) (by decide) A c 512 (by decide) (by decide) 0 (by decide) [123, 125] (by decide) (fun w hg => Lib.hid (check_no 512 0 (by decide) (by decide) (by decide) (by decide) (by decide) 0 (by decide +kernel) w hg)) w hg hr)
  have PB : ∀ A c w, Gl w → Hid (Calls Tryz.prog 16 #[.agg #[.slice A 1 c], .agg #[.int .i64 511, .int .u8 0, .string ⟨#[123, 125]⟩]] w (PressE w [] 15)) := fun A c w hg => Lib.hid (press_bad A 1 c 511 0 [123, 125] 15 (by decide) (fun w hg => Lib.hid (check_no 511 0 (by decide) (by decide) (by decide) (by decide) (by decide) 15 (by decide +kernel) w hg)) w hg)
  have CK : ∀ w, Gl w → Hid (Calls Tryz.prog 18 #[.agg #[.int .i64 512, .int .u8 0, .string ⟨#[91, 93]⟩]] w fun e w' => e = .returned (.int .i64 4) ∧ Up w w') := fun w hg => Lib.hid (check_no 512 0 (by decide) (by decide) (by decide) (by decide) (by decide) 4 (by decide +kernel) w hg)
  obtain ⟨m, hm⟩ : ∃ m, (rowsL L1).1.length = m := ⟨_, rfl⟩
  obtain ⟨ct, hct⟩ : ∃ m, contE (rowsL L1).1 = m := ⟨_, rfl⟩
  obtain ⟨z0, hz0⟩ : ∃ m, minZ L1 = m := ⟨_, rfl⟩
  obtain ⟨z1, hz1⟩ : ∃ m, maxZ L1 = m := ⟨_, rfl⟩
  have HE : ∀ A c w, Rd w 2 A 1 c (itV L1) → Hid (Calls Tryz.prog 29 #[.agg #[.slice A 1 c], .int .u8 2] w fun e w' => e = .returned (.agg #[.int .u64 0, .int .u64 0, .int .u64 0, .int .u64 0, .int .u64 0, .int .u64 0, .int .u64 0, .int .u64 0, .int .u64 1, .int .u64 (m : Int), .int .u64 (ct : Int), .bool true, .int .u8 1, .int .u8 1, .int .u8 2, .int .i64 z0, .int .i64 z1, .int .i64 (-1800000000), .int .i64 (-850511287), .int .i64 1800000000, .int .i64 850511287, .int .i64 z0, .int .i64 0, .int .i64 0]) ∧ Up w w') := fun A c w hr => by
    subst hm hct hz0 hz1
    exact Lib.hid (phead2_any L1 good1 (by decide) (by decide) 2 A c w hr)
  unfold PressE at PG PB
  have x1 := t1_len
  have x2 := drop_mk T1 127
  rw [t1_end] at x2
  clear hm hct hz0 hz1
  generalize T1 = T at *
  rw [x1] at x2
  have n0 := heap_alloc_new w (.cells #[.int .u64 0, .string ⟨#[120]⟩] 47)
  have HU0 := Lib.hid ((Up.refl w).alloc (.cells #[.int .u64 0, .string ⟨#[120]⟩] 47))
  have HG := Lib.hid hg
  clear hg
  go_enter Tryz.func9, Tryz.ntmps9
  go_wp2_with fail
  refine (OF _ _ n0).out.mono ?_
  rintro e w1 ⟨A, c, rfl, hr1, hu1⟩
  have n1 := new1 w1 30 (.slice A 1 c)
  have HU1 := Lib.hid (HU0.out.trans (hu1.trans n1.1))
  have HR1 := Lib.hid (hr1.up n1.1)
  have hc1 := n1.2.1
  clear hr1 hu1 n0 n1
  go_wp2_with fail
  with_reducible refine (PG A c _ (HG.out.up HU1.out) HR1.out).out.mono ?_
  rintro e w2 ⟨rfl, hu2⟩
  have HU2 := Lib.hid (HU1.out.trans hu2)
  have HR2 := Lib.hid (HR1.out.up hu2)
  have hc2 := hu2.cell hc1
  clear hu2 hc1
  go_wp2_with fail
  with_reducible refine (PB A c _ (HG.out.up HU2.out)).out.mono ?_
  rintro e w3 ⟨rfl, hu3⟩
  have HU3 := Lib.hid (HU2.out.trans hu3)
  have HR3 := Lib.hid (HR2.out.up hu3)
  have hc3 := hu3.cell hc2
  clear hu3 hc2
  go_wp2_with fail
  with_reducible refine (CK _ (HG.out.up HU3.out)).out.mono ?_
  rintro e w4 ⟨rfl, hu4⟩
  have HU4 := Lib.hid (HU3.out.trans hu4)
  have HR4 := Lib.hid (HR3.out.up hu4)
  have hc4 := hu4.cell hc3
  clear hu4 hc3
  have hfd : ∀ w, (Instr.field 51 (.agg #[.int .u64 0, .int .u64 0, .int .u64 0, .int .u64 0, .int .u64 0, .int .u64 0, .int .u64 0, .int .u64 0, .int .u64 1, .int .u64 (m : Int), .int .u64 (ct : Int), .bool true, .int .u8 1, .int .u8 1, .int .u8 2, .int .i64 z0, .int .i64 z1, .int .i64 (-1800000000), .int .i64 (-850511287), .int .i64 1800000000, .int .i64 850511287, .int .i64 z0, .int .i64 0, .int .i64 0]) 4).run Tryz.prog w = .ok (.int .u64 1) w := fun w => by kernel_rfl
  go_wp2_with fail
  with_reducible refine (HE A c _ HR4.out).out.mono ?_
  rintro e w5 ⟨rfl, hu5⟩
  have HU5 := Lib.hid (HU4.out.trans hu5)
  clear hu5
  go_wp2_with fail
  go_ret
  exact ⟨rfl, HU5.out⟩
end Go.Proofs.YtgoelpjkfofbbaaGreatDoor
