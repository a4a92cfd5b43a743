/- Walks: what an auditor is made of; audit.Check of a short text. -/
import Derived.Test.YtcfmidmokciofaaGreatDoorKR17
import Derived.Test.YtcfmidmokciofaaGreatDoorKR21
import Derived.Test.YtcfmidmokciofaaGreatDoorKR15
import Derived.Test.YtcfmidmokciofaaGreatDoorKR09
namespace Go.Proofs.YtcfmidmokciofaaGreatDoor
open Go.RowKit Go.Gz Go.Maps
set_option maxRecDepth 100000
/-- a row with some of its cells set -/
def putV : Array Value → Nat → List Value → Array Value
  | cs, _, [] => cs
  | cs, o, v :: r => putV (cs.setIfInBounds o v) (o + 1) r
theorem sc_put {b : Nat} {t : TypeId} : ∀ (vs : List Value) (w : World) (o : Nat) (cs : Array Value), w.heap[b]? = some (.cells cs t (0, 0)) → (w.setCells b o vs).heap[b]? = some (.cells (putV cs o vs) t (0, 0))
  | [], _, _, _, h => h
  | v :: r, w, o, cs, h => sc_put r _ (o + 1) _ (heap_setCell_same w b o cs t v h)
theorem sc_oth {b : Nat} : ∀ (vs : List Value) (w : World) (o k : Nat), k ≠ b → (w.setCells b o vs).heap[k]? = w.heap[k]?
  | [], _, _, _, _ => rfl
  | v :: r, w, o, k, h => (sc_oth r _ (o + 1) k h).trans (heap_setCell_other w ⟨b, o, none⟩ k v h)
/-- an auditor that knows no header yet -/
def auZ (s : Bs) (m : Nat) : Array Value := #[.string ⟨s.toArray⟩, .int .u64 0, .int .u64 0, .int .u64 0, .int .u64 0, .int .u64 0, .int .u64 0, .int .u64 0, .int .u64 0, .int .u64 0, .int .u64 0, .int .u64 0, .bool false, .int .u8 0, .int .u8 0, .int .u8 0, .int .i64 0, .int .i64 0, .int .i64 0, .int .i64 0, .int .i64 0, .int .i64 0, .int .i64 0, .int .i64 0, .int .i64 0, .map (some m)]
def hdrC (h : Hdr) : List Value := [.int .u64 (h.r0 : Int), .int .u64 (h.r1 : Int), .int .u64 (h.m0 : Int), .int .u64 (h.m1 : Int), .int .u64 (h.l0 : Int), .int .u64 (h.l1 : Int), .int .u64 (h.d0 : Int), .int .u64 (h.d1 : Int), .int .u64 (h.adr : Int), .int .u64 (h.ent : Int), .int .u64 (h.con : Int), .bool h.clu, .int .u8 (h.inn : Int), .int .u8 (h.out : Int), .int .u8 (h.kind : Int), .int .i64 h.minz, .int .i64 h.maxz, .int .i64 h.minlon, .int .i64 h.minlat, .int .i64 h.maxlon, .int .i64 h.maxlat, .int .i64 h.zoom, .int .i64 h.lon, .int .i64 h.lat]
theorem au_put (s : Bs) (h : Hdr) (m : Nat) : putV (auZ s m) 1 (hdrC h) = auC s h m := by
  simp only [auZ, hdrC, putV, List.setIfInBounds_toArray, List.set_cons_succ, List.set_cons_zero];rfl
theorem build_au (s : ByteArray) (m : Nat) (w : World) : (Instr.build 85 #[(0, .string s), (2, .map (some m))]).run Tryz.prog w = .ok (.agg #[.string s, .int .u64 0, .int .u64 0, .int .u64 0, .int .u64 0, .int .u64 0, .int .u64 0, .int .u64 0, .int .u64 0, .int .u64 0, .int .u64 0, .int .u64 0, .bool false, .int .u8 0, .int .u8 0, .int .u8 0, .int .i64 0, .int .i64 0, .int .i64 0, .int .i64 0, .int .i64 0, .int .i64 0, .int .i64 0, .int .i64 0, .int .i64 0, .map (some m)]) w := by kernel_rfl
theorem there_mid {w : World} {b : Nat} {cs : Array Value} {t : TypeId} (h : w.heap[b]? = some (.cells cs t (0, 0))) (o n : Nat) (hn : o + n ≤ cs.size) : w.there b o n := fun j hj => by
  have := th_blk h (o + j) (by omega);rwa [Nat.zero_add] at this
/-- the rules that are told -/
def AchE (w : World) (L : List Nat) (e : Ending) (w' : World) : Prop := ∃ A c, e = .returned (.slice A L.length c) ∧ Rd w' 1 A L.length c (L.map u8V) ∧ Up w w'
set_option maxHeartbeats 8000000 in
theorem acheck_bad (s : Bs) (E : Int) (hE : E ≠ 0) (HD : ∀ w, RowKit.Hid (Calls Tryz.prog 31 #[.string ⟨s.toArray⟩] w fun e w' => e = .returned (.tuple #[.agg HZ, .int .i64 E]) ∧ Up w w')) (b : Int) (w : World) :
    Calls Tryz.prog 16 #[.string ⟨s.toArray⟩, .int .i64 b] w (AchE w [1]) := by
  have hEI : (E != 0) = true := by rw [bne_iff_ne]; exact hE
  have hmm := @run_makeMap Tryz.prog;have hbu := build_au ⟨s.toArray⟩ w.heap.size (w.alloc (.map #[] 0));go_enter Tryz.func16, Tryz.ntmps16;go_wp2_with fail;with_reducible refine (HD _).out.mono ?_
  rintro e w2 ⟨rfl, hu2⟩;have hbs := heap_alloc_new (w.alloc (.map #[] 0)) (.cells (auZ s w.heap.size) 85);rw [World.size_alloc] at hbs;have q2 := hu2.obj hbs;obtain ⟨X3, hX3⟩ : ∃ X, w2.alloc (.cells HZ 83) = X := ⟨_, rfl⟩;have hu3 : Up w2 X3 := by rw [← hX3]; exact (Up.refl w2).alloc _
  have q3 := hu3.obj q2;have r3 : X3.heap[w2.heap.size]? = some (.cells HZ 83 (0, 0)) := by rw [← hX3]; exact heap_alloc_new _ _
  have th := there_mid q3 1 24 (by simp [auZ]);have rg := rg_blk r3;obtain ⟨X4, hX4⟩ : ∃ X, X3.setCells (w.heap.size + 1) 1 (HZ).toList = X := ⟨_, rfl⟩;have hu4 : Up w X4 := by
    rw [← hX4];exact up_setCells _ (((((Up.refl w).alloc _).alloc _).trans hu2).trans hu3) (by omega)
  have HU4 := Lib.hid hu4;have HX3 := Lib.hid hX3;have HX4 := Lib.hid hX4;clear hX3 hX4;clear hmm hbu HD hbs q2 q3 r3 hu2 hu3 hu4
  go_wp2_with (first
    | (refine wpList_store_new w2 rfl 83 _ _ rfl HZ HZ rfl rfl (by kernel_rfl) rfl (by simp [Value.oneCell']) ?_; rw [HX3.out])
    | (refine wpList_load_mid rfl 83 _ rfl w2.heap.size 0 rfl (HZ).toList _ rg Tryz.underlying83 rfl (by kernel_rfl) ?_)
    | (refine wpList_store_mid rfl 83 _ _ rfl (w.heap.size + 1) 1 HZ rfl rfl th (by kernel_rfl) (by simp [Value.oneCell']) ?_; rw [HX4.out]))
  go_ret;refine ⟨_, _, rfl, ?_, HU4.out.alloc _⟩;exact rd_new X4 _ #[.int .u8 1] 1 rfl (by decide)
end Go.Proofs.YtcfmidmokciofaaGreatDoor
