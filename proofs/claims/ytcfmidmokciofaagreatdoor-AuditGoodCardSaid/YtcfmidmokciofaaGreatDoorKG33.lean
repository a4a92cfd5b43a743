/- Walk: header.Decode of the header of an archive that press.Press makes. -/
import Derived.Test.YtcfmidmokciofaaGreatDoorKG32
import Derived.Test.YtcfmidmokciofaaGreatDoorKG08
namespace Go.Gz
/-- the header of a chart's archive -/
def pressH (L : Items) (b kind : Nat) (note : Bs) : Hdr := withH (headH L (rowsL L).1 kind) (dirB (splitV (rowsL L).1 b).2.1).length note.length (splitV (rowsL L).1 b).2.2.1.length (rowsL L).2.flatten.length
theorem split_len {L : Items} (h : Good L) (hl : L.length ≤ 1000) (ht : total L ≤ 1000000000) {b : Nat} (hb : 512 ≤ b) (hb2 : b ≤ 16257) : (splitV (rowsL L).1 b).2.2.1.length ≤ 67108864 := by
  obtain ⟨i1, i2, i3, i4, i5, i6, i7, i8⟩ := rows_inv L h (by omega);have hrow := rows_row h (by omega);have hok := rows_ok h (by omega);obtain ⟨s1, s2, s3, s4⟩ := split_ok hb hb2 hrow hok (by omega) (fun e he => (i6 e he).2.1);rcases s4 with ⟨e, _⟩ | ⟨n, hn, _, e, hall⟩
  · rw [e]; simp
  · rw [e];have := dirs_len hall;have h2 := flat_len (cut_ne (rowsL L).1 hn);rw [cut_flat _ hn] at h2;omega
theorem part_at (a b c : Bs) (n m : Nat) (hn : a.length = n) (hm : b.length = m) : part (a ++ (b ++ c)) n m = b := by
  subst hn; subst hm;unfold part;rw [List.drop_left, List.take_left]
/-- an archive with anything behind it -/
theorem press_at {L : Items} (h : Good L) (hl : L.length ≤ 1000) (ht : total L ≤ 400000) {b kind : Nat} (hb : 512 ≤ b) (hb2 : b ≤ 16257) (hk : kind ≤ 5) {note : Bs} (hn : note.length ≤ 4096) :
    (pressV L b kind note).2 = hdrB (pressH L b kind note) ++ (dirB (splitV (rowsL L).1 b).2.1 ++ (note ++ ((splitV (rowsL L).1 b).2.2.1 ++ (rowsL L).2.flatten))) ∧ hdrE (pressH L b kind note) = 0 ∧ OkH (pressH L b kind note) ∧ (dirB (splitV (rowsL L).1 b).2.1).length ≤ b ∧ (rowsL L).2.flatten.length ≤ total L := by
  obtain ⟨root, text, e, h0, hr, hx, hrl, _⟩ := press_ok h hl (by omega : total L ≤ 1000000000) hb hb2 hk hn;subst hr; subst hx;obtain ⟨i1, _, _, _, i5, _, _, _⟩ := rows_inv L h (by omega);refine ⟨by rw [e]; rfl, h0, ⟨?_, ?_, ?_⟩, hrl, i5⟩
  · show L.length < _
    omega
  · show (rowsL L).1.length < _
    omega
  · show contE (rowsL L).1 < _
    have := seenE_len (rowsL L).1;omega
theorem press_con {L : Items} (h : Good L) (ht : total L ≤ 400000) (b kind : Nat) (note : Bs) : (pressH L b kind note).d1 = (rowsL L).2.flatten.length ∧ (pressH L b kind note).con = (rowsL L).2.length ∧ (pressH L b kind note).adr = L.length :=
  ⟨rfl, cont_rows h (by omega), rfl⟩
end Go.Gz
namespace Go.Proofs.YtcfmidmokciofaaGreatDoor
open Go.RowKit Go.Gz Go.Shelf

set_option maxRecDepth 100000
theorem hdec_hdr (h : Hdr) (e : hdrE h = 0) (ok : OkH h) (t : Bs) (ht : t.length ≤ 900000000) (w : World) :
    Calls Tryz.prog 31 #[.string ⟨(hdrB h ++ t).toArray⟩] w fun en w' => en = .returned (.tuple #[hdrV h, .int .i64 0]) ∧ Up w w' := by
  have hl := hdrB_len h;have CK := fun w => Lib.hid (hchk_good h e w);have p8 : (256 : Nat) ^ 8 = 18446744073709551616 := by decide
  have p1 : (256 : Nat) ^ 1 = 256 := by decide
  have hcl : h.clu.toNat < 256 := by cases h.clu <;> decide
  have R := rd_pc h t;obtain ⟨e1, e2, e3, e4, e5⟩ := hdr_ok e;obtain ⟨o1, o2, o3⟩ := ok;have hsl : (hdrB h ++ t).length = 127 + t.length := by rw [List.length_append, hl]
  have hpre : Lib.hasPrefix (hdrB h ++ t) [80, 77, 84, 105, 108, 101, 115] = true := by unfold hdrB; rfl
  have hver : (hdrB h ++ t)[7]? = some 3 := by unfold hdrB; rfl
  unfold TOT at e1;clear e hl;obtain ⟨r0, r1, m0, m1, l0, l1, d0, d1, adr, ent, con, clu, inn, out, kind, minz, maxz, minlon, minlat, maxlon, maxlat, zoom, lon, lat⟩ := h;simp only at e1 e2 e3 e4 e5 o1 o2 o3 hcl;obtain ⟨z1, rfl⟩ : ∃ n : Nat, minz = (n : Int) := ⟨minz.toNat, by omega⟩;obtain ⟨z2, rfl⟩ : ∃ n : Nat, maxz = (n : Int) := ⟨maxz.toNat, by omega⟩;obtain ⟨z3, rfl⟩ : ∃ n : Nat, zoom = (n : Int) := ⟨zoom.toNat, by omega⟩
  refine hdec_good _ (by omega) (by omega) hpre hver r0 r1 m0 m1 l0 l1 d0 d1 adr ent con clu inn out kind z1 z2 minlon minlat maxlon maxlat z3 lon lat
    (R 0 8 8 r0 rfl (by simp [pcs, wideP]) (by omega)) (R 1 16 8 r1 rfl (by simp [pcs, wideP]) (by omega)) (R 2 24 8 m0 rfl (by simp [pcs, wideP]) (by omega)) (R 3 32 8 m1 rfl (by simp [pcs, wideP]) (by omega))
    (R 4 40 8 l0 rfl (by simp [pcs, wideP]) (by omega)) (R 5 48 8 l1 rfl (by simp [pcs, wideP]) (by omega)) (R 6 56 8 d0 rfl (by simp [pcs, wideP]) (by omega)) (R 7 64 8 d1 rfl (by simp [pcs, wideP]) (by omega))
    (R 8 72 8 adr rfl (by simp [pcs, wideP]) (by omega)) (R 9 80 8 ent rfl (by simp [pcs, wideP]) (by omega)) (R 10 88 8 con rfl (by simp [pcs, wideP]) (by omega)) (R 11 96 1 clu.toNat rfl (by simp [pcs, wideP]) (by omega))
    (R 12 97 1 inn rfl (by simp [pcs, wideP]) (by omega)) (R 13 98 1 out rfl (by simp [pcs, wideP]) (by omega)) (R 14 99 1 kind rfl (by simp [pcs, wideP]) (by omega)) (R 15 100 1 z1 rfl (by simp [pcs, wideP]) (by omega)) (R 16 101 1 z2 rfl (by simp [pcs, wideP]) (by omega))
    (R 17 102 4 (uns4 minlon) rfl (by simp [pcs, wideP]) (uns_lt _)) (R 18 106 4 (uns4 minlat) rfl (by simp [pcs, wideP]) (uns_lt _)) (R 19 110 4 (uns4 maxlon) rfl (by simp [pcs, wideP]) (uns_lt _)) (R 20 114 4 (uns4 maxlat) rfl (by simp [pcs, wideP]) (uns_lt _))
    (R 21 118 1 z3 rfl (by simp [pcs, wideP]) (by omega)) (R 22 119 4 (uns4 lon) rfl (by simp [pcs, wideP]) (uns_lt _)) (R 23 123 4 (uns4 lat) rfl (by simp [pcs, wideP]) (uns_lt _))
    (by omega) (by omega) (by omega) (by omega) (by omega) (by omega) (by omega) CK w
end Go.Proofs.YtcfmidmokciofaaGreatDoor
