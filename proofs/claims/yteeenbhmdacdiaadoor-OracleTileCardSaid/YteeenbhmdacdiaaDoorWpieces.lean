/- Walk: route.pieces. -/
import Derived.Test.YteeenbhmdacdiaaDoorBase
import Derived.Test.YteeenbhmdacdiaaDoorProute
namespace Go.Proofs.YteeenbhmdacdiaaDoor
open Go.RowKit Go.Gz

def strV (s : Bs) : Value := .string ⟨s.toArray⟩
theorem infoS : (Tryd.prog.info? 9).map (fun i => (i.zero, i.size, i.bytes)) = some (some (.string ⟨#[]⟩), 1, 16) := by kernel_rfl
/-- a slice of texts of the call's own, from block B on -/
def OwnS (w : World) (B : Nat) (v : Value) (ls : List Bs) : Prop := w.ownsRow B 9 1 v ls.length (ls.map strV)
theorem OwnS.up {w w' : World} {B : Nat} {v : Value} {ls : List Bs} (h : OwnS w B v ls) (hu : Up w w') : OwnS w' B v ls := by
  refine World.ownsRow.kept (row := none) h ⟨hu.os, hu.tape, hu.output, hu.size, fun k hk _ => hu.block hk⟩ ?_
  cases v.ownBlock <;> simp
theorem OwnS.form {w : World} {B : Nat} {v : Value} {ls : List Bs} (h : OwnS w B v ls) : (v = .slice none 0 0 ∧ ls = []) ∨ ∃ g cap, v = .slice (some ⟨g, 0, none⟩) ls.length cap ∧ B ≤ g ∧ g < w.heap.size ∧ ls.length ≤ cap := by
  rcases h.2 with ⟨h1, h2⟩ | ⟨g, cap, cur, h1, h2, h3, h4, _⟩
  · exact .inl ⟨h1, List.length_eq_zero_iff.1 h2⟩
  · exact .inr ⟨g, cap, h1, h2, (Array.getElem?_eq_some_iff.1 h3).1, h4⟩
theorem OwnS.at {w : World} {B g cap : Nat} {ls : List Bs} (h : OwnS w B (.slice (some ⟨g, 0, none⟩) ls.length cap) ls) (j : Nat) (hj : j < ls.length) : w.cell? ⟨g, j, none⟩ = some (.string ⟨(ls.getD j []).toArray⟩) := by
  rw [World.ownsRow.cellAt h j (by omega)]
  simp [hj, strV, List.getD]

theorem results_tmp4 {fn : Func} {t u v x : Tmp} (h : fn.results = #[.tmp t, .tmp u, .tmp v, .tmp x]) (tmps : Array Value) (P : Program) (w : World) :
    (results fn tmps).run P w = .ok (.tuple #[tmps.getD t undef, tmps.getD u undef, tmps.getD v undef, tmps.getD x undef]) w := by simp [results, h]
theorem own_base {w : World} {B B' : Nat} {e : TypeId} {size n : Nat} {v : Value} {xs : List Value} (hB : B' ≤ B) (h : w.ownsRow B e size v n xs) : w.ownsRow B' e size v n xs := by
  obtain ⟨h1, h2⟩ := h
  refine ⟨h1, ?_⟩
  rcases h2 with h2 | ⟨g, cap, cur, a, b, c⟩
  · exact .inl h2
  · exact .inr ⟨g, cap, cur, a, Nat.le_trans hB b, c⟩
def PieRel (w : World) (l : Bs) (k : Nat) (v : Value) (wr : World) : Prop := ∃ ls : List Bs, ls.length ≤ 3 ∧ (∀ s ∈ ls, s.length ≤ k) ∧
  pieces (l.drop k) ls = pieces l [] ∧ OwnS wr (w.heap.size + 1) v ls ∧ Up w wr ∧ wr.heap[w.heap.size]? = some (.stringIter ⟨l.toArray⟩ k)
def PieEnd (w : World) (l : Bs) (e : Ending) (w' : World) : Prop := Up w w' ∧
  match pieces l [] with
  | none => ∃ v x d, e = .returned (.tuple #[v, x, d, .bool false])
  | some (ls, ext, dot) => ∃ v, e = .returned (.tuple #[v, .string ⟨ext.toArray⟩, .bool dot, .bool true]) ∧ OwnS w' w.heap.size v ls
set_option maxRecDepth 100000 in
set_option maxHeartbeats 2000000 in
theorem pieces_any (l : Bs) (hl : l.length ≤ 64) (w : World) :
    Calls Tryd.prog 69 #[.string ⟨l.toArray⟩] w (PieEnd w l) := by
  obtain ⟨i0, hi, hz0, hz1, hz2⟩ := info_parts infoS
  go_enter Tryd.func69, Tryd.ntmps69
  go_wp2
  go_loopg [2] l.length (fun gk v wr => ∃ k, k + gk = l.length ∧ PieRel w l k v wr)
  case atStart => exact ⟨0, by omega, [], by simp, by simp, by simp, World.ownsRow_nil _ _ _ _, (Up.refl w).alloc _, World.iter_heap _ _ _⟩
  case round =>
    obtain ⟨k, hk, ls, h3, hs, hp, hown, hu, hit⟩ := hrel
    have HP := Lib.hid hp
    have HS := Lib.hid hs
    have HO := Lib.hid hown
    have HI := Lib.hid hit
    have HU := Lib.hid hu
    by_cases hlt : k < l.length
    · have hdr : l.drop k = l[k] :: l.drop (k + 1) := List.drop_eq_getElem_cons hlt
      rw [hdr] at hp
      generalize hc : l[k] = c at hp hdr
      by_cases ha : c.toNat < 128
      · have hn0 := fun ty => Lib.run_next_ascii_at (P := Tryd.prog) wr w.heap.size ⟨l.toArray⟩ k ty hit (by rw [size_mk]; exact hlt) (by show l[k].toNat < 128; rw [hc]; exact ha)
        have hn : ∀ ty, (Instr.next (.pointer (some ⟨w.heap.size, 0, none⟩)) true ty).run Tryd.prog wr = .ok (.tuple #[.bool true, .int .i64 k, .int .i32 (c.toNat : Int)]) (wr.iterAt w.heap.size ⟨l.toArray⟩ (k + 1)) := by
          intro ty; rw [hn0 ty]; show Result.ok (Value.tuple #[.bool true, .int .i64 k, .int .i32 (l[k].toNat : Int)]) _ = _; rw [hc]
        clear hn0
        have hu2 : Up w (wr.iterAt w.heap.size ⟨l.toArray⟩ (k + 1)) := Lib.below_iterAt hu (Nat.le_refl _) _ _
        have ho2 : OwnS (wr.iterAt w.heap.size ⟨l.toArray⟩ (k + 1)) (w.heap.size + 1) u2 ls := ownsRow_iterAt hown (by omega) _ _
        have hi2 : (wr.iterAt w.heap.size ⟨l.toArray⟩ (k + 1)).heap[w.heap.size]? = some (.stringIter ⟨l.toArray⟩ (k + 1)) := Lib.iterAt_heap _ _ _ _ _ hit
        have hsz : (wr.iterAt w.heap.size ⟨l.toArray⟩ (k + 1)).heap.size = wr.heap.size := Lib.iterAt_size _ _ _ _
        generalize wr.iterAt w.heap.size ⟨l.toArray⟩ (k + 1) = w2 at *
        have HO2 := Lib.hid ho2
        have HC := Lib.hid hc
        clear hc
        have HI2 := Lib.hid hi2
        have HU2 := Lib.hid hu2
        have HLT : w.heap.size < w2.heap.size := (Array.getElem?_eq_some_iff.1 hi2).1
        clear ho2 hi2 hu2 hsz hown hit hs hu hdr
        by_cases h47 : c = 47
        · subst h47
          by_cases hl3 : ls.length < 3
          · have HP' := Lib.hid ((pieces_slash (r := l.drop (k + 1)) hl3).symm.trans hp)
            have hln : (ls.length : Int) < 3 := by omega
            clear hp
            rcases HO2.out.form with ⟨rfl, hls⟩ | ⟨g, cap, rfl, hg1, hg2, hcap⟩
            case' inl => clear hls
            all_goals
              go_wp2_with (at_builtin; (refine app_one w2 rfl _ _ 64 rfl (w.heap.size + 1) 9 i0 _ 1 16 Tryd.underlying64 hi hz0 hz1 hz2 rfl (by decide) _ _ _ HO2.out rfl #[.string ⟨#[]⟩] rfl rfl (by simp [Value.oneCell']) (by omega) (by omega) (by omega) ?_); intro v3 w3 ho3 hg3 hb3)
              go_roundg (gk - 1)
              case measure => omega
              case rel => exact ⟨k + 1, by omega, ls ++ [[]], by simp; omega, by
                  intro s hm
                  rcases List.mem_append.1 hm with h | h
                  · have := HS.out s h; omega
                  · simp at h; subst h; simp, HP'.out, by simpa [OwnS, strV] using ho3, HU2.out.base (by omega) hb3, (hb3.block _ (by omega)).trans HI2.out⟩
          · have hpn : pieces l [] = none := by
              rw [← hp, pieces_bad (by simp [hl3]) (by decide) (by simp)]
            have HN := Lib.hid hpn
            clear hp hpn
            have e3 : ls.length = 3 := by omega
            rcases HO2.out.form with ⟨rfl, hls⟩ | ⟨g, cap, rfl, hg1, hg2, hcap⟩
            · rw [hls] at e3; simp at e3
            rw [e3] at HO2 ⊢
            clear hl3 hcap
            go_wp2_with fail
            refine bodyPost_ret (results_tmp4 rfl _ _ _) rfl ⟨HU2.out, ?_⟩
            rw [HN.out]
            exact ⟨_, _, _, rfl⟩
        · have b47 : ((c.toNat : Int) == 47) = false := by
            rw [beq_eq_false_iff_ne]; intro e; exact h47 (UInt8.toNat.inj (by show c.toNat = 47; omega))
          rcases HO2.out.form with ⟨rfl, hls⟩ | ⟨g, cap, rfl, hg1, hg2, hcap⟩
          · subst hls
            have HN := Lib.hid (hp.symm.trans (pieces_nil h47))
            clear hp h47
            go_wp2_with fail
            refine bodyPost_ret (results_tmp4 rfl _ _ _) rfl ⟨HU2.out, ?_⟩
            rw [HN.out]
            exact ⟨_, _, _, rfl⟩
          by_cases hne : ls = []
          · subst hne
            have HN := Lib.hid (hp.symm.trans (pieces_nil h47))
            clear hp h47
            go_wp2_with fail
            refine bodyPost_ret (results_tmp4 rfl _ _ _) rfl ⟨HU2.out, ?_⟩
            rw [HN.out]
            exact ⟨_, _, _, rfl⟩
          have hlen : 0 < ls.length := List.length_pos_iff.2 hne
          have b0 : ((ls.length : Int) == 0) = false := by rw [beq_eq_false_iff_ne]; omega
          by_cases hd : dig c = true
          · have HP' := Lib.hid ((pieces_num (r := l.drop (k + 1)) hne hd).symm.trans hp)
            obtain ⟨hc1', hc2'⟩ := (dig_iff c).1 hd
            have hc1 : (48 : Int) ≤ (c.toNat : Int) := by omega
            have hc2 : (c.toNat : Int) ≤ 57 := by omega
            clear hc1' hc2'
            obtain ⟨m, hm⟩ : ∃ m, ls.length = m + 1 := ⟨ls.length - 1, by omega⟩
            have hcell := HO2.out.at m (by omega)
            have hfz := World.ownsRow.frozenAt HO2.out m
            have HS2 := Lib.hid (HO2.out.stored m (strV (ls.getLastD [] ++ [c])))
            have hx : ls.getD m [] = ls.getLastD [] := by rw [getLastD_at ls hne, hm]; rfl
            have hxl : (ls.getLastD []).length ≤ 64 := by
              have : ls.getLastD [] ∈ ls := by rw [← hx]; unfold List.getD; rw [List.getElem?_eq_getElem (by omega)]; exact List.getElem_mem _
              have := HS.out _ this; omega
            rw [hx] at hcell
            rw [hm] at hcap
            clear b0
            have b0 : ((m : Int) + 1 == 0) = false := by rw [beq_eq_false_iff_ne]; omega
            rw [hm]
            have hm3 : m ≤ 2 := by omega
            obtain ⟨cl, hcl⟩ : ∃ cl : Bs, cl = [c] := ⟨_, rfl⟩
            have henc : Utf8.encode (c.toNat : Int) = ⟨cl.toArray⟩ := by rw [hcl]; exact enc_ascii c ha
            have hcl1 : cl.length ≤ 1 := by rw [hcl]; simp
            have HCL := Lib.hid hcl
            clear hcl
            have HX := Lib.hid hx
            have HM := Lib.hid hm
            have HNE := Lib.hid hne
            generalize ls.getLastD [] = x at *
            clear hp hd hx hne hlen hm h47
            go_wp2_with fail
            go_roundg (gk - 1)
            case measure => omega
            case rel =>
              obtain ⟨ho3, hg3⟩ := HS2.out
              have hset : ls.dropLast ++ [x ++ [c]] = ls.set m (x ++ [c]) := by rw [set_last _ _ HNE.out, HM.out]; rfl
              have hstr : strV (x ++ [c]) = .string ⟨(x ++ cl).toArray⟩ := by rw [HCL.out]; rfl
              have hlen : (ls.set m (x ++ [c])).length = m + 1 := by rw [List.length_set]; exact HM.out
              refine ⟨k + 1, by omega, ls.dropLast ++ [x ++ [c]], by rw [hset, hlen]; omega, ?_, HP'.out, ?_, ?_, ?_⟩
              · intro s hm
                rcases List.mem_append.1 hm with h | h
                · have := HS.out s ((List.dropLast_sublist ls).subset h); omega
                · simp at h; subst h
                  have : x ∈ ls := by rw [← HX.out]; unfold List.getD; rw [List.getElem?_eq_getElem (by rw [HM.out]; omega)]; exact List.getElem_mem _
                  have := HS.out _ this
                  simp; omega
              · rw [hset]
                unfold OwnS
                rw [hlen, List.map_set]
                rw [HM.out, hstr] at ho3
                rw [hstr]
                exact ho3
              · rw [hstr] at hg3
                exact Up.base HU2.out (show w.heap.size ≤ w.heap.size + 1 by omega) ((Below.refl _ _).setCell hg1 _)
              · rw [← HI2.out]
                exact Below.heap_setCell _ _ _ _ (by simp; omega)
          · have hd' : dig c = false := by simpa using hd
            have hcc : (c.toNat : Int) < 48 ∨ 57 < (c.toNat : Int) := by
              rcases Nat.lt_or_ge c.toNat 48 with g | g
              · exact .inl (by omega)
              · rcases Nat.lt_or_ge 57 c.toNat with g2 | g2
                · exact .inr (by omega)
                · exact absurd ((dig_iff c).2 ⟨g, g2⟩) hd
            obtain ⟨m, hm⟩ : ∃ m, ls.length = m + 1 := ⟨ls.length - 1, by omega⟩
            have hm3 : m ≤ 2 := by omega
            have b0 : ((m : Int) + 1 == 0) = false := by rw [beq_eq_false_iff_ne]; omega
            by_cases hdot : c = 46 ∧ m = 2
            · obtain ⟨rfl, rfl⟩ := hdot
              have HN := Lib.hid (hp.symm.trans (pieces_dot (by omega)))
              have HM := Lib.hid hm
              rw [hm]
              clear hp hd hd' hcc hm b0 b47 h47 hne hlen hcap
              have hk1 : (k : Int) + 1 ≤ (l.length : Int) := by omega
              have hk0 : (0 : Int) ≤ (k : Int) + 1 := by omega
              have hw1 : IntKind.i64.wrap ((k : Int) + 1) = (k : Int) + 1 := IntWalk.i64_in _ (by omega)
              go_wp2_with fail
              go_quiet (fail)
              go_wp2_with fail
              refine bodyPost_ret (results_tmp4 rfl _ _ _) rfl ⟨HU2.out.drewN _, ?_⟩
              rw [HN.out]
              refine ⟨_, by rw [← extract_mk]; rfl, ?_⟩
              have ho := HO2.out.1
              have ho2 := HO2.out
              unfold OwnS at ho2 ⊢
              rw [HM.out] at ho2 ⊢
              exact own_base (by omega) ho2
            · have hpn : pieces l [] = none := by
                rw [← hp, pieces_bad (by simp [h47]) hd' (by intro h; exact hdot ⟨h.1, by omega⟩)]
              have HN := Lib.hid hpn
              rw [hm]
              have hb46 : ((c.toNat : Int) == 46) = false ∨ ((m : Int) + 1 == 3) = false := by
                by_cases e : c = 46
                · right; rw [beq_eq_false_iff_ne]; intro e2; exact hdot ⟨e, by omega⟩
                · left; rw [beq_eq_false_iff_ne]; intro e2; exact e (UInt8.toNat.inj (by show c.toNat = 46; omega))
              clear hp hd hd' hm hpn hdot h47 hne hlen hcap
              rcases hcc with hcc | hcc
              all_goals
                rcases hb46 with hb46 | hb46
                all_goals
                  go_wp2_with fail
                  all_goals
                    refine bodyPost_ret (results_tmp4 rfl _ _ _) rfl ⟨HU2.out, ?_⟩
                    rw [HN.out]
                    exact ⟨_, _, _, rfl⟩
      · have hn0 := fun ty => Lib.run_next_any_at (P := Tryd.prog) wr w.heap.size ⟨l.toArray⟩ k ty hit (by rw [size_mk]; exact hlt)
        have hg := get_mk l k hlt
        rw [hc] at hg
        have hr := Go.Gz.decode_high ⟨l.toArray⟩ k (by rw [hg]; omega)
        have hu2 := fun j => (Lib.below_iterAt hu (Nat.le_refl _) ⟨l.toArray⟩ j : Up w (wr.iterAt w.heap.size ⟨l.toArray⟩ j))
        have hpn : pieces l [] = none := by
          rw [← hp]
          refine pieces_bad (by intro h; rw [h.1] at ha; exact ha (by decide)) ?_ (by intro h; rw [h.1] at ha; exact ha (by decide))
          unfold dig; simp; omega
        have HN := Lib.hid hpn
        generalize (Utf8.decode ⟨l.toArray⟩ k).1 = r at hn0 hr
        generalize (Utf8.decode ⟨l.toArray⟩ k).2 = rw at hn0
        have hu3 := hu2 (k + rw)
        generalize wr.iterAt w.heap.size ⟨l.toArray⟩ (k + rw) = w2 at hn0 hu3
        have HU2 := Lib.hid hu3
        have b47 : ((r : Int) == 47) = false := by rw [beq_eq_false_iff_ne]; omega
        have b46 : ((r : Int) == 46) = false := by rw [beq_eq_false_iff_ne]; omega
        have b57 : ¬ (r : Int) ≤ 57 := by omega
        have b48 : (48 : Int) ≤ r := by omega
        rcases hown.form with ⟨rfl, hls⟩ | ⟨g, cap, rfl, hg1, hg2, hcap⟩
        · clear hp hs hown hit hpn hu hdr hc ha hr hu2 hu3 hls
          go_wp2_with fail
          refine bodyPost_ret (results_tmp4 rfl _ _ _) rfl ⟨HU2.out, ?_⟩
          rw [HN.out]
          exact ⟨_, _, _, rfl⟩
        · clear hp hs hown hit hpn hu hdr hc ha hr hu2 hu3 hcap
          by_cases h0 : ls.length = 0
          · rw [h0]
            clear h0
            go_wp2_with fail
            refine bodyPost_ret (results_tmp4 rfl _ _ _) rfl ⟨HU2.out, ?_⟩
            rw [HN.out]
            exact ⟨_, _, _, rfl⟩
          · have b0 : ((ls.length : Int) == 0) = false := by rw [beq_eq_false_iff_ne]; omega
            go_wp2_with fail
            refine bodyPost_ret (results_tmp4 rfl _ _ _) rfl ⟨HU2.out, ?_⟩
            rw [HN.out]
            exact ⟨_, _, _, rfl⟩
    · have hn := fun ty => Lib.run_next_end_at (P := Tryd.prog) wr w.heap.size ⟨l.toArray⟩ k ty hit (by rw [size_mk]; exact hlt)
      have hpe : pieces l [] = if ls.length = 3 then some (ls, [], false) else none := by
        rw [← hp, List.drop_eq_nil_of_le (by omega)]; rfl
      have HE := Lib.hid hpe
      rcases hown.form with ⟨rfl, rfl⟩ | ⟨g, cap, rfl, hg1, hg2, hcap⟩
      · clear hp hs hown hit hpe hu
        go_wp2_with fail
        refine bodyPost_ret (results_tmp4 rfl _ _ _) rfl ⟨HU.out, ?_⟩
        rw [HE.out]
        exact ⟨_, _, _, rfl⟩
      · by_cases hl3 : ls.length = 3
        · clear hp hs hown hit hpe hu
          have H3 := Lib.hid hl3
          rw [if_pos hl3] at HE
          rw [hl3]
          clear hl3 hcap
          go_wp2_with fail
          refine bodyPost_ret (results_tmp4 rfl _ _ _) rfl ⟨HU.out, ?_⟩
          rw [HE.out]
          refine ⟨_, rfl, ?_⟩
          have ho2 := HO.out
          unfold OwnS at ho2 ⊢
          rw [H3.out] at ho2 ⊢
          exact own_base (by omega) ho2
        · have hb : ((ls.length : Int) == 3) = false := by rw [beq_eq_false_iff_ne]; omega
          clear hp hs hown hit hpe hu
          go_wp2_with fail
          refine bodyPost_ret (results_tmp4 rfl _ _ _) rfl ⟨HU.out, ?_⟩
          rw [HE.out, if_neg hl3]
          exact ⟨_, _, _, rfl⟩
end Go.Proofs.YteeenbhmdacdiaaDoor
