/- The abstract machine, text 4 of 7: calls are evaluated once, and hold in every world. -/
import Derived.Test.YtongfkckenahnaaGreatDoorEvc
/- A call, put together. -/
namespace Go.Ev
variable {E : Env} {P : Program} {G : Nat} {s s' : HS} {p : FP} {ν : Nu} {V : Nat → Prop} {w : World}
variable {ρ : Operand → SV} {o : Oper} {x : Nx}
theorem call_builtin {σ : Operand → Value} {c : Call} {t : TypeId} {b : Builtin} (hc : c.callee = .builtin b) :
    (do let d ← resolve σ c t; invoke d.target d.args : Sem Next) = Go.builtin b c.argTypes t (c.args.map fun | .const _ => true | _ => false) (c.args.map σ) := by
  simp only [resolve, hc]; rfl
theorem extract_one {α : Type} (a : α) (l : List α) : (a :: l).toArray.extract 1 (a :: l).toArray.size = l.toArray := by
  apply Array.ext'
  simp
theorem invoke_method (y : Value) (l : List Value) (name : String) (cap : Array Value) : invoke (.fn (.method name) cap) (y :: l).toArray = callMethod y name l.toArray := by
  simp only [invoke, extract_one]
  rfl
theorem call_invoke {σ : Operand → Value} {c : Call} {t : TypeId} {r : Operand} {name : String} (hc : c.callee = .invoke r name) {l : List Value} (hl : c.args.map σ = l.toArray) :
    (do let d ← resolve σ c t; invoke d.target d.args : Sem Next) = callMethod (σ r) name l.toArray := by
  rw [← invoke_method (σ r) l name #[]]
  simp only [resolve, hc, hl]
  have : #[σ r] ++ l.toArray = (σ r :: l).toArray := by simp
  rw [this]
  rfl
theorem call_value {σ : Operand → Value} {c : Call} {t : TypeId} {f : Operand} {fn : Fn} {first cap : Array Value} (hc : c.callee = .value f) (hf : σ f = .func fn first cap) :
    (do let d ← resolve σ c t; invoke d.target d.args : Sem Next) = invoke (.fn fn cap) (first ++ c.args.map σ) := by
  simp only [resolve, hc, hf]; rfl
theorem run_getLoop {w : World} {l : Nat} {r : Loop} (h : w.heap[l]? = some (.loop r)) : (Instr.getLoop l).run P w = .ok r w := by
  rw [Instr.getLoop, Sem.run_bind, run_getO h (by simp)]; rfl
theorem es_call (hE : EnvOK E P) (hR : Rel P G s ν V w) (hf : Fresh s s' V) (hρ : ∀ y, Val V (ρ y)) {c : Call} (ho : o.op = .call c) (h : Ok (ex_call E ρ o c) s x s' p) : Goal P G s ν V w s' p (execOp (fun y => den ν (ρ y)) o) x := by
  rw [exec_call ho]
  unfold ex_call callA at h
  have ha := val_args hρ c.args.toList
  have hd := deq_args ν ρ c.args
  generalize mapR ρ c.args.toList = as at h ha hd
  split at h
  · rename_i hc
    rw [call_builtin hc, hd]
    split at h
    · rename_i t y h1
      rw [toArray_one h1]
      exact goal_val h (fun y p1 h1 => run_lenA hE hR h1)
    · exact (ok_fail h).elim
  · rename_i hc
    rw [call_builtin hc, hd]
    split at h
    · rename_i t u a y h1
      rw [toArray_two h1]
      exact goal_val h (fun y p1 h1 => run_appendA hE hR hf ha.1 ha.2.1 h1)
    · exact (ok_fail h).elim
  · rename_i hc
    rw [call_builtin hc, hd]
    split at h
    · rename_i t ts d y h1
      have h1 : c.argTypes = (t :: ts).toArray := Array.ext' (by simpa using h1)
      rw [h1]
      exact goal_val h (fun y p1 h1 => run_copyA hE hR ha.2.1 h1)
    · exact (ok_fail h).elim
  · rename_i hc
    rw [call_builtin hc, hd]
    split at h
    · rename_i t ts b k h1
      have h1 : c.argTypes = (t :: ts).toArray := Array.ext' (by simpa using h1)
      rw [h1]
      exact es_delete hE hR h
    · exact (ok_fail h).elim
  · rename_i hc
    rw [call_builtin hc, hd]
    split at h
    · rename_i t ts b h1
      have h1 : c.argTypes = (t :: ts).toArray := Array.ext' (by simpa using h1)
      rw [h1]
      exact es_clear hE hR h
    · rename_i t ts b z i cp h1
      have h1 : c.argTypes = (t :: ts).toArray := Array.ext' (by simpa using h1)
      rw [h1]
      obtain ⟨d, s1, p1, p2, h2, h3, rfl⟩ := ok_bind.1 h
      obtain ⟨hdd, rfl, rfl⟩ := ok_und.1 h2
      obtain ⟨rfl, rfl, rfl⟩ := ok_pure.1 h3
      exact goal_same (x := .v (.tuple #[])) hR (run_v (by simp [Builtin.clear_, run_underlying (und_ok hE hdd), den, denL])) trivial _
    · rename_i t ts n cp h1
      have h1 : c.argTypes = (t :: ts).toArray := Array.ext' (by simpa using h1)
      rw [h1]
      obtain ⟨d, s1, p1, p2, h2, h3, rfl⟩ := ok_bind.1 h
      obtain ⟨hdd, rfl, rfl⟩ := ok_und.1 h2
      obtain ⟨rfl, rfl, rfl⟩ := ok_pure.1 h3
      exact goal_same (x := .v (.tuple #[])) hR (run_v (by simp [Builtin.clear_, run_underlying (und_ok hE hdd), den, denL])) trivial _
    · rename_i t ts b z i len cp hne h1
      have h1 : c.argTypes = (t :: ts).toArray := Array.ext' (by simpa using h1)
      rw [h1]
      exact run_clearA hE hR (fun h => by subst h; exact hne rfl) h
    · exact (ok_fail h).elim
  · rename_i hc
    rw [call_builtin hc, hd]
    split at h
    · rename_i y
      exact goal_val h (fun y p1 h1 => run_dataA hE hR ha.1 h1)
    · exact (ok_fail h).elim
  · rename_i hc
    rw [call_builtin hc, hd]
    split at h
    · rename_i t u y n h1
      rw [toArray_two h1]
      exact goal_val h (fun y p1 h1 => run_ustrA hE hR h1)
    · exact (ok_fail h).elim
  · rename_i hc
    rw [call_builtin hc, hd]
    split at h
    · rename_i t y h1
      rw [toArray_one h1]
      exact goal_val h (fun y p1 h1 => run_capA hE hR ha.1 h1)
    · exact (ok_fail h).elim
  · rename_i b _ _ _ _ _ _ _ _ hc
    rw [call_builtin hc, hd]
    obtain ⟨vs, s1, p1, p2, g1, g2, rfl⟩ := ok_bind.1 h
    obtain ⟨hv, rfl, rfl⟩ := ok_toMs.1 g1
    obtain ⟨r, s2, p3, p4, g3, g4, rfl⟩ := ok_bind.1 g2
    obtain ⟨hr, rfl, rfl⟩ := ok_plainM.1 g3
    rw [hE.prog] at hr
    have hrun := purely_run _ hr w
    rw [← toVs_den ν as hv] at hrun
    cases r with
    | value v =>
      obtain ⟨rfl, rfl, rfl⟩ := ok_pure.1 g4
      exact ⟨Nat.le_refl _, ν, _, w, hrun, NxR.plain w ν v, by rw [VN_self]; exact ofV_val V v, post_refl hR _⟩
    | _ => exact (ok_fail g4).elim
  · rename_i f hc
    have hvf := hρ f
    split at h
    · rename_i g first cap h1
      rw [h1] at hvf
      rw [appR_eq, appR_eq] at h
      have hden : den ν (ρ f) = .func (.func g) (denL ν first).toArray (denL ν cap).toArray := by rw [h1]; simp [den, denFn]
      rw [call_value hc hden, hd]
      have e : invoke (.fn (.func g) (denL ν cap).toArray) ((denL ν first).toArray ++ (denL ν as).toArray) = callFunc g (denL ν (first ++ (as ++ cap))).toArray := by
        simp [invoke, denL_append]
      rw [e]
      exact run_enterM hE hR hf (valL_append hvf.2.1 (valL_append ha hvf.2.2)) h
    · rename_i l first cap h1
      rw [h1] at hvf
      obtain ⟨ob, s1, p1, p2, g1, g2, rfl⟩ := ok_bind.1 h
      obtain ⟨hg, rfl, rfl⟩ := ok_get.1 g1
      split at g2
      · rename_i st pe fid tm n ps asg body d
        rcases ok_bif.1 g2 with ⟨hc2, g3⟩ | ⟨_, g3⟩
        case inr => exact (ok_fail g3).elim
        obtain ⟨rfl, rfl, rfl⟩ := ok_pure.1 g3
        rw [appR_eq] at hc2 ⊢
        rw [lenR_eq] at hc2
        have hc2 := beq_true hc2
        have hden : den ν (ρ f) = .func (.yield (ν.ρ l)) (denL ν first).toArray (denL ν []).toArray := by rw [h1]; simp [den, denFn]
        rw [call_value hc hden, hd]
        obtain ⟨r, hr, hob⟩ := hR.blk l _ hg
        obtain ⟨fid', rfl⟩ := hob
        refine ⟨Nat.le_refl _, ν, _, w, ?_, .round l _ _ hr hc2.symm, ?_, post_refl hR _⟩
        · have hgl := run_getLoop (P := P) hr
          simp only [invoke, Instr.yield, Sem.run_bind, hgl, Result.andThen_ok]
          have hsz : ¬ (((denL ν first).toArray ++ (denL ν as).toArray).size ≠ ps.size) := by
            rw [hc2]; simp [denL_length]
          simp [denL_append, denL_length, hc2]
        · rw [VN_self]
          exact ⟨(hR.cl l _ hg).1, valL_append hvf.2.1 ha⟩
      · exact (ok_fail g2).elim
    · rename_i name first cap h1
      rw [h1] at hvf
      rw [appR_eq] at h
      have hden : den ν (ρ f) = .func (.method name) (denL ν first).toArray (denL ν cap).toArray := by rw [h1]; simp [den, denFn]
      rw [call_value hc hden, hd]
      have hval := valL_append hvf.2.1 ha
      have hcat : (denL ν first).toArray ++ (denL ν as).toArray = (denL ν (first ++ as)).toArray := by simp [denL_append]
      rw [hcat]
      split at h
      · rename_i t y as' h2
        rw [h2] at hval ⊢
        split at h
        · rename_i g hm
          have e : invoke (.fn (.method name) (denL ν cap).toArray) (denL ν (.ifc t y :: as')).toArray = callMethod (.iface t (den ν y)) name (denL ν as').toArray := by
            simp only [denL, den]
            exact invoke_method _ _ _ _
          rw [e]
          exact run_callMethod hE hR hf hval.1 hval.2 hm h
        · exact (ok_fail h).elim
      · exact (ok_fail h).elim
    · exact (ok_fail h).elim
  · rename_i r name hc
    have hvr := hρ r
    rw [call_invoke hc hd]
    split at h
    · rename_i t y h1
      rw [h1] at hvr
      rw [h1]
      split at h
      · rename_i g hm
        exact run_callMethod hE hR hf hvr ha hm h
      · exact (ok_fail h).elim
    · rename_i t y h1
      rw [h1]
      split at h
      · rename_i g hm
        have := run_callMethod (name := name) hE hR hf (ofV_val V y) ha hm h
        rw [ofV_den] at this
        simp only [den]
        exact this
      · exact (ok_fail h).elim
    · exact (ok_fail h).elim
theorem es_defer (hR : Rel P G s ν V w) (hρ : ∀ y, Val V (ρ y)) {c : Call} (ho : o.op = .defer c) (h : Ok (ex_defer E ρ c) s x s' p) : Goal P G s ν V w s' p (execOp (fun y => den ν (ρ y)) o) x := by
  have ha := val_args hρ c.args.toList
  have hd := deq_args ν ρ c.args
  unfold ex_defer at h
  generalize mapR ρ c.args.toList = as at h ha hd
  split at h
  · rename_i f hc
    have hvf := hρ f
    split at h
    · rename_i g a b h1
      rw [h1] at hvf
      obtain ⟨rfl, rfl, rfl⟩ := ok_pure.1 h
      refine ⟨Nat.le_refl _, ν, _, w, ?_, .dfr g a b as, ?_, post_refl hR _⟩
      · have hden : den ν (ρ f) = .func (.func g) (denL ν a).toArray (denL ν b).toArray := by rw [h1]; simp [den, denFn]
        simp [execOp, ho, resolve, hc, hden, hd, Deferred.ofValue, denL_append]
      · rw [VN_self]
        exact ⟨hvf, ha⟩
    · exact (ok_fail h).elim
  · exact (ok_fail h).elim
end Go.Ev
/- An operation. -/
namespace Go.Ev
variable {E : Env} {P : Program} {G : Nat} {s s' : HS} {p : FP} {ν : Nu} {V : Nat → Prop} {w : World}
variable {ρ : Operand → SV} {o : Oper} {x : Nx}
theorem exec_sound (hE : EnvOK E P) (hR : Rel P G s ν V w) (hf : Fresh s s' V) (hρ : ∀ y, Val V (ρ y)) (h : Ok (exec E ρ o) s x s' p) : Goal P G s ν V w s' p (execOp (fun y => den ν (ρ y)) o) x := by
  rw [exec_eq] at h
  unfold execM at h
  split at h
  · rename_i ho; exact es_move hR hρ (.inl ho) h
  · rename_i ho; exact es_move hR hρ (.inr ho) h
  · rename_i ho; exact es_pick hR hρ ho h
  · rename_i ho; exact es_alloc hE hR hf ho h
  · rename_i ho; exact es_box hR hf hρ ho h
  · rename_i ho; exact es_build hE hR hρ ho h
  · rename_i ho; exact es_buildSlice hE hR hf hρ ho h
  · rename_i ho; exact es_load hE hR hρ ho h
  · rename_i ho; exact es_store hE hR hρ ho h
  · rename_i ho; exact es_nilCheck hE hR hρ ho h
  · rename_i ho; exact es_binOp hE hR hρ ho h
  · rename_i ho; exact es_unOp hE hR hρ ho h
  · rename_i ho; exact es_convert hE hR hf hρ ho h
  · rename_i ho; exact es_makeInterface hE hR hρ ho h
  · rename_i ho; exact es_makeFunc hR hρ ho h
  · rename_i ho; exact es_makeMap hE hR hf ho h
  · rename_i ho; exact es_makeSlice hE hR hf ho h
  · rename_i ho; exact es_slice hE hR hρ ho h
  · rename_i ho; exact es_fieldAddr hE hR hρ ho h
  · rename_i ho; exact es_field hE hR hρ ho h
  · rename_i ho; exact es_indexAddr hE hR hρ ho h
  · rename_i ho; exact es_index hE hR hρ ho h
  · rename_i ho; exact es_lookup hE hR hρ ho h
  · rename_i ho; exact es_mapUpdate hE hR hρ (.inl ho) h
  · rename_i ho; exact es_mapUpdate hE hR hρ (.inr ho) h
  · rename_i ho; exact es_mapEntry hE hR hρ ho h
  · rename_i ho; exact es_entryStore hR hρ ho h
  · rename_i ho; exact es_range hE hR hf ho h
  · rename_i ho; exact es_next hR ho h
  · rename_i ho; exact es_extract hE hR hρ ho h
  · rename_i ho; exact es_typeAssert hE hR hρ ho h
  · rename_i ho; exact es_call hE hR hf hρ ho h
  · rename_i ho; exact es_defer hR hρ ho h
  · exact (ok_fail h).elim
end Go.Ev
/- A run of an operation hangs on what it touches alone. -/
namespace Go.Ev
theorem loc_cond {α} {c : Bool} {x y : M α} (hx : Loc x) (hy : Loc y) : Loc (bif c then x else y) := by
  cases c
  · exact hy
  · exact hx
theorem loc_val {m : M SV} (h : Loc m) : Loc (val m) := loc_bind h (fun _ => loc_pure _)
theorem loc_unit {m : M Unit} (h : Loc m) : Loc (unit m) := loc_bind h (fun _ => loc_pure _)
theorem loc_asInt : ∀ x, Loc (asInt x) := by
  intro x; unfold asInt
  split
  · exact loc_pure _
  · exact loc_fail _
theorem loc_asBool : ∀ x, Loc (asBool x) := by
  intro x; unfold asBool
  split
  · exact loc_pure _
  · exact loc_fail _
theorem loc_fillS (pl : Nat → Option (Nat × Nat)) : ∀ (l : List (Nat × SV)) (cs : List SV), Loc (fillS pl cs l)
  | [], cs => loc_pure _
  | (i, x) :: rest, cs => by
    unfold fillS
    split
    · exact loc_cond (loc_fillS pl rest _) (loc_fail _)
    · exact loc_fail _
theorem loc_info (E : Env) (t : TypeId) : Loc (Env.info E t) := by
  unfold Env.info
  with_reducible repeat' first | exact loc_pure _ | exact loc_fail _ | exact loc_asrt _ _ | exact loc_get _ | exact loc_put _ _ | exact loc_del _ | exact loc_new _ | exact loc_asInt _ | exact loc_asBool _ | exact loc_fillS _ _ _ | refine loc_val ?_ | refine loc_unit ?_ | refine loc_bind ?_ (fun _ => ?_) | refine loc_br ?_ ?_ | refine loc_cond ?_ ?_ | split
theorem loc_und (E : Env) (t : TypeId) : Loc (Env.und E t) := by
  unfold Env.und
  with_reducible repeat' first | exact loc_pure _ | exact loc_fail _ | exact loc_asrt _ _ | exact loc_get _ | exact loc_put _ _ | exact loc_del _ | exact loc_new _ | exact loc_asInt _ | exact loc_asBool _ | exact loc_fillS _ _ _ | exact loc_info _ _ | refine loc_val ?_ | refine loc_unit ?_ | refine loc_bind ?_ (fun _ => ?_) | refine loc_br ?_ ?_ | refine loc_cond ?_ ?_ | split
theorem loc_zero (E : Env) (t : TypeId) : Loc (Env.zero E t) := by
  unfold Env.zero
  with_reducible repeat' first | exact loc_pure _ | exact loc_fail _ | exact loc_asrt _ _ | exact loc_get _ | exact loc_put _ _ | exact loc_del _ | exact loc_new _ | exact loc_asInt _ | exact loc_asBool _ | exact loc_fillS _ _ _ | exact loc_info _ _ | exact loc_und _ _ | refine loc_val ?_ | refine loc_unit ?_ | refine loc_bind ?_ (fun _ => ?_) | refine loc_br ?_ ?_ | refine loc_cond ?_ ?_ | split
theorem loc_cellsOf (b : Nat) : Loc (cellsOf b) := by
  unfold cellsOf
  with_reducible repeat' first | exact loc_pure _ | exact loc_fail _ | exact loc_asrt _ _ | exact loc_get _ | exact loc_put _ _ | exact loc_del _ | exact loc_new _ | exact loc_asInt _ | exact loc_asBool _ | exact loc_fillS _ _ _ | exact loc_info _ _ | exact loc_und _ _ | exact loc_zero _ _ | refine loc_val ?_ | refine loc_unit ?_ | refine loc_bind ?_ (fun _ => ?_) | refine loc_br ?_ ?_ | refine loc_cond ?_ ?_ | split
theorem loc_mapOf (b : Nat) : Loc (mapOf b) := by
  unfold mapOf
  with_reducible repeat' first | exact loc_pure _ | exact loc_fail _ | exact loc_asrt _ _ | exact loc_get _ | exact loc_put _ _ | exact loc_del _ | exact loc_new _ | exact loc_asInt _ | exact loc_asBool _ | exact loc_fillS _ _ _ | exact loc_info _ _ | exact loc_und _ _ | exact loc_zero _ _ | exact loc_cellsOf _ | refine loc_val ?_ | refine loc_unit ?_ | refine loc_bind ?_ (fun _ => ?_) | refine loc_br ?_ ?_ | refine loc_cond ?_ ?_ | split
theorem loc_loadVar (E : Env) (t : TypeId) (p : SV) : Loc (loadVar E t p) := by
  unfold loadVar
  with_reducible repeat' first | exact loc_pure _ | exact loc_fail _ | exact loc_asrt _ _ | exact loc_get _ | exact loc_put _ _ | exact loc_del _ | exact loc_new _ | exact loc_asInt _ | exact loc_asBool _ | exact loc_fillS _ _ _ | exact loc_info _ _ | exact loc_und _ _ | exact loc_zero _ _ | exact loc_cellsOf _ | exact loc_mapOf _ | refine loc_val ?_ | refine loc_unit ?_ | refine loc_bind ?_ (fun _ => ?_) | refine loc_br ?_ ?_ | refine loc_cond ?_ ?_ | split
theorem loc_storeAt (b : Nat) (k : Nat) (xs : List SV) : Loc (storeAt b k xs) := by
  unfold storeAt
  with_reducible repeat' first | exact loc_pure _ | exact loc_fail _ | exact loc_asrt _ _ | exact loc_get _ | exact loc_put _ _ | exact loc_del _ | exact loc_new _ | exact loc_asInt _ | exact loc_asBool _ | exact loc_fillS _ _ _ | exact loc_info _ _ | exact loc_und _ _ | exact loc_zero _ _ | exact loc_cellsOf _ | exact loc_mapOf _ | exact loc_loadVar _ _ _ | refine loc_val ?_ | refine loc_unit ?_ | refine loc_bind ?_ (fun _ => ?_) | refine loc_br ?_ ?_ | refine loc_cond ?_ ?_ | split
theorem loc_storeVar (E : Env) (t : TypeId) (p x : SV) : Loc (storeVar E t p x) := by
  unfold storeVar
  with_reducible repeat' first | exact loc_pure _ | exact loc_fail _ | exact loc_asrt _ _ | exact loc_get _ | exact loc_put _ _ | exact loc_del _ | exact loc_new _ | exact loc_asInt _ | exact loc_asBool _ | exact loc_fillS _ _ _ | exact loc_info _ _ | exact loc_und _ _ | exact loc_zero _ _ | exact loc_cellsOf _ | exact loc_mapOf _ | exact loc_loadVar _ _ _ | exact loc_storeAt _ _ _ | refine loc_val ?_ | refine loc_unit ?_ | refine loc_bind ?_ (fun _ => ?_) | refine loc_br ?_ ?_ | refine loc_cond ?_ ?_ | split
theorem loc_newRow (t : TypeId) (xs : List SV) (z : Bool) : Loc (newRow t xs z) := by
  unfold newRow
  with_reducible repeat' first | exact loc_pure _ | exact loc_fail _ | exact loc_asrt _ _ | exact loc_get _ | exact loc_put _ _ | exact loc_del _ | exact loc_new _ | exact loc_asInt _ | exact loc_asBool _ | exact loc_fillS _ _ _ | exact loc_info _ _ | exact loc_und _ _ | exact loc_zero _ _ | exact loc_cellsOf _ | exact loc_mapOf _ | exact loc_loadVar _ _ _ | exact loc_storeAt _ _ _ | exact loc_storeVar _ _ _ _ | refine loc_val ?_ | refine loc_unit ?_ | refine loc_bind ?_ (fun _ => ?_) | refine loc_br ?_ ?_ | refine loc_cond ?_ ?_ | split
theorem loc_newVar (E : Env) (t : TypeId) (x : SV) : Loc (newVar E t x) := by
  unfold newVar
  with_reducible repeat' first | exact loc_pure _ | exact loc_fail _ | exact loc_asrt _ _ | exact loc_get _ | exact loc_put _ _ | exact loc_del _ | exact loc_new _ | exact loc_asInt _ | exact loc_asBool _ | exact loc_fillS _ _ _ | exact loc_info _ _ | exact loc_und _ _ | exact loc_zero _ _ | exact loc_cellsOf _ | exact loc_mapOf _ | exact loc_loadVar _ _ _ | exact loc_storeAt _ _ _ | exact loc_storeVar _ _ _ _ | exact loc_newRow _ _ _ | refine loc_val ?_ | refine loc_unit ?_ | refine loc_bind ?_ (fun _ => ?_) | refine loc_br ?_ ?_ | refine loc_cond ?_ ?_ | split
theorem loc_part (E : Env) (t : TypeId) (cs : List SV) (off : Nat) : Loc (part E t cs off) := by
  unfold part
  with_reducible repeat' first | exact loc_pure _ | exact loc_fail _ | exact loc_asrt _ _ | exact loc_get _ | exact loc_put _ _ | exact loc_del _ | exact loc_new _ | exact loc_asInt _ | exact loc_asBool _ | exact loc_fillS _ _ _ | exact loc_info _ _ | exact loc_und _ _ | exact loc_zero _ _ | exact loc_cellsOf _ | exact loc_mapOf _ | exact loc_loadVar _ _ _ | exact loc_storeAt _ _ _ | exact loc_storeVar _ _ _ _ | exact loc_newRow _ _ _ | exact loc_newVar _ _ _ | refine loc_val ?_ | refine loc_unit ?_ | refine loc_bind ?_ (fun _ => ?_) | refine loc_br ?_ ?_ | refine loc_cond ?_ ?_ | split
theorem loc_plainM {α : Type} (E : Env) (s : Sem α) (w : String) : Loc (plainM E s w) := by
  unfold plainM
  with_reducible repeat' first | exact loc_pure _ | exact loc_fail _ | exact loc_asrt _ _ | exact loc_get _ | exact loc_put _ _ | exact loc_del _ | exact loc_new _ | exact loc_asInt _ | exact loc_asBool _ | exact loc_fillS _ _ _ | exact loc_info _ _ | exact loc_und _ _ | exact loc_zero _ _ | exact loc_cellsOf _ | exact loc_mapOf _ | exact loc_loadVar _ _ _ | exact loc_storeAt _ _ _ | exact loc_storeVar _ _ _ _ | exact loc_newRow _ _ _ | exact loc_newVar _ _ _ | exact loc_part _ _ _ _ | refine loc_val ?_ | refine loc_unit ?_ | refine loc_bind ?_ (fun _ => ?_) | refine loc_br ?_ ?_ | refine loc_cond ?_ ?_ | split
theorem loc_toM (x : SV) (w : String) : Loc (toM x w) := by
  unfold toM
  with_reducible repeat' first | exact loc_pure _ | exact loc_fail _ | exact loc_asrt _ _ | exact loc_get _ | exact loc_put _ _ | exact loc_del _ | exact loc_new _ | exact loc_asInt _ | exact loc_asBool _ | exact loc_fillS _ _ _ | exact loc_info _ _ | exact loc_und _ _ | exact loc_zero _ _ | exact loc_cellsOf _ | exact loc_mapOf _ | exact loc_loadVar _ _ _ | exact loc_storeAt _ _ _ | exact loc_storeVar _ _ _ _ | exact loc_newRow _ _ _ | exact loc_newVar _ _ _ | exact loc_part _ _ _ _ | exact loc_plainM _ _ _ | refine loc_val ?_ | refine loc_unit ?_ | refine loc_bind ?_ (fun _ => ?_) | refine loc_br ?_ ?_ | refine loc_cond ?_ ?_ | split
theorem loc_toMs (x : List SV) (w : String) : Loc (toMs x w) := by
  unfold toMs
  with_reducible repeat' first | exact loc_pure _ | exact loc_fail _ | exact loc_asrt _ _ | exact loc_get _ | exact loc_put _ _ | exact loc_del _ | exact loc_new _ | exact loc_asInt _ | exact loc_asBool _ | exact loc_fillS _ _ _ | exact loc_info _ _ | exact loc_und _ _ | exact loc_zero _ _ | exact loc_cellsOf _ | exact loc_mapOf _ | exact loc_loadVar _ _ _ | exact loc_storeAt _ _ _ | exact loc_storeVar _ _ _ _ | exact loc_newRow _ _ _ | exact loc_newVar _ _ _ | exact loc_part _ _ _ _ | exact loc_plainM _ _ _ | exact loc_toM _ _ | refine loc_val ?_ | refine loc_unit ?_ | refine loc_bind ?_ (fun _ => ?_) | refine loc_br ?_ ?_ | refine loc_cond ?_ ?_ | split
theorem loc_eqA (E : Env) (op : BinOp) (t : TypeId) (ox oy : Operand) (x y : SV) (neg : Bool) : Loc (eqA E op t ox oy x y neg) := by
  unfold eqA
  with_reducible repeat' first | exact loc_pure _ | exact loc_fail _ | exact loc_asrt _ _ | exact loc_get _ | exact loc_put _ _ | exact loc_del _ | exact loc_new _ | exact loc_asInt _ | exact loc_asBool _ | exact loc_fillS _ _ _ | exact loc_info _ _ | exact loc_und _ _ | exact loc_zero _ _ | exact loc_cellsOf _ | exact loc_mapOf _ | exact loc_loadVar _ _ _ | exact loc_storeAt _ _ _ | exact loc_storeVar _ _ _ _ | exact loc_newRow _ _ _ | exact loc_newVar _ _ _ | exact loc_part _ _ _ _ | exact loc_plainM _ _ _ | exact loc_toM _ _ | exact loc_toMs _ _ | refine loc_val ?_ | refine loc_unit ?_ | refine loc_bind ?_ (fun _ => ?_) | refine loc_br ?_ ?_ | refine loc_cond ?_ ?_ | split
theorem loc_binA (E : Env) (op : BinOp) (t : TypeId) (ox oy : Operand) (x y : SV) : Loc (binA E op t ox oy x y) := by
  unfold binA
  with_reducible repeat' first | exact loc_pure _ | exact loc_fail _ | exact loc_asrt _ _ | exact loc_get _ | exact loc_put _ _ | exact loc_del _ | exact loc_new _ | exact loc_asInt _ | exact loc_asBool _ | exact loc_fillS _ _ _ | exact loc_info _ _ | exact loc_und _ _ | exact loc_zero _ _ | exact loc_cellsOf _ | exact loc_mapOf _ | exact loc_loadVar _ _ _ | exact loc_storeAt _ _ _ | exact loc_storeVar _ _ _ _ | exact loc_newRow _ _ _ | exact loc_newVar _ _ _ | exact loc_part _ _ _ _ | exact loc_plainM _ _ _ | exact loc_toM _ _ | exact loc_toMs _ _ | exact loc_eqA _ _ _ _ _ _ _ _ | refine loc_val ?_ | refine loc_unit ?_ | refine loc_bind ?_ (fun _ => ?_) | refine loc_br ?_ ?_ | refine loc_cond ?_ ?_ | split
theorem loc_bound (x : SV) (y : Nat) : Loc (bound x y) := by
  unfold bound
  with_reducible repeat' first | exact loc_pure _ | exact loc_fail _ | exact loc_asrt _ _ | exact loc_get _ | exact loc_put _ _ | exact loc_del _ | exact loc_new _ | exact loc_asInt _ | exact loc_asBool _ | exact loc_fillS _ _ _ | exact loc_info _ _ | exact loc_und _ _ | exact loc_zero _ _ | exact loc_cellsOf _ | exact loc_mapOf _ | exact loc_loadVar _ _ _ | exact loc_storeAt _ _ _ | exact loc_storeVar _ _ _ _ | exact loc_newRow _ _ _ | exact loc_newVar _ _ _ | exact loc_part _ _ _ _ | exact loc_plainM _ _ _ | exact loc_toM _ _ | exact loc_toMs _ _ | exact loc_eqA _ _ _ _ _ _ _ _ | exact loc_binA _ _ _ _ _ _ _ | refine loc_val ?_ | refine loc_unit ?_ | refine loc_bind ?_ (fun _ => ?_) | refine loc_br ?_ ?_ | refine loc_cond ?_ ?_ | split
theorem loc_boundsM (len cap : Nat) (lo hi mx : Option SV) : Loc (boundsM len cap lo hi mx) := by
  unfold boundsM
  with_reducible repeat' first | exact loc_pure _ | exact loc_fail _ | exact loc_asrt _ _ | exact loc_get _ | exact loc_put _ _ | exact loc_del _ | exact loc_new _ | exact loc_asInt _ | exact loc_asBool _ | exact loc_fillS _ _ _ | exact loc_info _ _ | exact loc_und _ _ | exact loc_zero _ _ | exact loc_cellsOf _ | exact loc_mapOf _ | exact loc_loadVar _ _ _ | exact loc_storeAt _ _ _ | exact loc_storeVar _ _ _ _ | exact loc_newRow _ _ _ | exact loc_newVar _ _ _ | exact loc_part _ _ _ _ | exact loc_plainM _ _ _ | exact loc_toM _ _ | exact loc_toMs _ _ | exact loc_eqA _ _ _ _ _ _ _ _ | exact loc_binA _ _ _ _ _ _ _ | exact loc_bound _ _ | refine loc_val ?_ | refine loc_unit ?_ | refine loc_bind ?_ (fun _ => ?_) | refine loc_br ?_ ?_ | refine loc_cond ?_ ?_ | split
theorem loc_sliceA (E : Env) (t : TypeId) (x : SV) (lo hi mx : Option SV) : Loc (sliceA E t x lo hi mx) := by
  unfold sliceA
  with_reducible repeat' first | exact loc_pure _ | exact loc_fail _ | exact loc_asrt _ _ | exact loc_get _ | exact loc_put _ _ | exact loc_del _ | exact loc_new _ | exact loc_asInt _ | exact loc_asBool _ | exact loc_fillS _ _ _ | exact loc_info _ _ | exact loc_und _ _ | exact loc_zero _ _ | exact loc_cellsOf _ | exact loc_mapOf _ | exact loc_loadVar _ _ _ | exact loc_storeAt _ _ _ | exact loc_storeVar _ _ _ _ | exact loc_newRow _ _ _ | exact loc_newVar _ _ _ | exact loc_part _ _ _ _ | exact loc_plainM _ _ _ | exact loc_toM _ _ | exact loc_toMs _ _ | exact loc_eqA _ _ _ _ _ _ _ _ | exact loc_binA _ _ _ _ _ _ _ | exact loc_bound _ _ | exact loc_boundsM _ _ _ _ _ | refine loc_val ?_ | refine loc_unit ?_ | refine loc_bind ?_ (fun _ => ?_) | refine loc_br ?_ ?_ | refine loc_cond ?_ ?_ | split
theorem loc_fieldAt (E : Env) (s : TypeId) (x : SV) (f : Nat) : Loc (fieldAt E s x f) := by
  unfold fieldAt
  with_reducible repeat' first | exact loc_pure _ | exact loc_fail _ | exact loc_asrt _ _ | exact loc_get _ | exact loc_put _ _ | exact loc_del _ | exact loc_new _ | exact loc_asInt _ | exact loc_asBool _ | exact loc_fillS _ _ _ | exact loc_info _ _ | exact loc_und _ _ | exact loc_zero _ _ | exact loc_cellsOf _ | exact loc_mapOf _ | exact loc_loadVar _ _ _ | exact loc_storeAt _ _ _ | exact loc_storeVar _ _ _ _ | exact loc_newRow _ _ _ | exact loc_newVar _ _ _ | exact loc_part _ _ _ _ | exact loc_plainM _ _ _ | exact loc_toM _ _ | exact loc_toMs _ _ | exact loc_eqA _ _ _ _ _ _ _ _ | exact loc_binA _ _ _ _ _ _ _ | exact loc_bound _ _ | exact loc_boundsM _ _ _ _ _ | exact loc_sliceA _ _ _ _ _ _ | refine loc_val ?_ | refine loc_unit ?_ | refine loc_bind ?_ (fun _ => ?_) | refine loc_br ?_ ?_ | refine loc_cond ?_ ?_ | split
theorem loc_indexAt (E : Env) (t : TypeId) (x ix : SV) : Loc (indexAt E t x ix) := by
  unfold indexAt
  with_reducible repeat' first | exact loc_pure _ | exact loc_fail _ | exact loc_asrt _ _ | exact loc_get _ | exact loc_put _ _ | exact loc_del _ | exact loc_new _ | exact loc_asInt _ | exact loc_asBool _ | exact loc_fillS _ _ _ | exact loc_info _ _ | exact loc_und _ _ | exact loc_zero _ _ | exact loc_cellsOf _ | exact loc_mapOf _ | exact loc_loadVar _ _ _ | exact loc_storeAt _ _ _ | exact loc_storeVar _ _ _ _ | exact loc_newRow _ _ _ | exact loc_newVar _ _ _ | exact loc_part _ _ _ _ | exact loc_plainM _ _ _ | exact loc_toM _ _ | exact loc_toMs _ _ | exact loc_eqA _ _ _ _ _ _ _ _ | exact loc_binA _ _ _ _ _ _ _ | exact loc_bound _ _ | exact loc_boundsM _ _ _ _ _ | exact loc_sliceA _ _ _ _ _ _ | exact loc_fieldAt _ _ _ _ | refine loc_val ?_ | refine loc_unit ?_ | refine loc_bind ?_ (fun _ => ?_) | refine loc_br ?_ ?_ | refine loc_cond ?_ ?_ | split
theorem loc_indexS (E : Env) (t : TypeId) (x ix : SV) : Loc (indexS E t x ix) := by
  unfold indexS
  with_reducible repeat' first | exact loc_pure _ | exact loc_fail _ | exact loc_asrt _ _ | exact loc_get _ | exact loc_put _ _ | exact loc_del _ | exact loc_new _ | exact loc_asInt _ | exact loc_asBool _ | exact loc_fillS _ _ _ | exact loc_info _ _ | exact loc_und _ _ | exact loc_zero _ _ | exact loc_cellsOf _ | exact loc_mapOf _ | exact loc_loadVar _ _ _ | exact loc_storeAt _ _ _ | exact loc_storeVar _ _ _ _ | exact loc_newRow _ _ _ | exact loc_newVar _ _ _ | exact loc_part _ _ _ _ | exact loc_plainM _ _ _ | exact loc_toM _ _ | exact loc_toMs _ _ | exact loc_eqA _ _ _ _ _ _ _ _ | exact loc_binA _ _ _ _ _ _ _ | exact loc_bound _ _ | exact loc_boundsM _ _ _ _ _ | exact loc_sliceA _ _ _ _ _ _ | exact loc_fieldAt _ _ _ _ | exact loc_indexAt _ _ _ _ | refine loc_val ?_ | refine loc_unit ?_ | refine loc_bind ?_ (fun _ => ?_) | refine loc_br ?_ ?_ | refine loc_cond ?_ ?_ | split
theorem loc_lenS (E : Env) (x : SV) (t : TypeId) : Loc (lenS E x t) := by
  unfold lenS
  with_reducible repeat' first | exact loc_pure _ | exact loc_fail _ | exact loc_asrt _ _ | exact loc_get _ | exact loc_put _ _ | exact loc_del _ | exact loc_new _ | exact loc_asInt _ | exact loc_asBool _ | exact loc_fillS _ _ _ | exact loc_info _ _ | exact loc_und _ _ | exact loc_zero _ _ | exact loc_cellsOf _ | exact loc_mapOf _ | exact loc_loadVar _ _ _ | exact loc_storeAt _ _ _ | exact loc_storeVar _ _ _ _ | exact loc_newRow _ _ _ | exact loc_newVar _ _ _ | exact loc_part _ _ _ _ | exact loc_plainM _ _ _ | exact loc_toM _ _ | exact loc_toMs _ _ | exact loc_eqA _ _ _ _ _ _ _ _ | exact loc_binA _ _ _ _ _ _ _ | exact loc_bound _ _ | exact loc_boundsM _ _ _ _ _ | exact loc_sliceA _ _ _ _ _ _ | exact loc_fieldAt _ _ _ _ | exact loc_indexAt _ _ _ _ | exact loc_indexS _ _ _ _ | refine loc_val ?_ | refine loc_unit ?_ | refine loc_bind ?_ (fun _ => ?_) | refine loc_br ?_ ?_ | refine loc_cond ?_ ?_ | split
theorem loc_srcCells (n : Nat) : ∀ x, Loc (srcCells n x) := by
  intro x; unfold srcCells
  with_reducible repeat' first | exact loc_pure _ | exact loc_fail _ | exact loc_asrt _ _ | exact loc_get _ | exact loc_put _ _ | exact loc_del _ | exact loc_new _ | exact loc_asInt _ | exact loc_asBool _ | exact loc_fillS _ _ _ | exact loc_info _ _ | exact loc_und _ _ | exact loc_zero _ _ | exact loc_cellsOf _ | exact loc_mapOf _ | exact loc_loadVar _ _ _ | exact loc_storeAt _ _ _ | exact loc_storeVar _ _ _ _ | exact loc_newRow _ _ _ | exact loc_newVar _ _ _ | exact loc_part _ _ _ _ | exact loc_plainM _ _ _ | exact loc_toM _ _ | exact loc_toMs _ _ | exact loc_eqA _ _ _ _ _ _ _ _ | exact loc_binA _ _ _ _ _ _ _ | exact loc_bound _ _ | exact loc_boundsM _ _ _ _ _ | exact loc_sliceA _ _ _ _ _ _ | exact loc_fieldAt _ _ _ _ | exact loc_indexAt _ _ _ _ | exact loc_indexS _ _ _ _ | exact loc_lenS _ _ _ | refine loc_val ?_ | refine loc_unit ?_ | refine loc_bind ?_ (fun _ => ?_) | refine loc_br ?_ ?_ | refine loc_cond ?_ ?_ | split
theorem loc_appendA (E : Env) (st xt : TypeId) (s x : SV) : Loc (appendA E st xt s x) := by
  unfold appendA
  with_reducible repeat' first | exact loc_pure _ | exact loc_fail _ | exact loc_asrt _ _ | exact loc_get _ | exact loc_put _ _ | exact loc_del _ | exact loc_new _ | exact loc_asInt _ | exact loc_asBool _ | exact loc_fillS _ _ _ | exact loc_info _ _ | exact loc_und _ _ | exact loc_zero _ _ | exact loc_cellsOf _ | exact loc_mapOf _ | exact loc_loadVar _ _ _ | exact loc_storeAt _ _ _ | exact loc_storeVar _ _ _ _ | exact loc_newRow _ _ _ | exact loc_newVar _ _ _ | exact loc_part _ _ _ _ | exact loc_plainM _ _ _ | exact loc_toM _ _ | exact loc_toMs _ _ | exact loc_eqA _ _ _ _ _ _ _ _ | exact loc_binA _ _ _ _ _ _ _ | exact loc_bound _ _ | exact loc_boundsM _ _ _ _ _ | exact loc_sliceA _ _ _ _ _ _ | exact loc_fieldAt _ _ _ _ | exact loc_indexAt _ _ _ _ | exact loc_indexS _ _ _ _ | exact loc_lenS _ _ _ | exact loc_srcCells _ _ | refine loc_val ?_ | refine loc_unit ?_ | refine loc_bind ?_ (fun _ => ?_) | refine loc_br ?_ ?_ | refine loc_cond ?_ ?_ | split
theorem loc_copyA (E : Env) (dt : TypeId) (d x : SV) : Loc (copyA E dt d x) := by
  unfold copyA
  with_reducible repeat' first | exact loc_pure _ | exact loc_fail _ | exact loc_asrt _ _ | exact loc_get _ | exact loc_put _ _ | exact loc_del _ | exact loc_new _ | exact loc_asInt _ | exact loc_asBool _ | exact loc_fillS _ _ _ | exact loc_info _ _ | exact loc_und _ _ | exact loc_zero _ _ | exact loc_cellsOf _ | exact loc_mapOf _ | exact loc_loadVar _ _ _ | exact loc_storeAt _ _ _ | exact loc_storeVar _ _ _ _ | exact loc_newRow _ _ _ | exact loc_newVar _ _ _ | exact loc_part _ _ _ _ | exact loc_plainM _ _ _ | exact loc_toM _ _ | exact loc_toMs _ _ | exact loc_eqA _ _ _ _ _ _ _ _ | exact loc_binA _ _ _ _ _ _ _ | exact loc_bound _ _ | exact loc_boundsM _ _ _ _ _ | exact loc_sliceA _ _ _ _ _ _ | exact loc_fieldAt _ _ _ _ | exact loc_indexAt _ _ _ _ | exact loc_indexS _ _ _ _ | exact loc_lenS _ _ _ | exact loc_srcCells _ _ | exact loc_appendA _ _ _ _ _ | refine loc_val ?_ | refine loc_unit ?_ | refine loc_bind ?_ (fun _ => ?_) | refine loc_br ?_ ?_ | refine loc_cond ?_ ?_ | split
theorem loc_findM (E : Env) (kt : TypeId) (k : SV) (es : List (SV × SV × Nat)) : Loc (findM E kt k es) := by
  unfold findM
  with_reducible repeat' first | exact loc_pure _ | exact loc_fail _ | exact loc_asrt _ _ | exact loc_get _ | exact loc_put _ _ | exact loc_del _ | exact loc_new _ | exact loc_asInt _ | exact loc_asBool _ | exact loc_fillS _ _ _ | exact loc_info _ _ | exact loc_und _ _ | exact loc_zero _ _ | exact loc_cellsOf _ | exact loc_mapOf _ | exact loc_loadVar _ _ _ | exact loc_storeAt _ _ _ | exact loc_storeVar _ _ _ _ | exact loc_newRow _ _ _ | exact loc_newVar _ _ _ | exact loc_part _ _ _ _ | exact loc_plainM _ _ _ | exact loc_toM _ _ | exact loc_toMs _ _ | exact loc_eqA _ _ _ _ _ _ _ _ | exact loc_binA _ _ _ _ _ _ _ | exact loc_bound _ _ | exact loc_boundsM _ _ _ _ _ | exact loc_sliceA _ _ _ _ _ _ | exact loc_fieldAt _ _ _ _ | exact loc_indexAt _ _ _ _ | exact loc_indexS _ _ _ _ | exact loc_lenS _ _ _ | exact loc_srcCells _ _ | exact loc_appendA _ _ _ _ _ | exact loc_copyA _ _ _ _ | refine loc_val ?_ | refine loc_unit ?_ | refine loc_bind ?_ (fun _ => ?_) | refine loc_br ?_ ?_ | refine loc_cond ?_ ?_ | split
theorem loc_enterM (E : Env) (f : FuncId) (as : List SV) : Loc (enterM E f as) := by
  unfold enterM
  with_reducible repeat' first | exact loc_pure _ | exact loc_fail _ | exact loc_asrt _ _ | exact loc_get _ | exact loc_put _ _ | exact loc_del _ | exact loc_new _ | exact loc_asInt _ | exact loc_asBool _ | exact loc_fillS _ _ _ | exact loc_info _ _ | exact loc_und _ _ | exact loc_zero _ _ | exact loc_cellsOf _ | exact loc_mapOf _ | exact loc_loadVar _ _ _ | exact loc_storeAt _ _ _ | exact loc_storeVar _ _ _ _ | exact loc_newRow _ _ _ | exact loc_newVar _ _ _ | exact loc_part _ _ _ _ | exact loc_plainM _ _ _ | exact loc_toM _ _ | exact loc_toMs _ _ | exact loc_eqA _ _ _ _ _ _ _ _ | exact loc_binA _ _ _ _ _ _ _ | exact loc_bound _ _ | exact loc_boundsM _ _ _ _ _ | exact loc_sliceA _ _ _ _ _ _ | exact loc_fieldAt _ _ _ _ | exact loc_indexAt _ _ _ _ | exact loc_indexS _ _ _ _ | exact loc_lenS _ _ _ | exact loc_srcCells _ _ | exact loc_appendA _ _ _ _ _ | exact loc_copyA _ _ _ _ | exact loc_findM _ _ _ _ | refine loc_val ?_ | refine loc_unit ?_ | refine loc_bind ?_ (fun _ => ?_) | refine loc_br ?_ ?_ | refine loc_cond ?_ ?_ | split
theorem loc_dataA (E : Env) (x : SV) : Loc (dataA E x) := by
  unfold dataA
  with_reducible repeat' first | exact loc_pure _ | exact loc_fail _ | exact loc_asrt _ _ | exact loc_get _ | exact loc_put _ _ | exact loc_del _ | exact loc_new _ | exact loc_asInt _ | exact loc_asBool _ | exact loc_fillS _ _ _ | exact loc_info _ _ | exact loc_und _ _ | exact loc_zero _ _ | exact loc_cellsOf _ | exact loc_mapOf _ | exact loc_loadVar _ _ _ | exact loc_storeAt _ _ _ | exact loc_storeVar _ _ _ _ | exact loc_newRow _ _ _ | exact loc_newVar _ _ _ | exact loc_part _ _ _ _ | exact loc_plainM _ _ _ | exact loc_toM _ _ | exact loc_toMs _ _ | exact loc_eqA _ _ _ _ _ _ _ _ | exact loc_binA _ _ _ _ _ _ _ | exact loc_bound _ _ | exact loc_boundsM _ _ _ _ _ | exact loc_sliceA _ _ _ _ _ _ | exact loc_fieldAt _ _ _ _ | exact loc_indexAt _ _ _ _ | exact loc_indexS _ _ _ _ | exact loc_lenS _ _ _ | exact loc_srcCells _ _ | exact loc_appendA _ _ _ _ _ | exact loc_copyA _ _ _ _ | exact loc_findM _ _ _ _ | exact loc_enterM _ _ _ | refine loc_val ?_ | refine loc_unit ?_ | refine loc_bind ?_ (fun _ => ?_) | refine loc_br ?_ ?_ | refine loc_cond ?_ ?_ | split
theorem loc_ustrA (E : Env) (pt : TypeId) (x n : SV) : Loc (ustrA E pt x n) := by
  unfold ustrA
  with_reducible repeat' first | exact loc_pure _ | exact loc_fail _ | exact loc_asrt _ _ | exact loc_get _ | exact loc_put _ _ | exact loc_del _ | exact loc_new _ | exact loc_asInt _ | exact loc_asBool _ | exact loc_fillS _ _ _ | exact loc_info _ _ | exact loc_und _ _ | exact loc_zero _ _ | exact loc_cellsOf _ | exact loc_mapOf _ | exact loc_loadVar _ _ _ | exact loc_storeAt _ _ _ | exact loc_storeVar _ _ _ _ | exact loc_newRow _ _ _ | exact loc_newVar _ _ _ | exact loc_part _ _ _ _ | exact loc_plainM _ _ _ | exact loc_toM _ _ | exact loc_toMs _ _ | exact loc_eqA _ _ _ _ _ _ _ _ | exact loc_binA _ _ _ _ _ _ _ | exact loc_bound _ _ | exact loc_boundsM _ _ _ _ _ | exact loc_sliceA _ _ _ _ _ _ | exact loc_fieldAt _ _ _ _ | exact loc_indexAt _ _ _ _ | exact loc_indexS _ _ _ _ | exact loc_lenS _ _ _ | exact loc_srcCells _ _ | exact loc_appendA _ _ _ _ _ | exact loc_copyA _ _ _ _ | exact loc_findM _ _ _ _ | exact loc_enterM _ _ _ | exact loc_dataA _ _ | refine loc_val ?_ | refine loc_unit ?_ | refine loc_bind ?_ (fun _ => ?_) | refine loc_br ?_ ?_ | refine loc_cond ?_ ?_ | split
theorem loc_capA (E : Env) (x : SV) (t : TypeId) : Loc (capA E x t) := by
  unfold capA
  with_reducible repeat' first | exact loc_pure _ | exact loc_fail _ | exact loc_asrt _ _ | exact loc_get _ | exact loc_put _ _ | exact loc_del _ | exact loc_new _ | exact loc_asInt _ | exact loc_asBool _ | exact loc_fillS _ _ _ | exact loc_info _ _ | exact loc_und _ _ | exact loc_zero _ _ | exact loc_cellsOf _ | exact loc_mapOf _ | exact loc_loadVar _ _ _ | exact loc_storeAt _ _ _ | exact loc_storeVar _ _ _ _ | exact loc_newRow _ _ _ | exact loc_newVar _ _ _ | exact loc_part _ _ _ _ | exact loc_plainM _ _ _ | exact loc_toM _ _ | exact loc_toMs _ _ | exact loc_eqA _ _ _ _ _ _ _ _ | exact loc_binA _ _ _ _ _ _ _ | exact loc_bound _ _ | exact loc_boundsM _ _ _ _ _ | exact loc_sliceA _ _ _ _ _ _ | exact loc_fieldAt _ _ _ _ | exact loc_indexAt _ _ _ _ | exact loc_indexS _ _ _ _ | exact loc_lenS _ _ _ | exact loc_srcCells _ _ | exact loc_appendA _ _ _ _ _ | exact loc_copyA _ _ _ _ | exact loc_findM _ _ _ _ | exact loc_enterM _ _ _ | exact loc_dataA _ _ | exact loc_ustrA _ _ _ _ | refine loc_val ?_ | refine loc_unit ?_ | refine loc_bind ?_ (fun _ => ?_) | refine loc_br ?_ ?_ | refine loc_cond ?_ ?_ | split
theorem loc_clearA (E : Env) (t : TypeId) (b z i len : Nat) : Loc (clearA E t b z i len) := by
  unfold clearA
  with_reducible repeat' first | exact loc_pure _ | exact loc_fail _ | exact loc_asrt _ _ | exact loc_get _ | exact loc_put _ _ | exact loc_del _ | exact loc_new _ | exact loc_asInt _ | exact loc_asBool _ | exact loc_fillS _ _ _ | exact loc_info _ _ | exact loc_und _ _ | exact loc_zero _ _ | exact loc_cellsOf _ | exact loc_mapOf _ | exact loc_loadVar _ _ _ | exact loc_storeAt _ _ _ | exact loc_storeVar _ _ _ _ | exact loc_newRow _ _ _ | exact loc_newVar _ _ _ | exact loc_part _ _ _ _ | exact loc_plainM _ _ _ | exact loc_toM _ _ | exact loc_toMs _ _ | exact loc_eqA _ _ _ _ _ _ _ _ | exact loc_binA _ _ _ _ _ _ _ | exact loc_bound _ _ | exact loc_boundsM _ _ _ _ _ | exact loc_sliceA _ _ _ _ _ _ | exact loc_fieldAt _ _ _ _ | exact loc_indexAt _ _ _ _ | exact loc_indexS _ _ _ _ | exact loc_lenS _ _ _ | exact loc_srcCells _ _ | exact loc_appendA _ _ _ _ _ | exact loc_copyA _ _ _ _ | exact loc_findM _ _ _ _ | exact loc_enterM _ _ _ | exact loc_dataA _ _ | exact loc_ustrA _ _ _ _ | exact loc_capA _ _ _ | refine loc_val ?_ | refine loc_unit ?_ | refine loc_bind ?_ (fun _ => ?_) | refine loc_br ?_ ?_ | refine loc_cond ?_ ?_ | split
theorem loc_callA (E : Env) (o : Oper) (c : Call) (as : List SV) (ρ : Operand → SV) : Loc (callA E o c as ρ) := by
  unfold callA
  with_reducible repeat' first | exact loc_pure _ | exact loc_fail _ | exact loc_asrt _ _ | exact loc_get _ | exact loc_put _ _ | exact loc_del _ | exact loc_new _ | exact loc_asInt _ | exact loc_asBool _ | exact loc_fillS _ _ _ | exact loc_info _ _ | exact loc_und _ _ | exact loc_zero _ _ | exact loc_cellsOf _ | exact loc_mapOf _ | exact loc_loadVar _ _ _ | exact loc_storeAt _ _ _ | exact loc_storeVar _ _ _ _ | exact loc_newRow _ _ _ | exact loc_newVar _ _ _ | exact loc_part _ _ _ _ | exact loc_plainM _ _ _ | exact loc_toM _ _ | exact loc_toMs _ _ | exact loc_eqA _ _ _ _ _ _ _ _ | exact loc_binA _ _ _ _ _ _ _ | exact loc_bound _ _ | exact loc_boundsM _ _ _ _ _ | exact loc_sliceA _ _ _ _ _ _ | exact loc_fieldAt _ _ _ _ | exact loc_indexAt _ _ _ _ | exact loc_indexS _ _ _ _ | exact loc_lenS _ _ _ | exact loc_srcCells _ _ | exact loc_appendA _ _ _ _ _ | exact loc_copyA _ _ _ _ | exact loc_findM _ _ _ _ | exact loc_enterM _ _ _ | exact loc_dataA _ _ | exact loc_ustrA _ _ _ _ | exact loc_capA _ _ _ | exact loc_clearA _ _ _ _ _ _ | refine loc_val ?_ | refine loc_unit ?_ | refine loc_bind ?_ (fun _ => ?_) | refine loc_br ?_ ?_ | refine loc_cond ?_ ?_ | split
theorem loc_ex_move (E : Env) (ρ : Operand → SV) (x : Operand) : Loc (ex_move E ρ x) := by
  unfold ex_move
  with_reducible repeat' first | exact loc_pure _ | exact loc_fail _ | exact loc_asrt _ _ | exact loc_get _ | exact loc_put _ _ | exact loc_del _ | exact loc_new _ | exact loc_asInt _ | exact loc_asBool _ | exact loc_fillS _ _ _ | exact loc_info _ _ | exact loc_und _ _ | exact loc_zero _ _ | exact loc_cellsOf _ | exact loc_mapOf _ | exact loc_loadVar _ _ _ | exact loc_storeAt _ _ _ | exact loc_storeVar _ _ _ _ | exact loc_newRow _ _ _ | exact loc_newVar _ _ _ | exact loc_part _ _ _ _ | exact loc_plainM _ _ _ | exact loc_toM _ _ | exact loc_toMs _ _ | exact loc_eqA _ _ _ _ _ _ _ _ | exact loc_binA _ _ _ _ _ _ _ | exact loc_bound _ _ | exact loc_boundsM _ _ _ _ _ | exact loc_sliceA _ _ _ _ _ _ | exact loc_fieldAt _ _ _ _ | exact loc_indexAt _ _ _ _ | exact loc_indexS _ _ _ _ | exact loc_lenS _ _ _ | exact loc_srcCells _ _ | exact loc_appendA _ _ _ _ _ | exact loc_copyA _ _ _ _ | exact loc_findM _ _ _ _ | exact loc_enterM _ _ _ | exact loc_dataA _ _ | exact loc_ustrA _ _ _ _ | exact loc_capA _ _ _ | exact loc_clearA _ _ _ _ _ _ | exact loc_callA _ _ _ _ _ | refine loc_val ?_ | refine loc_unit ?_ | refine loc_bind ?_ (fun _ => ?_) | refine loc_br ?_ ?_ | refine loc_cond ?_ ?_ | split
theorem loc_ex_pick (E : Env) (ρ : Operand → SV) (c : Operand) (a : Operand) (b : Operand) : Loc (ex_pick E ρ c a b) := by
  unfold ex_pick
  with_reducible repeat' first | exact loc_pure _ | exact loc_fail _ | exact loc_asrt _ _ | exact loc_get _ | exact loc_put _ _ | exact loc_del _ | exact loc_new _ | exact loc_asInt _ | exact loc_asBool _ | exact loc_fillS _ _ _ | exact loc_info _ _ | exact loc_und _ _ | exact loc_zero _ _ | exact loc_cellsOf _ | exact loc_mapOf _ | exact loc_loadVar _ _ _ | exact loc_storeAt _ _ _ | exact loc_storeVar _ _ _ _ | exact loc_newRow _ _ _ | exact loc_newVar _ _ _ | exact loc_part _ _ _ _ | exact loc_plainM _ _ _ | exact loc_toM _ _ | exact loc_toMs _ _ | exact loc_eqA _ _ _ _ _ _ _ _ | exact loc_binA _ _ _ _ _ _ _ | exact loc_bound _ _ | exact loc_boundsM _ _ _ _ _ | exact loc_sliceA _ _ _ _ _ _ | exact loc_fieldAt _ _ _ _ | exact loc_indexAt _ _ _ _ | exact loc_indexS _ _ _ _ | exact loc_lenS _ _ _ | exact loc_srcCells _ _ | exact loc_appendA _ _ _ _ _ | exact loc_copyA _ _ _ _ | exact loc_findM _ _ _ _ | exact loc_enterM _ _ _ | exact loc_dataA _ _ | exact loc_ustrA _ _ _ _ | exact loc_capA _ _ _ | exact loc_clearA _ _ _ _ _ _ | exact loc_callA _ _ _ _ _ | exact loc_ex_move _ _ _ | refine loc_val ?_ | refine loc_unit ?_ | refine loc_bind ?_ (fun _ => ?_) | refine loc_br ?_ ?_ | refine loc_cond ?_ ?_ | split
theorem loc_ex_alloc (E : Env) (ρ : Operand → SV) (t : TypeId) : Loc (ex_alloc E ρ t) := by
  unfold ex_alloc
  refine loc_val ?_
  with_reducible repeat' first | exact loc_pure _ | exact loc_fail _ | exact loc_asrt _ _ | exact loc_get _ | exact loc_put _ _ | exact loc_del _ | exact loc_new _ | exact loc_asInt _ | exact loc_asBool _ | exact loc_fillS _ _ _ | exact loc_info _ _ | exact loc_und _ _ | exact loc_zero _ _ | exact loc_cellsOf _ | exact loc_mapOf _ | exact loc_loadVar _ _ _ | exact loc_storeAt _ _ _ | exact loc_storeVar _ _ _ _ | exact loc_newRow _ _ _ | exact loc_newVar _ _ _ | exact loc_part _ _ _ _ | exact loc_plainM _ _ _ | exact loc_toM _ _ | exact loc_toMs _ _ | exact loc_eqA _ _ _ _ _ _ _ _ | exact loc_binA _ _ _ _ _ _ _ | exact loc_bound _ _ | exact loc_boundsM _ _ _ _ _ | exact loc_sliceA _ _ _ _ _ _ | exact loc_fieldAt _ _ _ _ | exact loc_indexAt _ _ _ _ | exact loc_indexS _ _ _ _ | exact loc_lenS _ _ _ | exact loc_srcCells _ _ | exact loc_appendA _ _ _ _ _ | exact loc_copyA _ _ _ _ | exact loc_findM _ _ _ _ | exact loc_enterM _ _ _ | exact loc_dataA _ _ | exact loc_ustrA _ _ _ _ | exact loc_capA _ _ _ | exact loc_clearA _ _ _ _ _ _ | exact loc_callA _ _ _ _ _ | exact loc_ex_move _ _ _ | exact loc_ex_pick _ _ _ _ _ | refine loc_val ?_ | refine loc_unit ?_ | refine loc_bind ?_ (fun _ => ?_) | refine loc_br ?_ ?_ | refine loc_cond ?_ ?_ | split
theorem loc_ex_box (E : Env) (ρ : Operand → SV) (t : TypeId) (x : Operand) : Loc (ex_box E ρ t x) := by
  unfold ex_box
  refine loc_val ?_
  with_reducible repeat' first | exact loc_pure _ | exact loc_fail _ | exact loc_asrt _ _ | exact loc_get _ | exact loc_put _ _ | exact loc_del _ | exact loc_new _ | exact loc_asInt _ | exact loc_asBool _ | exact loc_fillS _ _ _ | exact loc_info _ _ | exact loc_und _ _ | exact loc_zero _ _ | exact loc_cellsOf _ | exact loc_mapOf _ | exact loc_loadVar _ _ _ | exact loc_storeAt _ _ _ | exact loc_storeVar _ _ _ _ | exact loc_newRow _ _ _ | exact loc_newVar _ _ _ | exact loc_part _ _ _ _ | exact loc_plainM _ _ _ | exact loc_toM _ _ | exact loc_toMs _ _ | exact loc_eqA _ _ _ _ _ _ _ _ | exact loc_binA _ _ _ _ _ _ _ | exact loc_bound _ _ | exact loc_boundsM _ _ _ _ _ | exact loc_sliceA _ _ _ _ _ _ | exact loc_fieldAt _ _ _ _ | exact loc_indexAt _ _ _ _ | exact loc_indexS _ _ _ _ | exact loc_lenS _ _ _ | exact loc_srcCells _ _ | exact loc_appendA _ _ _ _ _ | exact loc_copyA _ _ _ _ | exact loc_findM _ _ _ _ | exact loc_enterM _ _ _ | exact loc_dataA _ _ | exact loc_ustrA _ _ _ _ | exact loc_capA _ _ _ | exact loc_clearA _ _ _ _ _ _ | exact loc_callA _ _ _ _ _ | exact loc_ex_move _ _ _ | exact loc_ex_pick _ _ _ _ _ | exact loc_ex_alloc _ _ _ | refine loc_val ?_ | refine loc_unit ?_ | refine loc_bind ?_ (fun _ => ?_) | refine loc_br ?_ ?_ | refine loc_cond ?_ ?_ | split
theorem loc_ex_build (E : Env) (ρ : Operand → SV) (t : TypeId) (parts : Array (Nat × Operand)) : Loc (ex_build E ρ t parts) := by
  unfold ex_build
  refine loc_val ?_
  with_reducible repeat' first | exact loc_pure _ | exact loc_fail _ | exact loc_asrt _ _ | exact loc_get _ | exact loc_put _ _ | exact loc_del _ | exact loc_new _ | exact loc_asInt _ | exact loc_asBool _ | exact loc_fillS _ _ _ | exact loc_info _ _ | exact loc_und _ _ | exact loc_zero _ _ | exact loc_cellsOf _ | exact loc_mapOf _ | exact loc_loadVar _ _ _ | exact loc_storeAt _ _ _ | exact loc_storeVar _ _ _ _ | exact loc_newRow _ _ _ | exact loc_newVar _ _ _ | exact loc_part _ _ _ _ | exact loc_plainM _ _ _ | exact loc_toM _ _ | exact loc_toMs _ _ | exact loc_eqA _ _ _ _ _ _ _ _ | exact loc_binA _ _ _ _ _ _ _ | exact loc_bound _ _ | exact loc_boundsM _ _ _ _ _ | exact loc_sliceA _ _ _ _ _ _ | exact loc_fieldAt _ _ _ _ | exact loc_indexAt _ _ _ _ | exact loc_indexS _ _ _ _ | exact loc_lenS _ _ _ | exact loc_srcCells _ _ | exact loc_appendA _ _ _ _ _ | exact loc_copyA _ _ _ _ | exact loc_findM _ _ _ _ | exact loc_enterM _ _ _ | exact loc_dataA _ _ | exact loc_ustrA _ _ _ _ | exact loc_capA _ _ _ | exact loc_clearA _ _ _ _ _ _ | exact loc_callA _ _ _ _ _ | exact loc_ex_move _ _ _ | exact loc_ex_pick _ _ _ _ _ | exact loc_ex_alloc _ _ _ | exact loc_ex_box _ _ _ _ | refine loc_val ?_ | refine loc_unit ?_ | refine loc_bind ?_ (fun _ => ?_) | refine loc_br ?_ ?_ | refine loc_cond ?_ ?_ | split
theorem loc_ex_buildSlice (E : Env) (ρ : Operand → SV) (t : TypeId) (len : Nat) (parts : Array (Nat × Operand)) : Loc (ex_buildSlice E ρ t len parts) := by
  unfold ex_buildSlice
  refine loc_val ?_
  with_reducible repeat' first | exact loc_pure _ | exact loc_fail _ | exact loc_asrt _ _ | exact loc_get _ | exact loc_put _ _ | exact loc_del _ | exact loc_new _ | exact loc_asInt _ | exact loc_asBool _ | exact loc_fillS _ _ _ | exact loc_info _ _ | exact loc_und _ _ | exact loc_zero _ _ | exact loc_cellsOf _ | exact loc_mapOf _ | exact loc_loadVar _ _ _ | exact loc_storeAt _ _ _ | exact loc_storeVar _ _ _ _ | exact loc_newRow _ _ _ | exact loc_newVar _ _ _ | exact loc_part _ _ _ _ | exact loc_plainM _ _ _ | exact loc_toM _ _ | exact loc_toMs _ _ | exact loc_eqA _ _ _ _ _ _ _ _ | exact loc_binA _ _ _ _ _ _ _ | exact loc_bound _ _ | exact loc_boundsM _ _ _ _ _ | exact loc_sliceA _ _ _ _ _ _ | exact loc_fieldAt _ _ _ _ | exact loc_indexAt _ _ _ _ | exact loc_indexS _ _ _ _ | exact loc_lenS _ _ _ | exact loc_srcCells _ _ | exact loc_appendA _ _ _ _ _ | exact loc_copyA _ _ _ _ | exact loc_findM _ _ _ _ | exact loc_enterM _ _ _ | exact loc_dataA _ _ | exact loc_ustrA _ _ _ _ | exact loc_capA _ _ _ | exact loc_clearA _ _ _ _ _ _ | exact loc_callA _ _ _ _ _ | exact loc_ex_move _ _ _ | exact loc_ex_pick _ _ _ _ _ | exact loc_ex_alloc _ _ _ | exact loc_ex_box _ _ _ _ | exact loc_ex_build _ _ _ _ | refine loc_val ?_ | refine loc_unit ?_ | refine loc_bind ?_ (fun _ => ?_) | refine loc_br ?_ ?_ | refine loc_cond ?_ ?_ | split
theorem loc_ex_load (E : Env) (ρ : Operand → SV) (t : TypeId) (a : Operand) : Loc (ex_load E ρ t a) := by
  unfold ex_load
  refine loc_val ?_
  with_reducible repeat' first | exact loc_pure _ | exact loc_fail _ | exact loc_asrt _ _ | exact loc_get _ | exact loc_put _ _ | exact loc_del _ | exact loc_new _ | exact loc_asInt _ | exact loc_asBool _ | exact loc_fillS _ _ _ | exact loc_info _ _ | exact loc_und _ _ | exact loc_zero _ _ | exact loc_cellsOf _ | exact loc_mapOf _ | exact loc_loadVar _ _ _ | exact loc_storeAt _ _ _ | exact loc_storeVar _ _ _ _ | exact loc_newRow _ _ _ | exact loc_newVar _ _ _ | exact loc_part _ _ _ _ | exact loc_plainM _ _ _ | exact loc_toM _ _ | exact loc_toMs _ _ | exact loc_eqA _ _ _ _ _ _ _ _ | exact loc_binA _ _ _ _ _ _ _ | exact loc_bound _ _ | exact loc_boundsM _ _ _ _ _ | exact loc_sliceA _ _ _ _ _ _ | exact loc_fieldAt _ _ _ _ | exact loc_indexAt _ _ _ _ | exact loc_indexS _ _ _ _ | exact loc_lenS _ _ _ | exact loc_srcCells _ _ | exact loc_appendA _ _ _ _ _ | exact loc_copyA _ _ _ _ | exact loc_findM _ _ _ _ | exact loc_enterM _ _ _ | exact loc_dataA _ _ | exact loc_ustrA _ _ _ _ | exact loc_capA _ _ _ | exact loc_clearA _ _ _ _ _ _ | exact loc_callA _ _ _ _ _ | exact loc_ex_move _ _ _ | exact loc_ex_pick _ _ _ _ _ | exact loc_ex_alloc _ _ _ | exact loc_ex_box _ _ _ _ | exact loc_ex_build _ _ _ _ | exact loc_ex_buildSlice _ _ _ _ _ | refine loc_val ?_ | refine loc_unit ?_ | refine loc_bind ?_ (fun _ => ?_) | refine loc_br ?_ ?_ | refine loc_cond ?_ ?_ | split
theorem loc_ex_store (E : Env) (ρ : Operand → SV) (t : TypeId) (a : Operand) (x : Operand) : Loc (ex_store E ρ t a x) := by
  unfold ex_store
  refine loc_unit ?_
  with_reducible repeat' first | exact loc_pure _ | exact loc_fail _ | exact loc_asrt _ _ | exact loc_get _ | exact loc_put _ _ | exact loc_del _ | exact loc_new _ | exact loc_asInt _ | exact loc_asBool _ | exact loc_fillS _ _ _ | exact loc_info _ _ | exact loc_und _ _ | exact loc_zero _ _ | exact loc_cellsOf _ | exact loc_mapOf _ | exact loc_loadVar _ _ _ | exact loc_storeAt _ _ _ | exact loc_storeVar _ _ _ _ | exact loc_newRow _ _ _ | exact loc_newVar _ _ _ | exact loc_part _ _ _ _ | exact loc_plainM _ _ _ | exact loc_toM _ _ | exact loc_toMs _ _ | exact loc_eqA _ _ _ _ _ _ _ _ | exact loc_binA _ _ _ _ _ _ _ | exact loc_bound _ _ | exact loc_boundsM _ _ _ _ _ | exact loc_sliceA _ _ _ _ _ _ | exact loc_fieldAt _ _ _ _ | exact loc_indexAt _ _ _ _ | exact loc_indexS _ _ _ _ | exact loc_lenS _ _ _ | exact loc_srcCells _ _ | exact loc_appendA _ _ _ _ _ | exact loc_copyA _ _ _ _ | exact loc_findM _ _ _ _ | exact loc_enterM _ _ _ | exact loc_dataA _ _ | exact loc_ustrA _ _ _ _ | exact loc_capA _ _ _ | exact loc_clearA _ _ _ _ _ _ | exact loc_callA _ _ _ _ _ | exact loc_ex_move _ _ _ | exact loc_ex_pick _ _ _ _ _ | exact loc_ex_alloc _ _ _ | exact loc_ex_box _ _ _ _ | exact loc_ex_build _ _ _ _ | exact loc_ex_buildSlice _ _ _ _ _ | exact loc_ex_load _ _ _ _ | refine loc_val ?_ | refine loc_unit ?_ | refine loc_bind ?_ (fun _ => ?_) | refine loc_br ?_ ?_ | refine loc_cond ?_ ?_ | split
theorem loc_ex_nilCheck (E : Env) (ρ : Operand → SV) (x : Operand) : Loc (ex_nilCheck E ρ x) := by
  unfold ex_nilCheck
  with_reducible repeat' first | exact loc_pure _ | exact loc_fail _ | exact loc_asrt _ _ | exact loc_get _ | exact loc_put _ _ | exact loc_del _ | exact loc_new _ | exact loc_asInt _ | exact loc_asBool _ | exact loc_fillS _ _ _ | exact loc_info _ _ | exact loc_und _ _ | exact loc_zero _ _ | exact loc_cellsOf _ | exact loc_mapOf _ | exact loc_loadVar _ _ _ | exact loc_storeAt _ _ _ | exact loc_storeVar _ _ _ _ | exact loc_newRow _ _ _ | exact loc_newVar _ _ _ | exact loc_part _ _ _ _ | exact loc_plainM _ _ _ | exact loc_toM _ _ | exact loc_toMs _ _ | exact loc_eqA _ _ _ _ _ _ _ _ | exact loc_binA _ _ _ _ _ _ _ | exact loc_bound _ _ | exact loc_boundsM _ _ _ _ _ | exact loc_sliceA _ _ _ _ _ _ | exact loc_fieldAt _ _ _ _ | exact loc_indexAt _ _ _ _ | exact loc_indexS _ _ _ _ | exact loc_lenS _ _ _ | exact loc_srcCells _ _ | exact loc_appendA _ _ _ _ _ | exact loc_copyA _ _ _ _ | exact loc_findM _ _ _ _ | exact loc_enterM _ _ _ | exact loc_dataA _ _ | exact loc_ustrA _ _ _ _ | exact loc_capA _ _ _ | exact loc_clearA _ _ _ _ _ _ | exact loc_callA _ _ _ _ _ | exact loc_ex_move _ _ _ | exact loc_ex_pick _ _ _ _ _ | exact loc_ex_alloc _ _ _ | exact loc_ex_box _ _ _ _ | exact loc_ex_build _ _ _ _ | exact loc_ex_buildSlice _ _ _ _ _ | exact loc_ex_load _ _ _ _ | exact loc_ex_store _ _ _ _ _ | refine loc_val ?_ | refine loc_unit ?_ | refine loc_bind ?_ (fun _ => ?_) | refine loc_br ?_ ?_ | refine loc_cond ?_ ?_ | split
theorem loc_cpA (E : Env) (op : BinOp) (t : TypeId) (b i : Nat) (y : SV) : Loc (cpA E op t b i y) := by
  unfold cpA
  with_reducible repeat' first | exact loc_pure _ | exact loc_fail _ | exact loc_asrt _ _ | exact loc_get _ | exact loc_put _ _ | exact loc_del _ | exact loc_new _ | exact loc_asInt _ | exact loc_asBool _ | exact loc_fillS _ _ _ | exact loc_info _ _ | exact loc_und _ _ | exact loc_zero _ _ | exact loc_cellsOf _ | exact loc_mapOf _ | exact loc_loadVar _ _ _ | exact loc_storeAt _ _ _ | exact loc_storeVar _ _ _ _ | exact loc_newRow _ _ _ | exact loc_newVar _ _ _ | exact loc_part _ _ _ _ | exact loc_plainM _ _ _ | exact loc_toM _ _ | exact loc_toMs _ _ | exact loc_eqA _ _ _ _ _ _ _ _ | exact loc_binA _ _ _ _ _ _ _ | exact loc_bound _ _ | exact loc_boundsM _ _ _ _ _ | exact loc_sliceA _ _ _ _ _ _ | exact loc_fieldAt _ _ _ _ | exact loc_indexAt _ _ _ _ | exact loc_indexS _ _ _ _ | exact loc_lenS _ _ _ | exact loc_srcCells _ _ | exact loc_appendA _ _ _ _ _ | exact loc_copyA _ _ _ _ | exact loc_findM _ _ _ _ | exact loc_enterM _ _ _ | exact loc_dataA _ _ | exact loc_ustrA _ _ _ _ | exact loc_capA _ _ _ | exact loc_clearA _ _ _ _ _ _ | exact loc_callA _ _ _ _ _ | exact loc_ex_move _ _ _ | exact loc_ex_pick _ _ _ _ _ | exact loc_ex_alloc _ _ _ | exact loc_ex_box _ _ _ _ | exact loc_ex_build _ _ _ _ | exact loc_ex_buildSlice _ _ _ _ _ | exact loc_ex_load _ _ _ _ | exact loc_ex_store _ _ _ _ _ | exact loc_ex_nilCheck _ _ _ | refine loc_val ?_ | refine loc_unit ?_ | refine loc_bind ?_ (fun _ => ?_) | refine loc_br ?_ ?_ | refine loc_cond ?_ ?_ | split
theorem loc_ex_binOp (E : Env) (ρ : Operand → SV) (op : BinOp) (t : TypeId) (x : Operand) (y : Operand) : Loc (ex_binOp E ρ op t x y) := by
  unfold ex_binOp
  refine loc_val ?_
  with_reducible repeat' first | exact loc_pure _ | exact loc_fail _ | exact loc_asrt _ _ | exact loc_get _ | exact loc_put _ _ | exact loc_del _ | exact loc_new _ | exact loc_asInt _ | exact loc_asBool _ | exact loc_fillS _ _ _ | exact loc_info _ _ | exact loc_und _ _ | exact loc_zero _ _ | exact loc_cellsOf _ | exact loc_mapOf _ | exact loc_loadVar _ _ _ | exact loc_storeAt _ _ _ | exact loc_storeVar _ _ _ _ | exact loc_newRow _ _ _ | exact loc_newVar _ _ _ | exact loc_part _ _ _ _ | exact loc_plainM _ _ _ | exact loc_toM _ _ | exact loc_toMs _ _ | exact loc_eqA _ _ _ _ _ _ _ _ | exact loc_binA _ _ _ _ _ _ _ | exact loc_bound _ _ | exact loc_boundsM _ _ _ _ _ | exact loc_sliceA _ _ _ _ _ _ | exact loc_fieldAt _ _ _ _ | exact loc_indexAt _ _ _ _ | exact loc_indexS _ _ _ _ | exact loc_lenS _ _ _ | exact loc_srcCells _ _ | exact loc_appendA _ _ _ _ _ | exact loc_copyA _ _ _ _ | exact loc_findM _ _ _ _ | exact loc_enterM _ _ _ | exact loc_dataA _ _ | exact loc_ustrA _ _ _ _ | exact loc_capA _ _ _ | exact loc_clearA _ _ _ _ _ _ | exact loc_callA _ _ _ _ _ | exact loc_ex_move _ _ _ | exact loc_ex_pick _ _ _ _ _ | exact loc_ex_alloc _ _ _ | exact loc_ex_box _ _ _ _ | exact loc_ex_build _ _ _ _ | exact loc_ex_buildSlice _ _ _ _ _ | exact loc_ex_load _ _ _ _ | exact loc_ex_store _ _ _ _ _ | exact loc_ex_nilCheck _ _ _ | exact loc_cpA _ _ _ _ _ _ | refine loc_val ?_ | refine loc_unit ?_ | refine loc_bind ?_ (fun _ => ?_) | refine loc_br ?_ ?_ | refine loc_cond ?_ ?_ | split
theorem loc_ex_unOp (E : Env) (ρ : Operand → SV) (op : UnOp) (x : Operand) : Loc (ex_unOp E ρ op x) := by
  unfold ex_unOp
  with_reducible repeat' first | exact loc_pure _ | exact loc_fail _ | exact loc_asrt _ _ | exact loc_get _ | exact loc_put _ _ | exact loc_del _ | exact loc_new _ | exact loc_asInt _ | exact loc_asBool _ | exact loc_fillS _ _ _ | exact loc_info _ _ | exact loc_und _ _ | exact loc_zero _ _ | exact loc_cellsOf _ | exact loc_mapOf _ | exact loc_loadVar _ _ _ | exact loc_storeAt _ _ _ | exact loc_storeVar _ _ _ _ | exact loc_newRow _ _ _ | exact loc_newVar _ _ _ | exact loc_part _ _ _ _ | exact loc_plainM _ _ _ | exact loc_toM _ _ | exact loc_toMs _ _ | exact loc_eqA _ _ _ _ _ _ _ _ | exact loc_binA _ _ _ _ _ _ _ | exact loc_bound _ _ | exact loc_boundsM _ _ _ _ _ | exact loc_sliceA _ _ _ _ _ _ | exact loc_fieldAt _ _ _ _ | exact loc_indexAt _ _ _ _ | exact loc_indexS _ _ _ _ | exact loc_lenS _ _ _ | exact loc_srcCells _ _ | exact loc_appendA _ _ _ _ _ | exact loc_copyA _ _ _ _ | exact loc_findM _ _ _ _ | exact loc_enterM _ _ _ | exact loc_dataA _ _ | exact loc_ustrA _ _ _ _ | exact loc_capA _ _ _ | exact loc_clearA _ _ _ _ _ _ | exact loc_callA _ _ _ _ _ | exact loc_ex_move _ _ _ | exact loc_ex_pick _ _ _ _ _ | exact loc_ex_alloc _ _ _ | exact loc_ex_box _ _ _ _ | exact loc_ex_build _ _ _ _ | exact loc_ex_buildSlice _ _ _ _ _ | exact loc_ex_load _ _ _ _ | exact loc_ex_store _ _ _ _ _ | exact loc_ex_nilCheck _ _ _ | exact loc_cpA _ _ _ _ _ _ | exact loc_ex_binOp _ _ _ _ _ _ | refine loc_val ?_ | refine loc_unit ?_ | refine loc_bind ?_ (fun _ => ?_) | refine loc_br ?_ ?_ | refine loc_cond ?_ ?_ | split
theorem loc_ex_convert (E : Env) (ρ : Operand → SV) (src : TypeId) (dst : TypeId) (x : Operand) : Loc (ex_convert E ρ src dst x) := by
  unfold ex_convert
  refine loc_val ?_
  with_reducible repeat' first | exact loc_pure _ | exact loc_fail _ | exact loc_asrt _ _ | exact loc_get _ | exact loc_put _ _ | exact loc_del _ | exact loc_new _ | exact loc_asInt _ | exact loc_asBool _ | exact loc_fillS _ _ _ | exact loc_info _ _ | exact loc_und _ _ | exact loc_zero _ _ | exact loc_cellsOf _ | exact loc_mapOf _ | exact loc_loadVar _ _ _ | exact loc_storeAt _ _ _ | exact loc_storeVar _ _ _ _ | exact loc_newRow _ _ _ | exact loc_newVar _ _ _ | exact loc_part _ _ _ _ | exact loc_plainM _ _ _ | exact loc_toM _ _ | exact loc_toMs _ _ | exact loc_eqA _ _ _ _ _ _ _ _ | exact loc_binA _ _ _ _ _ _ _ | exact loc_bound _ _ | exact loc_boundsM _ _ _ _ _ | exact loc_sliceA _ _ _ _ _ _ | exact loc_fieldAt _ _ _ _ | exact loc_indexAt _ _ _ _ | exact loc_indexS _ _ _ _ | exact loc_lenS _ _ _ | exact loc_srcCells _ _ | exact loc_appendA _ _ _ _ _ | exact loc_copyA _ _ _ _ | exact loc_findM _ _ _ _ | exact loc_enterM _ _ _ | exact loc_dataA _ _ | exact loc_ustrA _ _ _ _ | exact loc_capA _ _ _ | exact loc_clearA _ _ _ _ _ _ | exact loc_callA _ _ _ _ _ | exact loc_ex_move _ _ _ | exact loc_ex_pick _ _ _ _ _ | exact loc_ex_alloc _ _ _ | exact loc_ex_box _ _ _ _ | exact loc_ex_build _ _ _ _ | exact loc_ex_buildSlice _ _ _ _ _ | exact loc_ex_load _ _ _ _ | exact loc_ex_store _ _ _ _ _ | exact loc_ex_nilCheck _ _ _ | exact loc_cpA _ _ _ _ _ _ | exact loc_ex_binOp _ _ _ _ _ _ | exact loc_ex_unOp _ _ _ _ | refine loc_val ?_ | refine loc_unit ?_ | refine loc_bind ?_ (fun _ => ?_) | refine loc_br ?_ ?_ | refine loc_cond ?_ ?_ | split
theorem loc_ex_makeInterface (E : Env) (ρ : Operand → SV) (t : TypeId) (x : Operand) : Loc (ex_makeInterface E ρ t x) := by
  unfold ex_makeInterface
  with_reducible repeat' first | exact loc_pure _ | exact loc_fail _ | exact loc_asrt _ _ | exact loc_get _ | exact loc_put _ _ | exact loc_del _ | exact loc_new _ | exact loc_asInt _ | exact loc_asBool _ | exact loc_fillS _ _ _ | exact loc_info _ _ | exact loc_und _ _ | exact loc_zero _ _ | exact loc_cellsOf _ | exact loc_mapOf _ | exact loc_loadVar _ _ _ | exact loc_storeAt _ _ _ | exact loc_storeVar _ _ _ _ | exact loc_newRow _ _ _ | exact loc_newVar _ _ _ | exact loc_part _ _ _ _ | exact loc_plainM _ _ _ | exact loc_toM _ _ | exact loc_toMs _ _ | exact loc_eqA _ _ _ _ _ _ _ _ | exact loc_binA _ _ _ _ _ _ _ | exact loc_bound _ _ | exact loc_boundsM _ _ _ _ _ | exact loc_sliceA _ _ _ _ _ _ | exact loc_fieldAt _ _ _ _ | exact loc_indexAt _ _ _ _ | exact loc_indexS _ _ _ _ | exact loc_lenS _ _ _ | exact loc_srcCells _ _ | exact loc_appendA _ _ _ _ _ | exact loc_copyA _ _ _ _ | exact loc_findM _ _ _ _ | exact loc_enterM _ _ _ | exact loc_dataA _ _ | exact loc_ustrA _ _ _ _ | exact loc_capA _ _ _ | exact loc_clearA _ _ _ _ _ _ | exact loc_callA _ _ _ _ _ | exact loc_ex_move _ _ _ | exact loc_ex_pick _ _ _ _ _ | exact loc_ex_alloc _ _ _ | exact loc_ex_box _ _ _ _ | exact loc_ex_build _ _ _ _ | exact loc_ex_buildSlice _ _ _ _ _ | exact loc_ex_load _ _ _ _ | exact loc_ex_store _ _ _ _ _ | exact loc_ex_nilCheck _ _ _ | exact loc_cpA _ _ _ _ _ _ | exact loc_ex_binOp _ _ _ _ _ _ | exact loc_ex_unOp _ _ _ _ | exact loc_ex_convert _ _ _ _ _ | refine loc_val ?_ | refine loc_unit ?_ | refine loc_bind ?_ (fun _ => ?_) | refine loc_br ?_ ?_ | refine loc_cond ?_ ?_ | split
theorem loc_ex_makeFunc (E : Env) (ρ : Operand → SV) (f : Fn) (a : Array Operand) (c : Array Operand) : Loc (ex_makeFunc E ρ f a c) := by
  unfold ex_makeFunc
  with_reducible repeat' first | exact loc_pure _ | exact loc_fail _ | exact loc_asrt _ _ | exact loc_get _ | exact loc_put _ _ | exact loc_del _ | exact loc_new _ | exact loc_asInt _ | exact loc_asBool _ | exact loc_fillS _ _ _ | exact loc_info _ _ | exact loc_und _ _ | exact loc_zero _ _ | exact loc_cellsOf _ | exact loc_mapOf _ | exact loc_loadVar _ _ _ | exact loc_storeAt _ _ _ | exact loc_storeVar _ _ _ _ | exact loc_newRow _ _ _ | exact loc_newVar _ _ _ | exact loc_part _ _ _ _ | exact loc_plainM _ _ _ | exact loc_toM _ _ | exact loc_toMs _ _ | exact loc_eqA _ _ _ _ _ _ _ _ | exact loc_binA _ _ _ _ _ _ _ | exact loc_bound _ _ | exact loc_boundsM _ _ _ _ _ | exact loc_sliceA _ _ _ _ _ _ | exact loc_fieldAt _ _ _ _ | exact loc_indexAt _ _ _ _ | exact loc_indexS _ _ _ _ | exact loc_lenS _ _ _ | exact loc_srcCells _ _ | exact loc_appendA _ _ _ _ _ | exact loc_copyA _ _ _ _ | exact loc_findM _ _ _ _ | exact loc_enterM _ _ _ | exact loc_dataA _ _ | exact loc_ustrA _ _ _ _ | exact loc_capA _ _ _ | exact loc_clearA _ _ _ _ _ _ | exact loc_callA _ _ _ _ _ | exact loc_ex_move _ _ _ | exact loc_ex_pick _ _ _ _ _ | exact loc_ex_alloc _ _ _ | exact loc_ex_box _ _ _ _ | exact loc_ex_build _ _ _ _ | exact loc_ex_buildSlice _ _ _ _ _ | exact loc_ex_load _ _ _ _ | exact loc_ex_store _ _ _ _ _ | exact loc_ex_nilCheck _ _ _ | exact loc_cpA _ _ _ _ _ _ | exact loc_ex_binOp _ _ _ _ _ _ | exact loc_ex_unOp _ _ _ _ | exact loc_ex_convert _ _ _ _ _ | exact loc_ex_makeInterface _ _ _ _ | refine loc_val ?_ | refine loc_unit ?_ | refine loc_bind ?_ (fun _ => ?_) | refine loc_br ?_ ?_ | refine loc_cond ?_ ?_ | split
theorem loc_ex_makeMap (E : Env) (ρ : Operand → SV) (t : TypeId) (r : Option Operand) : Loc (ex_makeMap E ρ t r) := by
  unfold ex_makeMap
  with_reducible repeat' first | exact loc_pure _ | exact loc_fail _ | exact loc_asrt _ _ | exact loc_get _ | exact loc_put _ _ | exact loc_del _ | exact loc_new _ | exact loc_asInt _ | exact loc_asBool _ | exact loc_fillS _ _ _ | exact loc_info _ _ | exact loc_und _ _ | exact loc_zero _ _ | exact loc_cellsOf _ | exact loc_mapOf _ | exact loc_loadVar _ _ _ | exact loc_storeAt _ _ _ | exact loc_storeVar _ _ _ _ | exact loc_newRow _ _ _ | exact loc_newVar _ _ _ | exact loc_part _ _ _ _ | exact loc_plainM _ _ _ | exact loc_toM _ _ | exact loc_toMs _ _ | exact loc_eqA _ _ _ _ _ _ _ _ | exact loc_binA _ _ _ _ _ _ _ | exact loc_bound _ _ | exact loc_boundsM _ _ _ _ _ | exact loc_sliceA _ _ _ _ _ _ | exact loc_fieldAt _ _ _ _ | exact loc_indexAt _ _ _ _ | exact loc_indexS _ _ _ _ | exact loc_lenS _ _ _ | exact loc_srcCells _ _ | exact loc_appendA _ _ _ _ _ | exact loc_copyA _ _ _ _ | exact loc_findM _ _ _ _ | exact loc_enterM _ _ _ | exact loc_dataA _ _ | exact loc_ustrA _ _ _ _ | exact loc_capA _ _ _ | exact loc_clearA _ _ _ _ _ _ | exact loc_callA _ _ _ _ _ | exact loc_ex_move _ _ _ | exact loc_ex_pick _ _ _ _ _ | exact loc_ex_alloc _ _ _ | exact loc_ex_box _ _ _ _ | exact loc_ex_build _ _ _ _ | exact loc_ex_buildSlice _ _ _ _ _ | exact loc_ex_load _ _ _ _ | exact loc_ex_store _ _ _ _ _ | exact loc_ex_nilCheck _ _ _ | exact loc_cpA _ _ _ _ _ _ | exact loc_ex_binOp _ _ _ _ _ _ | exact loc_ex_unOp _ _ _ _ | exact loc_ex_convert _ _ _ _ _ | exact loc_ex_makeInterface _ _ _ _ | exact loc_ex_makeFunc _ _ _ _ _ | refine loc_val ?_ | refine loc_unit ?_ | refine loc_bind ?_ (fun _ => ?_) | refine loc_br ?_ ?_ | refine loc_cond ?_ ?_ | split
theorem loc_ex_makeSlice (E : Env) (ρ : Operand → SV) (t : TypeId) (l : Operand) (c : Operand) : Loc (ex_makeSlice E ρ t l c) := by
  unfold ex_makeSlice
  refine loc_val ?_
  with_reducible repeat' first | exact loc_pure _ | exact loc_fail _ | exact loc_asrt _ _ | exact loc_get _ | exact loc_put _ _ | exact loc_del _ | exact loc_new _ | exact loc_asInt _ | exact loc_asBool _ | exact loc_fillS _ _ _ | exact loc_info _ _ | exact loc_und _ _ | exact loc_zero _ _ | exact loc_cellsOf _ | exact loc_mapOf _ | exact loc_loadVar _ _ _ | exact loc_storeAt _ _ _ | exact loc_storeVar _ _ _ _ | exact loc_newRow _ _ _ | exact loc_newVar _ _ _ | exact loc_part _ _ _ _ | exact loc_plainM _ _ _ | exact loc_toM _ _ | exact loc_toMs _ _ | exact loc_eqA _ _ _ _ _ _ _ _ | exact loc_binA _ _ _ _ _ _ _ | exact loc_bound _ _ | exact loc_boundsM _ _ _ _ _ | exact loc_sliceA _ _ _ _ _ _ | exact loc_fieldAt _ _ _ _ | exact loc_indexAt _ _ _ _ | exact loc_indexS _ _ _ _ | exact loc_lenS _ _ _ | exact loc_srcCells _ _ | exact loc_appendA _ _ _ _ _ | exact loc_copyA _ _ _ _ | exact loc_findM _ _ _ _ | exact loc_enterM _ _ _ | exact loc_dataA _ _ | exact loc_ustrA _ _ _ _ | exact loc_capA _ _ _ | exact loc_clearA _ _ _ _ _ _ | exact loc_callA _ _ _ _ _ | exact loc_ex_move _ _ _ | exact loc_ex_pick _ _ _ _ _ | exact loc_ex_alloc _ _ _ | exact loc_ex_box _ _ _ _ | exact loc_ex_build _ _ _ _ | exact loc_ex_buildSlice _ _ _ _ _ | exact loc_ex_load _ _ _ _ | exact loc_ex_store _ _ _ _ _ | exact loc_ex_nilCheck _ _ _ | exact loc_cpA _ _ _ _ _ _ | exact loc_ex_binOp _ _ _ _ _ _ | exact loc_ex_unOp _ _ _ _ | exact loc_ex_convert _ _ _ _ _ | exact loc_ex_makeInterface _ _ _ _ | exact loc_ex_makeFunc _ _ _ _ _ | exact loc_ex_makeMap _ _ _ _ | refine loc_val ?_ | refine loc_unit ?_ | refine loc_bind ?_ (fun _ => ?_) | refine loc_br ?_ ?_ | refine loc_cond ?_ ?_ | split
theorem loc_ex_slice (E : Env) (ρ : Operand → SV) (t : TypeId) (x : Operand) (lo : Option Operand) (hi : Option Operand) (mx : Option Operand) : Loc (ex_slice E ρ t x lo hi mx) := by
  unfold ex_slice
  refine loc_val ?_
  with_reducible repeat' first | exact loc_pure _ | exact loc_fail _ | exact loc_asrt _ _ | exact loc_get _ | exact loc_put _ _ | exact loc_del _ | exact loc_new _ | exact loc_asInt _ | exact loc_asBool _ | exact loc_fillS _ _ _ | exact loc_info _ _ | exact loc_und _ _ | exact loc_zero _ _ | exact loc_cellsOf _ | exact loc_mapOf _ | exact loc_loadVar _ _ _ | exact loc_storeAt _ _ _ | exact loc_storeVar _ _ _ _ | exact loc_newRow _ _ _ | exact loc_newVar _ _ _ | exact loc_part _ _ _ _ | exact loc_plainM _ _ _ | exact loc_toM _ _ | exact loc_toMs _ _ | exact loc_eqA _ _ _ _ _ _ _ _ | exact loc_binA _ _ _ _ _ _ _ | exact loc_bound _ _ | exact loc_boundsM _ _ _ _ _ | exact loc_sliceA _ _ _ _ _ _ | exact loc_fieldAt _ _ _ _ | exact loc_indexAt _ _ _ _ | exact loc_indexS _ _ _ _ | exact loc_lenS _ _ _ | exact loc_srcCells _ _ | exact loc_appendA _ _ _ _ _ | exact loc_copyA _ _ _ _ | exact loc_findM _ _ _ _ | exact loc_enterM _ _ _ | exact loc_dataA _ _ | exact loc_ustrA _ _ _ _ | exact loc_capA _ _ _ | exact loc_clearA _ _ _ _ _ _ | exact loc_callA _ _ _ _ _ | exact loc_ex_move _ _ _ | exact loc_ex_pick _ _ _ _ _ | exact loc_ex_alloc _ _ _ | exact loc_ex_box _ _ _ _ | exact loc_ex_build _ _ _ _ | exact loc_ex_buildSlice _ _ _ _ _ | exact loc_ex_load _ _ _ _ | exact loc_ex_store _ _ _ _ _ | exact loc_ex_nilCheck _ _ _ | exact loc_cpA _ _ _ _ _ _ | exact loc_ex_binOp _ _ _ _ _ _ | exact loc_ex_unOp _ _ _ _ | exact loc_ex_convert _ _ _ _ _ | exact loc_ex_makeInterface _ _ _ _ | exact loc_ex_makeFunc _ _ _ _ _ | exact loc_ex_makeMap _ _ _ _ | exact loc_ex_makeSlice _ _ _ _ _ | refine loc_val ?_ | refine loc_unit ?_ | refine loc_bind ?_ (fun _ => ?_) | refine loc_br ?_ ?_ | refine loc_cond ?_ ?_ | split
theorem loc_ex_fieldAddr (E : Env) (ρ : Operand → SV) (s : TypeId) (x : Operand) (f : Nat) : Loc (ex_fieldAddr E ρ s x f) := by
  unfold ex_fieldAddr
  refine loc_val ?_
  with_reducible repeat' first | exact loc_pure _ | exact loc_fail _ | exact loc_asrt _ _ | exact loc_get _ | exact loc_put _ _ | exact loc_del _ | exact loc_new _ | exact loc_asInt _ | exact loc_asBool _ | exact loc_fillS _ _ _ | exact loc_info _ _ | exact loc_und _ _ | exact loc_zero _ _ | exact loc_cellsOf _ | exact loc_mapOf _ | exact loc_loadVar _ _ _ | exact loc_storeAt _ _ _ | exact loc_storeVar _ _ _ _ | exact loc_newRow _ _ _ | exact loc_newVar _ _ _ | exact loc_part _ _ _ _ | exact loc_plainM _ _ _ | exact loc_toM _ _ | exact loc_toMs _ _ | exact loc_eqA _ _ _ _ _ _ _ _ | exact loc_binA _ _ _ _ _ _ _ | exact loc_bound _ _ | exact loc_boundsM _ _ _ _ _ | exact loc_sliceA _ _ _ _ _ _ | exact loc_fieldAt _ _ _ _ | exact loc_indexAt _ _ _ _ | exact loc_indexS _ _ _ _ | exact loc_lenS _ _ _ | exact loc_srcCells _ _ | exact loc_appendA _ _ _ _ _ | exact loc_copyA _ _ _ _ | exact loc_findM _ _ _ _ | exact loc_enterM _ _ _ | exact loc_dataA _ _ | exact loc_ustrA _ _ _ _ | exact loc_capA _ _ _ | exact loc_clearA _ _ _ _ _ _ | exact loc_callA _ _ _ _ _ | exact loc_ex_move _ _ _ | exact loc_ex_pick _ _ _ _ _ | exact loc_ex_alloc _ _ _ | exact loc_ex_box _ _ _ _ | exact loc_ex_build _ _ _ _ | exact loc_ex_buildSlice _ _ _ _ _ | exact loc_ex_load _ _ _ _ | exact loc_ex_store _ _ _ _ _ | exact loc_ex_nilCheck _ _ _ | exact loc_cpA _ _ _ _ _ _ | exact loc_ex_binOp _ _ _ _ _ _ | exact loc_ex_unOp _ _ _ _ | exact loc_ex_convert _ _ _ _ _ | exact loc_ex_makeInterface _ _ _ _ | exact loc_ex_makeFunc _ _ _ _ _ | exact loc_ex_makeMap _ _ _ _ | exact loc_ex_makeSlice _ _ _ _ _ | exact loc_ex_slice _ _ _ _ _ _ _ | refine loc_val ?_ | refine loc_unit ?_ | refine loc_bind ?_ (fun _ => ?_) | refine loc_br ?_ ?_ | refine loc_cond ?_ ?_ | split
theorem loc_ex_field (E : Env) (ρ : Operand → SV) (t : TypeId) (x : Operand) (f : Nat) : Loc (ex_field E ρ t x f) := by
  unfold ex_field
  refine loc_val ?_
  with_reducible repeat' first | exact loc_pure _ | exact loc_fail _ | exact loc_asrt _ _ | exact loc_get _ | exact loc_put _ _ | exact loc_del _ | exact loc_new _ | exact loc_asInt _ | exact loc_asBool _ | exact loc_fillS _ _ _ | exact loc_info _ _ | exact loc_und _ _ | exact loc_zero _ _ | exact loc_cellsOf _ | exact loc_mapOf _ | exact loc_loadVar _ _ _ | exact loc_storeAt _ _ _ | exact loc_storeVar _ _ _ _ | exact loc_newRow _ _ _ | exact loc_newVar _ _ _ | exact loc_part _ _ _ _ | exact loc_plainM _ _ _ | exact loc_toM _ _ | exact loc_toMs _ _ | exact loc_eqA _ _ _ _ _ _ _ _ | exact loc_binA _ _ _ _ _ _ _ | exact loc_bound _ _ | exact loc_boundsM _ _ _ _ _ | exact loc_sliceA _ _ _ _ _ _ | exact loc_fieldAt _ _ _ _ | exact loc_indexAt _ _ _ _ | exact loc_indexS _ _ _ _ | exact loc_lenS _ _ _ | exact loc_srcCells _ _ | exact loc_appendA _ _ _ _ _ | exact loc_copyA _ _ _ _ | exact loc_findM _ _ _ _ | exact loc_enterM _ _ _ | exact loc_dataA _ _ | exact loc_ustrA _ _ _ _ | exact loc_capA _ _ _ | exact loc_clearA _ _ _ _ _ _ | exact loc_callA _ _ _ _ _ | exact loc_ex_move _ _ _ | exact loc_ex_pick _ _ _ _ _ | exact loc_ex_alloc _ _ _ | exact loc_ex_box _ _ _ _ | exact loc_ex_build _ _ _ _ | exact loc_ex_buildSlice _ _ _ _ _ | exact loc_ex_load _ _ _ _ | exact loc_ex_store _ _ _ _ _ | exact loc_ex_nilCheck _ _ _ | exact loc_cpA _ _ _ _ _ _ | exact loc_ex_binOp _ _ _ _ _ _ | exact loc_ex_unOp _ _ _ _ | exact loc_ex_convert _ _ _ _ _ | exact loc_ex_makeInterface _ _ _ _ | exact loc_ex_makeFunc _ _ _ _ _ | exact loc_ex_makeMap _ _ _ _ | exact loc_ex_makeSlice _ _ _ _ _ | exact loc_ex_slice _ _ _ _ _ _ _ | exact loc_ex_fieldAddr _ _ _ _ _ | refine loc_val ?_ | refine loc_unit ?_ | refine loc_bind ?_ (fun _ => ?_) | refine loc_br ?_ ?_ | refine loc_cond ?_ ?_ | split
theorem loc_ex_indexAddr (E : Env) (ρ : Operand → SV) (t : TypeId) (x : Operand) (ix : Operand) : Loc (ex_indexAddr E ρ t x ix) := by
  unfold ex_indexAddr
  refine loc_val ?_
  with_reducible repeat' first | exact loc_pure _ | exact loc_fail _ | exact loc_asrt _ _ | exact loc_get _ | exact loc_put _ _ | exact loc_del _ | exact loc_new _ | exact loc_asInt _ | exact loc_asBool _ | exact loc_fillS _ _ _ | exact loc_info _ _ | exact loc_und _ _ | exact loc_zero _ _ | exact loc_cellsOf _ | exact loc_mapOf _ | exact loc_loadVar _ _ _ | exact loc_storeAt _ _ _ | exact loc_storeVar _ _ _ _ | exact loc_newRow _ _ _ | exact loc_newVar _ _ _ | exact loc_part _ _ _ _ | exact loc_plainM _ _ _ | exact loc_toM _ _ | exact loc_toMs _ _ | exact loc_eqA _ _ _ _ _ _ _ _ | exact loc_binA _ _ _ _ _ _ _ | exact loc_bound _ _ | exact loc_boundsM _ _ _ _ _ | exact loc_sliceA _ _ _ _ _ _ | exact loc_fieldAt _ _ _ _ | exact loc_indexAt _ _ _ _ | exact loc_indexS _ _ _ _ | exact loc_lenS _ _ _ | exact loc_srcCells _ _ | exact loc_appendA _ _ _ _ _ | exact loc_copyA _ _ _ _ | exact loc_findM _ _ _ _ | exact loc_enterM _ _ _ | exact loc_dataA _ _ | exact loc_ustrA _ _ _ _ | exact loc_capA _ _ _ | exact loc_clearA _ _ _ _ _ _ | exact loc_callA _ _ _ _ _ | exact loc_ex_move _ _ _ | exact loc_ex_pick _ _ _ _ _ | exact loc_ex_alloc _ _ _ | exact loc_ex_box _ _ _ _ | exact loc_ex_build _ _ _ _ | exact loc_ex_buildSlice _ _ _ _ _ | exact loc_ex_load _ _ _ _ | exact loc_ex_store _ _ _ _ _ | exact loc_ex_nilCheck _ _ _ | exact loc_cpA _ _ _ _ _ _ | exact loc_ex_binOp _ _ _ _ _ _ | exact loc_ex_unOp _ _ _ _ | exact loc_ex_convert _ _ _ _ _ | exact loc_ex_makeInterface _ _ _ _ | exact loc_ex_makeFunc _ _ _ _ _ | exact loc_ex_makeMap _ _ _ _ | exact loc_ex_makeSlice _ _ _ _ _ | exact loc_ex_slice _ _ _ _ _ _ _ | exact loc_ex_fieldAddr _ _ _ _ _ | exact loc_ex_field _ _ _ _ _ | refine loc_val ?_ | refine loc_unit ?_ | refine loc_bind ?_ (fun _ => ?_) | refine loc_br ?_ ?_ | refine loc_cond ?_ ?_ | split
theorem loc_ex_index (E : Env) (ρ : Operand → SV) (t : TypeId) (x : Operand) (ix : Operand) : Loc (ex_index E ρ t x ix) := by
  unfold ex_index
  refine loc_val ?_
  with_reducible repeat' first | exact loc_pure _ | exact loc_fail _ | exact loc_asrt _ _ | exact loc_get _ | exact loc_put _ _ | exact loc_del _ | exact loc_new _ | exact loc_asInt _ | exact loc_asBool _ | exact loc_fillS _ _ _ | exact loc_info _ _ | exact loc_und _ _ | exact loc_zero _ _ | exact loc_cellsOf _ | exact loc_mapOf _ | exact loc_loadVar _ _ _ | exact loc_storeAt _ _ _ | exact loc_storeVar _ _ _ _ | exact loc_newRow _ _ _ | exact loc_newVar _ _ _ | exact loc_part _ _ _ _ | exact loc_plainM _ _ _ | exact loc_toM _ _ | exact loc_toMs _ _ | exact loc_eqA _ _ _ _ _ _ _ _ | exact loc_binA _ _ _ _ _ _ _ | exact loc_bound _ _ | exact loc_boundsM _ _ _ _ _ | exact loc_sliceA _ _ _ _ _ _ | exact loc_fieldAt _ _ _ _ | exact loc_indexAt _ _ _ _ | exact loc_indexS _ _ _ _ | exact loc_lenS _ _ _ | exact loc_srcCells _ _ | exact loc_appendA _ _ _ _ _ | exact loc_copyA _ _ _ _ | exact loc_findM _ _ _ _ | exact loc_enterM _ _ _ | exact loc_dataA _ _ | exact loc_ustrA _ _ _ _ | exact loc_capA _ _ _ | exact loc_clearA _ _ _ _ _ _ | exact loc_callA _ _ _ _ _ | exact loc_ex_move _ _ _ | exact loc_ex_pick _ _ _ _ _ | exact loc_ex_alloc _ _ _ | exact loc_ex_box _ _ _ _ | exact loc_ex_build _ _ _ _ | exact loc_ex_buildSlice _ _ _ _ _ | exact loc_ex_load _ _ _ _ | exact loc_ex_store _ _ _ _ _ | exact loc_ex_nilCheck _ _ _ | exact loc_cpA _ _ _ _ _ _ | exact loc_ex_binOp _ _ _ _ _ _ | exact loc_ex_unOp _ _ _ _ | exact loc_ex_convert _ _ _ _ _ | exact loc_ex_makeInterface _ _ _ _ | exact loc_ex_makeFunc _ _ _ _ _ | exact loc_ex_makeMap _ _ _ _ | exact loc_ex_makeSlice _ _ _ _ _ | exact loc_ex_slice _ _ _ _ _ _ _ | exact loc_ex_fieldAddr _ _ _ _ _ | exact loc_ex_field _ _ _ _ _ | exact loc_ex_indexAddr _ _ _ _ _ | refine loc_val ?_ | refine loc_unit ?_ | refine loc_bind ?_ (fun _ => ?_) | refine loc_br ?_ ?_ | refine loc_cond ?_ ?_ | split
theorem loc_ex_lookup (E : Env) (ρ : Operand → SV) (t : TypeId) (m : Operand) (k : Operand) (ok : Bool) : Loc (ex_lookup E ρ t m k ok) := by
  unfold ex_lookup
  refine loc_val ?_
  with_reducible repeat' first | exact loc_pure _ | exact loc_fail _ | exact loc_asrt _ _ | exact loc_get _ | exact loc_put _ _ | exact loc_del _ | exact loc_new _ | exact loc_asInt _ | exact loc_asBool _ | exact loc_fillS _ _ _ | exact loc_info _ _ | exact loc_und _ _ | exact loc_zero _ _ | exact loc_cellsOf _ | exact loc_mapOf _ | exact loc_loadVar _ _ _ | exact loc_storeAt _ _ _ | exact loc_storeVar _ _ _ _ | exact loc_newRow _ _ _ | exact loc_newVar _ _ _ | exact loc_part _ _ _ _ | exact loc_plainM _ _ _ | exact loc_toM _ _ | exact loc_toMs _ _ | exact loc_eqA _ _ _ _ _ _ _ _ | exact loc_binA _ _ _ _ _ _ _ | exact loc_bound _ _ | exact loc_boundsM _ _ _ _ _ | exact loc_sliceA _ _ _ _ _ _ | exact loc_fieldAt _ _ _ _ | exact loc_indexAt _ _ _ _ | exact loc_indexS _ _ _ _ | exact loc_lenS _ _ _ | exact loc_srcCells _ _ | exact loc_appendA _ _ _ _ _ | exact loc_copyA _ _ _ _ | exact loc_findM _ _ _ _ | exact loc_enterM _ _ _ | exact loc_dataA _ _ | exact loc_ustrA _ _ _ _ | exact loc_capA _ _ _ | exact loc_clearA _ _ _ _ _ _ | exact loc_callA _ _ _ _ _ | exact loc_ex_move _ _ _ | exact loc_ex_pick _ _ _ _ _ | exact loc_ex_alloc _ _ _ | exact loc_ex_box _ _ _ _ | exact loc_ex_build _ _ _ _ | exact loc_ex_buildSlice _ _ _ _ _ | exact loc_ex_load _ _ _ _ | exact loc_ex_store _ _ _ _ _ | exact loc_ex_nilCheck _ _ _ | exact loc_cpA _ _ _ _ _ _ | exact loc_ex_binOp _ _ _ _ _ _ | exact loc_ex_unOp _ _ _ _ | exact loc_ex_convert _ _ _ _ _ | exact loc_ex_makeInterface _ _ _ _ | exact loc_ex_makeFunc _ _ _ _ _ | exact loc_ex_makeMap _ _ _ _ | exact loc_ex_makeSlice _ _ _ _ _ | exact loc_ex_slice _ _ _ _ _ _ _ | exact loc_ex_fieldAddr _ _ _ _ _ | exact loc_ex_field _ _ _ _ _ | exact loc_ex_indexAddr _ _ _ _ _ | exact loc_ex_index _ _ _ _ _ | refine loc_val ?_ | refine loc_unit ?_ | refine loc_bind ?_ (fun _ => ?_) | refine loc_br ?_ ?_ | refine loc_cond ?_ ?_ | split
theorem loc_ex_mapUpdate (E : Env) (ρ : Operand → SV) (t : TypeId) (m : Operand) (k : Operand) (x : Operand) : Loc (ex_mapUpdate E ρ t m k x) := by
  unfold ex_mapUpdate
  with_reducible repeat' first | exact loc_pure _ | exact loc_fail _ | exact loc_asrt _ _ | exact loc_get _ | exact loc_put _ _ | exact loc_del _ | exact loc_new _ | exact loc_asInt _ | exact loc_asBool _ | exact loc_fillS _ _ _ | exact loc_info _ _ | exact loc_und _ _ | exact loc_zero _ _ | exact loc_cellsOf _ | exact loc_mapOf _ | exact loc_loadVar _ _ _ | exact loc_storeAt _ _ _ | exact loc_storeVar _ _ _ _ | exact loc_newRow _ _ _ | exact loc_newVar _ _ _ | exact loc_part _ _ _ _ | exact loc_plainM _ _ _ | exact loc_toM _ _ | exact loc_toMs _ _ | exact loc_eqA _ _ _ _ _ _ _ _ | exact loc_binA _ _ _ _ _ _ _ | exact loc_bound _ _ | exact loc_boundsM _ _ _ _ _ | exact loc_sliceA _ _ _ _ _ _ | exact loc_fieldAt _ _ _ _ | exact loc_indexAt _ _ _ _ | exact loc_indexS _ _ _ _ | exact loc_lenS _ _ _ | exact loc_srcCells _ _ | exact loc_appendA _ _ _ _ _ | exact loc_copyA _ _ _ _ | exact loc_findM _ _ _ _ | exact loc_enterM _ _ _ | exact loc_dataA _ _ | exact loc_ustrA _ _ _ _ | exact loc_capA _ _ _ | exact loc_clearA _ _ _ _ _ _ | exact loc_callA _ _ _ _ _ | exact loc_ex_move _ _ _ | exact loc_ex_pick _ _ _ _ _ | exact loc_ex_alloc _ _ _ | exact loc_ex_box _ _ _ _ | exact loc_ex_build _ _ _ _ | exact loc_ex_buildSlice _ _ _ _ _ | exact loc_ex_load _ _ _ _ | exact loc_ex_store _ _ _ _ _ | exact loc_ex_nilCheck _ _ _ | exact loc_cpA _ _ _ _ _ _ | exact loc_ex_binOp _ _ _ _ _ _ | exact loc_ex_unOp _ _ _ _ | exact loc_ex_convert _ _ _ _ _ | exact loc_ex_makeInterface _ _ _ _ | exact loc_ex_makeFunc _ _ _ _ _ | exact loc_ex_makeMap _ _ _ _ | exact loc_ex_makeSlice _ _ _ _ _ | exact loc_ex_slice _ _ _ _ _ _ _ | exact loc_ex_fieldAddr _ _ _ _ _ | exact loc_ex_field _ _ _ _ _ | exact loc_ex_indexAddr _ _ _ _ _ | exact loc_ex_index _ _ _ _ _ | exact loc_ex_lookup _ _ _ _ _ _ | refine loc_val ?_ | refine loc_unit ?_ | refine loc_bind ?_ (fun _ => ?_) | refine loc_br ?_ ?_ | refine loc_cond ?_ ?_ | split
theorem loc_ex_mapEntry (E : Env) (ρ : Operand → SV) (t : TypeId) (m : Operand) (k : Operand) : Loc (ex_mapEntry E ρ t m k) := by
  unfold ex_mapEntry
  refine loc_val ?_
  with_reducible repeat' first | exact loc_pure _ | exact loc_fail _ | exact loc_asrt _ _ | exact loc_get _ | exact loc_put _ _ | exact loc_del _ | exact loc_new _ | exact loc_asInt _ | exact loc_asBool _ | exact loc_fillS _ _ _ | exact loc_info _ _ | exact loc_und _ _ | exact loc_zero _ _ | exact loc_cellsOf _ | exact loc_mapOf _ | exact loc_loadVar _ _ _ | exact loc_storeAt _ _ _ | exact loc_storeVar _ _ _ _ | exact loc_newRow _ _ _ | exact loc_newVar _ _ _ | exact loc_part _ _ _ _ | exact loc_plainM _ _ _ | exact loc_toM _ _ | exact loc_toMs _ _ | exact loc_eqA _ _ _ _ _ _ _ _ | exact loc_binA _ _ _ _ _ _ _ | exact loc_bound _ _ | exact loc_boundsM _ _ _ _ _ | exact loc_sliceA _ _ _ _ _ _ | exact loc_fieldAt _ _ _ _ | exact loc_indexAt _ _ _ _ | exact loc_indexS _ _ _ _ | exact loc_lenS _ _ _ | exact loc_srcCells _ _ | exact loc_appendA _ _ _ _ _ | exact loc_copyA _ _ _ _ | exact loc_findM _ _ _ _ | exact loc_enterM _ _ _ | exact loc_dataA _ _ | exact loc_ustrA _ _ _ _ | exact loc_capA _ _ _ | exact loc_clearA _ _ _ _ _ _ | exact loc_callA _ _ _ _ _ | exact loc_ex_move _ _ _ | exact loc_ex_pick _ _ _ _ _ | exact loc_ex_alloc _ _ _ | exact loc_ex_box _ _ _ _ | exact loc_ex_build _ _ _ _ | exact loc_ex_buildSlice _ _ _ _ _ | exact loc_ex_load _ _ _ _ | exact loc_ex_store _ _ _ _ _ | exact loc_ex_nilCheck _ _ _ | exact loc_cpA _ _ _ _ _ _ | exact loc_ex_binOp _ _ _ _ _ _ | exact loc_ex_unOp _ _ _ _ | exact loc_ex_convert _ _ _ _ _ | exact loc_ex_makeInterface _ _ _ _ | exact loc_ex_makeFunc _ _ _ _ _ | exact loc_ex_makeMap _ _ _ _ | exact loc_ex_makeSlice _ _ _ _ _ | exact loc_ex_slice _ _ _ _ _ _ _ | exact loc_ex_fieldAddr _ _ _ _ _ | exact loc_ex_field _ _ _ _ _ | exact loc_ex_indexAddr _ _ _ _ _ | exact loc_ex_index _ _ _ _ _ | exact loc_ex_lookup _ _ _ _ _ _ | exact loc_ex_mapUpdate _ _ _ _ _ _ | refine loc_val ?_ | refine loc_unit ?_ | refine loc_bind ?_ (fun _ => ?_) | refine loc_br ?_ ?_ | refine loc_cond ?_ ?_ | split
theorem loc_ex_entryStore (E : Env) (ρ : Operand → SV) (m : Operand) (s : Operand) (x : Operand) : Loc (ex_entryStore E ρ m s x) := by
  unfold ex_entryStore
  with_reducible repeat' first | exact loc_pure _ | exact loc_fail _ | exact loc_asrt _ _ | exact loc_get _ | exact loc_put _ _ | exact loc_del _ | exact loc_new _ | exact loc_asInt _ | exact loc_asBool _ | exact loc_fillS _ _ _ | exact loc_info _ _ | exact loc_und _ _ | exact loc_zero _ _ | exact loc_cellsOf _ | exact loc_mapOf _ | exact loc_loadVar _ _ _ | exact loc_storeAt _ _ _ | exact loc_storeVar _ _ _ _ | exact loc_newRow _ _ _ | exact loc_newVar _ _ _ | exact loc_part _ _ _ _ | exact loc_plainM _ _ _ | exact loc_toM _ _ | exact loc_toMs _ _ | exact loc_eqA _ _ _ _ _ _ _ _ | exact loc_binA _ _ _ _ _ _ _ | exact loc_bound _ _ | exact loc_boundsM _ _ _ _ _ | exact loc_sliceA _ _ _ _ _ _ | exact loc_fieldAt _ _ _ _ | exact loc_indexAt _ _ _ _ | exact loc_indexS _ _ _ _ | exact loc_lenS _ _ _ | exact loc_srcCells _ _ | exact loc_appendA _ _ _ _ _ | exact loc_copyA _ _ _ _ | exact loc_findM _ _ _ _ | exact loc_enterM _ _ _ | exact loc_dataA _ _ | exact loc_ustrA _ _ _ _ | exact loc_capA _ _ _ | exact loc_clearA _ _ _ _ _ _ | exact loc_callA _ _ _ _ _ | exact loc_ex_move _ _ _ | exact loc_ex_pick _ _ _ _ _ | exact loc_ex_alloc _ _ _ | exact loc_ex_box _ _ _ _ | exact loc_ex_build _ _ _ _ | exact loc_ex_buildSlice _ _ _ _ _ | exact loc_ex_load _ _ _ _ | exact loc_ex_store _ _ _ _ _ | exact loc_ex_nilCheck _ _ _ | exact loc_cpA _ _ _ _ _ _ | exact loc_ex_binOp _ _ _ _ _ _ | exact loc_ex_unOp _ _ _ _ | exact loc_ex_convert _ _ _ _ _ | exact loc_ex_makeInterface _ _ _ _ | exact loc_ex_makeFunc _ _ _ _ _ | exact loc_ex_makeMap _ _ _ _ | exact loc_ex_makeSlice _ _ _ _ _ | exact loc_ex_slice _ _ _ _ _ _ _ | exact loc_ex_fieldAddr _ _ _ _ _ | exact loc_ex_field _ _ _ _ _ | exact loc_ex_indexAddr _ _ _ _ _ | exact loc_ex_index _ _ _ _ _ | exact loc_ex_lookup _ _ _ _ _ _ | exact loc_ex_mapUpdate _ _ _ _ _ _ | exact loc_ex_mapEntry _ _ _ _ _ | refine loc_val ?_ | refine loc_unit ?_ | refine loc_bind ?_ (fun _ => ?_) | refine loc_br ?_ ?_ | refine loc_cond ?_ ?_ | split
theorem loc_ex_range (E : Env) (ρ : Operand → SV) (t : TypeId) (x : Operand) : Loc (ex_range E ρ t x) := by
  unfold ex_range
  refine loc_val ?_
  with_reducible repeat' first | exact loc_pure _ | exact loc_fail _ | exact loc_asrt _ _ | exact loc_get _ | exact loc_put _ _ | exact loc_del _ | exact loc_new _ | exact loc_asInt _ | exact loc_asBool _ | exact loc_fillS _ _ _ | exact loc_info _ _ | exact loc_und _ _ | exact loc_zero _ _ | exact loc_cellsOf _ | exact loc_mapOf _ | exact loc_loadVar _ _ _ | exact loc_storeAt _ _ _ | exact loc_storeVar _ _ _ _ | exact loc_newRow _ _ _ | exact loc_newVar _ _ _ | exact loc_part _ _ _ _ | exact loc_plainM _ _ _ | exact loc_toM _ _ | exact loc_toMs _ _ | exact loc_eqA _ _ _ _ _ _ _ _ | exact loc_binA _ _ _ _ _ _ _ | exact loc_bound _ _ | exact loc_boundsM _ _ _ _ _ | exact loc_sliceA _ _ _ _ _ _ | exact loc_fieldAt _ _ _ _ | exact loc_indexAt _ _ _ _ | exact loc_indexS _ _ _ _ | exact loc_lenS _ _ _ | exact loc_srcCells _ _ | exact loc_appendA _ _ _ _ _ | exact loc_copyA _ _ _ _ | exact loc_findM _ _ _ _ | exact loc_enterM _ _ _ | exact loc_dataA _ _ | exact loc_ustrA _ _ _ _ | exact loc_capA _ _ _ | exact loc_clearA _ _ _ _ _ _ | exact loc_callA _ _ _ _ _ | exact loc_ex_move _ _ _ | exact loc_ex_pick _ _ _ _ _ | exact loc_ex_alloc _ _ _ | exact loc_ex_box _ _ _ _ | exact loc_ex_build _ _ _ _ | exact loc_ex_buildSlice _ _ _ _ _ | exact loc_ex_load _ _ _ _ | exact loc_ex_store _ _ _ _ _ | exact loc_ex_nilCheck _ _ _ | exact loc_cpA _ _ _ _ _ _ | exact loc_ex_binOp _ _ _ _ _ _ | exact loc_ex_unOp _ _ _ _ | exact loc_ex_convert _ _ _ _ _ | exact loc_ex_makeInterface _ _ _ _ | exact loc_ex_makeFunc _ _ _ _ _ | exact loc_ex_makeMap _ _ _ _ | exact loc_ex_makeSlice _ _ _ _ _ | exact loc_ex_slice _ _ _ _ _ _ _ | exact loc_ex_fieldAddr _ _ _ _ _ | exact loc_ex_field _ _ _ _ _ | exact loc_ex_indexAddr _ _ _ _ _ | exact loc_ex_index _ _ _ _ _ | exact loc_ex_lookup _ _ _ _ _ _ | exact loc_ex_mapUpdate _ _ _ _ _ _ | exact loc_ex_mapEntry _ _ _ _ _ | exact loc_ex_entryStore _ _ _ _ _ | refine loc_val ?_ | refine loc_unit ?_ | refine loc_bind ?_ (fun _ => ?_) | refine loc_br ?_ ?_ | refine loc_cond ?_ ?_ | split
theorem loc_ex_next (E : Env) (ρ : Operand → SV) (it : Operand) (isS : Bool) : Loc (ex_next E ρ it isS) := by
  unfold ex_next
  refine loc_val ?_
  with_reducible repeat' first | exact loc_pure _ | exact loc_fail _ | exact loc_asrt _ _ | exact loc_get _ | exact loc_put _ _ | exact loc_del _ | exact loc_new _ | exact loc_asInt _ | exact loc_asBool _ | exact loc_fillS _ _ _ | exact loc_info _ _ | exact loc_und _ _ | exact loc_zero _ _ | exact loc_cellsOf _ | exact loc_mapOf _ | exact loc_loadVar _ _ _ | exact loc_storeAt _ _ _ | exact loc_storeVar _ _ _ _ | exact loc_newRow _ _ _ | exact loc_newVar _ _ _ | exact loc_part _ _ _ _ | exact loc_plainM _ _ _ | exact loc_toM _ _ | exact loc_toMs _ _ | exact loc_eqA _ _ _ _ _ _ _ _ | exact loc_binA _ _ _ _ _ _ _ | exact loc_bound _ _ | exact loc_boundsM _ _ _ _ _ | exact loc_sliceA _ _ _ _ _ _ | exact loc_fieldAt _ _ _ _ | exact loc_indexAt _ _ _ _ | exact loc_indexS _ _ _ _ | exact loc_lenS _ _ _ | exact loc_srcCells _ _ | exact loc_appendA _ _ _ _ _ | exact loc_copyA _ _ _ _ | exact loc_findM _ _ _ _ | exact loc_enterM _ _ _ | exact loc_dataA _ _ | exact loc_ustrA _ _ _ _ | exact loc_capA _ _ _ | exact loc_clearA _ _ _ _ _ _ | exact loc_callA _ _ _ _ _ | exact loc_ex_move _ _ _ | exact loc_ex_pick _ _ _ _ _ | exact loc_ex_alloc _ _ _ | exact loc_ex_box _ _ _ _ | exact loc_ex_build _ _ _ _ | exact loc_ex_buildSlice _ _ _ _ _ | exact loc_ex_load _ _ _ _ | exact loc_ex_store _ _ _ _ _ | exact loc_ex_nilCheck _ _ _ | exact loc_cpA _ _ _ _ _ _ | exact loc_ex_binOp _ _ _ _ _ _ | exact loc_ex_unOp _ _ _ _ | exact loc_ex_convert _ _ _ _ _ | exact loc_ex_makeInterface _ _ _ _ | exact loc_ex_makeFunc _ _ _ _ _ | exact loc_ex_makeMap _ _ _ _ | exact loc_ex_makeSlice _ _ _ _ _ | exact loc_ex_slice _ _ _ _ _ _ _ | exact loc_ex_fieldAddr _ _ _ _ _ | exact loc_ex_field _ _ _ _ _ | exact loc_ex_indexAddr _ _ _ _ _ | exact loc_ex_index _ _ _ _ _ | exact loc_ex_lookup _ _ _ _ _ _ | exact loc_ex_mapUpdate _ _ _ _ _ _ | exact loc_ex_mapEntry _ _ _ _ _ | exact loc_ex_entryStore _ _ _ _ _ | exact loc_ex_range _ _ _ _ | refine loc_val ?_ | refine loc_unit ?_ | refine loc_bind ?_ (fun _ => ?_) | refine loc_br ?_ ?_ | refine loc_cond ?_ ?_ | split
theorem loc_ex_extract (E : Env) (ρ : Operand → SV) (x : Operand) (i : Nat) : Loc (ex_extract E ρ x i) := by
  unfold ex_extract
  with_reducible repeat' first | exact loc_pure _ | exact loc_fail _ | exact loc_asrt _ _ | exact loc_get _ | exact loc_put _ _ | exact loc_del _ | exact loc_new _ | exact loc_asInt _ | exact loc_asBool _ | exact loc_fillS _ _ _ | exact loc_info _ _ | exact loc_und _ _ | exact loc_zero _ _ | exact loc_cellsOf _ | exact loc_mapOf _ | exact loc_loadVar _ _ _ | exact loc_storeAt _ _ _ | exact loc_storeVar _ _ _ _ | exact loc_newRow _ _ _ | exact loc_newVar _ _ _ | exact loc_part _ _ _ _ | exact loc_plainM _ _ _ | exact loc_toM _ _ | exact loc_toMs _ _ | exact loc_eqA _ _ _ _ _ _ _ _ | exact loc_binA _ _ _ _ _ _ _ | exact loc_bound _ _ | exact loc_boundsM _ _ _ _ _ | exact loc_sliceA _ _ _ _ _ _ | exact loc_fieldAt _ _ _ _ | exact loc_indexAt _ _ _ _ | exact loc_indexS _ _ _ _ | exact loc_lenS _ _ _ | exact loc_srcCells _ _ | exact loc_appendA _ _ _ _ _ | exact loc_copyA _ _ _ _ | exact loc_findM _ _ _ _ | exact loc_enterM _ _ _ | exact loc_dataA _ _ | exact loc_ustrA _ _ _ _ | exact loc_capA _ _ _ | exact loc_clearA _ _ _ _ _ _ | exact loc_callA _ _ _ _ _ | exact loc_ex_move _ _ _ | exact loc_ex_pick _ _ _ _ _ | exact loc_ex_alloc _ _ _ | exact loc_ex_box _ _ _ _ | exact loc_ex_build _ _ _ _ | exact loc_ex_buildSlice _ _ _ _ _ | exact loc_ex_load _ _ _ _ | exact loc_ex_store _ _ _ _ _ | exact loc_ex_nilCheck _ _ _ | exact loc_cpA _ _ _ _ _ _ | exact loc_ex_binOp _ _ _ _ _ _ | exact loc_ex_unOp _ _ _ _ | exact loc_ex_convert _ _ _ _ _ | exact loc_ex_makeInterface _ _ _ _ | exact loc_ex_makeFunc _ _ _ _ _ | exact loc_ex_makeMap _ _ _ _ | exact loc_ex_makeSlice _ _ _ _ _ | exact loc_ex_slice _ _ _ _ _ _ _ | exact loc_ex_fieldAddr _ _ _ _ _ | exact loc_ex_field _ _ _ _ _ | exact loc_ex_indexAddr _ _ _ _ _ | exact loc_ex_index _ _ _ _ _ | exact loc_ex_lookup _ _ _ _ _ _ | exact loc_ex_mapUpdate _ _ _ _ _ _ | exact loc_ex_mapEntry _ _ _ _ _ | exact loc_ex_entryStore _ _ _ _ _ | exact loc_ex_range _ _ _ _ | exact loc_ex_next _ _ _ _ | refine loc_val ?_ | refine loc_unit ?_ | refine loc_bind ?_ (fun _ => ?_) | refine loc_br ?_ ?_ | refine loc_cond ?_ ?_ | split
theorem loc_ex_typeAssert (E : Env) (ρ : Operand → SV) (x : Operand) (t : TypeId) (ok : Bool) : Loc (ex_typeAssert E ρ x t ok) := by
  unfold ex_typeAssert
  refine loc_val ?_
  with_reducible repeat' first | exact loc_pure _ | exact loc_fail _ | exact loc_asrt _ _ | exact loc_get _ | exact loc_put _ _ | exact loc_del _ | exact loc_new _ | exact loc_asInt _ | exact loc_asBool _ | exact loc_fillS _ _ _ | exact loc_info _ _ | exact loc_und _ _ | exact loc_zero _ _ | exact loc_cellsOf _ | exact loc_mapOf _ | exact loc_loadVar _ _ _ | exact loc_storeAt _ _ _ | exact loc_storeVar _ _ _ _ | exact loc_newRow _ _ _ | exact loc_newVar _ _ _ | exact loc_part _ _ _ _ | exact loc_plainM _ _ _ | exact loc_toM _ _ | exact loc_toMs _ _ | exact loc_eqA _ _ _ _ _ _ _ _ | exact loc_binA _ _ _ _ _ _ _ | exact loc_bound _ _ | exact loc_boundsM _ _ _ _ _ | exact loc_sliceA _ _ _ _ _ _ | exact loc_fieldAt _ _ _ _ | exact loc_indexAt _ _ _ _ | exact loc_indexS _ _ _ _ | exact loc_lenS _ _ _ | exact loc_srcCells _ _ | exact loc_appendA _ _ _ _ _ | exact loc_copyA _ _ _ _ | exact loc_findM _ _ _ _ | exact loc_enterM _ _ _ | exact loc_dataA _ _ | exact loc_ustrA _ _ _ _ | exact loc_capA _ _ _ | exact loc_clearA _ _ _ _ _ _ | exact loc_callA _ _ _ _ _ | exact loc_ex_move _ _ _ | exact loc_ex_pick _ _ _ _ _ | exact loc_ex_alloc _ _ _ | exact loc_ex_box _ _ _ _ | exact loc_ex_build _ _ _ _ | exact loc_ex_buildSlice _ _ _ _ _ | exact loc_ex_load _ _ _ _ | exact loc_ex_store _ _ _ _ _ | exact loc_ex_nilCheck _ _ _ | exact loc_cpA _ _ _ _ _ _ | exact loc_ex_binOp _ _ _ _ _ _ | exact loc_ex_unOp _ _ _ _ | exact loc_ex_convert _ _ _ _ _ | exact loc_ex_makeInterface _ _ _ _ | exact loc_ex_makeFunc _ _ _ _ _ | exact loc_ex_makeMap _ _ _ _ | exact loc_ex_makeSlice _ _ _ _ _ | exact loc_ex_slice _ _ _ _ _ _ _ | exact loc_ex_fieldAddr _ _ _ _ _ | exact loc_ex_field _ _ _ _ _ | exact loc_ex_indexAddr _ _ _ _ _ | exact loc_ex_index _ _ _ _ _ | exact loc_ex_lookup _ _ _ _ _ _ | exact loc_ex_mapUpdate _ _ _ _ _ _ | exact loc_ex_mapEntry _ _ _ _ _ | exact loc_ex_entryStore _ _ _ _ _ | exact loc_ex_range _ _ _ _ | exact loc_ex_next _ _ _ _ | exact loc_ex_extract _ _ _ _ | refine loc_val ?_ | refine loc_unit ?_ | refine loc_bind ?_ (fun _ => ?_) | refine loc_br ?_ ?_ | refine loc_cond ?_ ?_ | split
theorem loc_ex_call (E : Env) (ρ : Operand → SV) (o : Oper) (c : Call) : Loc (ex_call E ρ o c) := by
  unfold ex_call
  with_reducible repeat' first | exact loc_pure _ | exact loc_fail _ | exact loc_asrt _ _ | exact loc_get _ | exact loc_put _ _ | exact loc_del _ | exact loc_new _ | exact loc_asInt _ | exact loc_asBool _ | exact loc_fillS _ _ _ | exact loc_info _ _ | exact loc_und _ _ | exact loc_zero _ _ | exact loc_cellsOf _ | exact loc_mapOf _ | exact loc_loadVar _ _ _ | exact loc_storeAt _ _ _ | exact loc_storeVar _ _ _ _ | exact loc_newRow _ _ _ | exact loc_newVar _ _ _ | exact loc_part _ _ _ _ | exact loc_plainM _ _ _ | exact loc_toM _ _ | exact loc_toMs _ _ | exact loc_eqA _ _ _ _ _ _ _ _ | exact loc_binA _ _ _ _ _ _ _ | exact loc_bound _ _ | exact loc_boundsM _ _ _ _ _ | exact loc_sliceA _ _ _ _ _ _ | exact loc_fieldAt _ _ _ _ | exact loc_indexAt _ _ _ _ | exact loc_indexS _ _ _ _ | exact loc_lenS _ _ _ | exact loc_srcCells _ _ | exact loc_appendA _ _ _ _ _ | exact loc_copyA _ _ _ _ | exact loc_findM _ _ _ _ | exact loc_enterM _ _ _ | exact loc_dataA _ _ | exact loc_ustrA _ _ _ _ | exact loc_capA _ _ _ | exact loc_clearA _ _ _ _ _ _ | exact loc_callA _ _ _ _ _ | exact loc_ex_move _ _ _ | exact loc_ex_pick _ _ _ _ _ | exact loc_ex_alloc _ _ _ | exact loc_ex_box _ _ _ _ | exact loc_ex_build _ _ _ _ | exact loc_ex_buildSlice _ _ _ _ _ | exact loc_ex_load _ _ _ _ | exact loc_ex_store _ _ _ _ _ | exact loc_ex_nilCheck _ _ _ | exact loc_cpA _ _ _ _ _ _ | exact loc_ex_binOp _ _ _ _ _ _ | exact loc_ex_unOp _ _ _ _ | exact loc_ex_convert _ _ _ _ _ | exact loc_ex_makeInterface _ _ _ _ | exact loc_ex_makeFunc _ _ _ _ _ | exact loc_ex_makeMap _ _ _ _ | exact loc_ex_makeSlice _ _ _ _ _ | exact loc_ex_slice _ _ _ _ _ _ _ | exact loc_ex_fieldAddr _ _ _ _ _ | exact loc_ex_field _ _ _ _ _ | exact loc_ex_indexAddr _ _ _ _ _ | exact loc_ex_index _ _ _ _ _ | exact loc_ex_lookup _ _ _ _ _ _ | exact loc_ex_mapUpdate _ _ _ _ _ _ | exact loc_ex_mapEntry _ _ _ _ _ | exact loc_ex_entryStore _ _ _ _ _ | exact loc_ex_range _ _ _ _ | exact loc_ex_next _ _ _ _ | exact loc_ex_extract _ _ _ _ | exact loc_ex_typeAssert _ _ _ _ _ | refine loc_val ?_ | refine loc_unit ?_ | refine loc_bind ?_ (fun _ => ?_) | refine loc_br ?_ ?_ | refine loc_cond ?_ ?_ | split
theorem loc_ex_defer (E : Env) (ρ : Operand → SV) (c : Call) : Loc (ex_defer E ρ c) := by
  unfold ex_defer
  with_reducible repeat' first | exact loc_pure _ | exact loc_fail _ | exact loc_asrt _ _ | exact loc_get _ | exact loc_put _ _ | exact loc_del _ | exact loc_new _ | exact loc_asInt _ | exact loc_asBool _ | exact loc_fillS _ _ _ | exact loc_info _ _ | exact loc_und _ _ | exact loc_zero _ _ | exact loc_cellsOf _ | exact loc_mapOf _ | exact loc_loadVar _ _ _ | exact loc_storeAt _ _ _ | exact loc_storeVar _ _ _ _ | exact loc_newRow _ _ _ | exact loc_newVar _ _ _ | exact loc_part _ _ _ _ | exact loc_plainM _ _ _ | exact loc_toM _ _ | exact loc_toMs _ _ | exact loc_eqA _ _ _ _ _ _ _ _ | exact loc_binA _ _ _ _ _ _ _ | exact loc_bound _ _ | exact loc_boundsM _ _ _ _ _ | exact loc_sliceA _ _ _ _ _ _ | exact loc_fieldAt _ _ _ _ | exact loc_indexAt _ _ _ _ | exact loc_indexS _ _ _ _ | exact loc_lenS _ _ _ | exact loc_srcCells _ _ | exact loc_appendA _ _ _ _ _ | exact loc_copyA _ _ _ _ | exact loc_findM _ _ _ _ | exact loc_enterM _ _ _ | exact loc_dataA _ _ | exact loc_ustrA _ _ _ _ | exact loc_capA _ _ _ | exact loc_clearA _ _ _ _ _ _ | exact loc_callA _ _ _ _ _ | exact loc_ex_move _ _ _ | exact loc_ex_pick _ _ _ _ _ | exact loc_ex_alloc _ _ _ | exact loc_ex_box _ _ _ _ | exact loc_ex_build _ _ _ _ | exact loc_ex_buildSlice _ _ _ _ _ | exact loc_ex_load _ _ _ _ | exact loc_ex_store _ _ _ _ _ | exact loc_ex_nilCheck _ _ _ | exact loc_cpA _ _ _ _ _ _ | exact loc_ex_binOp _ _ _ _ _ _ | exact loc_ex_unOp _ _ _ _ | exact loc_ex_convert _ _ _ _ _ | exact loc_ex_makeInterface _ _ _ _ | exact loc_ex_makeFunc _ _ _ _ _ | exact loc_ex_makeMap _ _ _ _ | exact loc_ex_makeSlice _ _ _ _ _ | exact loc_ex_slice _ _ _ _ _ _ _ | exact loc_ex_fieldAddr _ _ _ _ _ | exact loc_ex_field _ _ _ _ _ | exact loc_ex_indexAddr _ _ _ _ _ | exact loc_ex_index _ _ _ _ _ | exact loc_ex_lookup _ _ _ _ _ _ | exact loc_ex_mapUpdate _ _ _ _ _ _ | exact loc_ex_mapEntry _ _ _ _ _ | exact loc_ex_entryStore _ _ _ _ _ | exact loc_ex_range _ _ _ _ | exact loc_ex_next _ _ _ _ | exact loc_ex_extract _ _ _ _ | exact loc_ex_typeAssert _ _ _ _ _ | exact loc_ex_call _ _ _ _ | refine loc_val ?_ | refine loc_unit ?_ | refine loc_bind ?_ (fun _ => ?_) | refine loc_br ?_ ?_ | refine loc_cond ?_ ?_ | split
theorem loc_exec (E : Env) (ρ : Operand → SV) (o : Oper) : Loc (exec E ρ o) := by
  rw [exec_eq]
  unfold execM
  split
  all_goals with_reducible first | exact loc_ex_move _ _ _ | exact loc_ex_pick _ _ _ _ _ | exact loc_ex_alloc _ _ _ | exact loc_ex_box _ _ _ _ | exact loc_ex_build _ _ _ _ | exact loc_ex_buildSlice _ _ _ _ _ | exact loc_ex_load _ _ _ _ | exact loc_ex_store _ _ _ _ _ | exact loc_ex_nilCheck _ _ _ | exact loc_ex_binOp _ _ _ _ _ _ | exact loc_ex_unOp _ _ _ _ | exact loc_ex_convert _ _ _ _ _ | exact loc_ex_makeInterface _ _ _ _ | exact loc_ex_makeFunc _ _ _ _ _ | exact loc_ex_makeMap _ _ _ _ | exact loc_ex_makeSlice _ _ _ _ _ | exact loc_ex_slice _ _ _ _ _ _ _ | exact loc_ex_fieldAddr _ _ _ _ _ | exact loc_ex_field _ _ _ _ _ | exact loc_ex_indexAddr _ _ _ _ _ | exact loc_ex_index _ _ _ _ _ | exact loc_ex_lookup _ _ _ _ _ _ | exact loc_ex_mapUpdate _ _ _ _ _ _ | exact loc_ex_mapEntry _ _ _ _ _ | exact loc_ex_entryStore _ _ _ _ _ | exact loc_ex_range _ _ _ _ | exact loc_ex_next _ _ _ _ | exact loc_ex_extract _ _ _ _ | exact loc_ex_typeAssert _ _ _ _ _ | exact loc_ex_call _ _ _ _ | exact loc_ex_defer _ _ _ | exact loc_fail _
end Go.Ev
