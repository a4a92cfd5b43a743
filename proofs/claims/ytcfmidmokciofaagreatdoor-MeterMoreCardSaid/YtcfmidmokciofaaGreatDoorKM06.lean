/- Plain laws: a cache that keeps what was used last (a row of keys from the oldest to the newest), and a meter of requests over it. -/
import Derived.Test.YtcfmidmokciofaaGreatDoorKM01
namespace Go.Gz
abbrev NK := Nat × Nat
/-- what a key holds: a number, the key ahead (older), the key behind (newer) -/
structure Nd where
  v : Int
  o : NK
  n : NK
def nd0 : Nd := ⟨0, (0, 0), (0, 0)⟩
/-- a cache as its cells hold it: what each key holds, how many keys, the oldest, the newest -/
structure Ca where
  g : NK → Option Nd
  n : Nat
  old : NK
  new : NK
def Ca.get (c : Ca) (k : NK) : Nd := (c.g k).getD nd0
def Ca.put (c : Ca) (k : NK) (x : Nd) : Ca := { c with g := fun j => if j = k then some x else c.g j, n := if (c.g k).isSome then c.n else c.n + 1 }
def Ca.del (c : Ca) (k : NK) : Ca := { c with g := fun j => if j = k then none else c.g j, n := if (c.g k).isSome then c.n - 1 else c.n }
/-- a key taken out of the row, as the code does it -/
def Ca.cutA (c : Ca) (k : NK) : Ca := if k = c.old then { c.del k with old := (c.get k).n } else (c.del k).put (c.get k).o { (c.del k).get (c.get k).o with n := (c.get k).n }
def Ca.cut (c : Ca) (k : NK) : Ca := if k = c.new then { c.cutA k with new := (c.get k).o } else (c.cutA k).put (c.get k).n { (c.cutA k).get (c.get k).n with o := (c.get k).o }
/-- a key put behind all others, as the code does it -/
def Ca.push (c : Ca) (k : NK) (v : Int) : Ca :=
  { (if c.n = 0 then { c with old := k } else c.put c.new { c.get c.new with n := k }).put k ⟨v, c.new, (0, 0)⟩ with new := k }
/-- the cells stand for a row of keys -/
structure Rep (c : Ca) (L : List NK) : Prop where
  nd : L.Nodup
  len : c.n = L.length
  mem : ∀ k, (c.g k).isSome = true ↔ k ∈ L
  old : ∀ k, L[0]? = some k → c.old = k
  new : ∀ k, L[L.length - 1]? = some k → c.new = k
  nx : ∀ (i : Nat) a b, L[i]? = some a → L[i + 1]? = some b → (c.get a).n = b
  pv : ∀ (i : Nat) a b, L[i]? = some a → L[i + 1]? = some b → (c.get b).o = a
theorem nodup_idx {L : List NK} (h : L.Nodup) {i j : Nat} {a : NK} (hi : L[i]? = some a) (hj : L[j]? = some a) : i = j := by
  obtain ⟨h1, e1⟩ := List.getElem?_eq_some_iff.1 hi
  obtain ⟨h2, e2⟩ := List.getElem?_eq_some_iff.1 hj
  exact (List.getElem_inj h).1 (e1.trans e2.symm)
theorem get_put (c : Ca) (k j : NK) (x : Nd) : (c.put k x).get j = if j = k then x else c.get j := by
  unfold Ca.get Ca.put
  by_cases h : j = k <;> simp [h]
theorem get_del (c : Ca) (k j : NK) : (c.del k).get j = if j = k then nd0 else c.get j := by
  unfold Ca.get Ca.del
  by_cases h : j = k <;> simp [h]
theorem has_put (c : Ca) (k j : NK) (x : Nd) : ((c.put k x).g j).isSome = (decide (j = k) || (c.g j).isSome) := by
  unfold Ca.put
  by_cases h : j = k <;> simp [h]
theorem has_del (c : Ca) (k j : NK) : ((c.del k).g j).isSome = (!decide (j = k) && (c.g j).isSome) := by
  unfold Ca.del
  by_cases h : j = k <;> simp [h]
/-- A KEY CUT OUT -/
theorem Rep.cut {c : Ca} {L : List NK} (r : Rep c L) {i : Nat} {k : NK} (hk : L[i]? = some k) : Rep (c.cut k) (L.eraseIdx i) := by
  have hi := (List.getElem?_eq_some_iff.1 hk).1
  have hl : (L.eraseIdx i).length = L.length - 1 := List.length_eraseIdx_of_lt hi
  have hmk : (c.g k).isSome = true := (r.mem k).2 (List.mem_of_getElem? hk)
  -- where the oldest, the newest stand
  have hold : (k = c.old) ↔ i = 0 := by
    constructor
    · intro e
      obtain ⟨a, ha⟩ : ∃ a, L[0]? = some a := ⟨_, List.getElem?_eq_getElem (by omega)⟩
      have := r.old a ha
      rw [← e] at this
      rw [this] at hk
      exact nodup_idx r.nd hk ha
    · rintro rfl
      exact (r.old k hk).symm
  have hnew : (k = c.new) ↔ i = L.length - 1 := by
    constructor
    · intro e
      obtain ⟨a, ha⟩ : ∃ a, L[L.length - 1]? = some a := ⟨_, List.getElem?_eq_getElem (by omega)⟩
      have := r.new a ha
      rw [← e] at this
      rw [this] at hk
      exact nodup_idx r.nd hk ha
    · rintro rfl
      exact (r.new k hk).symm
  have ho : 0 < i → L[i - 1]? = some (c.get k).o := fun h => by
    obtain ⟨a, ha⟩ : ∃ a, L[i - 1]? = some a := ⟨_, List.getElem?_eq_getElem (by omega)⟩
    rw [ha, r.pv (i - 1) a k ha (by rw [show i - 1 + 1 = i by omega]; exact hk)]
  have hn : i + 1 < L.length → L[i + 1]? = some (c.get k).n := fun h => by
    obtain ⟨a, ha⟩ : ∃ a, L[i + 1]? = some a := ⟨_, List.getElem?_eq_getElem h⟩
    rw [ha, r.nx i k a hk ha]
  have hok : 0 < i → (c.get k).o ≠ k := fun h e => by
    have h1 := ho h
    rw [e] at h1
    have := nodup_idx r.nd h1 hk
    omega
  have hnk : i + 1 < L.length → (c.get k).n ≠ k := fun h e => by
    have h1 := hn h
    rw [e] at h1
    have := nodup_idx r.nd h1 hk
    omega
  have hom : 0 < i → (c.g (c.get k).o).isSome = true := fun h => (r.mem _).2 (List.mem_of_getElem? (ho h))
  have hnm : i + 1 < L.length → (c.g (c.get k).n).isSome = true := fun h => (r.mem _).2 (List.mem_of_getElem? (hn h))
  -- the cells behind it
  have G : ∀ j, j ≠ k → (((c.cut k).get j).n = if 0 < i ∧ j = (c.get k).o then (c.get k).n else (c.get j).n) ∧ (((c.cut k).get j).o = if i + 1 < L.length ∧ j = (c.get k).n then (c.get k).o else (c.get j).o) := by
    intro j hj
    unfold Ca.cut Ca.cutA
    by_cases h0 : i = 0
    · have e0 : k = c.old := hold.2 h0
      by_cases h1 : i = L.length - 1
      · have e1 : k = c.new := hnew.2 h1
        have n1 : ¬ 0 < i := by omega
        have n2 : ¬ i + 1 < L.length := by omega
        simp only [if_pos e0, if_pos e1, n1, n2, false_and, if_false]
        have := get_del c k j
        unfold Ca.get Ca.del at this ⊢
        simp only [hj, if_false] at this ⊢
        exact ⟨trivial, trivial⟩
      · have e1 : ¬ k = c.new := fun e => h1 (hnew.1 e)
        have n1 : ¬ 0 < i := by omega
        have n2 : i + 1 < L.length := by omega
        simp only [if_pos e0, if_neg e1, n1, n2, false_and, true_and, if_false]
        rw [get_put]
        have hd : ∀ a, a ≠ k → ({ c.del k with old := (c.get k).n } : Ca).get a = c.get a := fun a ha => by
          have := get_del c k a
          rw [if_neg ha] at this
          exact this
        by_cases hjn : j = (c.get k).n
        · rw [if_pos hjn, if_pos hjn, hd _ (hnk n2), ← hjn]; exact ⟨rfl, rfl⟩
        · rw [if_neg hjn, if_neg hjn, hd _ hj]; exact ⟨rfl, rfl⟩
    · have e0 : ¬ k = c.old := fun e => h0 (hold.1 e)
      have n1 : 0 < i := by omega
      have hd : ∀ a, a ≠ k → ((c.del k).put (c.get k).o { (c.del k).get (c.get k).o with n := (c.get k).n }).get a = if a = (c.get k).o then { c.get a with n := (c.get k).n } else c.get a := fun a ha => by
        rw [get_put]
        by_cases hao : a = (c.get k).o
        · rw [if_pos hao, if_pos hao, get_del, if_neg (hok n1), ← hao]
        · rw [if_neg hao, if_neg hao, get_del, if_neg ha]
      by_cases h1 : i = L.length - 1
      · have e1 : k = c.new := hnew.2 h1
        have n2 : ¬ i + 1 < L.length := by omega
        simp only [if_neg e0, if_pos e1, n1, n2, false_and, true_and, if_false]
        have := hd j hj
        unfold Ca.get at this ⊢
        simp only at this ⊢
        rw [this]
        split <;> exact ⟨rfl, rfl⟩
      · have e1 : ¬ k = c.new := fun e => h1 (hnew.1 e)
        have n2 : i + 1 < L.length := by omega
        simp only [if_neg e0, if_neg e1, n1, n2, true_and]
        rw [get_put]
        by_cases hjn : j = (c.get k).n
        · rw [if_pos hjn, if_pos hjn, hd _ (hnk n2), ← hjn]
          split <;> exact ⟨rfl, rfl⟩
        · rw [if_neg hjn, if_neg hjn, hd _ hj]
          split <;> exact ⟨rfl, rfl⟩
  have M : ∀ j, ((c.cut k).g j).isSome = true ↔ (j ≠ k ∧ (c.g j).isSome = true) := by
    intro j
    unfold Ca.cut Ca.cutA
    by_cases h0 : i = 0
    · have e0 : k = c.old := hold.2 h0
      by_cases h1 : i = L.length - 1
      · have e1 : k = c.new := hnew.2 h1
        simp only [if_pos e0, if_pos e1]
        have := has_del c k j
        rw [this]; simp
      · have e1 : ¬ k = c.new := fun e => h1 (hnew.1 e)
        have n2 : i + 1 < L.length := by omega
        simp only [if_pos e0, if_neg e1]
        rw [has_put]
        have h3 := has_del c k j
        rw [show (({ c.del k with old := (c.get k).n } : Ca).g j) = (c.del k).g j from rfl, h3]
        by_cases hjn : j = (c.get k).n
        · have := hnm n2; have h4 := hnk n2
          simp [hjn, this, h4]
        · simp [hjn]
    · have e0 : ¬ k = c.old := fun e => h0 (hold.1 e)
      have n1 : 0 < i := by omega
      have hd : (((c.del k).put (c.get k).o { (c.del k).get (c.get k).o with n := (c.get k).n }).g j).isSome = (!decide (j = k) && (c.g j).isSome) := by
        rw [has_put, has_del]
        by_cases hjo : j = (c.get k).o
        · have := hom n1; have h4 := hok n1
          simp [hjo, this, h4]
        · simp [hjo]
      by_cases h1 : i = L.length - 1
      · have e1 : k = c.new := hnew.2 h1
        simp only [if_neg e0, if_pos e1]
        rw [hd]; simp
      · have e1 : ¬ k = c.new := fun e => h1 (hnew.1 e)
        have n2 : i + 1 < L.length := by omega
        simp only [if_neg e0, if_neg e1]
        rw [has_put, hd]
        by_cases hjn : j = (c.get k).n
        · have := hnm n2; have h4 := hnk n2
          simp [hjn, this, h4]
        · simp [hjn]
  have N : (c.cut k).n = c.n - 1 := by
    have hd0 : (c.del k).n = c.n - 1 := by unfold Ca.del; simp [hmk]
    unfold Ca.cut Ca.cutA
    by_cases h0 : i = 0
    · have e0 : k = c.old := hold.2 h0
      by_cases h1 : i = L.length - 1
      · have e1 : k = c.new := hnew.2 h1
        simp only [if_pos e0, if_pos e1]
        exact hd0
      · have e1 : ¬ k = c.new := fun e => h1 (hnew.1 e)
        have n2 : i + 1 < L.length := by omega
        simp only [if_pos e0, if_neg e1]
        have h3 := has_del c k (c.get k).n
        have h5 := hnm n2; have h4 := hnk n2
        rw [h5] at h3
        unfold Ca.put
        simp only [h3, h4, decide_false, Bool.not_false, Bool.and_self, if_true]
        exact hd0
    · have e0 : ¬ k = c.old := fun e => h0 (hold.1 e)
      have n1 : 0 < i := by omega
      have hp : ((c.del k).put (c.get k).o { (c.del k).get (c.get k).o with n := (c.get k).n }).n = c.n - 1 := by
        have h3 := has_del c k (c.get k).o
        have h5 := hom n1; have h4 := hok n1
        rw [h5] at h3
        unfold Ca.put
        simp only [h3, h4, decide_false, Bool.not_false, Bool.and_self, if_true]
        exact hd0
      by_cases h1 : i = L.length - 1
      · have e1 : k = c.new := hnew.2 h1
        simp only [if_neg e0, if_pos e1]
        exact hp
      · have e1 : ¬ k = c.new := fun e => h1 (hnew.1 e)
        have n2 : i + 1 < L.length := by omega
        simp only [if_neg e0, if_neg e1]
        have h3 : (((c.del k).put (c.get k).o { (c.del k).get (c.get k).o with n := (c.get k).n }).g (c.get k).n).isSome = true := by
          rw [has_put, has_del, hnm n2]
          simp [hnk n2]
        show (if _ then _ else _) = _
        rw [if_pos h3]
        exact hp
  have hO : (c.cut k).old = if k = c.old then (c.get k).n else c.old := by
    unfold Ca.cut Ca.cutA
    by_cases e0 : k = c.old <;> by_cases e1 : k = c.new <;> simp [e0, e1, Ca.put, Ca.del] <;> split <;> simp_all
  have hN : (c.cut k).new = if k = c.new then (c.get k).o else c.new := by
    unfold Ca.cut Ca.cutA
    by_cases e0 : k = c.old <;> by_cases e1 : k = c.new <;> simp [e0, e1, Ca.put, Ca.del] <;> split <;> simp_all
  have E : ∀ j, (L.eraseIdx i)[j]? = if j < i then L[j]? else L[j + 1]? := fun j => List.getElem?_eraseIdx ..
  have hne : ∀ j a, j ≠ i → L[j]? = some a → a ≠ k := fun j a hj ha e => hj (nodup_idx r.nd ha (by rw [e]; exact hk))
  refine ⟨r.nd.sublist (List.eraseIdx_sublist ..), by rw [N, hl, r.len], fun j => ?_, fun j hj => ?_, fun j hj => ?_, fun p a b ha hb => ?_, fun p a b ha hb => ?_⟩
  · rw [M]
    constructor
    · rintro ⟨h1, h2⟩
      obtain ⟨q, hq, e⟩ := List.getElem_of_mem ((r.mem j).1 h2)
      have hq' : L[q]? = some j := by rw [List.getElem?_eq_getElem hq, e]
      have hqi : q ≠ i := fun e => h1 (by rw [e, hk] at hq'; exact (Option.some.inj hq').symm)
      rcases Nat.lt_or_ge q i with h | h
      · exact List.mem_of_getElem? (i := q) (by rw [E, if_pos h]; exact hq')
      · exact List.mem_of_getElem? (i := q - 1) (by rw [E, if_neg (by omega), show q - 1 + 1 = q by omega]; exact hq')
    · intro h
      obtain ⟨q, hq, e⟩ := List.getElem_of_mem h
      have hq' : (L.eraseIdx i)[q]? = some j := by rw [List.getElem?_eq_getElem hq, e]
      rw [E] at hq'
      split at hq'
      · exact ⟨hne q j (by omega) hq', (r.mem j).2 (List.mem_of_getElem? hq')⟩
      · exact ⟨hne (q + 1) j (by omega) hq', (r.mem j).2 (List.mem_of_getElem? hq')⟩
  · rw [hO]
    rw [E] at hj
    by_cases h0 : i = 0
    · rw [if_pos (hold.2 h0)]
      rw [if_neg (by omega)] at hj
      have h2 : i + 1 < L.length := by have := (List.getElem?_eq_some_iff.1 hj).1; omega
      have := hn h2
      rw [h0] at this
      rw [this] at hj
      exact Option.some.inj hj
    · rw [if_neg (fun e => h0 (hold.1 e))]
      rw [if_pos (by omega)] at hj
      exact r.old j hj
  · rw [hN]
    rw [hl, E] at hj
    by_cases h1 : i = L.length - 1
    · rw [if_pos (hnew.2 h1)]
      by_cases h0 : i = 0
      · have : L[0 + 1]? = none := List.getElem?_eq_none (by omega)
        rw [if_neg (by omega)] at hj
        rw [show L.length - 1 - 1 + 1 = L.length - 1 - 1 + 1 from rfl] at hj
        have h3 := (List.getElem?_eq_some_iff.1 hj).1
        omega
      · rw [if_pos (by omega)] at hj
        have := ho (by omega)
        rw [show i - 1 = L.length - 1 - 1 by omega] at this
        rw [this] at hj
        exact Option.some.inj hj
    · rw [if_neg (fun e => h1 (hnew.1 e))]
      rw [if_neg (by omega), show L.length - 1 - 1 + 1 = L.length - 1 by omega] at hj
      exact r.new j hj
  · rw [E] at ha hb
    by_cases h1 : p + 1 < i
    · rw [if_pos (by omega)] at ha
      rw [if_pos h1] at hb
      rw [(G a (hne p a (by omega) ha)).1, if_neg, r.nx p a b ha hb]
      rintro ⟨h2, e⟩
      rw [e] at ha
      have := nodup_idx r.nd ha (ho h2)
      omega
    · by_cases h2 : p + 1 = i
      · rw [if_pos (by omega)] at ha
        rw [if_neg (by omega)] at hb
        rw [(G a (hne p a (by omega) ha)).1]
        have h3 := ho (by omega)
        rw [show i - 1 = p by omega] at h3
        rw [h3] at ha
        rw [if_pos ⟨by omega, (Option.some.inj ha).symm⟩]
        have h4 := hn (by have := (List.getElem?_eq_some_iff.1 hb).1; omega)
        rw [show i + 1 = p + 1 + 1 by omega, hb] at h4
        exact (Option.some.inj h4).symm
      · rw [if_neg (by omega)] at ha hb
        rw [(G a (hne (p + 1) a (by omega) ha)).1, if_neg, r.nx (p + 1) a b ha hb]
        rintro ⟨h2, e⟩
        rw [e] at ha
        have := nodup_idx r.nd ha (ho h2)
        omega
  · rw [E] at ha hb
    by_cases h1 : p + 1 < i
    · rw [if_pos (by omega)] at ha
      rw [if_pos h1] at hb
      rw [(G b (hne (p + 1) b (by omega) hb)).2, if_neg, r.pv p a b ha hb]
      rintro ⟨h2, e⟩
      rw [e] at hb
      have := nodup_idx r.nd hb (hn h2)
      omega
    · by_cases h2 : p + 1 = i
      · rw [if_pos (by omega)] at ha
        rw [if_neg (by omega)] at hb
        rw [(G b (hne (p + 1 + 1) b (by omega) hb)).2]
        have h5 : i + 1 < L.length := by have := (List.getElem?_eq_some_iff.1 hb).1; omega
        have h4 := hn h5
        rw [show i + 1 = p + 1 + 1 by omega, hb] at h4
        rw [if_pos ⟨h5, Option.some.inj h4⟩]
        have h3 := ho (by omega)
        rw [show i - 1 = p by omega, ha] at h3
        exact (Option.some.inj h3).symm
      · rw [if_neg (by omega)] at ha hb
        rw [(G b (hne (p + 1 + 1) b (by omega) hb)).2, if_neg, r.pv (p + 1) a b ha hb]
        rintro ⟨h2, e⟩
        rw [e] at hb
        have := nodup_idx r.nd hb (hn h2)
        omega
/-- A KEY PUT BEHIND -/
theorem Rep.push {c : Ca} {L : List NK} (r : Rep c L) {k : NK} (hk : k ∉ L) (v : Int) : Rep (c.push k v) (L ++ [k]) := by
  have hmk : (c.g k).isSome = false := by
    cases h : (c.g k).isSome with
    | false => rfl
    | true => exact absurd ((r.mem k).1 h) hk
  by_cases h0 : L = []
  · subst h0
    have hn0 : c.n = 0 := r.len
    have e : c.push k v = { ({ c with old := k } : Ca).put k ⟨v, c.new, (0, 0)⟩ with new := k } := by unfold Ca.push; rw [if_pos hn0]
    rw [e]
    refine ⟨by simp, ?_, fun j => ?_, fun j hj => ?_, fun j hj => ?_, fun i a b ha hb => ?_, fun i a b ha hb => ?_⟩
    · show (if (c.g k).isSome then c.n else c.n + 1) = _
      rw [hmk, hn0]; rfl
    · have h1 := has_put ({ c with old := k } : Ca) k j ⟨v, c.new, (0, 0)⟩
      show (((({ c with old := k } : Ca).put k ⟨v, c.new, (0, 0)⟩)).g j).isSome = true ↔ _
      rw [h1]
      have h2 := r.mem j
      simp only [List.not_mem_nil, iff_false, Bool.not_eq_true] at h2
      show (decide (j = k) || (c.g j).isSome) = true ↔ _
      rw [h2]; simp
    · simp at hj; exact hj
    · simp at hj; exact hj
    · simp at hb
    · simp at hb
  · have hlen : 0 < L.length := List.length_pos_iff.2 h0
    have hn0 : ¬ c.n = 0 := by rw [r.len]; omega
    obtain ⟨z, hz⟩ : ∃ z, L[L.length - 1]? = some z := ⟨_, List.getElem?_eq_getElem (by omega)⟩
    have hnew := r.new z hz
    have hzm : (c.g z).isSome = true := (r.mem z).2 (List.mem_of_getElem? hz)
    have hzk : z ≠ k := fun e => hk (by rw [← e]; exact List.mem_of_getElem? hz)
    have e : c.push k v = { (c.put z { c.get z with n := k }).put k ⟨v, z, (0, 0)⟩ with new := k } := by unfold Ca.push; rw [if_neg hn0, hnew]
    have G : ∀ j, (c.push k v).get j = if j = k then ⟨v, z, (0, 0)⟩ else if j = z then { c.get z with n := k } else c.get j := fun j => by
      rw [e]
      show ((c.put z { c.get z with n := k }).put k ⟨v, z, (0, 0)⟩).get j = _
      rw [get_put, get_put]
    have hlz : ∀ i a, L[i]? = some a → a ≠ k := fun i a ha e => hk (by rw [← e]; exact List.mem_of_getElem? ha)
    refine ⟨?_, ?_, fun j => ?_, fun j hj => ?_, fun j hj => ?_, fun i a b ha hb => ?_, fun i a b ha hb => ?_⟩
    · rw [List.nodup_append]
      refine ⟨r.nd, by simp, fun a ha b hb e' => ?_⟩
      simp at hb
      exact hk (by rw [← hb, ← e']; exact ha)
    · rw [e]
      have h1 : ((c.put z { c.get z with n := k }).g k).isSome = false := by rw [has_put, hmk]; simp [Ne.symm hzk]
      show (if ((c.put z { c.get z with n := k }).g k).isSome then (c.put z { c.get z with n := k }).n else (c.put z { c.get z with n := k }).n + 1) = _
      rw [h1]
      show (if (c.g z).isSome then c.n else c.n + 1) + 1 = _
      rw [hzm, List.length_append, r.len]; rfl
    · rw [e]
      show (((c.put z { c.get z with n := k }).put k ⟨v, z, (0, 0)⟩).g j).isSome = true ↔ _
      rw [has_put, has_put]
      have h2 := r.mem j
      simp only [Bool.or_eq_true, decide_eq_true_eq, h2, List.mem_append, List.mem_singleton]
      constructor
      · rintro (h | h | h)
        · exact .inr h
        · exact .inl (by rw [h]; exact List.mem_of_getElem? hz)
        · exact .inl h
      · rintro (h | h)
        · exact .inr (.inr h)
        · exact .inl h
    · rw [e]
      rw [List.getElem?_append_left hlen] at hj
      show c.old = j
      exact r.old j hj
    · rw [e]
      rw [List.length_append, List.getElem?_append_right (by simp)] at hj
      simp at hj
      exact hj
    · rw [G]
      rcases Nat.lt_or_ge (i + 1) L.length with h | h
      · rw [List.getElem?_append_left (by omega)] at ha
        rw [List.getElem?_append_left h] at hb
        rw [if_neg (hlz i a ha)]
        by_cases haz : a = z
        · rw [haz] at ha
          have := nodup_idx r.nd ha hz
          omega
        · rw [if_neg haz]; exact r.nx i a b ha hb
      · have hi : i + 1 = L.length := by
          have := (List.getElem?_eq_some_iff.1 hb).1
          rw [List.length_append] at this
          simp at this
          omega
        rw [List.getElem?_append_left (by omega)] at ha
        rw [List.getElem?_append_right (by omega), hi] at hb
        simp at hb
        rw [show i = L.length - 1 by omega, hz] at ha
        rw [← Option.some.inj ha, if_neg hzk, if_pos rfl]
        exact hb
    · rw [G]
      rcases Nat.lt_or_ge (i + 1) L.length with h | h
      · rw [List.getElem?_append_left (by omega)] at ha
        rw [List.getElem?_append_left h] at hb
        rw [if_neg (hlz _ b hb)]
        have := r.pv i a b ha hb
        by_cases hbz : b = z
        · rw [if_pos hbz]
          rw [hbz] at this
          exact this
        · rw [if_neg hbz]; exact this
      · have hi : i + 1 = L.length := by
          have := (List.getElem?_eq_some_iff.1 hb).1
          rw [List.length_append] at this
          simp at this
          omega
        rw [List.getElem?_append_left (by omega)] at ha
        rw [List.getElem?_append_right (by omega), hi] at hb
        simp at hb
        rw [show i = L.length - 1 by omega, hz] at ha
        rw [if_pos hb.symm]
        exact Option.some.inj ha
end Go.Gz
/- Plain laws: a meter of requests over a cache; more room takes no more requests. -/
namespace Go.Gz
/-- the root's place -/
def RKey : NK := (1152921504606846976, 0)
def kgetL (L : List NK) (k : NK) : List NK := if k ∈ L then L.erase k ++ [k] else L
def kputL (most : Nat) (L : List NK) (k : NK) : List NK :=
  if most = 0 then L else if ((if k ∈ L then L.erase k else L) ++ [k]).length ≤ most then (if k ∈ L then L.erase k else L) ++ [k] else ((if k ∈ L then L.erase k else L) ++ [k]).tail
/-- a directory looked up: the row then, and how many requests -/
def lookL (most : Nat) (L : List NK) (k : NK) : List NK × Nat := if k ∈ L then (kgetL L k, 0) else (kputL most L k, 1)
def firstL (most : Nat) (kn : Bool) (L : List NK) : List NK × Nat := if kn then lookL most L RKey else (kputL most L RKey, 1)
/-- what a path asks for: 0 nothing, 1 the root, 2 a leaf, 3 a tile by the root, 4 a tile by a leaf -/
abbrev Way := Nat × NK
def askL (most : Nat) (kn : Bool) (L : List NK) (x : Way) : Bool × List NK × Nat :=
  if x.1 = 0 then (kn, L, 0)
  else if x.1 = 2 ∨ x.1 = 4 then (true, (lookL most (firstL most kn L).1 x.2).1, (firstL most kn L).2 + (if x.1 = 4 then 1 else 0) + (lookL most (firstL most kn L).1 x.2).2)
  else (true, (firstL most kn L).1, (firstL most kn L).2 + (if x.1 = 3 then 1 else 0))
theorem mem_kgetL {L : List NK} {k j : NK} (hn : L.Nodup) : j ∈ kgetL L k ↔ j ∈ L := by
  unfold kgetL
  split
  · rename_i h
    rw [List.mem_append, List.mem_singleton, hn.mem_erase_iff]
    constructor
    · rintro (⟨_, h1⟩ | rfl)
      · exact h1
      · exact h
    · intro h1
      by_cases e : j = k
      · exact .inr e
      · exact .inl ⟨e, h1⟩
  · exact Iff.rfl
theorem nodup_app {L : List NK} {k : NK} (hn : L.Nodup) (hk : k ∉ L) : (L ++ [k]).Nodup := by
  rw [List.nodup_append]
  refine ⟨hn, by simp, fun a ha b hb e => ?_⟩
  simp at hb
  subst hb; subst e
  exact hk ha
theorem not_mem_er {L : List NK} {k : NK} (hn : L.Nodup) : k ∉ L.erase k := fun h => (hn.mem_erase_iff.1 h).1 rfl
theorem nodup_kgetL {L : List NK} {k : NK} (hn : L.Nodup) : (kgetL L k).Nodup := by
  unfold kgetL
  split
  · exact nodup_app (hn.erase k) (not_mem_er hn)
  · exact hn
theorem len_kgetL {L : List NK} {k : NK} : (kgetL L k).length = L.length := by
  unfold kgetL
  split
  · rename_i h
    have := List.length_pos_of_mem h
    rw [List.length_append, List.length_erase_of_mem h]
    simp; omega
  · rfl
/-- what a put may leave -/
theorem kputL_any {m : Nat} {L : List NK} {k : NK} (hn : L.Nodup) (hl : L.length ≤ m) : (kputL m L k).Nodup ∧ (kputL m L k).length ≤ m ∧ ∀ j ∈ kputL m L k, j = k ∨ j ∈ L := by
  unfold kputL
  split
  · exact ⟨hn, hl, fun j h => .inr h⟩
  · rename_i h0
    have h1 : ((if k ∈ L then L.erase k else L) ++ [k]).Nodup := by
      split
      · exact nodup_app (hn.erase k) (not_mem_er hn)
      · rename_i h; exact nodup_app hn h
    have h2 : ∀ j ∈ (if k ∈ L then L.erase k else L) ++ [k], j = k ∨ j ∈ L := by
      intro j hj
      rw [List.mem_append, List.mem_singleton] at hj
      rcases hj with hj | hj
      · split at hj
        · exact .inr (List.mem_of_mem_erase hj)
        · exact .inr hj
      · exact .inl hj
    have h3 : ((if k ∈ L then L.erase k else L) ++ [k]).length ≤ m + 1 := by
      rw [List.length_append]
      split
      · rw [List.length_erase_of_mem (by assumption)]; simp; omega
      · simp; omega
    generalize (if k ∈ L then L.erase k else L) ++ [k] = M at *
    split
    · rename_i h4; exact ⟨h1, h4, h2⟩
    · exact ⟨h1.sublist (List.tail_sublist _), by rw [List.length_tail]; omega, fun j hj => h2 j (List.mem_of_mem_tail hj)⟩
/-- with room a put keeps all -/
theorem kputL_room {m : Nat} {L : List NK} {k : NK} (hk : k ∉ L) (hl : L.length + 1 ≤ m) : kputL m L k = L ++ [k] := by
  unfold kputL
  rw [if_neg (by omega), if_neg hk, if_pos (by rw [List.length_append]; simpa using hl)]
theorem lookL_any {m : Nat} {L : List NK} {k : NK} (hn : L.Nodup) (hl : L.length ≤ m) : (lookL m L k).1.Nodup ∧ (lookL m L k).1.length ≤ m ∧ (∀ j ∈ (lookL m L k).1, j = k ∨ j ∈ L) ∧ (lookL m L k).2 = if k ∈ L then 0 else 1 := by
  unfold lookL
  split
  · exact ⟨nodup_kgetL hn, by show (kgetL L k).length ≤ m; rw [len_kgetL]; exact hl, fun j hj => .inr ((mem_kgetL hn).1 hj), rfl⟩
  · obtain ⟨a, b, c⟩ := kputL_any (k := k) hn hl
    exact ⟨a, b, c, rfl⟩
theorem lookL_room {m : Nat} {L : List NK} {k : NK} (hn : L.Nodup) (hl : L.length + 1 ≤ m) : (lookL m L k).1.Nodup ∧ (lookL m L k).1.length = L.length + (lookL m L k).2 ∧ (∀ j, j ∈ (lookL m L k).1 ↔ j = k ∨ j ∈ L) ∧ (lookL m L k).2 = if k ∈ L then 0 else 1 := by
  unfold lookL
  split
  · rename_i h
    refine ⟨nodup_kgetL hn, by show (kgetL L k).length = _; rw [len_kgetL]; rfl, fun j => ?_, rfl⟩
    show j ∈ kgetL L k ↔ _
    rw [mem_kgetL hn]
    constructor
    · exact .inr
    · rintro (rfl | h1)
      · exact h
      · exact h1
  · rename_i h
    show (kputL m L k).Nodup ∧ (kputL m L k).length = L.length + 1 ∧ (∀ j, j ∈ kputL m L k ↔ j = k ∨ j ∈ L) ∧ 1 = 1
    rw [kputL_room h hl]
    refine ⟨nodup_app hn h, by simp, fun j => ?_, rfl⟩
    rw [List.mem_append, List.mem_singleton]
    exact Or.comm
/-- what holds of two meters behind i paths: the small one, the great one, what it took, how many tiles -/
structure MInv (ma i : Nat) (kn : Bool) (La Lb : List NK) (sum cnt : Nat) (K : List NK) : Prop where
  na : La.Nodup
  la : La.length ≤ ma
  nb : Lb.Nodup
  lb : Lb.length ≤ i + 1
  sub : ∀ j ∈ La, j ∈ Lb
  own : ∀ j ∈ Lb, j = RKey ∨ j ∈ K
  z : kn = false → La = [] ∧ Lb = []
  r : kn = true → RKey ∈ Lb
  s : sum = cnt + Lb.length
  c : cnt ≤ i
theorem mInv_0 (ma : Nat) (K : List NK) : MInv ma 0 false [] [] 0 0 K :=
  ⟨by simp, by simp, by simp, by simp, by simp, by simp, fun _ => ⟨rfl, rfl⟩, fun h => by simp at h, rfl, Nat.le_refl _⟩
theorem first_step {ma i : Nat} {kn : Bool} {La Lb : List NK} {sum cnt : Nat} {K : List NK} (h : MInv ma i kn La Lb sum cnt K) (hi : i ≤ 20) :
    (firstL ma kn La).1.Nodup ∧ (firstL ma kn La).1.length ≤ ma ∧ (firstL 64 kn Lb).1.Nodup ∧ (firstL 64 kn Lb).1.length = Lb.length + (firstL 64 kn Lb).2 ∧ (firstL 64 kn Lb).1.length ≤ i + 1 ∧
    (∀ j ∈ (firstL ma kn La).1, j ∈ (firstL 64 kn Lb).1) ∧ (∀ j ∈ (firstL 64 kn Lb).1, j = RKey ∨ j ∈ K) ∧ RKey ∈ (firstL 64 kn Lb).1 ∧ (firstL 64 kn Lb).2 ≤ (firstL ma kn La).2 ∧ (firstL ma kn La).2 ≤ 1 := by
  have hlb := h.lb
  cases kn with
  | false =>
    obtain ⟨rfl, rfl⟩ := h.z rfl
    have e : firstL 64 false [] = ([RKey], 1) := by unfold firstL; simp [kputL_room]
    have e2 : firstL ma false [] = (kputL ma [] RKey, 1) := rfl
    obtain ⟨a, b, c⟩ := kputL_any (m := ma) (L := []) (k := RKey) (by simp) (by simp)
    rw [e, e2]
    refine ⟨a, b, by simp, by simp, by simp, fun j hj => ?_, fun j hj => by simp at hj; exact .inl hj, by simp, Nat.le_refl _, Nat.le_refl _⟩
    rcases c j hj with rfl | h
    · simp
    · simp at h
  | true =>
    have hr := h.r rfl
    have e : firstL 64 true Lb = lookL 64 Lb RKey := rfl
    have e2 : firstL ma true La = lookL ma La RKey := rfl
    rw [e, e2]
    obtain ⟨a1, a2, a3, a4⟩ := lookL_any (k := RKey) h.na h.la
    obtain ⟨b1, b2, b3, b4⟩ := lookL_room (m := 64) (k := RKey) h.nb (by omega)
    rw [if_pos hr] at b4
    refine ⟨a1, a2, b1, b2, by rw [b2, b4]; omega, fun j hj => ?_, fun j hj => ?_, (b3 _).2 (.inl rfl), by rw [b4]; omega, ?_⟩
    · rcases a3 j hj with rfl | h1
      · exact (b3 _).2 (.inl rfl)
      · exact (b3 _).2 (.inr (h.sub j h1))
    · rcases (b3 j).1 hj with rfl | h1
      · exact .inl rfl
      · exact h.own j h1
    · rw [a4]; split <;> omega
/-- ONE PATH MORE -/
theorem ask_step {ma i : Nat} {kn : Bool} {La Lb : List NK} {sum cnt : Nat} {K : List NK} (h : MInv ma i kn La Lb sum cnt K) (hi : i ≤ 20) (x : Way) (hx : x.1 = 2 ∨ x.1 = 4 → x.2 ∈ K) :
    ∃ cnt', MInv ma (i + 1) (askL 64 kn Lb x).1 (askL ma kn La x).2.1 (askL 64 kn Lb x).2.1 (sum + (askL 64 kn Lb x).2.2) cnt' K ∧ (askL ma kn La x).1 = (askL 64 kn Lb x).1 ∧
      (askL 64 kn Lb x).2.2 ≤ (askL ma kn La x).2.2 ∧ (askL ma kn La x).2.2 ≤ 3 := by
  obtain ⟨f1, f2, f3, f4, f5, f6, f7, f8, f9, f10⟩ := first_step h hi
  have hs := h.s
  have hc := h.c
  have hlb := h.lb
  unfold askL
  by_cases h0 : x.1 = 0
  · simp only [if_pos h0]
    exact ⟨cnt, ⟨h.na, h.la, h.nb, by omega, h.sub, h.own, h.z, h.r, hs, by omega⟩, trivial, Nat.le_refl _, by omega⟩
  · simp only [if_neg h0]
    by_cases h2 : x.1 = 2 ∨ x.1 = 4
    · simp only [if_pos h2]
      obtain ⟨a1, a2, a3, a4⟩ := lookL_any (k := x.2) f1 f2
      obtain ⟨b1, b2, b3, b4⟩ := lookL_room (m := 64) (k := x.2) f3 (by omega)
      refine ⟨cnt + if x.1 = 4 then 1 else 0, ⟨a1, a2, b1, ?_, fun j hj => ?_, fun j hj => ?_, fun e => by simp at e, fun _ => (b3 _).2 (.inr f8), ?_, ?_⟩, trivial, ?_, ?_⟩
      · rw [b2, b4]; split <;> omega
      · rcases a3 j hj with rfl | h1
        · exact (b3 _).2 (.inl rfl)
        · exact (b3 _).2 (.inr (f6 j h1))
      · rcases (b3 j).1 hj with rfl | h1
        · exact .inr (hx h2)
        · exact f7 j h1
      · rw [b2, f4, hs]; omega
      · split <;> omega
      · have : (lookL 64 (firstL 64 kn Lb).1 x.2).2 ≤ (lookL ma (firstL ma kn La).1 x.2).2 := by
          rw [a4, b4]
          by_cases h3 : x.2 ∈ (firstL ma kn La).1
          · rw [if_pos h3, if_pos (f6 _ h3)]; exact Nat.le_refl _
          · rw [if_neg h3]; split <;> omega
        omega
      · rw [a4]
        split <;> split <;> omega
    · simp only [if_neg h2]
      refine ⟨cnt + if x.1 = 3 then 1 else 0, ⟨f1, f2, f3, by omega, f6, f7, fun e => by simp at e, fun _ => f8, ?_, ?_⟩, trivial, by omega, ?_⟩
      · rw [f4, hs]; omega
      · split <;> omega
      · split <;> omega
theorem sub_len : ∀ {A B : List NK}, A.Nodup → (∀ j ∈ A, j ∈ B) → A.length ≤ B.length
  | [], _, _, _ => Nat.zero_le _
  | a :: A, B, hn, h => by
    obtain ⟨h1, h2⟩ := List.nodup_cons.1 hn
    have ha := h a (by simp)
    have := sub_len (A := A) (B := B.erase a) h2 (fun j hj => (List.mem_erase_of_ne (fun e => h1 (by rw [← e]; exact hj))).2 (h j (List.mem_cons_of_mem _ hj)))
    have h3 := List.length_pos_of_mem ha
    rw [List.length_erase_of_mem ha] at this
    rw [List.length_cons]
    omega
/-- WHAT ALL PATHS TAKE -/
theorem mInv_found {ma i : Nat} {kn : Bool} {La Lb : List NK} {sum cnt : Nat} {K : List NK} (h : MInv ma i kn La Lb sum cnt K) : sum ≤ i + 1 + K.length := by
  have h1 := sub_len (B := RKey :: K) h.nb (fun j hj => by
    rcases h.own j hj with rfl | h1
    · simp
    · exact List.mem_cons_of_mem _ h1)
  have := h.s
  have := h.c
  rw [List.length_cons] at h1
  omega
end Go.Gz
