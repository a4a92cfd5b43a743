/- Plain laws: the intervals of rectangles are just the identifiers of their tiles. -/
import Derived.Test.YtjhgaildbeokkaaGreatDoorGT34
import Derived.Test.YtjhgaildbeokkaaGreatDoorGT10
import Derived.Test.YtjhgaildbeokkaaGreatDoorGT26
namespace Go.Gz
/-- on the way through a square a quarter of the place is the place of the half -/
theorem hil_half : ∀ (m x y : Nat), x < 2 ^ (m + 1) → y < 2 ^ (m + 1) → hil (m + 1) x y / 4 = hil m (x / 2) (y / 2)
  | 0, x, y, hx, hy => by
    have := hil_lt 1 x y hx hy;show hil 1 x y / 4 = 0
    omega
  | m + 1, x, y, hx, hy => by
    have hp := Nat.two_pow_pos m;have h2 : 2 ^ (m + 1) = 2 * 2 ^ m := by rw [Nat.pow_succ]; omega
    have h22 : 2 ^ (m + 1 + 1) = 2 * 2 ^ (m + 1) := by rw [Nat.pow_succ]; omega
    have h4 : 4 ^ (m + 1) = 4 * 4 ^ m := by rw [Nat.pow_succ]; omega
    have ih := hil_half m;rw [h22] at hx hy;by_cases a : x < 2 ^ (m + 1) <;> by_cases b : y < 2 ^ (m + 1)
    · rw [hil_a a b, hil_a (m := m) (x := x / 2) (y := y / 2) (by omega) (by omega)];exact ih y x b a
    · rw [hil_b a b, hil_b (m := m) (x := x / 2) (y := y / 2) (by omega) (by omega)];have := ih x (y - 2 ^ (m + 1)) a (by omega);rw [show y / 2 - 2 ^ m = (y - 2 ^ (m + 1)) / 2 by omega, ← this];omega
    · rw [hil_d a b, hil_d (m := m) (x := x / 2) (y := y / 2) (by omega) (by omega)];have := ih (2 ^ (m + 1) - 1 - y) (2 ^ (m + 1) - 1 - (x - 2 ^ (m + 1))) (by omega) (by omega);rw [show 2 ^ m - 1 - y / 2 = (2 ^ (m + 1) - 1 - y) / 2 by omega, show 2 ^ m - 1 - (x / 2 - 2 ^ m) = (2 ^ (m + 1) - 1 - (x - 2 ^ (m + 1))) / 2 by omega, ← this];omega
    · rw [hil_c a b, hil_c (m := m) (x := x / 2) (y := y / 2) (by omega) (by omega)];have := ih (x - 2 ^ (m + 1)) (y - 2 ^ (m + 1)) (by omega) (by omega);rw [show x / 2 - 2 ^ m = (x - 2 ^ (m + 1)) / 2 by omega, show y / 2 - 2 ^ m = (y - 2 ^ (m + 1)) / 2 by omega, ← this];omega
theorem hil_part (q : Nat) : ∀ (n x y : Nat), x < 2 ^ (q + n) → y < 2 ^ (q + n) → hil (q + n) x y / 4 ^ n = hil q (x / 2 ^ n) (y / 2 ^ n)
  | 0, x, y, _, _ => by simp
  | n + 1, x, y, hx, hy => by
    have h2 : 2 ^ (q + n + 1) = 2 * 2 ^ (q + n) := by rw [Nat.pow_succ]; omega
    have hx' : x < 2 ^ (q + n + 1) := hx;have hy' : y < 2 ^ (q + n + 1) := hy;have h := hil_half (q + n) x y hx' hy';have ih := hil_part q n (x / 2) (y / 2) (by omega) (by omega);rw [show q + (n + 1) = q + n + 1 by omega, show (4 : Nat) ^ (n + 1) = 4 * 4 ^ n by rw [Nat.pow_succ]; omega, ← Nat.div_div_eq_div_mul, h, ih, Nat.div_div_eq_div_mul, Nat.div_div_eq_div_mul, show 2 * 2 ^ n = 2 ^ (n + 1) by rw [Nat.pow_succ]; omega]
/-- a list of intervals has an identifier -/
def inS (l : Sps) (id : Nat) : Prop := ∃ s ∈ l, s.1 ≤ id ∧ id ≤ s.2
theorem inS_nil (id : Nat) : ¬ inS [] id := fun ⟨s, h, _⟩ => by simp at h
theorem inS_app (a b : Sps) (id : Nat) : inS (a ++ b) id ↔ inS a id ∨ inS b id := by
  unfold inS;constructor
  · rintro ⟨s, h, k⟩;rcases List.mem_append.1 h with h | h
    · exact Or.inl ⟨s, h, k⟩
    · exact Or.inr ⟨s, h, k⟩
  · rintro (⟨s, h, k⟩ | ⟨s, h, k⟩)
    · exact ⟨s, List.mem_append_left _ h, k⟩
    · exact ⟨s, List.mem_append_right _ h, k⟩
theorem inS_one (s : Sp) (id : Nat) : inS [s] id ↔ s.1 ≤ id ∧ id ≤ s.2 := by
  unfold inS;constructor
  · rintro ⟨t, h, k⟩;simp only [List.mem_singleton] at h;subst h;exact k
  · exact fun k => ⟨s, by simp, k⟩
theorem inS_cons (s : Sp) (l : Sps) (id : Nat) : inS (s :: l) id ↔ (s.1 ≤ id ∧ id ≤ s.2) ∨ inS l id := by
  rw [show s :: l = [s] ++ l from rfl, inS_app, inS_one]
/-- the last interval begins no later than b -/
def LastLe (l : Sps) (b : Nat) : Prop := ∀ pre x, l = pre ++ [x] → x.1 ≤ b
theorem lastLe_nil (b : Nat) : LastLe [] b := fun pre x h => by simp at h
theorem lastLe_mono {l : Sps} {a b : Nat} (h : LastLe l a) (k : a ≤ b) : LastLe l b := fun pre x e => Nat.le_trans (h pre x e) k
theorem lastLe_snoc {pre : Sps} {x : Sp} {b : Nat} (h : x.1 ≤ b) : LastLe (pre ++ [x]) b := fun p y e => by
  obtain ⟨_, e2⟩ := List.append_inj' e rfl;simp only [List.cons.injEq, and_true] at e2;subst e2;exact h
theorem join_in {l : Sps} {s : Sp} (h : LastLe l s.1) : (∀ id, inS (joinL l s) id ↔ inS l id ∨ (s.1 ≤ id ∧ id ≤ s.2)) ∧ LastLe (joinL l s) s.1 := by
  rcases List.eq_nil_or_concat l with rfl | ⟨pre, x, rfl⟩
  · rw [join_nil];exact ⟨fun id => by rw [inS_one]; exact ⟨Or.inr, fun h => h.elim (fun h => absurd h (inS_nil id)) (fun h => h)⟩, lastLe_snoc (pre := []) (Nat.le_refl _)⟩
  · rw [List.concat_eq_append] at *;have hx := h pre x rfl;rw [join_snoc];split
    · next hj =>
      refine ⟨fun id => ?_, lastLe_snoc hx⟩;rw [inS_app, inS_app, inS_one, inS_one, or_assoc];refine or_congr Iff.rfl ?_;simp only;omega
    · exact ⟨fun id => by rw [inS_app, inS_app, inS_one, inS_one], lastLe_snoc (Nat.le_refl _)⟩
theorem fold_in : ∀ (M : Sps) (l : Sps) (b : Nat), LastLe l b → (∀ x ∈ M, b ≤ x.1) → M.Pairwise (fun x y => x.1 ≤ y.1) → ∀ id, inS (M.foldl joinL l) id ↔ inS l id ∨ inS M id
  | [], l, b, _, _, _, id => ⟨Or.inl, fun h => h.elim (fun h => h) (fun h => absurd h (inS_nil id))⟩
  | s :: t, l, b, hl, hb, hs, id => by
    rw [List.pairwise_cons] at hs;obtain ⟨h1, h2⟩ := join_in (lastLe_mono hl (hb s (by simp)));rw [List.foldl_cons, fold_in t _ s.1 h2 hs.1 hs.2 id, h1 id, inS_cons, or_assoc]
theorem inS_perm {a b : Sps} (h : a.Perm b) (id : Nat) : inS a id ↔ inS b id := by
  unfold inS;constructor
  · rintro ⟨s, h1, k⟩;exact ⟨s, h.subset h1, k⟩
  · rintro ⟨s, h1, k⟩;exact ⟨s, h.symm.subset h1, k⟩
theorem uni_in {L1 L2 R : Sps} (h : uniP L1 L2 R) (id : Nat) : inS R id ↔ inS L1 id ∨ inS L2 id := by
  obtain ⟨M, hp, hs, rfl⟩ := h;rw [fold_in M [] 0 (lastLe_nil _) (fun _ _ => Nat.zero_le _) (List.pairwise_iff_getElem.2 fun i j hi hj h => hs i j hi hj h) id, inS_perm hp, inS_app];exact ⟨fun h => h.elim (fun h => absurd h (inS_nil id)) (fun h => h), Or.inr⟩
/-- an identifier of a tile of a rectangle, at the rectangle's zoom -/
def rin (r : Rc) (rz id : Nat) : Prop := r.x0 ≤ ((unhil rz (id - baseN rz)).1 : Int) ∧ ((unhil rz (id - baseN rz)).1 : Int) ≤ r.x1 ∧ r.y0 ≤ ((unhil rz (id - baseN rz)).2 : Int) ∧ ((unhil rz (id - baseN rz)).2 : Int) ≤ r.y1
/-- an identifier in a tile -/
def tin (rz _q n h id : Nat) : Prop := baseN rz + h * 4 ^ n ≤ id ∧ id < baseN rz + (h + 1) * 4 ^ n
theorem div_bounds {x p t : Nat} (hp : 0 < p) (h : x / p = t) : t * p ≤ x ∧ x ≤ (t + 1) * p - 1 := by
  have h1 := Nat.div_add_mod x p;have h2 := Nat.mod_lt x hp;rw [h] at h1;rw [Nat.add_mul, Nat.one_mul];rw [Nat.mul_comm] at h1;omega
theorem tin_sq {rz q n tx ty id : Nat} (hz : q + n = rz) (hx : tx < 2 ^ q) (hy : ty < 2 ^ q) (h : tin rz q n (hil q tx ty) id) :
    tx * 2 ^ n ≤ (unhil rz (id - baseN rz)).1 ∧ (unhil rz (id - baseN rz)).1 ≤ (tx + 1) * 2 ^ n - 1 ∧ ty * 2 ^ n ≤ (unhil rz (id - baseN rz)).2 ∧ (unhil rz (id - baseN rz)).2 ≤ (ty + 1) * 2 ^ n - 1 := by
  subst hz;obtain ⟨h1, h2⟩ := h;have hh := hil_lt q tx ty hx hy;have hm : (hil q tx ty + 1) * 4 ^ n ≤ 4 ^ (q + n) := by rw [Nat.pow_add]; exact Nat.mul_le_mul_right _ (by omega)
  obtain ⟨d, hd⟩ : ∃ d, id - baseN (q + n) = d := ⟨_, rfl⟩;rw [hd];have hd4 : d < 4 ^ (q + n) := by omega
  have hu := unhil_lt (q + n) d;have hi := hil_unhil (q + n) d hd4;generalize unhil (q + n) d = p at *;have hp := hil_part q n p.1 p.2 hu.1 hu.2;rw [hi] at hp;have he : d / 4 ^ n = hil q tx ty := by
    refine Nat.div_eq_of_lt_le ?_ ?_
    · omega
    · show d < (hil q tx ty + 1) * 4 ^ n
      omega
  rw [he] at hp;have hP : 2 ^ (q + n) = 2 ^ q * 2 ^ n := Nat.pow_add ..;have hn := Nat.two_pow_pos n;have e := hil_inj q tx ty (p.1 / 2 ^ n) (p.2 / 2 ^ n) hx hy (Nat.div_lt_of_lt_mul (by rw [Nat.mul_comm, ← hP]; exact hu.1)) (Nat.div_lt_of_lt_mul (by rw [Nat.mul_comm, ← hP]; exact hu.2)) hp;have d1 := div_bounds hn e.1.symm;have d2 := div_bounds hn e.2.symm;exact ⟨d1.1, d1.2, d2.1, d2.2⟩
/-- going down: what comes to the list -/
def WkIn (rz q n h : Nat) (r : Rc) (l : Sps) (p : Sps × Bool) : Prop := p.2 = true → (∀ id, inS p.1 id ↔ inS l id ∨ (tin rz q n h id ∧ rin r rz id)) ∧ LastLe p.1 (baseN rz + (h + 1) * 4 ^ n)
theorem goK_in {f : Til → Sps → Sps × Bool} {rz q n h : Nat} {r : Rc} : ∀ (c i : Nat), (∀ k, i ≤ k → k < i + c → ∀ l, LastLe l (baseN rz + (h + k) * 4 ^ n) → WkIn rz q n (h + k) r l (f (tilZ q (h + k)) l)) → ∀ l, LastLe l (baseN rz + (h + i) * 4 ^ n) →
    (goK f ((List.range' i c).map fun k => tilZ q (h + k)) l).2 = true → (∀ id, inS (goK f ((List.range' i c).map fun k => tilZ q (h + k)) l).1 id ↔ inS l id ∨ ∃ k, i ≤ k ∧ k < i + c ∧ tin rz q n (h + k) id ∧ rin r rz id) ∧ LastLe (goK f ((List.range' i c).map fun k => tilZ q (h + k)) l).1 (baseN rz + (h + i + c) * 4 ^ n)
  | 0, i, hf, l, hl, ht => by
    simp only [List.range'_zero, List.map_nil] at *;exact ⟨fun id => ⟨Or.inl, fun h => h.elim (fun h => h) (fun ⟨k, h1, h2, _⟩ => by omega)⟩, hl⟩
  | c + 1, i, hf, l, hl, ht => by
    rw [List.range'_succ, List.map_cons] at *;unfold goK at *;by_cases hb : (f (tilZ q (h + i)) l).2 = true
    · rw [if_pos hb] at *;obtain ⟨w1, w2⟩ := hf i (Nat.le_refl _) (by omega) l hl hb;obtain ⟨g1, g2⟩ := goK_in c (i + 1) (fun k h1 h2 l hl => hf k (by omega) (by omega) l hl) _ (by rw [← Nat.add_assoc]; exact w2) ht;refine ⟨fun id => ?_, by rw [show h + i + (c + 1) = h + (i + 1) + c by omega]; exact g2⟩;rw [g1 id, w1 id, or_assoc];refine or_congr Iff.rfl ⟨?_, ?_⟩
      · rintro (⟨a, b⟩ | ⟨k, h1, h2, h3⟩)
        · exact ⟨i, Nat.le_refl _, by omega, a, b⟩
        · exact ⟨k, by omega, by omega, h3⟩
      · rintro ⟨k, h1, h2, h3⟩;by_cases hk : k = i
        · subst hk; exact Or.inl h3
        · exact Or.inr ⟨k, by omega, by omega, h3⟩
    · rw [if_neg hb] at ht;exact absurd ht hb
theorem range_tin {rz q n tx ty id : Nat} (hz : q + n = rz) : ((rangeV q tx ty rz).1 ≤ id ∧ id ≤ (rangeV q tx ty rz).2) ↔ tin rz q n (hil q tx ty) id := by
  subst hz;have hpos : 1 ≤ 4 ^ n := Nat.pos_of_ne_zero (by simp);unfold rangeV tin;rw [Nat.add_sub_cancel_left, Nat.add_mul, Nat.one_mul];simp only;omega
theorem walk_in (r : Rc) (rz : Nat) (most : Int) : ∀ (n q : Nat) (t : Til), TilOk q t → q + n = rz → ∀ l, LastLe l (baseN rz + hil q t.2.1 t.2.2 * 4 ^ n) → WkIn rz q n (hil q t.2.1 t.2.2) r l (walkV r rz most n t l)
  | n, q, t, ht, hz, l, hl => by
    have hok := ht;obtain ⟨tz, tx, ty⟩ := t;obtain ⟨h1, hx, hy⟩ := ht;simp only at h1 hx hy hl ⊢;subst h1;have hsub : rz - tz = n := by omega
    have hn4 : 1 ≤ 4 ^ n := Nat.pos_of_ne_zero (by simp);have ha1 : (hil tz tx ty + 1) * 4 ^ n = hil tz tx ty * 4 ^ n + 4 ^ n := by rw [Nat.add_mul, Nat.one_mul]
    have hsq := fun id => tin_sq (id := id) hz hx hy;have c1 : ((tx * 2 ^ n : Nat) : Int) = ((tx * 2 ^ n : Nat) : Int) := rfl;by_cases ha : apartR (squareR tz tx ty rz) r = true
    · rw [walk_apart (t := (tz, tx, ty)) ha n];intro _;refine ⟨fun id => ⟨Or.inl, fun h => h.elim (fun h => h) (fun ⟨h1, h2⟩ => ?_)⟩, lastLe_mono hl (by omega)⟩;exfalso;have hs := hsq id h1;unfold apartR squareR at ha;unfold rin at h2;rw [hsub] at ha;simp only [Bool.or_eq_true, decide_eq_true_eq] at ha;omega
    · by_cases hw : withinR (squareR tz tx ty rz) r = true
      · rw [walk_within (t := (tz, tx, ty)) ha hw n];intro _;have hlo : (rangeV tz tx ty rz).1 = baseN rz + hil tz tx ty * 4 ^ n := by unfold rangeV; rw [hsub]
        obtain ⟨j1, j2⟩ := join_in (l := l) (s := rangeV tz tx ty rz) (by rw [hlo]; exact hl);refine ⟨fun id => ?_, lastLe_mono j2 (by omega)⟩;simp only;rw [j1 id, range_tin hz];refine or_congr Iff.rfl ⟨fun h => ⟨h, ?_⟩, fun h => h.1⟩;have hs := hsq id h;unfold withinR squareR at hw;rw [hsub] at hw;simp only [Bool.and_eq_true, decide_eq_true_eq] at hw;unfold rin;omega
      · cases n with
        | zero =>
          have hzz : tz = rz := by omega
          subst hzz;exact absurd (apart_within (t := (tz, tx, ty)) hok r ha) hw
        | succ m =>
          rw [walk_deep (t := (tz, tx, ty)) ha hw m];intro hb;have hkid : kidsV tz tx ty = (List.range' 0 4).map fun k => tilZ (tz + 1) (hil tz tx ty * 4 + k) := rfl;have hhl := hil_lt tz tx ty hx hy;have h4q : 4 ^ (tz + 1) = 4 * 4 ^ tz := by rw [Nat.pow_succ]; omega
          have h4m : 4 ^ (m + 1) = 4 * 4 ^ m := by rw [Nat.pow_succ]; omega
          have e0 : hil tz tx ty * 4 ^ (m + 1) = hil tz tx ty * 4 * 4 ^ m := by rw [h4m]; ac_rfl
          simp only at hb ⊢;rw [hkid] at hb ⊢;obtain ⟨g1, g2⟩ := goK_in (f := walkV r rz most m) (rz := rz) (q := tz + 1) (n := m) (h := hil tz tx ty * 4) (r := r) 4 0 (fun k _ hk l hl => by
            have hd : hil tz tx ty * 4 + k < 4 ^ (tz + 1) := by omega
            have hu := unhil_lt (tz + 1) (hil tz tx ty * 4 + k);have he := hil_unhil (tz + 1) (hil tz tx ty * 4 + k) hd;have := walk_in r rz most m (tz + 1) (tilZ (tz + 1) (hil tz tx ty * 4 + k)) ⟨rfl, hu.1, hu.2⟩ (by omega) l (by show LastLe l (baseN rz + hil (tz + 1) (unhil (tz + 1) (hil tz tx ty * 4 + k)).1 (unhil (tz + 1) (hil tz tx ty * 4 + k)).2 * 4 ^ m); rw [he]; exact hl);unfold tilZ at this ⊢;simp only at this;rw [he] at this;exact this) l (by rw [Nat.add_zero, ← e0]; exact hl) hb
          refine ⟨fun id => ?_, lastLe_mono g2 ?_⟩
          · rw [g1 id];refine or_congr Iff.rfl ⟨?_, ?_⟩
            · rintro ⟨k, _, hk, ⟨t1, t2⟩, hr⟩;refine ⟨⟨?_, ?_⟩, hr⟩
              · rw [Nat.add_mul] at t1; omega
              · have hk3 : (hil tz tx ty * 4 + k + 1) * 4 ^ m ≤ (hil tz tx ty * 4 + 4) * 4 ^ m := Nat.mul_le_mul_right _ (by omega);rw [Nat.add_mul (hil tz tx ty * 4) 4] at hk3;omega
            · rintro ⟨⟨t1, t2⟩, hr⟩;rw [ha1] at t2;have q0 : (hil tz tx ty * 4 + 0) * 4 ^ m = hil tz tx ty * 4 * 4 ^ m := by rw [Nat.add_zero]
              have q1 : (hil tz tx ty * 4 + 1) * 4 ^ m = hil tz tx ty * 4 * 4 ^ m + 1 * 4 ^ m := Nat.add_mul ..;have q2 : (hil tz tx ty * 4 + 2) * 4 ^ m = hil tz tx ty * 4 * 4 ^ m + 2 * 4 ^ m := Nat.add_mul ..;have q3 : (hil tz tx ty * 4 + 3) * 4 ^ m = hil tz tx ty * 4 * 4 ^ m + 3 * 4 ^ m := Nat.add_mul ..;have q4 : (hil tz tx ty * 4 + 4) * 4 ^ m = hil tz tx ty * 4 * 4 ^ m + 4 * 4 ^ m := Nat.add_mul ..;have q5 : (hil tz tx ty * 4 + 3 + 1) * 4 ^ m = hil tz tx ty * 4 * 4 ^ m + 4 * 4 ^ m := q4;unfold tin;by_cases a1 : id < baseN rz + (hil tz tx ty * 4 + 1) * 4 ^ m
              · exact ⟨0, by omega, by omega, ⟨by omega, by omega⟩, hr⟩
              · by_cases a2 : id < baseN rz + (hil tz tx ty * 4 + 2) * 4 ^ m
                · exact ⟨1, by omega, by omega, ⟨by omega, by omega⟩, hr⟩
                · by_cases a3 : id < baseN rz + (hil tz tx ty * 4 + 3) * 4 ^ m
                  · exact ⟨2, by omega, by omega, ⟨by omega, by omega⟩, hr⟩
                  · exact ⟨3, by omega, by omega, ⟨by omega, by omega⟩, hr⟩
          · have q4 : (hil tz tx ty * 4 + 0 + 4) * 4 ^ m = hil tz tx ty * 4 * 4 ^ m + 4 * 4 ^ m := by rw [Nat.add_zero, Nat.add_mul]
            omega
/-- the intervals of a rectangle -/
theorem spans_in {r : Rc} {most : Int} (h : (spansV r most).2 = 0) {id : Nat} (hid : id < 6004799503160661) : inS (spansV r most).1 id ↔ hasR r (zoomN id : Int) ((tileXY id).1 : Int) ((tileXY id).2 : Int) = true := by
  unfold spansV at *;split at h
  · simp at h
  · next hm =>
    rw [if_neg hm];split at h
    · next hc => exact absurd h hc
    · next hc =>
      rw [if_neg hc];split at h
      · next hb =>
        rw [if_pos hb];have hc0 : chkR r = 0 := by simpa using hc
        obtain ⟨n, hn, h26⟩ := chk_zoom hc0;rw [hn, Int.toNat_natCast] at hb ⊢;obtain ⟨w1, _⟩ := walk_in r n most n 0 (0, 0, 0) til_zero (by omega) [] (lastLe_nil _) hb;simp only;rw [w1 id];have hh : hil 0 0 0 = 0 := rfl;unfold tin hasR tileXY;simp only [hc0, hn, decide_true, Bool.true_and, Bool.and_eq_true, decide_eq_true_eq, hh];constructor
        · rintro (h | ⟨⟨h1, h2⟩, hr⟩)
          · exact absurd h (inS_nil _)
          · have hz := zoomN_of (z := n) hid (by omega) (by omega);rw [hz];exact ⟨rfl, hr⟩
        · rintro ⟨hz, hr⟩;have hz' : zoomN id = n := by omega
          have hb := zoomN_base hid;rw [hz'] at hr hb;exact Or.inr ⟨⟨by omega, by omega⟩, hr⟩
      · simp at h
theorem exs_in {id : Nat} (hid : id < 6004799503160661) : ∀ (l : Rcs) (L : Sps) (p : Sps × Int), exsP l L p → p.2 = 0 → (inS p.1 id ↔ inS L id ∨ anyR l (zoomN id : Int) ((tileXY id).1 : Int) ((tileXY id).2 : Int) = true)
  | [], L, p, h, _ => by
    obtain rfl : p = (L, 0) := h;exact ⟨Or.inl, fun h => h.elim (fun h => h) (fun h => by simp [anyR] at h)⟩
  | r :: t, L, p, h, h0 => by
    rw [exs_cons] at h;split at h
    · next hc => subst h; exact absurd h0 hc
    · next hc =>
      obtain ⟨R, hu, he⟩ := h;have e : (spansV r 4096).2 = 0 := by simpa using hc
      rw [exs_in hid t R p he h0, uni_in hu, spans_in e hid];unfold anyR;rw [List.any_cons, Bool.or_eq_true, or_assoc]
theorem exs_none : ∀ (l : Rcs) (L : Sps) (p : Sps × Int), exsP l L p → p.2 ≠ 0 → p.1 = []
  | [], L, p, h, h0 => by
    obtain rfl : p = (L, 0) := h;exact absurd rfl h0
  | r :: t, L, p, h, h0 => by
    rw [exs_cons] at h;split at h
    · subst h; rfl
    · obtain ⟨R, _, he⟩ := h;exact exs_none t R p he h0
theorem exs_le : ∀ (l : Rcs) (L : Sps) (p : Sps × Int), exsP l L p → p.1.length ≤ L.length + l.length * 4096
  | [], L, p, h => by
    obtain rfl : p = (L, 0) := h;simp
  | r :: t, L, p, h => by
    rw [exs_cons] at h;split at h
    · subst h; simp
    · obtain ⟨R, ⟨M, hp, _, rfl⟩, he⟩ := h;have h1 := exs_le t _ p he;have h2 := fold_len M [];have h3 := hp.length_eq;have h4 := (spans_ok r 4096).len;simp only [List.length_append, List.length_nil, List.length_cons] at *;omega
/-- whether a list of intervals has an identifier, as it is asked -/
def inB (l : Sps) (id : Nat) : Bool := l.any fun s => decide (s.1 ≤ id) && decide (id ≤ s.2)
theorem inB_iff (l : Sps) (id : Nat) : inB l id = true ↔ inS l id := by
  unfold inB inS;simp only [List.any_eq_true, Bool.and_eq_true, decide_eq_true_eq]
theorem exs_inB {l : Rcs} {p : Sps × Int} (h : exsP l [] p) (h0 : p.2 = 0) {x : Item} (hid : x.1 < 6004799503160661) : inB p.1 x.1 = itR (anyR l) x := by
  rw [Bool.eq_iff_iff, inB_iff, exs_in hid l [] p h h0];exact ⟨fun h => h.elim (fun h => absurd h (inS_nil _)) (fun h => h), Or.inr⟩
end Go.Gz
namespace Go.Proofs.YtjhgaildbeokkaaGreatDoor
open Go.Gz
/-- the zooms up to z, and those from z on, are all, and those of z twice -/
theorem zoom_cut (L : Items) (h : ∀ x ∈ L, x.1 < 6004799503160661) (z : Int) : (keepL L (zoomR (-1099511627776) z)).length + (keepL L (zoomR z 1099511627776)).length = L.length + (keepL L (zoomR z z)).length := by
  induction L with
  | nil => rfl
  | cons s t ih =>
    have h26 := zoomN_le (h s (by simp));have ih := ih fun x hx => h x (by simp [hx]);unfold keepL at *;simp only [List.filter_cons];have e1 : zoomR (-1099511627776) z (zoomN s.1 : Int) ((tileXY s.1).1 : Int) ((tileXY s.1).2 : Int) = decide ((zoomN s.1 : Int) ≤ z) := by
      unfold zoomR;rw [decide_eq_true (show (-1099511627776 : Int) ≤ (zoomN s.1 : Int) by omega), Bool.true_and]
    have e2 : zoomR z 1099511627776 (zoomN s.1 : Int) ((tileXY s.1).1 : Int) ((tileXY s.1).2 : Int) = decide (z ≤ (zoomN s.1 : Int)) := by
      unfold zoomR;rw [decide_eq_true (show (zoomN s.1 : Int) ≤ 1099511627776 by omega), Bool.and_true]
    have e3 : zoomR z z (zoomN s.1 : Int) ((tileXY s.1).1 : Int) ((tileXY s.1).2 : Int) = (decide (z ≤ (zoomN s.1 : Int)) && decide ((zoomN s.1 : Int) ≤ z)) := rfl;rw [e1, e2, e3];by_cases a : (zoomN s.1 : Int) ≤ z <;> by_cases b : z ≤ (zoomN s.1 : Int)
    all_goals simp only [a, b, decide_true, decide_false, Bool.and_true, Bool.and_false, if_true, if_false, List.length_cons, Bool.false_eq_true]
    all_goals omega
end Go.Proofs.YtjhgaildbeokkaaGreatDoor
