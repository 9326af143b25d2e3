/-
  Products limb by limb, and by splitting: plain facts. No conditions.
-/
import Derived.Test.YtodcjaobbnjikaaNum
namespace Go.Proofs.Ytodcjaobbnjikaa
set_option linter.unusedVariables false
set_option linter.unusedSimpArgs false

theorem val_set (l : List Nat) (p v : Nat) (hp : p < l.length) : val (l.set p v) + 18446744073709551616 ^ p * l[p] = val l + 18446744073709551616 ^ p * v := by
  induction l generalizing p with
  | nil => simp at hp
  | cons x l ih =>
    cases p with
    | zero => simp [val]; omega
    | succ p =>
      have := ih p (by simpa using hp)
      simp only [List.set_cons_succ, val, List.getElem_cons_succ, Nat.pow_succ]
      have e := congrArg (fun t => 18446744073709551616 * t) this
      grind

theorem small_set {l : List Nat} (h : Small l) (p v : Nat) (hv : v < 18446744073709551616) : Small (l.set p v) := fun x hx => by
  rcases List.mem_or_eq_of_mem_set hx with h1 | h1
  · exact h x h1
  · omega

/-- How the product stands in memory in the middle of row i, behind j limbs. -/
structure Row1 (a b : List Nat) (i j : Nat) (O : List Nat) (carry : Nat) : Prop where
  len : O.length = a.length + b.length
  small : Small O
  word : carry < 18446744073709551616
  zero : ∀ k (h : k < O.length), i + b.length ≤ k → O[k] = 0
  eq : val O + 18446744073709551616 ^ (i + j) * carry = val (a.take i) * val b + 18446744073709551616 ^ i * (a[i]?.getD 0 * val (b.take j))

/-- How it stands ahead of row i. -/
structure Row0 (a b : List Nat) (i : Nat) (O : List Nat) : Prop where
  len : O.length = a.length + b.length
  small : Small O
  zero : ∀ k (h : k < O.length), i + b.length ≤ k → O[k] = 0
  eq : val O = val (a.take i) * val b

theorem Row0.start (a b : List Nat) : Row0 a b 0 (List.replicate (a.length + b.length) 0) :=
  ⟨by simp, Small.replicate0 _, fun k h _ => by simp, by rw [val_replicate0]; simp [val]⟩

theorem Row0.first {a b O : List Nat} {i : Nat} (h : Row0 a b i O) : Row1 a b i 0 O 0 := ⟨h.len, h.small, by omega, h.zero, by rw [h.eq]; simp [val]⟩

theorem mul_lt_W {x y : Nat} (hx : x < 18446744073709551616) (hy : y < 18446744073709551616) : x * y ≤ 18446744073709551615 * 18446744073709551615 := Nat.mul_le_mul (by omega) (by omega)

/-- The two limbs that come of one step. -/
theorem step_limbs {x y o c : Nat} (hx : x < 18446744073709551616) (hy : y < 18446744073709551616) (ho : o < 18446744073709551616) (hc : c < 18446744073709551616) :
    ((x * y % 18446744073709551616 + o) % 18446744073709551616 + c) % 18446744073709551616 = (x * y + o + c) % 18446744073709551616 ∧
    x * y / 18446744073709551616 + (x * y % 18446744073709551616 + o) / 18446744073709551616 + ((x * y % 18446744073709551616 + o) % 18446744073709551616 + c) / 18446744073709551616 = (x * y + o + c) / 18446744073709551616 ∧
    (x * y + o + c) / 18446744073709551616 < 18446744073709551616 := by
  have h := mul_lt_W hx hy
  generalize x * y = p at *
  omega

theorem Row1.step {a b O : List Nat} {i j carry : Nat} (h : Row1 a b i j O carry) (hi : i < a.length) (hj : j < b.length) (ha : Small a) (hb : Small b) :
    ∃ hp : i + j < O.length, Row1 a b i (j + 1) (O.set (i + j) ((a[i] * b[j] + O[i + j] + carry) % 18446744073709551616)) ((a[i] * b[j] + O[i + j] + carry) / 18446744073709551616) := by
  have hp : i + j < O.length := by have := h.len; omega
  refine ⟨hp, ⟨by simpa using h.len, small_set h.small _ _ (Nat.mod_lt _ (by omega)), ?_, ?_, ?_⟩⟩
  · exact (step_limbs (ha.get hi) (hb.get hj) (h.small.get hp) h.word).2.2
  · intro k hk hge
    rw [List.getElem_set_ne (by omega)]
    exact h.zero k (by simpa using hk) hge
  · have e := h.eq
    have hs := val_set O (i + j) ((a[i] * b[j] + O[i + j] + carry) % 18446744073709551616) hp
    have hd := Nat.div_add_mod (a[i] * b[j] + O[i + j] + carry) 18446744073709551616
    have ht : val (b.take (j + 1)) = val (b.take j) + 18446744073709551616 ^ j * b[j] := by
      rw [List.take_succ_eq_append_getElem hj, val_append, List.length_take, Nat.min_eq_left (by omega)]
      simp [val]
    rw [ht]
    have hai : a[i]?.getD 0 = a[i] := by simp [hi]
    rw [hai] at e ⊢
    rw [show i + (j + 1) = i + j + 1 from rfl, Nat.pow_succ]
    rw [Nat.pow_add] at *
    generalize (a[i] * b[j] + O[i + j] + carry) / 18446744073709551616 = c2 at *
    generalize (a[i] * b[j] + O[i + j] + carry) % 18446744073709551616 = r2 at *
    generalize val (O.set (i + j) r2) = V at *
    grind

theorem Row1.last {a b O : List Nat} {i carry : Nat} (h : Row1 a b i b.length O carry) (hi : i < a.length) : Row0 a b (i + 1) (O.set (i + b.length) carry) := by
  have hp : i + b.length < O.length := by have := h.len; omega
  refine ⟨by simpa using h.len, small_set h.small _ _ h.word, ?_, ?_⟩
  · intro k hk hge
    rw [List.getElem_set_ne (by omega)]
    exact h.zero k (by simpa using hk) (by omega)
  · have e := h.eq
    have hs := val_set O (i + b.length) carry hp
    rw [h.zero _ hp (Nat.le_refl _)] at hs
    have ht : val (a.take (i + 1)) = val (a.take i) + 18446744073709551616 ^ i * a[i] := by
      rw [List.take_succ_eq_append_getElem hi, val_append, List.length_take, Nat.min_eq_left (by omega)]
      simp [val]
    rw [List.take_length, show a[i]?.getD 0 = a[i] by simp [hi]] at e
    rw [ht]
    grind

theorem Row0.done {a b O : List Nat} (h : Row0 a b a.length O) : val O = val a * val b := by have := h.eq; rwa [List.take_length] at this

/-- The low limbs and the high ones. -/
theorem val_take_drop (l : List Nat) (k : Nat) : val (l.take k) + 18446744073709551616 ^ (l.take k).length * val (l.drop k) = val l := by
  rw [← val_append, List.take_append_drop]

theorem limbs_drop (n k : Nat) : (limbs n).drop k = limbs (n / 18446744073709551616 ^ k) := by
  induction k generalizing n with
  | zero => simp
  | succ k ih =>
    by_cases h : n = 0
    · subst h; simp [limbs_zero]
    · rw [limbs_step n h, List.drop_succ_cons, ih, Nat.div_div_eq_div_mul, Nat.pow_succ, Nat.mul_comm (18446744073709551616 ^ k)]

theorem val_limbs_take (n k : Nat) : val ((limbs n).take k) = n % 18446744073709551616 ^ k := by
  induction k generalizing n with
  | zero => simp [val, Nat.mod_one]
  | succ k ih =>
    by_cases h : n = 0
    · subst h; simp [limbs_zero, val]
    · rw [limbs_step n h, List.take_succ_cons, val, ih, Nat.pow_succ, Nat.mul_comm (18446744073709551616 ^ k), Nat.mod_mul]

/-- A product by three. -/
theorem split_mul3 (x0 x1 y0 y1 B : Nat) : (x0 + x1) * (y0 + y1) - (x0 * y0 + x1 * y1) = x0 * y1 + x1 * y0 ∧ x0 * y0 + x1 * y1 ≤ (x0 + x1) * (y0 + y1) ∧
    x0 * y0 + (x0 * y1 + x1 * y0) * B + x1 * y1 * (B * B) = (x0 + B * x1) * (y0 + B * y1) := by
  have e : (x0 + x1) * (y0 + y1) = x0 * y0 + x1 * y1 + (x0 * y1 + x1 * y0) := by grind
  exact ⟨by omega, by omega, by grind⟩

end Go.Proofs.Ytodcjaobbnjikaa
