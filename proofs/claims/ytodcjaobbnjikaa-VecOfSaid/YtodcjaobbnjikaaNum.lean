/-
  Numbers as lists of limbs to 2^64: plain facts, no program in sight. No conditions.
-/
namespace Go.Proofs.Ytodcjaobbnjikaa
set_option linter.unusedVariables false
set_option linter.unusedSimpArgs false

/-- 2^64, spelt out: the walk's own numeral. -/
abbrev W64 : Nat := 18446744073709551616

/-- The number of a list of limbs, the lowest first. -/
def val : List Nat → Nat
  | [] => 0
  | x :: l => x + 18446744073709551616 * val l

/-- All limbs are below 2^64. -/
def Small (l : List Nat) : Prop := ∀ x ∈ l, x < 18446744073709551616

/-- The last limb is not 0. -/
def good : List Nat → Bool
  | [] => true
  | [x] => x != 0
  | _ :: y :: l => good (y :: l)

/-- The limbs of a number, with fuel. -/
def limbsF : Nat → Nat → List Nat
  | 0, _ => []
  | f + 1, n => if n = 0 then [] else n % 18446744073709551616 :: limbsF f (n / 18446744073709551616)

/-- The limbs of a number. -/
def limbs (n : Nat) : List Nat := limbsF n n

theorem limbsF_fuel : ∀ (f g n : Nat), n ≤ f → n ≤ g → limbsF f n = limbsF g n := by
  intro f
  induction f with
  | zero =>
    intro g n hf hg
    obtain rfl : n = 0 := by omega
    cases g <;> simp [limbsF]
  | succ f ih =>
    intro g n hf hg
    cases g with
    | zero =>
      obtain rfl : n = 0 := by omega
      simp [limbsF]
    | succ g =>
      simp only [limbsF]
      by_cases h : n = 0
      · simp [h]
      · rw [if_neg h, if_neg h, ih g (n / 18446744073709551616) (by omega) (by omega)]

theorem limbs_zero : limbs 0 = [] := rfl
theorem limbs_step (n : Nat) (h : n ≠ 0) : limbs n = n % 18446744073709551616 :: limbs (n / 18446744073709551616) := by
  obtain ⟨m, rfl⟩ : ∃ m, n = m + 1 := ⟨n - 1, by omega⟩
  unfold limbs
  rw [limbsF, if_neg h, limbsF_fuel m ((m + 1) / 18446744073709551616) _ (by omega) (Nat.le_refl _)]

theorem limbs_ind {P : Nat → Prop} (h0 : P 0) (h1 : ∀ n, n ≠ 0 → P (n / 18446744073709551616) → P n) (n : Nat) : P n := by
  induction n using Nat.strongRecOn with
  | ind n ih =>
    by_cases h : n = 0
    · subst h; exact h0
    · exact h1 n h (ih _ (by omega))

theorem val_limbs (n : Nat) : val (limbs n) = n := by
  induction n using limbs_ind with
  | h0 => rfl
  | h1 n h ih => rw [limbs_step n h, val, ih]; omega

theorem small_limbs (n : Nat) : Small (limbs n) := by
  induction n using limbs_ind with
  | h0 => intro x hx; simp [limbs_zero] at hx
  | h1 n h ih =>
    rw [limbs_step n h]
    intro x hx
    rcases List.mem_cons.1 hx with rfl | hx
    · omega
    · exact ih x hx

theorem limbs_eq_nil {n : Nat} : limbs n = [] ↔ n = 0 := by
  constructor
  · intro h
    have := val_limbs n
    rw [h] at this
    simpa [val] using this.symm
  · rintro rfl; rfl

theorem good_limbs (n : Nat) : good (limbs n) = true := by
  induction n using limbs_ind with
  | h0 => rfl
  | h1 n h ih =>
    rw [limbs_step n h]
    by_cases h2 : n / 18446744073709551616 = 0
    · rw [h2, limbs_zero]
      simp only [good, bne_iff_ne]
      omega
    · rw [limbs_step _ h2] at ih ⊢
      exact ih

theorem Small.tail {x : Nat} {l : List Nat} (h : Small (x :: l)) : Small l := fun y hy => h y (List.mem_cons_of_mem _ hy)
theorem Small.head {x : Nat} {l : List Nat} (h : Small (x :: l)) : x < 18446744073709551616 := h x List.mem_cons_self
theorem Small.nil : Small [] := fun x hx => by cases hx
theorem Small.cons {x : Nat} {l : List Nat} (h : x < 18446744073709551616) (hl : Small l) : Small (x :: l) := fun y hy => by
  rcases List.mem_cons.1 hy with rfl | hy
  · exact h
  · exact hl y hy
theorem Small.append {l m : List Nat} (h : Small l) (hm : Small m) : Small (l ++ m) := fun y hy => by
  rcases List.mem_append.1 hy with hy | hy
  · exact h y hy
  · exact hm y hy
theorem Small.left {l m : List Nat} (h : Small (l ++ m)) : Small l := fun y hy => h y (List.mem_append_left _ hy)
theorem Small.right {l m : List Nat} (h : Small (l ++ m)) : Small m := fun y hy => h y (List.mem_append_right _ hy)
theorem Small.take {l : List Nat} (h : Small l) (n : Nat) : Small (l.take n) := fun y hy => h y (List.mem_of_mem_take hy)
theorem Small.drop {l : List Nat} (h : Small l) (n : Nat) : Small (l.drop n) := fun y hy => h y (List.mem_of_mem_drop hy)
theorem Small.get {l : List Nat} (h : Small l) {j : Nat} (hj : j < l.length) : l[j] < 18446744073709551616 := h _ (List.getElem_mem hj)
theorem Small.getD {l : List Nat} (h : Small l) (j : Nat) : l[j]?.getD 0 < 18446744073709551616 := by
  by_cases hj : j < l.length
  · simpa [List.getElem?_eq_getElem hj] using h.get hj
  · simp [List.getElem?_eq_none (Nat.le_of_not_lt hj)]
theorem Small.replicate0 (n : Nat) : Small (List.replicate n 0) := fun y hy => by
  have := List.eq_of_mem_replicate hy
  omega

/-- A list of limbs that may be is the one of its number. -/
theorem limbs_val : ∀ (l : List Nat), Small l → good l = true → limbs (val l) = l
  | [], _, _ => rfl
  | [x], hs, hg => by
    have hx : x ≠ 0 := by simpa [good] using hg
    have h1 := hs.head
    have hv : val [x] = x := by simp [val]
    rw [hv, limbs_step x hx, Nat.mod_eq_of_lt h1, Nat.div_eq_of_lt h1, limbs_zero]
  | x :: y :: l, hs, hg => by
    have ih := limbs_val (y :: l) hs.tail hg
    have h1 := hs.head
    have hv : val (x :: y :: l) = x + 18446744073709551616 * val (y :: l) := rfl
    have hne : val (y :: l) ≠ 0 := by
      intro h0
      rw [h0, limbs_zero] at ih
      cases ih
    rw [hv, limbs_step _ (by omega)]
    have e1 : (x + 18446744073709551616 * val (y :: l)) % 18446744073709551616 = x := by omega
    have e2 : (x + 18446744073709551616 * val (y :: l)) / 18446744073709551616 = val (y :: l) := by omega
    rw [e1, e2, ih]

theorem limbs_inj {m n : Nat} (h : limbs m = limbs n) : m = n := by rw [← val_limbs m, ← val_limbs n, h]

theorem val_append (l m : List Nat) : val (l ++ m) = val l + 18446744073709551616 ^ l.length * val m := by
  induction l with
  | nil => simp [val]
  | cons x l ih =>
    rw [List.cons_append, val, val, ih, List.length_cons, Nat.pow_succ]
    grind

theorem val_lt {l : List Nat} (h : Small l) : val l < 18446744073709551616 ^ l.length := by
  induction l with
  | nil => simp [val]
  | cons x l ih =>
    have h1 := h.head
    have h2 := ih h.tail
    rw [val, List.length_cons, Nat.pow_succ, Nat.mul_comm]
    omega

theorem val_replicate0 (n : Nat) : val (List.replicate n 0) = 0 := by
  induction n with
  | zero => rfl
  | succ n ih => rw [List.replicate_succ, val, ih]

/-- 'good' by the last limb. -/
theorem good_snoc (l : List Nat) (x : Nat) : good (l ++ [x]) = (x != 0) := by
  induction l with
  | nil => rfl
  | cons y l ih =>
    cases l with
    | nil => rfl
    | cons z l => exact ih

theorem good_last {l : List Nat} (h : 0 < l.length) : good l = (l[l.length - 1] != 0) := by
  obtain ⟨m, x, rfl⟩ : ∃ m x, l = m ++ [x] := ⟨l.dropLast, l.getLast (by intro e; subst e; simp at h), (List.dropLast_concat_getLast _).symm⟩
  rw [good_snoc]
  simp

/-- Noughts at the end left away. -/
def trimL : List Nat → List Nat
  | [] => []
  | x :: l => match trimL l with
    | [] => if x = 0 then [] else [x]
    | y :: m => x :: y :: m

theorem trimL_spec : ∀ (l : List Nat), Small l → trimL l = limbs (val l)
  | [], _ => rfl
  | x :: l, h => by
    have ih := trimL_spec l h.tail
    have h1 := h.head
    rw [trimL, ih, val]
    by_cases hv : val l = 0
    · rw [hv, limbs_zero]
      by_cases hx : x = 0
      · simp [hx, limbs_zero]
      · rw [limbs_step _ (by omega)]
        have e1 : (x + 18446744073709551616 * 0) % 18446744073709551616 = x := by omega
        have e2 : (x + 18446744073709551616 * 0) / 18446744073709551616 = 0 := by omega
        rw [e1, e2, limbs_zero]
        simp [hx]
    · have e1 : (x + 18446744073709551616 * val l) % 18446744073709551616 = x := by omega
      have e2 : (x + 18446744073709551616 * val l) / 18446744073709551616 = val l := by omega
      rw [limbs_step (x + 18446744073709551616 * val l) (by omega), e1, e2, limbs_step _ hv]

/-- A list less noughts at its end has the same limbs. -/
theorem val_snoc0 (l : List Nat) : val (l ++ [0]) = val l := by rw [val_append]; simp [val]

/-- How long a number's list is. -/
theorem len_limbs_le {n k : Nat} (h : n < 18446744073709551616 ^ k) : (limbs n).length ≤ k := by
  induction k generalizing n with
  | zero =>
    obtain rfl : n = 0 := by simpa using h
    simp [limbs_zero]
  | succ k ih =>
    by_cases hn : n = 0
    · subst hn; simp [limbs_zero]
    · rw [limbs_step n hn, List.length_cons]
      have : n / 18446744073709551616 < 18446744073709551616 ^ k := by
        rw [Nat.div_lt_iff_lt_mul (by omega), ← Nat.pow_succ]
        exact h
      have := ih this
      omega

theorem lt_pow_len (n : Nat) : n < 18446744073709551616 ^ (limbs n).length := by
  have := val_lt (small_limbs n)
  rwa [val_limbs] at this

theorem len_mono {m n : Nat} (h : m ≤ n) : (limbs m).length ≤ (limbs n).length :=
  len_limbs_le (Nat.lt_of_le_of_lt h (lt_pow_len n))

theorem len_add (m n : Nat) : (limbs (m + n)).length ≤ max (limbs m).length (limbs n).length + 1 := by
  apply len_limbs_le
  have h1 := lt_pow_len m
  have h2 := lt_pow_len n
  have g1 : 18446744073709551616 ^ (limbs m).length ≤ 18446744073709551616 ^ max (limbs m).length (limbs n).length := Nat.pow_le_pow_right (by omega) (Nat.le_max_left _ _)
  have g2 : 18446744073709551616 ^ (limbs n).length ≤ 18446744073709551616 ^ max (limbs m).length (limbs n).length := Nat.pow_le_pow_right (by omega) (Nat.le_max_right _ _)
  rw [Nat.pow_succ]
  omega

theorem len_mul (m n : Nat) : (limbs (m * n)).length ≤ (limbs m).length + (limbs n).length := by
  apply len_limbs_le
  rw [Nat.pow_add]
  exact Nat.mul_lt_mul'' (lt_pow_len m) (lt_pow_len n)

theorem len_val_le {l : List Nat} (h : Small l) : (limbs (val l)).length ≤ l.length := len_limbs_le (val_lt h)

theorem len_lt {n k : Nat} (h : (limbs n).length ≤ k) : n < 18446744073709551616 ^ k := Nat.lt_of_lt_of_le (lt_pow_len n) (Nat.pow_le_pow_right (by omega) h)

theorem pow_le_len {n : Nat} (h : n ≠ 0) : 18446744073709551616 ^ ((limbs n).length - 1) ≤ n := by
  rcases Nat.lt_or_ge n (18446744073709551616 ^ ((limbs n).length - 1)) with h1 | h1
  · have h2 := len_limbs_le h1
    have h3 : (limbs n).length ≠ 0 := fun e => h (limbs_eq_nil.1 (List.length_eq_zero_iff.1 e))
    omega
  · exact h1

end Go.Proofs.Ytodcjaobbnjikaa
