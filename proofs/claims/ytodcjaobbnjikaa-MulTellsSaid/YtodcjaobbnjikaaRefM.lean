/-
  Products by digits to 2^32, and lists of such digits: plain facts. No conditions.
-/
import Derived.Test.YtodcjaobbnjikaaMulNum
namespace Go.Proofs.Ytodcjaobbnjikaa
set_option linter.unusedVariables false
set_option linter.unusedSimpArgs false

def valH : List Nat → Nat
  | [] => 0
  | x :: l => x + 4294967296 * valH l
def SmallH (l : List Nat) : Prop := ∀ x ∈ l, x < 4294967296
theorem SmallH.get {l : List Nat} (h : SmallH l) {i : Nat} (hi : i < l.length) : l[i] < 4294967296 := h _ (List.getElem_mem hi)
theorem SmallH.replicate0 (n : Nat) : SmallH (List.replicate n 0) := fun x hx => by
  have := List.eq_of_mem_replicate hx
  omega
theorem valH_replicate0 (n : Nat) : valH (List.replicate n 0) = 0 := by
  induction n with
  | zero => rfl
  | succ n ih => rw [List.replicate_succ, valH, ih]
theorem valH_append (l r : List Nat) : valH (l ++ r) = valH l + 4294967296 ^ l.length * valH r := by
  induction l with
  | nil => simp [valH]
  | cons x l ih =>
    rw [List.cons_append, valH, valH, ih, List.length_cons, Nat.pow_succ]
    grind
theorem valH_set (l : List Nat) (p v : Nat) (hp : p < l.length) : valH (l.set p v) + 4294967296 ^ p * l[p] = valH l + 4294967296 ^ p * v := by
  induction l generalizing p with
  | nil => simp at hp
  | cons x l ih =>
    cases p with
    | zero => simp [valH]; omega
    | succ p =>
      have := ih p (by simpa using hp)
      simp only [List.set_cons_succ, valH, List.getElem_cons_succ, Nat.pow_succ]
      have e := congrArg (fun t => 4294967296 * t) this
      grind
theorem smallH_set {l : List Nat} (h : SmallH l) (p v : Nat) (hv : v < 4294967296) : SmallH (l.set p v) := fun x hx => by
  rcases List.mem_or_eq_of_mem_set hx with h1 | h1
  · exact h x h1
  · omega

/-- The digits of limbs. -/
def digs : List Nat → List Nat
  | [] => []
  | x :: l => x % 4294967296 :: x / 4294967296 :: digs l
theorem digs_append (l r : List Nat) : digs (l ++ r) = digs l ++ digs r := by
  induction l with
  | nil => rfl
  | cons x l ih => simp [digs, ih]
theorem digs_length (l : List Nat) : (digs l).length = 2 * l.length := by
  induction l with
  | nil => rfl
  | cons x l ih => simp [digs, ih]; omega
theorem digs_small (l : List Nat) (h : Small l) : SmallH (digs l) := by
  induction l with
  | nil => intro x hx; simp [digs] at hx
  | cons y l ih =>
    intro x hx
    have hy := h y (List.mem_cons_self ..)
    rw [digs, List.mem_cons, List.mem_cons] at hx
    rcases hx with rfl | rfl | hx
    · omega
    · omega
    · exact ih (fun z hz => h z (List.mem_cons_of_mem _ hz)) x hx
theorem valH_digs (l : List Nat) : valH (digs l) = val l := by
  induction l with
  | nil => rfl
  | cons x l ih =>
    rw [digs, valH, valH, val, ih]
    omega

/-- The limbs of so many pairs of digits. -/
def pairsOf (l : List Nat) (k : Nat) : List Nat := (List.range k).map fun i => l[2 * i]?.getD 0 + 4294967296 * l[2 * i + 1]?.getD 0
theorem pairsOf_succ (l : List Nat) (k : Nat) : pairsOf l (k + 1) = pairsOf l k ++ [l[2 * k]?.getD 0 + 4294967296 * l[2 * k + 1]?.getD 0] := by
  simp [pairsOf, List.range_succ]
theorem pairsOf_length (l : List Nat) (k : Nat) : (pairsOf l k).length = k := by simp [pairsOf]
theorem getD_small {l : List Nat} (h : SmallH l) (i : Nat) : l[i]?.getD 0 < 4294967296 := by
  rcases Nat.lt_or_ge i l.length with h1 | h1
  · rw [List.getElem?_eq_getElem h1]
    exact h.get h1
  · rw [List.getElem?_eq_none h1]
    simp
theorem pairsOf_small {l : List Nat} (h : SmallH l) (k : Nat) : Small (pairsOf l k) := fun x hx => by
  obtain ⟨i, _, rfl⟩ := List.mem_map.1 hx
  have h1 := getD_small h (2 * i)
  have h2 := getD_small h (2 * i + 1)
  show _ < 18446744073709551616
  omega
theorem val_pairsOf (l : List Nat) (k : Nat) (h : 2 * k ≤ l.length) : val (pairsOf l k) = valH (l.take (2 * k)) := by
  induction k with
  | zero => rfl
  | succ k ih =>
    rw [pairsOf_succ, val_append, ih (by omega), pairsOf_length]
    have e : l.take (2 * (k + 1)) = l.take (2 * k) ++ [l[2 * k], l[2 * k + 1]] := by
      rw [show 2 * (k + 1) = 2 * k + 1 + 1 from rfl, List.take_succ_eq_append_getElem (by omega), List.take_succ_eq_append_getElem (by omega), List.append_assoc]
      rfl
    rw [e, valH_append, List.length_take, Nat.min_eq_left (by omega), List.getElem?_eq_getElem (by omega), List.getElem?_eq_getElem (by omega)]
    have hp : (4294967296 : Nat) ^ (2 * k) = 18446744073709551616 ^ k := by rw [Nat.pow_mul]
    rw [hp]
    simp only [val, valH, Option.getD_some, Nat.mul_zero, Nat.add_zero]
theorem pairs_all {l : List Nat} {k : Nat} (h : l.length = 2 * k) : val (pairsOf l k) = valH l := by
  rw [val_pairsOf l k (by omega), ← h, List.take_length]

/-- How the product stands in memory in the middle of row i, behind j limbs. -/
structure RowH1 (a b : List Nat) (i j : Nat) (O : List Nat) (carry : Nat) : Prop where
  len : O.length = a.length + b.length
  small : SmallH O
  word : carry < 4294967296
  zero : ∀ k (h : k < O.length), i + b.length ≤ k → O[k] = 0
  eq : valH O + 4294967296 ^ (i + j) * carry = valH (a.take i) * valH b + 4294967296 ^ i * (a[i]?.getD 0 * valH (b.take j))

/-- How it stands ahead of row i. -/
structure RowH0 (a b : List Nat) (i : Nat) (O : List Nat) : Prop where
  len : O.length = a.length + b.length
  small : SmallH O
  zero : ∀ k (h : k < O.length), i + b.length ≤ k → O[k] = 0
  eq : valH O = valH (a.take i) * valH b

theorem RowH0.start (a b : List Nat) : RowH0 a b 0 (List.replicate (a.length + b.length) 0) :=
  ⟨by simp, SmallH.replicate0 _, fun k h _ => by simp, by rw [valH_replicate0]; simp [valH]⟩

theorem RowH0.first {a b O : List Nat} {i : Nat} (h : RowH0 a b i O) : RowH1 a b i 0 O 0 := ⟨h.len, h.small, by omega, h.zero, by rw [h.eq]; simp [valH]⟩

theorem mul_lt_H {x y : Nat} (hx : x < 4294967296) (hy : y < 4294967296) : x * y ≤ 4294967295 * 4294967295 := Nat.mul_le_mul (by omega) (by omega)
theorem step_half {x y o c : Nat} (hx : x < 4294967296) (hy : y < 4294967296) (ho : o < 4294967296) (hc : c < 4294967296) : x * y + o + c < 18446744073709551616 ∧ (x * y + o + c) / 4294967296 < 4294967296 := by
  have h := mul_lt_H hx hy
  generalize x * y = p at *
  omega

theorem RowH1.step {a b O : List Nat} {i j carry : Nat} (h : RowH1 a b i j O carry) (hi : i < a.length) (hj : j < b.length) (ha : SmallH a) (hb : SmallH b) :
    ∃ hp : i + j < O.length, RowH1 a b i (j + 1) (O.set (i + j) ((a[i] * b[j] + O[i + j] + carry) % 4294967296)) ((a[i] * b[j] + O[i + j] + carry) / 4294967296) := by
  have hp : i + j < O.length := by have := h.len; omega
  refine ⟨hp, ⟨by simpa using h.len, smallH_set h.small _ _ (Nat.mod_lt _ (by omega)), ?_, ?_, ?_⟩⟩
  · exact (step_half (ha.get hi) (hb.get hj) (h.small.get hp) h.word).2
  · intro k hk hge
    rw [List.getElem_set_ne (by omega)]
    exact h.zero k (by simpa using hk) hge
  · have e := h.eq
    have hs := valH_set O (i + j) ((a[i] * b[j] + O[i + j] + carry) % 4294967296) hp
    have hd := Nat.div_add_mod (a[i] * b[j] + O[i + j] + carry) 4294967296
    have ht : valH (b.take (j + 1)) = valH (b.take j) + 4294967296 ^ j * b[j] := by
      rw [List.take_succ_eq_append_getElem hj, valH_append, List.length_take, Nat.min_eq_left (by omega)]
      simp [valH]
    rw [ht]
    have hai : a[i]?.getD 0 = a[i] := by simp [hi]
    rw [hai] at e ⊢
    rw [show i + (j + 1) = i + j + 1 from rfl, Nat.pow_succ]
    rw [Nat.pow_add] at *
    generalize (a[i] * b[j] + O[i + j] + carry) / 4294967296 = c2 at *
    generalize (a[i] * b[j] + O[i + j] + carry) % 4294967296 = r2 at *
    generalize valH (O.set (i + j) r2) = V at *
    grind

theorem RowH1.last {a b O : List Nat} {i carry : Nat} (h : RowH1 a b i b.length O carry) (hi : i < a.length) : RowH0 a b (i + 1) (O.set (i + b.length) carry) := by
  have hp : i + b.length < O.length := by have := h.len; omega
  refine ⟨by simpa using h.len, smallH_set h.small _ _ h.word, ?_, ?_⟩
  · intro k hk hge
    rw [List.getElem_set_ne (by omega)]
    exact h.zero k (by simpa using hk) (by omega)
  · have e := h.eq
    have hs := valH_set O (i + b.length) carry hp
    rw [h.zero _ hp (Nat.le_refl _)] at hs
    have ht : valH (a.take (i + 1)) = valH (a.take i) + 4294967296 ^ i * a[i] := by
      rw [List.take_succ_eq_append_getElem hi, valH_append, List.length_take, Nat.min_eq_left (by omega)]
      simp [valH]
    rw [List.take_length, show a[i]?.getD 0 = a[i] by simp [hi]] at e
    rw [ht]
    grind

theorem RowH0.done {a b O : List Nat} (h : RowH0 a b a.length O) : valH O = valH a * valH b := by have := h.eq; rwa [List.take_length] at this

end Go.Proofs.Ytodcjaobbnjikaa
