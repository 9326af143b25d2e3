/-
  Digits to ten, parsed: plain facts on rows of digits and the number that they tell. No conditions.
-/
import Derived.Lib.SlTrimSet
import Derived.Lib.ParseIntB
import Derived.Test.YtceenaegchlbcaaGreatDoorEDigA
namespace Go.Proofs.YtceenaegchlbcaaGreatDoor
set_option linter.unusedVariables false
set_option linter.unusedSimpArgs false

/-- Is it a digit? -/
def isDg (b : UInt8) : Bool := decide (48 ≤ b.toNat) && decide (b.toNat ≤ 57)
theorem isDg_iff {b : UInt8} : isDg b = true ↔ 48 ≤ b.toNat ∧ b.toNat ≤ 57 := by simp [isDg]
/-- All digits. -/
def tenD : List UInt8 := [48, 49, 50, 51, 52, 53, 54, 55, 56, 57]
theorem tenD_has (b : UInt8) : tenD.contains b = isDg b := by
  have h : ∀ n, n < 256 → tenD.contains (UInt8.ofNat n) = isDg (UInt8.ofNat n) := by decide +kernel
  have e : UInt8.ofNat b.toNat = b := by simp
  have := h b.toNat b.toNat_lt
  rwa [e] at this

/-- The number that a row of digits tells. -/
def dval (l : List UInt8) : Nat := l.foldl (fun a b => a * 10 + (b.toNat - 48)) 0
theorem dval_nil : dval [] = 0 := rfl
theorem foldl_dval (l : List UInt8) : ∀ a : Nat, l.foldl (fun a b => a * 10 + (b.toNat - 48)) a = a * 10 ^ l.length + dval l := by
  induction l with
  | nil => intro a; simp [dval]
  | cons b l ih =>
    intro a
    have e : dval (b :: l) = (0 * 10 + (b.toNat - 48)) * 10 ^ l.length + dval l := ih _
    rw [List.foldl_cons, ih, e, List.length_cons, Nat.pow_succ]
    grind
theorem dval_cons (b : UInt8) (l : List UInt8) : dval (b :: l) = (b.toNat - 48) * 10 ^ l.length + dval l := by
  have e : dval (b :: l) = (0 * 10 + (b.toNat - 48)) * 10 ^ l.length + dval l := foldl_dval l _
  rwa [Nat.zero_mul, Nat.zero_add] at e
theorem dval_app (l m : List UInt8) : dval (l ++ m) = dval l * 10 ^ m.length + dval m := by
  have e : dval (l ++ m) = m.foldl (fun a b => a * 10 + (b.toNat - 48)) (dval l) := by unfold dval; rw [List.foldl_append]
  rw [e, foldl_dval]
theorem dval_one (b : UInt8) : dval [b] = b.toNat - 48 := by rw [dval_cons]; simp [dval]
theorem dval_snoc (l : List UInt8) (b : UInt8) : dval (l ++ [b]) = dval l * 10 + (b.toNat - 48) := by
  rw [dval_app, dval_one]
  simp
theorem dval_lt : ∀ (l : List UInt8), l.all isDg = true → dval l < 10 ^ l.length
  | [], _ => by simp [dval]
  | b :: l, h => by
    rw [List.all_cons, Bool.and_eq_true] at h
    have h1 := dval_lt l h.2
    have h2 := (isDg_iff.1 h.1).2
    rw [dval_cons, List.length_cons, Nat.pow_succ]
    have h3 : (b.toNat - 48) * 10 ^ l.length ≤ 9 * 10 ^ l.length := Nat.mul_le_mul_right _ (by omega)
    omega

theorem ofNat_dg {r : Nat} (h : r < 10) : (UInt8.ofNat (48 + r)).toNat = 48 + r := by
  rw [UInt8.toNat_ofNat']
  omega
theorem dval_dec (n : Nat) : dval (Lib.decDigits n) = n := by
  induction n using Nat.strongRecOn with
  | _ n ih =>
    by_cases h : n < 10
    · rw [Lib.decDigits_one h, dval_one, ofNat_dg h]
      omega
    · rw [dec_big (u := n) (by omega), dval_snoc, ih (n / 10) (by omega), ofNat_dg (Nat.mod_lt _ (by omega))]
      omega
theorem dec_all (n : Nat) : (Lib.decDigits n).all isDg = true := by
  induction n using Nat.strongRecOn with
  | _ n ih =>
    have hd : ∀ r, r < 10 → isDg (UInt8.ofNat (48 + r)) = true := fun r hr => isDg_iff.2 (by rw [ofNat_dg hr]; omega)
    by_cases h : n < 10
    · rw [Lib.decDigits_one h]
      rw [List.all_cons, hd n h]
      rfl
    · rw [dec_big (u := n) (by omega), List.all_append, ih (n / 10) (by omega)]
      rw [List.all_cons, hd (n % 10) (Nat.mod_lt _ (by omega))]
      rfl
theorem head_app {l : List UInt8} (m : List UInt8) (h : l ≠ []) : (l ++ m).head? = l.head? := by
  cases l with
  | nil => exact absurd rfl h
  | cons b l => rfl
theorem dec_ne (n : Nat) : Lib.decDigits n ≠ [] := List.ne_nil_of_length_pos (dec_len_pos n)
/-- A number's numeral begins with no nought, but 0's. -/
theorem dec_head {n : Nat} (h0 : n ≠ 0) : (Lib.decDigits n).head? ≠ some 48 := by
  induction n using Nat.strongRecOn with
  | _ n ih =>
    by_cases h : n < 10
    · rw [Lib.decDigits_one h]
      intro e
      have e1 : UInt8.ofNat (48 + n) = 48 := by simpa using e
      have e2 : (UInt8.ofNat (48 + n)).toNat = 48 := by rw [e1]; rfl
      rw [ofNat_dg h] at e2
      omega
    · rw [dec_big (u := n) (by omega), head_app _ (dec_ne _)]
      exact ih (n / 10) (by omega) (by omega)

theorem dval_pos {l : List UInt8} (h0 : l ≠ []) (hh : l.head? ≠ some 48) (ha : l.all isDg = true) : 0 < dval l := by
  cases l with
  | nil => exact absurd rfl h0
  | cons b l =>
    rw [List.all_cons, Bool.and_eq_true] at ha
    have h1 := isDg_iff.1 ha.1
    have h2 : b.toNat ≠ 48 := fun e => hh (by
      have e1 : b = 48 := UInt8.toNat_inj.1 (by rw [e]; rfl)
      rw [e1]
      rfl)
    rw [dval_cons]
    have h3 : 1 ≤ 10 ^ l.length := Nat.pow_pos (by omega)
    have h4 : 1 * 1 ≤ (b.toNat - 48) * 10 ^ l.length := Nat.mul_le_mul (by omega) h3
    omega
/-- A row of digits that begins with no nought is its number's numeral. -/
theorem dec_dval : ∀ (k : Nat) (l : List UInt8), l.length = k → l ≠ [] → l.head? ≠ some 48 → l.all isDg = true → Lib.decDigits (dval l) = l
  | 0, l, hk, h0, _, _ => absurd (List.length_eq_zero_iff.1 hk) h0
  | k + 1, l, hk, h0, hh, ha => by
    rcases List.eq_nil_or_concat l with rfl | ⟨m, b, rfl⟩
    · exact absurd rfl h0
    rw [List.concat_eq_append] at *
    rw [List.all_append, Bool.and_eq_true] at ha
    have hb := isDg_iff.1 (by simpa using ha.2 : isDg b = true)
    have eb : UInt8.ofNat (48 + (b.toNat - 48)) = b := by rw [show 48 + (b.toNat - 48) = b.toNat by omega]; simp
    by_cases hm : m = []
    · subst hm
      rw [List.nil_append, dval_one, Lib.decDigits_one (by omega), eb]
    · have hk' : m.length = k := by simpa using hk
      have hh' : m.head? ≠ some 48 := by rwa [head_app _ hm] at hh
      have hp := dval_pos hm hh' ha.1
      rw [dval_snoc, dec_big (by omega), show (dval m * 10 + (b.toNat - 48)) / 10 = dval m by omega, show (dval m * 10 + (b.toNat - 48)) % 10 = b.toNat - 48 by omega, eb, dec_dval k m hk' hm hh' ha.1]

/-! strings.Trim with the ten digits. -/
theorem dropW_all {p : UInt8 → Bool} : ∀ (l : List UInt8), l.dropWhile p = [] ↔ l.all p = true
  | [] => by simp
  | b :: l => by
    by_cases h : p b = true
    · rw [List.dropWhile_cons_of_pos h, dropW_all l, List.all_cons, h, Bool.true_and]
    · rw [List.dropWhile_cons_of_neg h, List.all_cons]
      simp [h]
theorem dropW_head {p : UInt8 → Bool} : ∀ (l : List UInt8) {b m}, l.dropWhile p = b :: m → p b = false
  | [], b, m, e => by simp at e
  | c :: l, b, m, e => by
    by_cases h : p c = true
    · rw [List.dropWhile_cons_of_pos h] at e
      exact dropW_head l e
    · rw [List.dropWhile_cons_of_neg h] at e
      obtain ⟨rfl, -⟩ := List.cons.inj e
      simpa using h
theorem trim_nil (l : List UInt8) : Lib.trimS l tenD = [] ↔ l.all isDg = true := by
  have hp : (fun b => tenD.contains b) = isDg := funext tenD_has
  unfold Lib.trimS Lib.trimLeftS Lib.trimRightS
  rw [hp]
  constructor
  · intro h
    rw [dropW_all, List.all_reverse] at h
    cases e : l.reverse.dropWhile isDg with
    | nil =>
      rw [dropW_all, List.all_reverse] at e
      exact e
    | cons b m =>
      have hb := dropW_head _ e
      rw [e, List.all_cons, hb] at h
      simp at h
  · intro h
    rw [(dropW_all l.reverse).2 (by rw [List.all_reverse]; exact h)]
    rfl

/-! strconv.ParseUint of up to nineteen digits. -/
theorem pu_digits : ∀ (l : List UInt8) (a : Nat), l.all isDg = true → a * 10 ^ l.length + dval l ≤ 2 ^ 64 - 1 → Lib.parseUintM (2 ^ 64 - 1) a l = .ok (a * 10 ^ l.length + dval l)
  | [], a, _, h => by simp [Lib.parseUintM, dval]
  | b :: l, a, ha, h => by
    rw [List.all_cons, Bool.and_eq_true] at ha
    have hb := isDg_iff.1 ha.1
    have e : a * 10 ^ (b :: l).length + dval (b :: l) = (a * 10 + (b.toNat - 48)) * 10 ^ l.length + dval l := by
      rw [dval_cons, List.length_cons, Nat.pow_succ]
      grind
    have hp : 1 ≤ 10 ^ l.length := Nat.pow_pos (by omega)
    have h5 : (a * 10 + (b.toNat - 48)) * 1 ≤ (a * 10 + (b.toNat - 48)) * 10 ^ l.length := Nat.mul_le_mul_left _ hp
    rw [e] at h ⊢
    have h6 : (2 : Nat) ^ 64 - 1 = 18446744073709551615 := by decide
    have h7 : (a * 10 + (b.toNat - 48)) ≤ 18446744073709551615 := by
      rw [← h6]
      exact Nat.le_trans (by rw [Nat.mul_one] at h5; exact h5) (Nat.le_trans (Nat.le_add_right _ _) h)
    rw [Lib.parseUintM, if_pos hb, if_neg (by omega), if_neg (by rw [h6]; omega)]
    exact pu_digits l _ ha.2 h
theorem puB_digits {l : List UInt8} (h0 : l ≠ []) (ha : l.all isDg = true) (hl : l.length ≤ 19) : Lib.parseUintB 64 l = .ok (dval l) := by
  have h1 := dval_lt l ha
  have h2 : 10 ^ l.length ≤ 10 ^ 19 := Nat.pow_le_pow_right (by omega) hl
  have h3 : (10 : Nat) ^ 19 ≤ 2 ^ 64 - 1 := by decide +kernel
  have := pu_digits l 0 ha (by omega)
  rw [Nat.zero_mul, Nat.zero_add] at this
  rw [Lib.parseUintB, if_neg h0]
  exact this
end Go.Proofs.YtceenaegchlbcaaGreatDoor
