/-
  Digits to ten: plain facts on the numeral of a number, in parts of nineteen digits. No conditions.
-/
import Derived.Lib.ItoaNum
import Derived.Lib.Repeat
import Derived.Test.YtceenaegchlbcaaGreatDoorESize
namespace Go.Proofs.YtceenaegchlbcaaGreatDoor
set_option linter.unusedVariables false
set_option linter.unusedSimpArgs false

/-- k digits of r. -/
def padL : Nat → Nat → List UInt8
  | 0, _ => []
  | k + 1, r => padL k (r / 10) ++ [UInt8.ofNat (48 + r % 10)]

theorem dec_big {u : Nat} (h : 10 ≤ u) : Lib.decDigits u = Lib.decDigits (u / 10) ++ [UInt8.ofNat (48 + u % 10)] := by
  rw [Lib.decDigits, dif_neg (by omega)]

theorem dec_pad : ∀ (k q r : Nat), 0 < q → r < 10 ^ k → Lib.decDigits (q * 10 ^ k + r) = Lib.decDigits q ++ padL k r
  | 0, q, r, hq, hr => by
    obtain rfl : r = 0 := by simpa using hr
    simp [padL]
  | k + 1, q, r, hq, hr => by
    have e0 : q * 10 ^ (k + 1) = q * 10 ^ k * 10 := by rw [Nat.pow_succ, Nat.mul_assoc]
    have h1 : 1 ≤ q * 10 ^ k := Nat.mul_pos hq (Nat.pow_pos (by omega))
    rw [Nat.pow_succ] at hr
    have h2 : r / 10 < 10 ^ k := by omega
    rw [e0, dec_big (by omega), show (q * 10 ^ k * 10 + r) / 10 = q * 10 ^ k + r / 10 by omega, show (q * 10 ^ k * 10 + r) % 10 = r % 10 by omega, dec_pad k q (r / 10) hq h2, padL, List.append_assoc]

theorem pad_dec : ∀ (k r : Nat), r < 10 ^ (k + 1) → padL (k + 1) r = List.replicate (k + 1 - (Lib.decDigits r).length) 48 ++ Lib.decDigits r
  | 0, r, h => by
    have h' : r < 10 := by simpa using h
    rw [Lib.decDigits_one h']
    simp [padL, Nat.mod_eq_of_lt h']
  | k + 1, r, h => by
    rw [padL]
    by_cases hr : r < 10
    · have e1 : r / 10 = 0 := by omega
      rw [e1, pad_dec k 0 (Nat.pow_pos (by omega)), Lib.decDigits_one hr, Lib.decDigits_one (show 0 < 10 by omega), Nat.mod_eq_of_lt hr]
      simp only [List.length_cons, List.length_nil]
      rw [show k + 1 + 1 - (0 + 1) = k + 1 by omega, show k + 1 - (0 + 1) = k by omega, List.replicate_succ']
      rfl
    · rw [Nat.pow_succ] at h
      have e2 : k + 1 + 1 - ((Lib.decDigits (r / 10)).length + (0 + 1)) = k + 1 - (Lib.decDigits (r / 10)).length := by omega
      rw [pad_dec k (r / 10) (by omega), dec_big (u := r) (by omega), List.length_append, List.length_cons, List.length_nil, e2, List.append_assoc]

theorem dec_len_le : ∀ (k r : Nat), r < 10 ^ (k + 1) → (Lib.decDigits r).length ≤ k + 1
  | 0, r, h => by
    have h' : r < 10 := by simpa using h
    rw [Lib.decDigits_one h']
    simp
  | k + 1, r, h => by
    by_cases hr : r < 10
    · rw [Lib.decDigits_one hr]
      simp
    · rw [Nat.pow_succ] at h
      have := dec_len_le k (r / 10) (by omega)
      rw [dec_big (u := r) (by omega)]
      simp
      omega

theorem dec_len_pos (r : Nat) : 0 < (Lib.decDigits r).length := by
  rw [Lib.decDigits_length]
  exact Lib.nDigits_pos r

/-- A numeral is no longer than the number has bits (or one). -/
theorem dec_len_size (n : Nat) : (Lib.decDigits n).length ≤ size n + 1 := by
  refine dec_len_le (size n) n (Nat.lt_of_lt_of_le (lt_size n) ?_)
  exact Nat.le_trans (Nat.pow_le_pow_left (by omega) _) (Nat.pow_le_pow_right (by omega) (by omega))

/-- 10^19. -/
def unitN : Nat := 10000000000000000000
theorem unit_pow : unitN = 10 ^ 19 := by decide +kernel
theorem unit_val : unitN = 10000000000000000000 := rfl
theorem unit_pos : 0 < unitN := by decide +kernel

/-- n without its last i parts. -/
def upN (n i : Nat) : Nat := n / unitN ^ i
/-- n's part i. -/
def partN (n i : Nat) : Nat := upN n i % unitN
theorem upN_zero (n : Nat) : upN n 0 = n := by simp [upN]
theorem upN_succ (n i : Nat) : upN n (i + 1) = upN n i / unitN := by unfold upN; rw [Nat.pow_succ, Nat.div_div_eq_div_mul]
theorem part_lt (n i : Nat) : partN n i < unitN := Nat.mod_lt _ unit_pos
theorem up_eq (n i : Nat) : upN n i = upN n (i + 1) * unitN + partN n i := by
  rw [upN_succ, partN, Nat.mul_comm]
  exact (Nat.div_add_mod _ _).symm
theorem up_lt {n i : Nat} (h : upN n i ≠ 0) : upN n (i + 1) < upN n i := by
  rw [upN_succ]
  exact Nat.div_lt_self (by omega) (by rw [unit_val]; omega)
theorem part_len (n i : Nat) : (Lib.decDigits (partN n i)).length ≤ 19 := dec_len_le 18 _ (by have := part_lt n i; rwa [unit_pow] at this)

/-- The parts' numerals, the lowest ahead. -/
def partsL (n k : Nat) : List (List UInt8) := (List.range k).map fun i => Lib.decDigits (partN n i)
theorem partsL_length (n k : Nat) : (partsL n k).length = k := by simp [partsL]
theorem partsL_succ (n k : Nat) : partsL n (k + 1) = partsL n k ++ [Lib.decDigits (partN n k)] := by simp [partsL, List.range_succ]

/-- What is written when the parts from i on are: k parts in all. -/
def doneL (n k i : Nat) : List UInt8 := if i = k then [] else Lib.decDigits (upN n i)
theorem doneL_top (n k : Nat) : doneL n k k = [] := if_pos rfl
theorem doneL_zero {n k : Nat} (h : k ≠ 0) : doneL n k 0 = Lib.decDigits n := by unfold doneL; rw [if_neg (by omega), upN_zero]
/-- The highest part. -/
theorem doneL_first {n i : Nat} (h0 : upN n (i + 1) = 0) : doneL n (i + 1) i = doneL n (i + 1) (i + 1) ++ Lib.decDigits (partN n i) := by
  rw [doneL_top, doneL, if_neg (by omega), up_eq n i, h0, Nat.zero_mul, Nat.zero_add]
  rfl
/-- A part behind others: filled up with noughts. -/
theorem doneL_next {n k i : Nat} (h : i + 1 < k) (h0 : upN n (i + 1) ≠ 0) :
    doneL n k i = doneL n k (i + 1) ++ List.replicate (19 - (Lib.decDigits (partN n i)).length) 48 ++ Lib.decDigits (partN n i) := by
  have h1 := part_lt n i
  rw [unit_pow] at h1
  unfold doneL
  rw [if_neg (by omega), if_neg (by omega), up_eq n i, unit_pow, dec_pad 19 _ _ (by omega) h1, pad_dec 18 _ h1, List.append_assoc]

end Go.Proofs.YtceenaegchlbcaaGreatDoor
