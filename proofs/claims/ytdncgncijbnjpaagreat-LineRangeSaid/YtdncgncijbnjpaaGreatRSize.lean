/- How long numbers are, and their bits: plain facts. No conditions. -/
import Derived.Lib.BitFns
import Derived.Test.YtdncgncijbnjpaaGreatRRefM
set_option linter.unusedVariables false
set_option linter.unusedSimpArgs false
set_option maxRecDepth 100000
set_option maxHeartbeats 40000000
namespace Go.Proofs.YtdncgncijbnjpaaGreat
def size (n : Nat) : Nat := if n = 0 then 0 else Nat.log2 n + 1
theorem lt_size (n : Nat) : n < 2 ^ size n := by
 unfold size
 split
 · rename_i h; subst h; exact Nat.one_pos
 · exact Nat.lt_log2_self
theorem size_le {n : Nat} (h : n ≠ 0) : 2 ^ (size n - 1) ≤ n := by
 unfold size
 rw [if_neg h]
 exact Nat.log2_self_le h
theorem size_eq {n s : Nat} (h0 : n ≠ 0) (h1 : 2 ^ s ≤ n) (h2 : n < 2 ^ (s + 1)) : size n = s + 1 := by
 unfold size
 rw [if_neg h0]
 have a := (Nat.le_log2 h0).2 h1
 have b := (Nat.log2_lt h0).2 h2
 omega
theorem size_le_of {n k : Nat} (h : n < 2 ^ k) : size n ≤ k := by
 by_cases h0 : n = 0
 · subst h0; exact Nat.zero_le _
 · unfold size
   rw [if_neg h0]
   have := (Nat.log2_lt h0).2 h
   omega
theorem size_pos {n : Nat} (h : n ≠ 0) : 0 < size n := by unfold size; rw [if_neg h]; omega
theorem size_eq_zero {n : Nat} : size n = 0 ↔ n = 0 := by
 unfold size
 split <;> simp_all
theorem bitLen_aux (f x : Nat) (h : x < 2 ^ f) : Lib.bitLenAux f x = size x := by
 induction f generalizing x with
 | zero =>
   obtain rfl : x = 0 := by simpa using h
   rfl
 | succ f ih =>
   unfold Lib.bitLenAux
   by_cases h0 : x = 0
   · subst h0; rfl
   · rw [if_neg h0, ih (x / 2) (by rw [Nat.pow_succ] at h; omega)]
     by_cases h1 : x / 2 = 0
     · have : x = 1 := by omega
       subst this
       rfl
     · have a := lt_size (x / 2)
       have b := size_le h1
       have c := size_pos h1
       have e := size_eq (n := x) (s := size (x / 2)) h0 (by
        have : 2 ^ size (x / 2) = 2 * 2 ^ (size (x / 2) - 1) := by rw [← Nat.pow_succ']; congr 1; omega
        omega) (by rw [Nat.pow_succ]; omega)
       omega
theorem bitLen_size (x : Nat) (h : x < 18446744073709551616) : Lib.bitLen x = size x := bitLen_aux 64 x h
theorem W_pow (k : Nat) : (18446744073709551616 : Nat) ^ k = 2 ^ (64 * k) := by
 rw [show (18446744073709551616 : Nat) = 2 ^ 64 from rfl, ← Nat.pow_mul]
theorem limb_get (n j : Nat) : (limbs n)[j]?.getD 0 = n / 18446744073709551616 ^ j % 18446744073709551616 := by
 induction j generalizing n with
 | zero =>
   by_cases h : n = 0
   · subst h; rfl
   · rw [limbs_step n h]; simp
 | succ j ih =>
   by_cases h : n = 0
   · subst h; simp [limbs_zero]
   · rw [limbs_step n h]
     have := ih (n / 18446744073709551616)
     simp only [List.getElem?_cons_succ]
     rw [this, Nat.div_div_eq_div_mul, Nat.pow_succ, Nat.mul_comm (18446744073709551616 ^ j)]
theorem limb_at {n j : Nat} (h : j < (limbs n).length) : (limbs n)[j] = n / 18446744073709551616 ^ j % 18446744073709551616 := by
 rw [← limb_get]; simp [h]
theorem size_top {n : Nat} (h : 0 < (limbs n).length) : size n = 64 * ((limbs n).length - 1) + size ((limbs n)[(limbs n).length - 1]'(by omega)) ∧ (limbs n)[(limbs n).length - 1]'(by omega) ≠ 0 := by
 have A := good_limbs n
 rw [good_last h, bne_iff_ne] at A
 refine ⟨?_, A⟩
 have e := limb_at (n := n) (j := (limbs n).length - 1) (by omega)
 have G := lt_pow_len n
 have C : n / 18446744073709551616 ^ ((limbs n).length - 1) < 18446744073709551616 := by
  rw [Nat.div_lt_iff_lt_mul (Nat.pow_pos (by omega)), Nat.mul_comm, ← Nat.pow_succ]
  rwa [show ((limbs n).length - 1).succ = (limbs n).length by omega]
 rw [Nat.mod_eq_of_lt C] at e
 rw [e] at A ⊢
 rw [W_pow] at A ⊢
 generalize 64 * ((limbs n).length - 1) = k at *
 have D := lt_size (n / 2 ^ k)
 have E := size_le A
 have H := size_pos A
 have B : 0 < 2 ^ k := Nat.pow_pos (by omega)
 have F : n ≠ 0 := by rintro rfl; simp at A
 have := size_eq (n := n) (s := k + (size (n / 2 ^ k) - 1)) F (by
  rw [Nat.pow_add, Nat.mul_comm]
  exact (Nat.le_div_iff_mul_le B).1 E) (by
  rw [show k + (size (n / 2 ^ k) - 1) + 1 = size (n / 2 ^ k) + k by omega, Nat.pow_add]
  exact (Nat.div_lt_iff_lt_mul B).1 D)
 omega
end Go.Proofs.YtdncgncijbnjpaaGreat
