/-
  Up and Down where a number or a shift may not be; nat.Word; lengths. No conditions.
-/
import Derived.Test.YtodcjaobbnjikabDown
namespace Go.Proofs.Ytodcjaobbnjikab
open Go.RowKit
set_option linter.unusedVariables false
set_option linter.unusedSimpArgs false

theorem len_shift (n b : Nat) : (limbs (n * 2 ^ b)).length ≤ (limbs n).length + b / 64 + 1 := by
  apply len_limbs_le
  have h1 := lt_pow_len n
  have h2 : 0 < 2 ^ b := Nat.pow_pos (by omega)
  refine Nat.lt_of_lt_of_le (Nat.mul_lt_mul_of_pos_right h1 h2) ?_
  rw [W_pow, W_pow, ← Nat.pow_add]
  exact Nat.pow_le_pow_right (by omega) (by omega)
theorem len_div (n d : Nat) : (limbs (n / d)).length ≤ (limbs n).length := len_mono (Nat.div_le_self _ _)

theorem size_len (n : Nat) : size n ≤ 64 * (limbs n).length := size_le_of (by rw [← W_pow]; exact lt_pow_len n)
theorem limbs_big1 : limbs 18446744073709551616 = [0, 1] := by
  have := limbs_two (x := 0) (y := 1) (by omega) (by omega) (by omega)
  simpa using this
theorem size_one : size 1 = 1 := by rw [size_eq (n := 1) (s := 0) (by omega) (by omega) (by omega)]
theorem size_W : size 18446744073709551616 = 65 := by
  rw [size_eq (n := 18446744073709551616) (s := 64) (by omega) (by omega) (by omega)]

theorem long_lit {w : World} {Z : Zone} {a : Value} {n : Nat} {c : Int} (ha : IsN w Z a n) (hl : (limbs n).length ≤ 900000) (hc : (size n : Int) = c) :
    Calls Try.prog 8 #[a] w fun e w' => e = .returned (.tuple #[.int .i64 c, .int .i64 0]) ∧ w = w' := by subst hc; exact long_good ha hl
theorem isN_W {w : World} {g : Nat} (h : w.cell? ⟨g, 0, none⟩ = some (.int .u64 0)) (h' : w.cell? ⟨g, 1, none⟩ = some (.int .u64 1)) : IsN w old (.slice (some ⟨g, 0, none⟩) 2 2) 18446744073709551616 := by
  have := isN_two (w := w) (g := g) (x := 0) (y := 1) (by omega) (by omega) (by omega) h h'
  simpa using this
theorem len_k {n : Nat} (k : Nat) (h : n < 18446744073709551616 ^ k) (hk : k ≤ 900000) : (limbs n).length ≤ 900000 := Nat.le_trans (len_limbs_le h) hk
theorem good_two (x y : Nat) (hy : y ≠ 0) : good [x, y] = true := by simp [good, hy]
theorem isU_two {w : World} {g x y : Nat} (h1 : x < 18446744073709551616) (h2 : y < 18446744073709551616) (h : w.cell? ⟨g, 0, none⟩ = some (.int .u64 (x : Int))) (h' : w.cell? ⟨g, 1, none⟩ = some (.int .u64 (y : Int))) :
    IsU w old (.slice (some ⟨g, 0, none⟩) 2 2) [x, y] := isU_lit rfl (by omega) (by omega) (Small.cons h1 (Small.cons h2 Small.nil)) fun j hj => match j, hj with | 0, _ => h | 1, _ => h'
theorem isU_one {w : World} {g x : Nat} (h1 : x < 18446744073709551616) (h : w.cell? ⟨g, 0, none⟩ = some (.int .u64 (x : Int))) :
    IsU w old (.slice (some ⟨g, 0, none⟩) 1 1) [x] := isU_lit rfl (by omega) (by omega) (Small.cons h1 Small.nil) fun j hj => match j, hj with | 0, _ => h

end Go.Proofs.Ytodcjaobbnjikab
