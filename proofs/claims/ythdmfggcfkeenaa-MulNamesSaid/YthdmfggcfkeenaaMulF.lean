/-
  The examples with which each law of mul begins. No conditions.
-/
import Derived.Test.YthdmfggcfkeenaaMulE
namespace Go.Proofs.Ythdmfggcfkeenaa
open Go.RowKit
set_option linter.unusedVariables false
set_option linter.unusedSimpArgs false

theorem len_in {n K : Nat} (k : Nat) (h : n < 18446744073709551616 ^ k) (hk : k ≤ K) : (limbs n).length ≤ K := Nat.le_trans (len_limbs_le h) hk
theorem pow_lit {w : World} {Z : Zone} {a : Value} {m : Nat} {c : Int} (n : Nat) (ha : IsN w Z a m) (hla : (limbs m).length ≤ 100000) (hn : n ≤ 1024) (hs : n * size m ≤ 65536) (hc : (n : Int) = c) :
    Calls Try.prog 15 #[a, .int .i64 c] w fun e w' => ∃ v, e = .returned (.tuple #[v, .int .i64 0]) ∧ IsN w' (new w.heap.size) v (m ^ n) ∧ Below w.heap.size w w' := by
  subst hc
  exact pow_good ha hla hn hs

set_option maxRecDepth 100000 in
set_option maxHeartbeats 1000000 in
theorem alive2 (w : World) : Calls Try.prog 17 #[] w fun e w' => e = .returned (.bool true) ∧ Below w.heap.size w w' := by
  have sz : 20 * size 10 ≤ 65536 := by have : size 10 ≤ 4 := size_le_of (by omega); omega
  go_enter Try.func17, Try.ntmps17
  go_wp2_with fail
  refine (mul_good (isN_one (x := 18446744073709551615) (by omega) (by omega) (by first | (simp; done) | exact cell_newest (by simp) rfl)) (isN_one (x := 18446744073709551615) (by omega) (by omega) (by first | (simp; done) | exact cell_newest (by simp) rfl)) (len_in 1 (by omega) (by omega)) (len_in 1 (by omega) (by omega))).mono ?_
  rintro e w1 ⟨a, rfl, ha, hb⟩
  have hs : Below w.heap.size w w1 := step (by first | exact Below.refl _ _ | go_grown) hb
  have hB := hs
  clear hb hs
  go_wp2_with fail
  refine (mul_good (IsN.zero _ old) (isN_one (x := 5) (by omega) (by omega) (by first | (simp; done) | exact cell_newest (by simp) rfl)) (by simp [limbs_zero]) (len_in 1 (by omega) (by omega))).mono ?_
  rintro e w2 ⟨b, rfl, ⟨Az, cz, rfl, hz⟩, hb⟩
  have hs : Below w1.heap.size w1 w2 := step (by first | exact Below.refl _ _ | go_grown) hb
  replace ha := ha.below hs
  replace hB := from_ hB hs
  clear hb hs
  rw [Nat.zero_mul, limbs_zero]
  clear hz
  go_wp2_with fail
  refine (pow_lit 20 (isN_one (x := 10) (by omega) (by omega) (by first | (simp; done) | exact cell_newest (by simp) rfl)) (len_in 1 (by omega) (by omega)) (by omega) sz rfl).mono ?_
  rintro e w3 ⟨c, rfl, hc, hb⟩
  have hs : Below w2.heap.size w2 w3 := step (by first | exact Below.refl _ _ | go_grown) hb
  replace ha := ha.below hs
  replace hB := from_ hB hs
  clear hb hs
  go_wp2_with fail
  refine (same_num (ha.below (by first | exact Below.refl _ _ | go_grown)) (isN_two (x := 1) (y := 18446744073709551614) (by omega) (by omega) (by omega) (by first | (simp; done) | exact cell_newest (by simp) rfl) (by first | (simp; done) | exact cell_newest (by simp) rfl)) (by omega)).mono ?_
  rintro e w4 ⟨rfl, hb⟩
  have hs : Below w3.heap.size w3 w4 := step (by first | exact Below.refl _ _ | go_grown) hb
  replace ha := ha.below hs
  replace hc := hc.below hs
  replace hB := from_ hB hs
  clear hb hs
  go_wp2_with fail
  refine (same_num (hc.below (by first | exact Below.refl _ _ | go_grown)) (isN_two (x := 7766279631452241920) (y := 5) (by omega) (by omega) (by omega) (by first | (simp; done) | exact cell_newest (by simp) rfl) (by first | (simp; done) | exact cell_newest (by simp) rfl)) (by omega)).mono ?_
  rintro e w5 ⟨rfl, hb⟩
  have hs : Below w4.heap.size w4 w5 := step (by first | exact Below.refl _ _ | go_grown) hb
  replace ha := ha.below hs
  replace hc := hc.below hs
  replace hB := from_ hB hs
  clear hb hs
  go_wp2
  go_ret
  exact ⟨rfl, hB⟩
end Go.Proofs.Ythdmfggcfkeenaa
