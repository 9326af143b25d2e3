/-
  The walk of MulPowers. No conditions.
-/
import Derived.Test.YtodcjaobbnjikaaRefP
namespace Go.Proofs.Ytodcjaobbnjikaa
open Go.RowKit
set_option linter.unusedVariables false
set_option linter.unusedSimpArgs false

set_option maxRecDepth 100000 in
set_option maxHeartbeats 2000000 in
theorem lawMulPowers {w : World} {a : Value} {la : List Nat} {n : Int} (ha : IsU w old a la) (hn : -9223372036854775808 ≤ n ∧ n ≤ 9223372036854775807) :
    Calls Try.prog 13 #[a, .int .i64 n] w fun e w' => e = .returned (.bool true) ∧ Below w.heap.size w w' := by
  obtain ⟨A, ca, rfl, ha⟩ := ha
  have hla := ha.len
  have ua : IsU w old (.slice A la.length ca) la := ⟨A, ca, rfl, ha⟩
  clear ha
  have hcase : (20 : Int) < (la.length : Int) ∨ (decide ((20 : Int) < (la.length : Int)) = false ∧ (20 : Int) < n ∧ n ≤ 1024) ∨ (decide ((20 : Int) < (la.length : Int)) = false ∧ decide ((20 : Int) < n) = false ∧ la.length ≤ 20) ∨ (decide ((20 : Int) < (la.length : Int)) = false ∧ (20 : Int) < n ∧ decide (n ≤ 1024) = false ∧ la.length ≤ 20) := by
    simp only [decide_eq_false_iff_not]
    omega
  rcases hcase with t1 | ⟨t1, t2, t3⟩ | ⟨t1, t2, h1⟩ | ⟨t1, t2, t3, h1⟩
  · go_enter Try.func13, Try.ntmps13
    go_wp2
    go_ret
    exact ⟨rfl, Below.refl _ _⟩
  · go_enter Try.func13, Try.ntmps13
    go_wp2
    go_ret
    exact ⟨rfl, Below.refl _ _⟩
  all_goals
    clear hla
    go_enter Try.func13, Try.ntmps13
    go_wp2_with fail
    refine (pow_all (ua.below (by first | exact Below.refl _ _ | go_grown)) (by omega)).mono ?_
    rintro e w1 ⟨x, rfl, hx, hb⟩
    have hs : Below w.heap.size w w1 := step (by first | exact Below.refl _ _ | go_grown) hb
    replace ua := ua.below hs
    have hB := hs
    clear hb hs
    go_wp2_with fail
    refine (rpow_all (ua.below (by first | exact Below.refl _ _ | go_grown)) (by omega)).mono ?_
    rintro e w2 ⟨y, rfl, hy, hb⟩
    have hs : Below w1.heap.size w1 w2 := step (by first | exact Below.refl _ _ | go_grown) hb
    replace ua := ua.below hs
    replace hx := hx.below hs
    replace hB := from_ hB hs
    clear hb hs
    go_wp2_with fail
    refine (same_yes (hx.below (by first | exact Below.refl _ _ | go_grown)) (hy.below (by first | exact Below.refl _ _ | go_grown))).mono ?_
    rintro e w3 ⟨rfl, hb⟩
    have hs : Below w2.heap.size w2 w3 := step (by first | exact Below.refl _ _ | go_grown) hb
    replace ua := ua.below hs
    replace hx := hx.below hs
    replace hy := hy.below hs
    replace hB := from_ hB hs
    clear hb hs
    go_wp2
    go_ret
    exact ⟨rfl, hB⟩
end Go.Proofs.Ytodcjaobbnjikaa
