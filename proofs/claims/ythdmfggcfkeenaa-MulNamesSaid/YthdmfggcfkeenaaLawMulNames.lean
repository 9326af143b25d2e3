/-
  The walk of MulNames: the chapter's examples. No conditions.
-/
import Derived.Test.YthdmfggcfkeenaaMulF
import Derived.Test.YthdmfggcfkeenaaNatH
namespace Go.Proofs.Ythdmfggcfkeenaa
open Go.RowKit
set_option linter.unusedVariables false
set_option linter.unusedSimpArgs false

theorem pow_many_lit {w : World} {Z : Zone} {a : Value} {m : Nat} {c : Int} (n : Nat) (ha : IsN w Z a m) (hla : (limbs m).length ≤ 100000) (hn : n ≤ 1024) (hs : 65536 < n * size m) (hc : (n : Int) = c) :
    Calls Try.prog 15 #[a, .int .i64 c] w fun e w' => e = .returned (.tuple #[.slice none 0 0, .int .i64 4]) ∧ w = w' := by
  subst hc
  exact pow_many ha hla hn hs

set_option maxRecDepth 100000 in
set_option maxHeartbeats 2000000 in
theorem lawMulNames (w : World) :
    Calls Try.prog 3 #[] w fun e w' => e = .returned (.bool true) ∧ Below w.heap.size w w' := by
  have sz : 65536 < 1024 * size 18446744073709551616 := by rw [size_W]; omega
  go_enter Try.func3, Try.ntmps3
  go_wp2_with fail
  refine (pow_lit 0 (c := 0) (IsN.zero _ old) (by simp [limbs_zero]) (by omega) (by omega) rfl).mono ?_
  rintro e w1 ⟨a, rfl, ha, hb⟩
  have hs : Below w.heap.size w w1 := step (by first | exact Below.refl _ _ | go_grown) hb
  have hB := hs
  clear hb hs
  go_wp2_with fail
  refine (pow_badN (m := 2) (isN_one (x := 2) (by omega) (by omega) (by first | (simp; done) | exact cell_newest (by simp) rfl)) (len_in 1 (by omega) (by omega)) (.inr (by omega))).mono ?_
  rintro e _ ⟨rfl, rfl⟩
  go_wp2_with fail
  refine (pow_many_lit 1024 (isN_W (by first | (simp; done) | exact cell_newest (by simp) rfl) (by first | (simp; done) | exact cell_newest (by simp) rfl)) (len_in 2 (by omega) (by omega)) (by omega) sz rfl).mono ?_
  rintro e _ ⟨rfl, rfl⟩
  go_wp2_with fail
  refine (split_bad (isU_one (x := 0) (by omega) (by first | (simp; done) | exact cell_newest (by simp) rfl)) (IsU.nil _ old) (.inl rfl)).mono ?_
  rintro e _ ⟨rfl, rfl⟩
  go_wp2_with fail
  refine (alive2 _).mono ?_
  rintro e w2 ⟨rfl, hb⟩
  have hs : Below w1.heap.size w1 w2 := step (by first | exact Below.refl _ _ | go_grown) hb
  replace ha := ha.below hs
  replace hB := from_ hB hs
  clear hb hs
  go_wp2_with fail
  refine (same_num (ha.below (by first | exact Below.refl _ _ | go_grown)) (isN_one (x := 1) (by omega) (by omega) (by first | (simp; done) | exact cell_newest (by simp) rfl)) (by omega)).mono ?_
  rintro e w3 ⟨rfl, hb⟩
  have hs : Below w2.heap.size w2 w3 := step (by first | exact Below.refl _ _ | go_grown) hb
  replace ha := ha.below hs
  replace hB := from_ hB hs
  clear hb hs
  go_wp2
  go_ret
  exact ⟨rfl, hB⟩
end Go.Proofs.Ythdmfggcfkeenaa
