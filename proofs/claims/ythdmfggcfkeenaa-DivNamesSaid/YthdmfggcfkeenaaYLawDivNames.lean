/-
  The walk of DivNames. No conditions.
-/
import Derived.Test.YthdmfggcfkeenaaYDivP
import Derived.Test.YthdmfggcfkeenaaYRefO
import Derived.Test.YthdmfggcfkeenaaYNatE
import Derived.Test.YthdmfggcfkeenaaYRefC
namespace Go.Proofs.Ythdmfggcfkeenaa
open Go.RowKit
set_option linter.unusedVariables false
set_option linter.unusedSimpArgs false

set_option maxRecDepth 100000 in
set_option maxHeartbeats 2000000 in
theorem lawDivNames (w : World)  :
    Calls Try.prog 6 #[] w fun e w' => e = .returned (.bool true) ∧ Below w.heap.size w w' := by
  obtain ⟨a1, a2, a3⟩ := lit_div (la := [0, 0, 1]) (lb := [1, 1]) (lq := [18446744073709551615]) (lr := [1]) rfl rfl (by simp) (sm1 (by omega)) (sm1 (by omega)) rfl rfl (by simp [val]) (by simp [val])
  obtain ⟨b1, b2, b3⟩ := lit_div (la := [42]) (lb := [6]) (lq := [7]) (lr := []) rfl rfl (by simp) (sm1 (by omega)) Small.nil rfl rfl rfl rfl
  obtain ⟨c1, c2, c3⟩ := lit_div (la := [43]) (lb := [6]) (lq := [7]) (lr := [1]) rfl rfl (by simp) (sm1 (by omega)) (sm1 (by omega)) rfl rfl rfl rfl
  have hx1 : errX [42] [6] = 0 := by unfold errX; rw [if_pos b1, b3]; rfl
  have hl1 : exL [42] [6] = [7] := by unfold exL; rw [if_pos hx1, b2]
  have hx2 : errX [43] [6] = 6 := by unfold errX; rw [if_pos c1, c3]; rfl
  have hl2 : exL [43] [6] = [] := by unfold exL; rw [if_neg (by rw [hx2]; decide)]
  have he1 : ∀ w1 Z Y a b, IsU w1 Z a [42] → IsU w1 Y b [6] → Calls Try.prog 27 #[a, b] w1 (fun e w' => ∃ q, e = .returned (.tuple #[q, .int .i64 0]) ∧ IsU w' (new w1.heap.size) q [7] ∧ Below w1.heap.size w1 w') := fun w1 Z Y a b h1 h2 => by
    have := dexact_all h1 h2 (by simp)
    rwa [hx1, hl1] at this
  have he2 : ∀ w1 Z Y a b, IsU w1 Z a [43] → IsU w1 Y b [6] → Calls Try.prog 27 #[a, b] w1 (fun e w' => ∃ q, e = .returned (.tuple #[q, .int .i64 6]) ∧ IsU w' (new w1.heap.size) q [] ∧ Below w1.heap.size w1 w') := fun w1 Z Y a b h1 h2 => by
    have := dexact_all h1 h2 (by simp)
    rwa [hx2, hl2] at this
  have hw0 : ∀ w1 Z a, IsU w1 Z a [1] → Calls Try.prog 24 #[a, .int .u64 0] w1 (fun e w' => e = .returned (.tuple #[.slice none 0 0, .int .u64 0, .int .i64 30]) ∧ Below w1.heap.size w1 w') := fun w1 Z a h => dword_zero h rfl
  have hw1 : ∀ w1 Z a, IsU w1 Z a [0] → Calls Try.prog 24 #[a, .int .u64 1] w1 (fun e w' => e = .returned (.tuple #[.slice none 0 0, .int .u64 0, .int .i64 8]) ∧ Below w1.heap.size w1 w') := fun w1 Z a h => dword_bad (y := 1) h rfl
  have HA := Lib.hid (And.intro a1 (And.intro a2 a3))
  have He1 := Lib.hid he1
  have He2 := Lib.hid he2
  have Hw0 := Lib.hid hw0
  have Hw1 := Lib.hid hw1
  clear a1 a2 a3 b1 b2 b3 c1 c2 c3 hx1 hl1 hx2 hl2 he1 he2 hw0 hw1
  go_enter Try.func6, Try.ntmps6
  go_wp2_with fail
  refine (He1.out _ _ _ _ _ (isU_one (x := 42) (by omega) (by first | (refine cell_newest ?_ rfl; simp; done) | (refine keepA (cell_newest ?_ rfl); simp; done) | (refine keepA (keepA (cell_newest ?_ rfl)); simp; done) | (refine keepA (keepA (keepA (cell_newest ?_ rfl))); simp; done) | (simp; done))) (isU_one (x := 6) (by omega) (by first | (refine cell_newest ?_ rfl; simp; done) | (refine keepA (cell_newest ?_ rfl); simp; done) | (refine keepA (keepA (cell_newest ?_ rfl)); simp; done) | (refine keepA (keepA (keepA (cell_newest ?_ rfl))); simp; done) | (simp; done)))).mono ?_
  rintro e w1 ⟨a, rfl, ha, hb⟩
  have hs : Below w.heap.size w w1 := step (by first | exact Below.refl _ _ | go_grown) hb
  have hB := hs
  clear hb hs
  go_wp2_with fail
  refine (He2.out _ _ _ _ _ (isU_one (x := 43) (by omega) (by first | (refine cell_newest ?_ rfl; simp; done) | (refine keepA (cell_newest ?_ rfl); simp; done) | (refine keepA (keepA (cell_newest ?_ rfl)); simp; done) | (refine keepA (keepA (keepA (cell_newest ?_ rfl))); simp; done) | (simp; done))) (isU_one (x := 6) (by omega) (by first | (refine cell_newest ?_ rfl; simp; done) | (refine keepA (cell_newest ?_ rfl); simp; done) | (refine keepA (keepA (cell_newest ?_ rfl)); simp; done) | (refine keepA (keepA (keepA (cell_newest ?_ rfl))); simp; done) | (simp; done)))).mono ?_
  rintro e w2 ⟨a2, rfl, ha2, hb⟩
  have hs : Below w1.heap.size w1 w2 := step (by first | exact Below.refl _ _ | go_grown) hb
  replace ha := ha.below hs
  replace hB := from_ hB hs
  clear hb hs
  go_wp2_with fail
  refine (Hw0.out _ _ _ (isU_one (x := 1) (by omega) (by first | (refine cell_newest ?_ rfl; simp; done) | (refine keepA (cell_newest ?_ rfl); simp; done) | (refine keepA (keepA (cell_newest ?_ rfl)); simp; done) | (refine keepA (keepA (keepA (cell_newest ?_ rfl))); simp; done) | (simp; done)))).mono ?_
  rintro e w3 ⟨rfl, hb⟩
  have hs : Below w2.heap.size w2 w3 := step (by first | exact Below.refl _ _ | go_grown) hb
  replace ha := ha.below hs
  replace hB := from_ hB hs
  clear hb hs
  go_wp2_with fail
  refine (Hw1.out _ _ _ (isU_one (x := 0) (by omega) (by first | (refine cell_newest ?_ rfl; simp; done) | (refine keepA (cell_newest ?_ rfl); simp; done) | (refine keepA (keepA (cell_newest ?_ rfl)); simp; done) | (refine keepA (keepA (keepA (cell_newest ?_ rfl))); simp; done) | (simp; done)))).mono ?_
  rintro e w4 ⟨rfl, hb⟩
  have hs : Below w3.heap.size w3 w4 := step (by first | exact Below.refl _ _ | go_grown) hb
  replace ha := ha.below hs
  replace hB := from_ hB hs
  clear hb hs
  go_wp2_with fail
  refine (alive3 _).mono ?_
  rintro e w5 ⟨rfl, hb⟩
  have hs : Below w4.heap.size w4 w5 := step (by first | exact Below.refl _ _ | go_grown) hb
  replace ha := ha.below hs
  replace hB := from_ hB hs
  clear hb hs
  go_wp2_with fail
  refine (gives_yes (isU_lit (l := [0, 0, 1]) rfl (by simp) (by simp) (Small.cons (by omega) (sm2 (by omega) (by omega))) (fun j hj => match j, hj with | 0, _ => (by first | (refine cell_newest ?_ rfl; simp; done) | (refine keepA (cell_newest ?_ rfl); simp; done) | (refine keepA (keepA (cell_newest ?_ rfl)); simp; done) | (refine keepA (keepA (keepA (cell_newest ?_ rfl))); simp; done) | (simp; done)) | 1, _ => (by first | (refine cell_newest ?_ rfl; simp; done) | (refine keepA (cell_newest ?_ rfl); simp; done) | (refine keepA (keepA (cell_newest ?_ rfl)); simp; done) | (refine keepA (keepA (keepA (cell_newest ?_ rfl))); simp; done) | (simp; done)) | 2, _ => (by first | (refine cell_newest ?_ rfl; simp; done) | (refine keepA (cell_newest ?_ rfl); simp; done) | (refine keepA (keepA (cell_newest ?_ rfl)); simp; done) | (refine keepA (keepA (keepA (cell_newest ?_ rfl))); simp; done) | (simp; done)))) (isU_two (x := 1) (y := 1) (by omega) (by omega) (by first | (refine cell_newest ?_ rfl; simp; done) | (refine keepA (cell_newest ?_ rfl); simp; done) | (refine keepA (keepA (cell_newest ?_ rfl)); simp; done) | (refine keepA (keepA (keepA (cell_newest ?_ rfl))); simp; done) | (simp; done)) (by first | (refine cell_newest ?_ rfl; simp; done) | (refine keepA (cell_newest ?_ rfl); simp; done) | (refine keepA (keepA (cell_newest ?_ rfl)); simp; done) | (refine keepA (keepA (keepA (cell_newest ?_ rfl))); simp; done) | (simp; done))) (isU_one (x := 18446744073709551615) (by omega) (by first | (refine cell_newest ?_ rfl; simp; done) | (refine keepA (cell_newest ?_ rfl); simp; done) | (refine keepA (keepA (cell_newest ?_ rfl)); simp; done) | (refine keepA (keepA (keepA (cell_newest ?_ rfl))); simp; done) | (simp; done))) (isU_one (x := 1) (by omega) (by first | (refine cell_newest ?_ rfl; simp; done) | (refine keepA (cell_newest ?_ rfl); simp; done) | (refine keepA (keepA (cell_newest ?_ rfl)); simp; done) | (refine keepA (keepA (keepA (cell_newest ?_ rfl))); simp; done) | (simp; done))) HA.out.1 HA.out.2.1 HA.out.2.2 (by simp) (by simp)).mono ?_
  rintro e w6 ⟨rfl, hb⟩
  have hs : Below w5.heap.size w5 w6 := step (by first | exact Below.refl _ _ | go_grown) hb
  replace ha := ha.below hs
  replace hB := from_ hB hs
  clear hb hs
  go_wp2_with fail
  refine (same_yes (ha.below (by first | exact Below.refl _ _ | go_grown)) (isU_one (x := 7) (by omega) (by first | (refine cell_newest ?_ rfl; simp; done) | (refine keepA (cell_newest ?_ rfl); simp; done) | (refine keepA (keepA (cell_newest ?_ rfl)); simp; done) | (refine keepA (keepA (keepA (cell_newest ?_ rfl))); simp; done) | (simp; done)))).mono ?_
  rintro e w7 ⟨rfl, hb⟩
  have hs : Below w6.heap.size w6 w7 := step (by first | exact Below.refl _ _ | go_grown) hb
  replace ha := ha.below hs
  replace hB := from_ hB hs
  clear hb hs
  go_wp2
  go_ret
  exact ⟨rfl, hB⟩
end Go.Proofs.Ythdmfggcfkeenaa
