/-
  The walk of NatNames: the chapter's examples. No conditions.
-/
import Derived.Test.YtodcjaobbnjikaaNatH
namespace Go.Proofs.Ytodcjaobbnjikaa
open Go.RowKit
set_option linter.unusedVariables false
set_option linter.unusedSimpArgs false

set_option maxRecDepth 100000 in
set_option maxHeartbeats 2000000 in
theorem lawNatNames (w : World) :
    Calls Try.prog 12 #[] w fun e w' => e = .returned (.bool true) ∧ Below w.heap.size w w' := by
  go_enter Try.func12, Try.ntmps12
  go_wp2_with fail
  refine (long_lit (IsN.zero _ old) (by simp [limbs_zero]) (c := 0) rfl).mono ?_
  rintro e _ ⟨rfl, rfl⟩
  go_wp2_with fail
  refine (long_lit (isN_W (by first | exact cell_newest (by simp) rfl | (simp; done)) (by first | exact cell_newest (by simp) rfl | (simp; done))) (len_k 2 (by omega) (by omega)) (c := 65) (by rw [size_W]; rfl)).mono ?_
  rintro e _ ⟨rfl, rfl⟩
  go_wp2_with fail
  refine (up_good (b := 63) (isN_one (x := 3) (by omega) (by omega) (by first | exact cell_newest (by simp) rfl | (simp; done))) (len_k 1 (by omega) (by omega)) (by omega)).mono ?_
  rintro e w1 ⟨c, rfl, hc, hb⟩
  have hs : Below w.heap.size w w1 := step (by first | exact Below.refl _ _ | go_grown) hb
  have hB := hs
  clear hb hs
  go_wp2_with fail
  refine (down_good (b := 60) (isN_W (by first | exact cell_newest (by simp) rfl | (simp; done)) (by first | exact cell_newest (by simp) rfl | (simp; done))) (len_k 2 (by omega) (by omega)) (by omega)).mono ?_
  rintro e w2 ⟨d, rfl, hd, hb⟩
  have hs : Below w1.heap.size w1 w2 := step (by first | exact Below.refl _ _ | go_grown) hb
  replace hc := hc.below hs
  replace hB := from_ hB hs
  clear hb hs
  go_wp2_with fail
  refine (word_many (isU_two (x := 0) (y := 1) (by omega) (by omega) (by first | exact cell_newest (by simp) rfl | (simp; done)) (by first | exact cell_newest (by simp) rfl | (simp; done))) rfl (by simp)).mono ?_
  rintro e _ ⟨rfl, rfl⟩
  go_wp2_with fail
  refine (bit_lit 2 (c := 1) (isN_one (x := 5) (by omega) (by omega) (by first | exact cell_newest (by simp) rfl | (simp; done))) (by omega) rfl).mono ?_
  rintro e _ ⟨rfl, rfl⟩
  go_wp2_with fail
  refine (bit_lit 99 (c := 0) (isN_one (x := 5) (by omega) (by omega) (by first | exact cell_newest (by simp) rfl | (simp; done))) (by omega) rfl).mono ?_
  rintro e _ ⟨rfl, rfl⟩
  go_wp2_with fail
  refine (same_num (hc.below (by first | exact Below.refl _ _ | go_grown)) (isN_two (x := 9223372036854775808) (y := 1) (by omega) (by omega) (by omega) (by first | exact cell_newest (by simp) rfl | (simp; done)) (by first | exact cell_newest (by simp) rfl | (simp; done))) (by omega)).mono ?_
  rintro e w3 ⟨rfl, hb⟩
  have hs : Below w2.heap.size w2 w3 := step (by first | exact Below.refl _ _ | go_grown) hb
  replace hc := hc.below hs
  replace hd := hd.below hs
  replace hB := from_ hB hs
  clear hb hs
  go_wp2_with fail
  refine (same_num (hd.below (by first | exact Below.refl _ _ | go_grown)) (isN_one (x := 16) (by omega) (by omega) (by first | exact cell_newest (by simp) rfl | (simp; done))) (by omega)).mono ?_
  rintro e w4 ⟨rfl, hb⟩
  have hs : Below w3.heap.size w3 w4 := step (by first | exact Below.refl _ _ | go_grown) hb
  replace hc := hc.below hs
  replace hd := hd.below hs
  replace hB := from_ hB hs
  clear hb hs
  go_wp2_with fail
  refine (alive1 _).mono ?_
  rintro e w5 ⟨rfl, hb⟩
  have hs : Below w4.heap.size w4 w5 := step (by first | exact Below.refl _ _ | go_grown) hb
  replace hc := hc.below hs
  replace hd := hd.below hs
  replace hB := from_ hB hs
  clear hb hs
  go_wp2_with fail
  refine (check_badU (isU_one (x := 0) (by omega) (by first | exact cell_newest (by simp) rfl | (simp; done))) rfl).mono ?_
  rintro e _ ⟨rfl, rfl⟩
  go_wp2_with fail
  refine (of_any (x := 0) (by omega)).mono ?_
  rintro e w6 ⟨z, rfl, ⟨Az, cz, rfl, hz⟩, hb⟩
  have hs : Below w5.heap.size w5 w6 := step (by first | exact Below.refl _ _ | go_grown) hb
  replace hc := hc.below hs
  replace hd := hd.below hs
  replace hB := from_ hB hs
  clear hb hs
  rw [limbs_zero]
  go_wp2
  go_ret
  exact ⟨rfl, hB⟩
end Go.Proofs.Ytodcjaobbnjikaa
