/-
  The chapter's first examples: facetroomlaw01.alive is true. No conditions.
-/
import Derived.Test.YtodcjaobbnjikaaNatD
import Derived.Test.YtodcjaobbnjikaaSame
namespace Go.Proofs.Ytodcjaobbnjikaa
open Go.RowKit
set_option linter.unusedVariables false
set_option linter.unusedSimpArgs false

theorem cell_newest {W : World} {g i : Nat} {cs : Array Value} {t : TypeId} {v : Value} (h : g = W.heap.size) (hv : cs[i]? = some v) : (W.alloc (.cells cs t)).cell? ⟨g, i, none⟩ = some v := by
  subst h
  rw [← hv]
  exact cell_of_row _ _ i cs t (0, 0) (heap_alloc_new W _)
theorem isU_lit {w : World} {g : Nat} {l : List Nat} {n c : Nat} (hn : n = l.length) (hc : n ≤ c) (hm : c ≤ 9223372036854775807) (hs : Small l) (h : ∀ j (hj : j < l.length), w.cell? ⟨g, j, none⟩ = some (.int .u64 (l[j] : Int))) : IsU w old (.slice (some ⟨g, 0, none⟩) n c) l := by
  subst hn
  refine ⟨_, c, rfl, hs, hc, hm, (fun h => by cases h), fun h0 => ⟨g, 0, rfl, trivial, fun h => h.elim, fun j u hu => ?_⟩⟩
  rw [Nat.zero_add]
  have hj : j < l.length := by have := (List.getElem?_eq_some_iff.1 hu).1; simpa using this
  rw [h j hj]
  simpa [hj] using hu

theorem IsU.decN {w : World} {Z : Zone} {v : Value} {l : List Nat} (h : IsU w Z v l) : (good l = true ∧ IsN w Z v (val l) ∧ (limbs (val l)).length = l.length) ∨ good l = false := by
  cases hg : good l with
  | true => exact .inl ⟨rfl, h.num hg, by rw [limbs_val l h.small hg]⟩
  | false => exact .inr rfl

theorem check_goodN {w : World} {Z : Zone} {v : Value} {n : Nat} (h : IsN w Z v n) : Calls Try.prog 28 #[v] w fun e w' => e = .returned (.int .i64 0) ∧ w = w' := by
  obtain ⟨A, c, rfl, h⟩ := h
  exact check_good h (good_limbs n)
theorem check_goodS {w : World} {Z : Zone} {A : Option Addr} {c n : Nat} {l : List Nat} (h : IsN w Z (.slice A l.length c) n) (_ : (limbs n).length = l.length) : Calls Try.prog 28 #[.slice A l.length c] w fun e w' => e = .returned (.int .i64 0) ∧ w = w' := check_goodN h
theorem check_badU {w : World} {Z : Zone} {v : Value} {l : List Nat} (h : IsU w Z v l) (hg : good l = false) : Calls Try.prog 28 #[v] w fun e w' => e = .returned (.int .i64 8) ∧ w = w' := by
  obtain ⟨A, c, rfl, h⟩ := h
  exact check_bad h hg

theorem limbs_one {x : Nat} (h0 : 0 < x) (h1 : x < 18446744073709551616) : limbs x = [x] := by
  have := limbs_val [x] (Small.cons h1 Small.nil) (by simp [good]; omega)
  simpa [val] using this
theorem limbs_two {x y : Nat} (h0 : 0 < y) (h1 : x < 18446744073709551616) (h2 : y < 18446744073709551616) : limbs (x + 18446744073709551616 * y) = [x, y] := by
  have := limbs_val [x, y] (Small.cons h1 (Small.cons h2 Small.nil)) (by simp [good]; omega)
  simpa [val] using this

theorem isN_one {w : World} {g x : Nat} (h0 : 0 < x) (h1 : x < 18446744073709551616) (h : w.cell? ⟨g, 0, none⟩ = some (.int .u64 (x : Int))) : IsN w old (.slice (some ⟨g, 0, none⟩) 1 1) x := by
  unfold IsN
  rw [limbs_one h0 h1]
  exact isU_lit rfl (by omega) (by omega) (Small.cons h1 Small.nil) fun j hj => match j, hj with | 0, _ => h
theorem isN_two {w : World} {g x y : Nat} (h0 : 0 < y) (h1 : x < 18446744073709551616) (h2 : y < 18446744073709551616) (h : w.cell? ⟨g, 0, none⟩ = some (.int .u64 (x : Int))) (h' : w.cell? ⟨g, 1, none⟩ = some (.int .u64 (y : Int))) :
    IsN w old (.slice (some ⟨g, 0, none⟩) 2 2) (x + 18446744073709551616 * y) := by
  unfold IsN
  rw [limbs_two h0 h1 h2]
  exact isU_lit rfl (by omega) (by omega) (Small.cons h1 (Small.cons h2 Small.nil)) fun j hj => match j, hj with | 0, _ => h | 1, _ => h'

set_option maxRecDepth 100000 in
set_option maxHeartbeats 1000000 in
theorem alive1 (w : World) : Calls Try.prog 26 #[] w fun e w' => e = .returned (.bool true) ∧ Below w.heap.size w w' := by
  go_enter Try.func26, Try.ntmps26
  go_wp2_with fail
  refine (add_good (isN_one (x := 18446744073709551615) (by omega) (by omega) (by simp)) (isN_one (x := 1) (by omega) (by omega) (by simp)) (by rw [limbs_one (by omega) (by omega)]; simp) (by rw [limbs_one (by omega) (by omega)]; simp)).mono ?_
  rintro e w1 ⟨v, rfl, hv, hb⟩
  have hb1 : Below w.heap.size w w1 := step (by go_grown) hb
  clear hb
  go_wp2_with fail
  refine (sub_good (hv.below (by go_grown)) (isN_one (x := 1) (by omega) (by omega) (by simp)) (by rw [show (18446744073709551615 + 1 : Nat) = 0 + 18446744073709551616 * 1 from rfl, limbs_two (by omega) (by omega) (by omega)]; simp) (by rw [limbs_one (by omega) (by omega)]; simp) (by omega)).mono ?_
  rintro e w2 ⟨u, rfl, hu, hb⟩
  have hb2 : Below w1.heap.size w1 w2 := step (by go_grown) hb
  replace hv := hv.below hb2
  replace hb1 := from_ hb1 hb2
  clear hb hb2
  go_wp2_with fail
  refine (sub_less (isN_one (x := 1) (by omega) (by omega) (by simp)) (isN_one (x := 2) (by omega) (by omega) (by simp)) (by rw [limbs_one (by omega) (by omega)]; simp) (by rw [limbs_one (by omega) (by omega)]; simp) (by omega)).mono ?_
  rintro e w3 ⟨rfl, hb⟩
  have hb2 : Below w2.heap.size w2 w3 := step (by go_grown) hb
  replace hv := hv.below hb2
  replace hu := hu.below hb2
  replace hb1 := from_ hb1 hb2
  clear hb hb2
  go_wp2_with fail
  refine (same_num (hv.below (by go_grown)) (isN_two (x := 0) (y := 1) (by omega) (by omega) (by omega) (by simp) (by simp)) (by omega)).mono ?_
  rintro e w4 ⟨rfl, hb⟩
  have hb2 : Below w3.heap.size w3 w4 := step (by go_grown) hb
  replace hu := hu.below hb2
  replace hb1 := from_ hb1 hb2
  clear hb hb2
  go_wp2_with fail
  refine (same_num (hu.below (by go_grown)) (isN_one (x := 18446744073709551615) (by omega) (by omega) (by simp)) (by omega)).mono ?_
  rintro e w5 ⟨rfl, hb⟩
  have hb2 : Below w4.heap.size w4 w5 := step (by go_grown) hb
  replace hb1 := from_ hb1 hb2
  clear hb hb2
  go_wp2
  go_ret
  exact ⟨rfl, hb1⟩
end Go.Proofs.Ytodcjaobbnjikaa
