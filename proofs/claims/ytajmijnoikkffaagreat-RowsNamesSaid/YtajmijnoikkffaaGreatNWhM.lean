/-
  Whole numbers that may be: Floor, Ceil; Add, Sub, Mul, Cmp, Sign, Neg, Int once more. No conditions but bounds on lengths.
-/
import Derived.Test.YtajmijnoikkffaaGreatNWhL
import Derived.Test.YtajmijnoikkffaaGreatNWhJ
import Derived.Test.YtajmijnoikkffaaGreatNWhH
namespace Go.Proofs.YtajmijnoikkffaaGreat
open Go.RowKit
set_option linter.unusedVariables false
set_option linter.unusedSimpArgs false

theorem zof_z (x : Int) : zof (decide (x < 0)) (limbs x.natAbs) = x := by
  unfold zof
  rw [val_limbs]
  by_cases h : x < 0
  · rw [if_pos (decide_eq_true h)]; omega
  · rw [if_neg (by simpa using h)]; omega

theorem op_z (f : Int → Int → Int) (x y : Int) : errO (decide (x < 0)) (limbs x.natAbs) (decide (y < 0)) (limbs y.natAbs) = 0 ∧ opP f (decide (x < 0)) (limbs x.natAbs) (decide (y < 0)) (limbs y.natAbs) = (decide (f x y < 0), limbs (f x y).natAbs) := by
  have h1 := IsZ.ok x
  have h2 := IsZ.ok y
  refine ⟨by unfold errO; rw [if_pos ⟨h1, h2⟩], ?_⟩
  unfold opP
  rw [if_pos ⟨h1, h2⟩, zof_z, zof_z]

theorem int_z {x : Int} (h : -9223372036854775808 ≤ x ∧ x ≤ 9223372036854775807) : intE (decide (x < 0)) (limbs x.natAbs) = 0 ∧ intX (decide (x < 0)) (limbs x.natAbs) = x := by
  have h1 := int_fits (s := decide (x < 0)) (l := limbs x.natAbs) (IsZ.ok x) ⟨len_limbs_le (k := 1) (by omega), by
    rw [val_limbs]
    by_cases h0 : x < 0
    · by_cases h2 : x.natAbs = 9223372036854775808
      · exact .inr ⟨decide_eq_true h0, h2⟩
      · exact .inl (by omega)
    · exact .inl (by omega)⟩
  rw [zof_z] at h1
  exact h1

theorem wadd_z {w : World} {Z Y : Zone} {a b : Value} {x y : Int} (ha : IsZ w Z a x) (hb : IsZ w Y b y) (hl : (limbs x.natAbs).length ≤ 90000000000) (hl2 : (limbs y.natAbs).length ≤ 90000000000) :
    Calls Tryz.prog 71 #[a, b] w fun e w' => ∃ v, e = .returned (.tuple #[v, .int .i64 0]) ∧ IsZ w' (new w.heap.size) v (x + y) ∧ Below w.heap.size w w' := by
  have h := wadd_all ha hb hl hl2
  obtain ⟨e1, e2⟩ := op_z (· + ·) x y
  rw [e1, e2] at h
  exact h

theorem wmul_z {w : World} {Z Y : Zone} {a b : Value} {x y : Int} (ha : IsZ w Z a x) (hb : IsZ w Y b y) (hl : (limbs x.natAbs).length ≤ 90000000000) (hl2 : (limbs y.natAbs).length ≤ 90000000000) :
    Calls Tryz.prog 42 #[a, b] w fun e w' => ∃ v, e = .returned (.tuple #[v, .int .i64 0]) ∧ IsZ w' (new w.heap.size) v (x * y) ∧ Below w.heap.size w w' := by
  have h := wmul_all ha hb hl hl2
  obtain ⟨e1, e2⟩ := op_z (· * ·) x y
  rw [e1, e2] at h
  exact h

theorem wneg_z {w : World} {Z : Zone} {a : Value} {x : Int} (ha : IsZ w Z a x) (hl : (limbs x.natAbs).length ≤ 90000000000) :
    Calls Tryz.prog 44 #[a] w fun e w' => ∃ v, e = .returned (.tuple #[v, .int .i64 0]) ∧ IsZ w' (new w.heap.size) v (-x) ∧ Below w.heap.size w w' := by
  have h := wneg_all ha hl
  have e1 : errC (decide (x < 0)) (limbs x.natAbs) = 0 := by unfold errC; rw [if_pos (IsZ.ok x)]
  have e2 : negP (decide (x < 0)) (limbs x.natAbs) = (decide (-x < 0), limbs (-x).natAbs) := by unfold negP; rw [if_pos (IsZ.ok x), zof_z, Int.natAbs_neg]
  rw [e1, e2] at h
  exact h

theorem wcheck_z {w : World} {Z : Zone} {a : Value} {x : Int} (ha : IsZ w Z a x) :
    Calls Tryz.prog 48 #[a] w fun e w' => e = .returned (.int .i64 0) ∧ Below w.heap.size w w' := by
  have h := wcheck_any ha
  have e1 : errC (decide (x < 0)) (limbs x.natAbs) = 0 := by unfold errC; rw [if_pos (IsZ.ok x)]
  rwa [e1] at h

end Go.Proofs.YtajmijnoikkffaaGreat
