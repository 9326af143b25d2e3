/-
  Whole numbers: whether one may be, two of them may be. No conditions.
-/
import Derived.Test.YtodcjaobbnjikaaWhA
namespace Go.Proofs.Ytodcjaobbnjikaa
open Go.RowKit
set_option linter.unusedVariables false
set_option linter.unusedSimpArgs false

/-- May a sign and words be a whole number? -/
def okI (s : Bool) (l : List Nat) : Bool := good l && !(s && l.length == 0)
def errC (s : Bool) (l : List Nat) : Int := if okI s l = true then 0 else 8
/-- What they are. -/
def zof (s : Bool) (l : List Nat) : Int := if s = true then -(val l : Int) else (val l : Int)

theorem val_zero {l : List Nat} (h : good l = true) (hs : Small l) (h0 : val l = 0) : l = [] := by
  rw [← limbs_val l hs h, h0]
  rfl

theorem zof_enc {s : Bool} {l : List Nat} (h : okI s l = true) (hs : Small l) : decide (zof s l < 0) = s ∧ limbs (zof s l).natAbs = l := by
  unfold okI at h
  rw [Bool.and_eq_true] at h
  obtain ⟨hg, h2⟩ := h
  have hl := limbs_val l hs hg
  cases s with
  | false =>
    simp only [zof, Bool.false_eq_true, if_false]
    exact ⟨decide_eq_false (by omega), by rw [Int.natAbs_natCast]; exact hl⟩
  | true =>
    simp only [zof, if_true]
    have h3 : val l ≠ 0 := fun h0 => by
      rw [val_zero hg hs h0] at h2
      simp at h2
    exact ⟨decide_eq_true (by omega), by rw [Int.natAbs_neg, Int.natAbs_natCast]; exact hl⟩

theorem IsI.num {w : World} {Z : Zone} {v : Value} {s : Bool} {l : List Nat} (h : IsI w Z v s l) (hk : okI s l = true) : IsZ w Z v (zof s l) := by
  obtain ⟨u, e, hu⟩ := h
  obtain ⟨h1, h2⟩ := zof_enc hk hu.small
  unfold IsZ
  rw [h1, h2]
  exact ⟨u, e, hu⟩

theorem IsZ.ok (x : Int) : okI (decide (x < 0)) (limbs x.natAbs) = true := by
  unfold okI
  rw [good_limbs, Bool.true_and]
  by_cases h : x < 0
  · have : (limbs x.natAbs).length ≠ 0 := fun e => by
      have := limbs_eq_nil.1 (List.length_eq_zero_iff.1 e)
      omega
    simp [h, this]
  · simp [h]

/-- Whole numbers in a row of memory. -/
def GivenI (w : World) (g : Nat) (ps : List (Bool × List Nat)) : Prop :=
  ∀ j (h : j < ps.length), ∃ u, w.cell? ⟨g, j * 2, none⟩ = some (.bool ps[j].1) ∧ w.cell? ⟨g, j * 2 + 1, none⟩ = some u ∧ IsU w old u ps[j].2
theorem GivenI.below {w w' : World} {g : Nat} {ps : List (Bool × List Nat)} (h : GivenI w g ps) (hb : Below w.heap.size w w') : GivenI w' g ps := fun j hj => by
  obtain ⟨u, h0, h1, h2⟩ := h j hj
  exact ⟨u, keepC hb h0, keepC hb h1, h2.below hb⟩

def errCs (ps : List (Bool × List Nat)) : Int := if ps.all (fun p => okI p.1 p.2) = true then 0 else 8

end Go.Proofs.Ytodcjaobbnjikaa
