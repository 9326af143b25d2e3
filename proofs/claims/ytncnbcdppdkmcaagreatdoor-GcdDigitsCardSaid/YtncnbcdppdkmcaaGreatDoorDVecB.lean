/-
  Rows of whole numbers that come of ints, the program's and the document's, and whether two are the same. No conditions but bounds on lengths.
  Rows of whole numbers that come of ints, the program's and the document's, and whether two are the same. No conditions but bounds on lengths.
-/
import Derived.Test.YtncnbcdppdkmcaaGreatDoorDWhB
import Derived.Test.YtncnbcdppdkmcaaGreatDoorDRefI
import Derived.Test.YtncnbcdppdkmcaaGreatDoorDRefE
namespace Go.Proofs.YtncnbcdppdkmcaaGreatDoor
open Go.RowKit
set_option linter.unusedVariables false
set_option linter.unusedSimpArgs false

theorem boxes2 (w : World) (a0 a1 b0 b1 : Value) (t : TypeId) :
    Box ((w.alloc (.cells #[a0, a1] t)).alloc (.cells #[b0, b1] t)) w.heap.size a0 a1 ∧
    Box ((w.alloc (.cells #[a0, a1] t)).alloc (.cells #[b0, b1] t)) (w.heap.size + 1) b0 b1 ∧
    Below w.heap.size w ((w.alloc (.cells #[a0, a1] t)).alloc (.cells #[b0, b1] t)) := by
  have h1 := (Box.new w a0 a1 t).alloc (.cells #[b0, b1] t)
  have h2 := Box.new (w.alloc (.cells #[a0, a1] t)) b0 b1 t
  rw [show (w.alloc (.cells #[a0, a1] t)).heap.size = w.heap.size + 1 by simp] at h2
  exact ⟨h1, h2, ((Below.refl _ w).alloc (Nat.le_refl _) _).alloc (by simp) _⟩

end Go.Proofs.YtncnbcdppdkmcaaGreatDoor

namespace Go.Proofs.YtncnbcdppdkmcaaGreatDoor
open Go.RowKit
set_option linter.unusedVariables false
set_option linter.unusedSimpArgs false

theorem own_below {w w' : World} {base : Nat} {e : TypeId} {size : Nat} {v : Value} {n : Nat} {xs : List Value} (h : w.ownsRow base e size v n xs) (hb : Below w.heap.size w w') : w'.ownsRow base e size v n xs := by
  refine ⟨h.1, ?_⟩
  rcases h.2 with h1 | ⟨g, cap, cur, e1, hg, hh, hr⟩
  · exact .inl h1
  · refine .inr ⟨g, cap, cur, e1, hg, ?_, hr⟩
    rw [hb.block g]
    · exact hh
    · by_cases hlt : g < w.heap.size
      · exact hlt
      · rw [Array.getElem?_eq_none (by omega)] at hh
        cases hh

/-- A row of ints in memory. -/
def IsInts (w : World) (Z : Zone) (v : Value) (zs : List Int) : Prop := ∃ A c, v = .slice A zs.length c ∧ zs.length ≤ c ∧ c ≤ 9223372036854775807 ∧ (∀ z ∈ zs, -9223372036854775808 ≤ z ∧ z ≤ 9223372036854775807) ∧
  (0 < zs.length → ∃ b o, A = some ⟨b, o, none⟩ ∧ b < w.heap.size ∧ ∀ j (hj : j < zs.length), w.cell? ⟨b, o + j, none⟩ = some (.int .i64 zs[j]))

/-- A row of whole numbers that come of ints. -/
def IsVs (w : World) (v : Value) (zs : List Int) : Prop := ∃ A c, v = .slice A zs.length c ∧ zs.length ≤ c ∧ c ≤ 9223372036854775807 ∧
  (0 < zs.length → ∃ g, A = some ⟨g, 0, none⟩ ∧ g < w.heap.size ∧ ∀ j (hj : j < zs.length), ∃ u, w.cell? ⟨g, j * 2, none⟩ = some (.bool (decide (zs[j] < 0))) ∧ w.cell? ⟨g, j * 2 + 1, none⟩ = some u ∧ IsU w old u (limbs zs[j].natAbs))

theorem IsVs.below {w w' : World} {v : Value} {zs : List Int} (h : IsVs w v zs) (hb : Below w.heap.size w w') : IsVs w' v zs := by
  obtain ⟨A, c, e, h1, h2, h3⟩ := h
  refine ⟨A, c, e, h1, h2, fun h0 => ?_⟩
  obtain ⟨g, e1, hg, hc⟩ := h3 h0
  refine ⟨g, e1, Nat.lt_of_lt_of_le hg hb.size, fun j hj => ?_⟩
  obtain ⟨u, c0, c1, hu⟩ := hc j hj
  exact ⟨u, keepC hb c0, keepC hb c1, hu.below hb⟩

/-- All blocks but one. -/
def but (g : Nat) : Zone := ⟨fun b => b ≠ g, False⟩
theorem new_le_but {B g : Nat} (h : g < B) : (new B).le (but g) := ⟨fun b hb => by have : B ≤ b := hb; show b ≠ g; omega, fun h => h.elim⟩

/-- The cells of a row in which the first k numbers stand. -/
def CellsI (w : World) (g : Nat) (xs : List Value) (k : Nat) (zs : List Int) : Prop :=
  ∀ j (hj : j < zs.length), j < k → ∃ u, xs[j * 2]? = some (.bool (decide (zs[j] < 0))) ∧ xs[j * 2 + 1]? = some u ∧ IsU w (but g) u (limbs zs[j].natAbs)

theorem CellsI.keep {w w' : World} {g : Nat} {xs : List Value} {k : Nat} {zs : List Int} (h : CellsI w g xs k zs) (hk : ∀ b, b ≠ g → b < w.heap.size → w'.heap[b]? = w.heap[b]?) : CellsI w' g xs k zs := fun j hj hjk => by
  obtain ⟨u, c0, c1, hu⟩ := h j hj hjk
  exact ⟨u, c0, c1, hu.keep fun b hb hl => hk b hb hl⟩

theorem CellsI.put {w w' : World} {g : Nat} {xs : List Value} {k : Nat} {zs : List Int} {u : Value} (h : CellsI w g xs k zs) (hl : xs.length = zs.length * 2) (hk : k < zs.length)
    (hu : IsU w (but g) u (limbs (zs[k]).natAbs)) (hw : ∀ b, b ≠ g → b < w.heap.size → w'.heap[b]? = w.heap[b]?) :
    CellsI w' g ((xs.set (k * 2) (.bool (decide (zs[k] < 0)))).set (k * 2 + 1) u) (k + 1) zs := fun j hj hjk => by
  rcases Nat.lt_or_ge j k with h1 | h1
  · obtain ⟨u', c0, c1, hu'⟩ := h j hj h1
    refine ⟨u', ?_, ?_, hu'.keep fun b hb hl => hw b hb hl⟩
    · rw [List.getElem?_set_ne (by omega), List.getElem?_set_ne (by omega)]
      exact c0
    · rw [List.getElem?_set_ne (by omega), List.getElem?_set_ne (by omega)]
      exact c1
  · obtain rfl : j = k := by omega
    refine ⟨u, ?_, ?_, hu.keep fun b hb hl => hw b hb hl⟩
    · rw [List.getElem?_set_ne (by omega), List.getElem?_set_self (by omega)]
    · rw [List.getElem?_set_self (by rw [List.length_set]; omega)]

/-- The words' block is one of words. -/
def Typ (w : World) (B : Nat) (u : Value) : Prop := ∀ a n c, u = .slice (some a) n c → B ≤ a.block ∧ ∃ cs fr, w.heap[a.block]? = some (.cells cs 31 fr)
theorem Typ.below {w w' : World} {B : Nat} {u : Value} (h : Typ w B u) (hb : Below w.heap.size w w') : Typ w' B u := fun a n c e => by
  obtain ⟨h0, cs, fr, h1⟩ := h a n c e
  refine ⟨h0, cs, fr, ?_⟩
  rw [hb.block]
  · exact h1
  · by_cases hlt : a.block < w.heap.size
    · exact hlt
    · rw [Array.getElem?_eq_none (by omega)] at h1
      cases h1
end Go.Proofs.YtncnbcdppdkmcaaGreatDoor
