/- The document's row of ints, and that two rows of the same ints are the same. No conditions but bounds on lengths. -/
import Derived.StillTailTactics
import Derived.Test.YtcheajjjdbllfaaGreatNWhJ
set_option linter.unusedVariables false
set_option linter.unusedSimpArgs false
set_option maxRecDepth 100000
set_option maxHeartbeats 40000000
namespace Go.Proofs.YtcheajjjdbllfaaGreat
open Go.RowKit
variable {base : Nat} {u v : Value} {w w' : World} {xs : List Value}
theorem U_grow {n B : Nat} {l : List Nat} (hown : w.ownsRow base 25 2 v n xs) (hg : w.grownBy w' v.ownBlock) (hu : IsU w old u l) (ht : Typ w B u) :
  IsU w' old u l ∧ Typ w' B u := by
 rcases hown.2 with ⟨e1, _⟩ | ⟨g, cap, cur, e1, _, hh, _⟩
 · subst e1
   have hk : ∀ b, b < w.heap.size → w'.heap[b]? = w.heap[b]? := fun b hb => hg.block b hb (by simp [Value.ownBlock])
   refine ⟨hu.keep fun b _ hb => hk b hb, fun a n c e => ?_⟩
   obtain ⟨h0, cs, fr, h1⟩ := ht a n c e
   refine ⟨h0, cs, fr, ?_⟩
   rw [hk]
   · exact h1
   · by_cases hlt : a.block < w.heap.size
     · exact hlt
     · rw [Array.getElem?_eq_none (by omega)] at h1
       cases h1
 · subst e1
   have hk : ∀ b, b ≠ g → b < w.heap.size → w'.heap[b]? = w.heap[b]? := fun b hb hl => hg.block b hl (by simp [Value.ownBlock]; exact hb)
   have hi : ∃ cs fr, w.heap[g]? = some (.cells cs 25 fr) := ⟨_, _, hh⟩
   exact ⟨((ht.apart hi hu).keep fun b hb hl => hk b hb hl).old, ht.keep hi hk⟩
def CellsT (w : World) (xs : List Value) (k : Nat) (zs : List Int) : Prop :=
 ∀ j (hj : j < zs.length), j < k → ∃ u, xs[j * 2]? = some (.bool (decide (zs[j] < 0))) ∧ xs[j * 2 + 1]? = some u ∧ IsU w old u (limbs zs[j].natAbs) ∧ Typ w 0 u
theorem CellsT.below {k : Nat} {zs : List Int} (h : CellsT w xs k zs) (hb : Below w.heap.size w w') : CellsT w' xs k zs := fun j hj hjk => by
 obtain ⟨u, c0, c1, hu, ht⟩ := h j hj hjk
 exact ⟨u, c0, c1, hu.below hb, ht.below hb⟩
theorem CellsT.grow {k : Nat} {zs : List Int} (h : CellsT w xs k zs) (hown : w.ownsRow base 25 2 v k xs) (hg : w.grownBy w' v.ownBlock) (hk : k < zs.length)
  (hu : IsU w old u (limbs (zs[k]).natAbs)) (ht : Typ w 0 u) : CellsT w' (xs ++ [.bool (decide (zs[k] < 0)), u]) (k + 1) zs := fun j hj hjk => by
 have hl := hown.1
 rcases Nat.lt_or_ge j k with h1 | h1
 · obtain ⟨u', c0, c1, hu', ht'⟩ := h j hj h1
   obtain ⟨q1, q2⟩ := U_grow hown hg hu' ht'
   refine ⟨u', ?_, ?_, q1, q2⟩
   · rw [List.getElem?_append_left (by omega)]; exact c0
   · rw [List.getElem?_append_left (by omega)]; exact c1
 · obtain rfl : j = k := by omega
   obtain ⟨q1, q2⟩ := U_grow hown hg hu ht
   refine ⟨u, ?_, ?_, q1, q2⟩
   · rw [List.getElem?_append_right (by omega), hl, Nat.sub_self]; rfl
   · rw [List.getElem?_append_right (by omega), hl, show j * 2 + 1 - j * 2 = 1 by omega]; rfl
end Go.Proofs.YtcheajjjdbllfaaGreat
