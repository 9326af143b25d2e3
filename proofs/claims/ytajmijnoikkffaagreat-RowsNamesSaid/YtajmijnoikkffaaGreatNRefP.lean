/-
  What mul's and the document's products and powers answer, at any words: the same.
-/
import Derived.Test.YtajmijnoikkffaaGreatNRefO
import Derived.Test.YtajmijnoikkffaaGreatNRefI
namespace Go.Proofs.YtajmijnoikkffaaGreat
open Go.RowKit
set_option linter.unusedVariables false
set_option linter.unusedSimpArgs false

def mulL (la lb : List Nat) : List Nat := if good la = true ∧ good lb = true then limbs (val la * val lb) else []
def errP (l : List Nat) (n : Int) : Int := if good l = true then (if n < 0 ∨ 1024 < n then 2 else if 65536 < n.toNat * size (val l) then 4 else 0) else 8
def powL (l : List Nat) (n : Int) : List Nat := if good l = true then (if n < 0 ∨ 1024 < n then [] else if 65536 < n.toNat * size (val l) then [] else limbs (val l ^ n.toNat)) else []

theorem mul_all {w : World} {Z Y : Zone} {a b : Value} {la lb : List Nat} (ha : IsU w Z a la) (hb : IsU w Y b lb) (hl : la.length ≤ 100000000000) (hl2 : lb.length ≤ 100000000000) :
    Calls Tryz.prog 59 #[a, b] w fun e w' => ∃ v, e = .returned (.tuple #[v, .int .i64 (err2 la lb)]) ∧ IsU w' (new w.heap.size) v (mulL la lb) ∧ Below w.heap.size w w' := by
  have hno : (good la = false ∨ good lb = false) → Calls Tryz.prog 59 #[a, b] w fun e w' => ∃ v, e = .returned (.tuple #[v, .int .i64 (err2 la lb)]) ∧ IsU w' (new w.heap.size) v (mulL la lb) ∧ Below w.heap.size w w' := fun h => by
    refine (mul_bad ha hb h).mono ?_
    rintro e w' ⟨rfl, rfl⟩
    refine ⟨.slice none 0 0, ?_, ?_, Below.refl _ _⟩
    · rcases h with h | h <;> simp [err2, h]
    · rcases h with h | h <;> simpa [mulL, h] using IsU.nil _ _
  rcases ha.decN with ⟨hg, hn, _⟩ | hg
  · rcases hb.decN with ⟨hg2, hn2, _⟩ | hg2
    · refine (mul_good hn hn2 (by omega) (by omega)).mono ?_
      rintro e w' ⟨v, rfl, hv, hbel⟩
      exact ⟨v, by simp [err2, hg, hg2], by unfold IsN at hv; simpa [mulL, hg, hg2] using hv, hbel⟩
    · exact hno (.inr hg2)
  · exact hno (.inl hg)

end Go.Proofs.YtajmijnoikkffaaGreat
