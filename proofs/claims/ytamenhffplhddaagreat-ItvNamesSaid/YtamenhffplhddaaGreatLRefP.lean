/-
  What mul's and the document's products and powers answer, at any words: the same.
-/
import Derived.Test.YtamenhffplhddaaGreatLRefO
import Derived.Test.YtamenhffplhddaaGreatLRefI
namespace Go.Proofs.YtamenhffplhddaaGreat
open Go.RowKit
set_option linter.unusedVariables false
set_option linter.unusedSimpArgs false

def mulL (la lb : List Nat) : List Nat := if good la = true ∧ good lb = true then limbs (val la * val lb) else []
def errP (l : List Nat) (n : Int) : Int := if good l = true then (if n < 0 ∨ 1024 < n then 2 else if 65536 < n.toNat * size (val l) then 4 else 0) else 8
def powL (l : List Nat) (n : Int) : List Nat := if good l = true then (if n < 0 ∨ 1024 < n then [] else if 65536 < n.toNat * size (val l) then [] else limbs (val l ^ n.toNat)) else []

theorem mul_all {w : World} {Z Y : Zone} {a b : Value} {la lb : List Nat} (ha : IsU w Z a la) (hb : IsU w Y b lb) (hl : la.length ≤ 100000000000) (hl2 : lb.length ≤ 100000000000) :
    Calls Tryz.prog 55 #[a, b] w fun e w' => ∃ v, e = .returned (.tuple #[v, .int .i64 (err2 la lb)]) ∧ IsU w' (new w.heap.size) v (mulL la lb) ∧ Below w.heap.size w w' := by
  have hno : (good la = false ∨ good lb = false) → Calls Tryz.prog 55 #[a, b] w fun e w' => ∃ v, e = .returned (.tuple #[v, .int .i64 (err2 la lb)]) ∧ IsU w' (new w.heap.size) v (mulL la lb) ∧ Below w.heap.size w w' := fun h => by
    refine (mul_bad ha hb h).mono ?_
    rintro e w' ⟨rfl, rfl⟩
    refine ⟨.slice none 0 0, ?_, ?_, Below.refl _ _⟩
    · rcases h with h | h <;> simp [err2, h]
    · rcases h with h | h <;> simpa [mulL, h] using IsU.nil _ _
  rcases ha.decN with ⟨hg, hn, _⟩ | hg
  · rcases hb.decN with ⟨hg2, hn2, _⟩ | hg2
    · refine (mul_good hn hn2 (by omega) (by omega)).mono ?_
      rintro e w' ⟨v, rfl, hv, hbel⟩
      exact ⟨v, by simp [err2, hg, hg2], by unfold IsN at hv; simpa [mulL, hg, hg2] using hv, hbel⟩
    · exact hno (.inr hg2)
  · exact hno (.inl hg)

theorem pow_all {w : World} {Z : Zone} {a : Value} {l : List Nat} {n : Int} (ha : IsU w Z a l) (hl : l.length ≤ 100000000000) :
    Calls Tryz.prog 107 #[a, .int .i64 n] w fun e w' => ∃ v, e = .returned (.tuple #[v, .int .i64 (errP l n)]) ∧ IsU w' (new w.heap.size) v (powL l n) ∧ Below w.heap.size w w' := by
  rcases ha.decN with ⟨hg, hn, _⟩ | hg
  · by_cases h : n < 0 ∨ 1024 < n
    · refine (pow_badN hn (by omega) h).mono ?_
      rintro e w' ⟨rfl, hbel⟩
      exact ⟨.slice none 0 0, by simp [errP, hg, h], by simpa [powL, hg, h] using IsU.nil _ _, by first | exact hbel | (subst hbel; exact Below.refl _ _)⟩
    · obtain ⟨k, rfl⟩ : ∃ k : Nat, n = k := ⟨n.toNat, by omega⟩
      have h0 : ¬ (1024 < (k : Int)) := fun h1 => h (.inr h1)
      have hneg : ¬ ((k : Int) < 0) := by omega
      by_cases h2 : 65536 < k * size (val l)
      · refine (pow_many hn (by omega) (by omega) h2).mono ?_
        rintro e w' ⟨rfl, hbel⟩
        exact ⟨.slice none 0 0, by simp only [errP, hg, hneg, h0, Int.toNat_natCast, h2, if_true, if_false, or_self], by simpa only [powL, hg, hneg, h0, Int.toNat_natCast, h2, if_true, if_false, or_self] using IsU.nil _ _, by first | exact hbel | (subst hbel; exact Below.refl _ _)⟩
      · refine (pow_good hn (by omega) (by omega) (by omega)).mono ?_
        rintro e w' ⟨v, rfl, hv, hbel⟩
        exact ⟨v, by simp only [errP, hg, hneg, h0, Int.toNat_natCast, h2, if_true, if_false, or_self], by unfold IsN at hv; simpa only [powL, hg, hneg, h0, Int.toNat_natCast, h2, if_true, if_false, or_self] using hv, hbel⟩
  · refine (pow_badA ha hg).mono ?_
    rintro e w' ⟨rfl, hbel⟩
    exact ⟨.slice none 0 0, by simp [errP, hg], by simpa [powL, hg] using IsU.nil _ _, by first | exact hbel | (subst hbel; exact Below.refl _ _)⟩

end Go.Proofs.YtamenhffplhddaaGreat
