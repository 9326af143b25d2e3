/-
  The document's row of ints, and that two rows of the same ints are the same. No conditions but bounds on lengths.
-/
import Derived.StillTailTactics
import Derived.Test.YtceenaegchlbcaaGreatDoorEWhJ
namespace Go.Proofs.YtceenaegchlbcaaGreatDoor
open Go.RowKit
set_option linter.unusedVariables false
set_option linter.unusedSimpArgs false

theorem U_grow {w w' : World} {base n B : Nat} {v u : Value} {xs : List Value} {l : List Nat} (hown : w.ownsRow base 36 2 v n xs) (hg : w.grownBy w' v.ownBlock) (hu : IsU w old u l) (ht : Typ w B u) :
    IsU w' old u l ∧ Typ w' B u := by
  rcases hown.2 with ⟨e1, _⟩ | ⟨g, cap, cur, e1, _, hh, _⟩
  · subst e1
    have hk : ∀ b, b < w.heap.size → w'.heap[b]? = w.heap[b]? := fun b hb => hg.block b hb (by simp [Value.ownBlock])
    refine ⟨hu.keep fun b _ hb => hk b hb, fun a n c e => ?_⟩
    obtain ⟨h0, cs, fr, h1⟩ := ht a n c e
    refine ⟨h0, cs, fr, ?_⟩
    rw [hk]
    · exact h1
    · by_cases hlt : a.block < w.heap.size
      · exact hlt
      · rw [Array.getElem?_eq_none (by omega)] at h1
        cases h1
  · subst e1
    have hk : ∀ b, b ≠ g → b < w.heap.size → w'.heap[b]? = w.heap[b]? := fun b hb hl => hg.block b hl (by simp [Value.ownBlock]; exact hb)
    have hi : ∃ cs fr, w.heap[g]? = some (.cells cs 36 fr) := ⟨_, _, hh⟩
    exact ⟨((ht.apart hi hu).keep fun b hb hl => hk b hb hl).old, ht.keep hi hk⟩

def CellsT (w : World) (xs : List Value) (k : Nat) (zs : List Int) : Prop :=
  ∀ j (hj : j < zs.length), j < k → ∃ u, xs[j * 2]? = some (.bool (decide (zs[j] < 0))) ∧ xs[j * 2 + 1]? = some u ∧ IsU w old u (limbs zs[j].natAbs) ∧ Typ w 0 u

theorem CellsT.below {w w' : World} {xs : List Value} {k : Nat} {zs : List Int} (h : CellsT w xs k zs) (hb : Below w.heap.size w w') : CellsT w' xs k zs := fun j hj hjk => by
  obtain ⟨u, c0, c1, hu, ht⟩ := h j hj hjk
  exact ⟨u, c0, c1, hu.below hb, ht.below hb⟩

theorem CellsT.grow {w w' : World} {base k : Nat} {v u : Value} {xs : List Value} {zs : List Int} (h : CellsT w xs k zs) (hown : w.ownsRow base 36 2 v k xs) (hg : w.grownBy w' v.ownBlock) (hk : k < zs.length)
    (hu : IsU w old u (limbs (zs[k]).natAbs)) (ht : Typ w 0 u) : CellsT w' (xs ++ [.bool (decide (zs[k] < 0)), u]) (k + 1) zs := fun j hj hjk => by
  have hl := hown.1
  rcases Nat.lt_or_ge j k with h1 | h1
  · obtain ⟨u', c0, c1, hu', ht'⟩ := h j hj h1
    obtain ⟨q1, q2⟩ := U_grow hown hg hu' ht'
    refine ⟨u', ?_, ?_, q1, q2⟩
    · rw [List.getElem?_append_left (by omega)]; exact c0
    · rw [List.getElem?_append_left (by omega)]; exact c1
  · obtain rfl : j = k := by omega
    obtain ⟨q1, q2⟩ := U_grow hown hg hu ht
    refine ⟨u, ?_, ?_, q1, q2⟩
    · rw [List.getElem?_append_right (by omega), hl, Nat.sub_self]; rfl
    · rw [List.getElem?_append_right (by omega), hl, show j * 2 + 1 - j * 2 = 1 by omega]; rfl

/-- 'append(s, n)', s a row of the call's own, of whole numbers. -/
theorem wpList_appI {P : Program} (w : World) {ops : Array Oper} {rest : List Oper} {o : Oper} {a : Act} {Q : Exit → Act → World → Prop} (hgd : o.guard = none) (s x : Operand) (t : TypeId)
    (ho : o.op = .call { callee := .builtin .append, args := #[s, x], argTypes := #[t, t] })
    (base : Nat) (e : TypeId) (i : TypeInfo) (z : Value) (ht : P.underlying t = some (.slice e)) (hi : P.info? e = some i) (hz : i.zero = some z) (hsize : i.size = 2) (hby : i.bytes = 32) (hzs : z.cells.size = 2)
    (v : Value) (n : Nat) (xs : List Value) (hs : a.eval s = v) (hown : w.ownsRow base e 2 v n xs)
    (g : Nat) (u1 u2 : Value) (hx : a.eval x = .slice (some ⟨g, 0, none⟩) 1 1) (hu : w.cell? ⟨g, 0, none⟩ = some u1) (hu2 : w.cell? ⟨g, 1, none⟩ = some u2) (h1 : u1.oneCell' = true) (h2 : u2.oneCell' = true)
    (hb : n + 1 ≤ 1000000000) (hbase : base ≤ w.heap.size)
    (h : ∀ v' w', w'.ownsRow base e 2 v' (n + 1) (xs ++ [u1, u2]) → w.grownBy w' v.ownBlock → wpList P ops Q rest (a.put o.dst v') w') : wpList P ops Q (o :: rest) a w := by
  refine wpList_append_own w hgd s x t ho base e i z 2 32 ht hi hz hsize hby hzs (by omega) v n xs hs hown ⟨g, 0, none⟩ 1 1 [u1, u2] hx rfl ?_ ?_ (by simp only [maxLen]; omega) (by omega) hbase (fun v' w' h2 h3 _ => h v' w' h2 h3)
  · intro j y hy
    match j, hy with
    | 0, hy => cases hy; exact hu
    | 1, hy => cases hy; exact hu2
  · intro y hy
    rw [List.mem_cons, List.mem_singleton] at hy
    rcases hy with rfl | rfl
    · exact h1
    · exact h2

theorem same5_yes {w : World} {Z Y : Zone} {a b : Value} {s : Bool} {l : List Nat} (ha : IsI w Z a s l) (hb : IsI w Y b s l) :
    Calls Tryz.prog 21 #[a, b] w fun e w' => e = .returned (.bool true) ∧ Below w.heap.size w w' :=
  (same5_any ha hb).mono fun e w' h => by simpa using h

end Go.Proofs.YtceenaegchlbcaaGreatDoor
