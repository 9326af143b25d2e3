/-
  The contract of nat.compare. No conditions.
-/
import Derived.RangeFuncNested
import Derived.RangeFuncBound
import Derived.RangeFuncCalls
import Derived.RangeFuncLeaves
import Derived.RangeFuncBox
import Derived.Shelf.Abstract
import Derived.Shelf.RegionOpen
import Derived.WalkKit
import Derived.OwnWalkIn
import Derived.TacticsInMore
import Derived.LoopNIn
import Derived.LoopIn
import Derived.Maps.AppendAt
import Derived.Test.YtodcjaobbnjikabCmp
import Derived.Test.YtodcjaobbnjikabNatC
namespace Go.Proofs.Ytodcjaobbnjikab
open Go.RowKit Go.Shelf
set_option linter.unusedVariables false
set_option linter.unusedSimpArgs false


theorem val_lt_of {la lb : List Nat} (ha : Small la) (hb : Small lb) (hl : la.length = lb.length) (i : Nat) (h1 : i < la.length) (h2 : i < lb.length) (hlt : la[i] < lb[i])
    (heq : ∀ j (h1 : j < la.length) (h2 : j < lb.length), i < j → la[j] = lb[j]) : val la < val lb := by
  induction la generalizing lb i with
  | nil => simp at h1
  | cons x la ih =>
    cases lb with
    | nil => simp at h2
    | cons y lb =>
      simp only [List.length_cons, Nat.add_right_cancel_iff] at hl
      have hx := ha.head
      have hy := hb.head
      cases i with
      | zero =>
        have e : la = lb := by
          apply List.ext_getElem hl
          intro j g1 g2
          have := heq (j + 1) (by simp; omega) (by simp; omega) (by omega)
          simpa using this
        subst e
        simp only [List.getElem_cons_zero] at hlt
        simp only [val]
        omega
      | succ i =>
        have := ih ha.tail hb.tail hl i (by simpa using h1) (by simpa using h2) (by simpa using hlt) (fun j g1 g2 hj => by
          have := heq (j + 1) (by simp; omega) (by simp; omega) (by omega)
          simpa using this)
        simp only [val]
        omega

theorem limbs_len_lt {m n : Nat} (h : (limbs m).length < (limbs n).length) : m < n := by
  rcases Nat.lt_or_ge m n with h1 | h1
  · exact h1
  · have := len_mono h1
    omega

theorem cmp3_lt {x y : Int} (h : x < y) : cmp3 x y = -1 := by simp [cmp3, h]
theorem cmp3_gt {x y : Int} (h : y < x) : cmp3 x y = 1 := by simp only [cmp3]; rw [if_neg (by omega), if_pos h]
theorem cmp3_eq (x : Int) : cmp3 x x = 0 := by simp [cmp3]

/-- What a differing place says. -/
def Tells (la lb : List Nat) (pre : List (Place la)) (c : Int) : Prop :=
  ∃ (ini : List (Place la)) (i : Place la), pre = ini ++ [i] ∧ (∀ j ∈ ini, la[j.1]? = lb[j.1]?) ∧ la[i.1]? ≠ lb[i.1]? ∧ c = cmp3 (la[i.1]?.getD 0 : Nat) (lb[i.1]?.getD 0 : Nat)

theorem tells_cmp {la lb : List Nat} (ha : Small la) (hb : Small lb) (hl : la.length = lb.length) {pre : List (Place la)} {c : Int} (h : Tells la lb pre c) {k : Nat} (hk : k ≤ la.length) (hp : pre.map (·.1) = backs la.length k) : c = cmp3 (val la) (val lb) := by
  obtain ⟨ini, i, rfl, heq, hne, rfl⟩ := h
  rw [List.map_append] at hp
  obtain ⟨k', rfl⟩ : ∃ k', k = k' + 1 := by
    cases k with
    | zero => simp [backs, upto] at hp
    | succ k' => exact ⟨k', rfl⟩
  rw [backs_succ] at hp
  obtain ⟨hini, hi⟩ := List.append_inj' hp rfl
  have hi : i.1 = la.length - 1 - k' := by simpa using hi
  have hall : ∀ j, i.1 < j → j < la.length → la[j]? = lb[j]? := by
    intro j h1 h2
    have hmem : j ∈ ini.map (·.1) := by
      rw [hini]
      simp only [backs, upto, List.mem_map, List.mem_range]
      exact ⟨la.length - 1 - j, by omega, by omega⟩
    obtain ⟨p, hp, rfl⟩ := List.mem_map.1 hmem
    exact heq p hp
  have g1 : i.1 < la.length := i.2
  have g2 : i.1 < lb.length := by omega
  have e1 : la[i.1]? = some la[i.1] := List.getElem?_eq_getElem g1
  have e2 : lb[i.1]? = some lb[i.1] := List.getElem?_eq_getElem g2
  rw [e1, e2] at hne
  rw [e1, e2]
  simp only [Option.getD_some]
  have hne' : la[i.1] ≠ lb[i.1] := fun e => hne (by rw [e])
  rcases Nat.lt_or_gt_of_ne hne' with h | h
  · have := val_lt_of ha hb hl i.1 g1 g2 h (fun j h1 h2 hj => by have := hall j hj h1; rw [List.getElem?_eq_getElem h1, List.getElem?_eq_getElem h2] at this; simpa using this)
    rw [cmp3_lt (by omega), cmp3_lt (by omega)]
  · have := val_lt_of hb ha hl.symm i.1 g2 g1 h (fun j h1 h2 hj => by have := hall j hj h2; rw [List.getElem?_eq_getElem h2, List.getElem?_eq_getElem h1] at this; simpa using this.symm)
    rw [cmp3_gt (by omega), cmp3_gt (by omega)]

section
attribute [local go_sem] Oper.semAt_some


end

end Go.Proofs.Ytodcjaobbnjikab
