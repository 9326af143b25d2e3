/-
  The document's own answer, layer 1: Of, one, Short, many. No conditions but bounds on lengths.
-/
import Derived.Test.YtodcjaobbnjikaaRefC
namespace Go.Proofs.Ytodcjaobbnjikaa
open Go.RowKit
set_option linter.unusedVariables false
set_option linter.unusedSimpArgs false

set_option maxHeartbeats 800000 in
theorem many_good {w : World} {Z Y : Zone} {a b : Value} {m n : Nat} (ha : IsN w Z a m) (hb : IsN w Y b n) (hl : (limbs m).length ≤ 10000) (hl2 : (limbs n).length ≤ 10000) :
    Calls Try.prog 95 #[a, b] w fun e w' => e = .returned (.int .i64 (64 * max ((limbs m).length : Int) ((limbs n).length : Int))) ∧ w = w' := by
  obtain ⟨A, ca, rfl, ha⟩ := ha
  obtain ⟨B, cb, rfl, hb⟩ := hb
  clear ha hb
  generalize (limbs m).length = p at *
  generalize (limbs n).length = q at *
  go_enter Try.func95, Try.ntmps95
  go_wp2
  go_ret
  exact ⟨rfl, rfl⟩

set_option maxHeartbeats 800000 in
theorem short_good {w : World} {Z Y : Zone} {a b : Value} {m n : Nat} (ha : IsN w Z a m) (hb : IsN w Y b n) :
    Calls Try.prog 93 #[a, b] w fun e w' => e = .returned (.bool (decide ((limbs m).length ≤ 1) && decide ((limbs n).length ≤ 1))) ∧ w = w' := by
  obtain ⟨A, ca, rfl, ha⟩ := ha
  obtain ⟨B, cb, rfl, hb⟩ := hb
  clear ha hb
  generalize (limbs m).length = p at *
  generalize (limbs n).length = q at *
  by_cases hp : p ≤ 1
  · have h1 : decide (p ≤ 1) = true := by simpa using hp
    by_cases hq : q ≤ 1
    · have h2 : decide (q ≤ 1) = true := by simpa using hq
      rw [h1, h2]
      go_enter Try.func93, Try.ntmps93
      go_wp2
      go_ret
      exact ⟨congrArg (fun b => Ending.returned (.bool b)) (show decide ((q : Int) ≤ 1) = _ by simp; omega), rfl⟩
    · have h2 : decide (q ≤ 1) = false := by simpa using hq
      rw [h1, h2]
      go_enter Try.func93, Try.ntmps93
      go_wp2
      go_ret
      exact ⟨congrArg (fun b => Ending.returned (.bool b)) (show decide ((q : Int) ≤ 1) = _ by simp; omega), rfl⟩
  · have h1 : decide (p ≤ 1) = false := by simpa using hp
    rw [h1]
    go_enter Try.func93, Try.ntmps93
    go_wp2
    go_ret
    exact ⟨rfl, rfl⟩

set_option maxHeartbeats 800000 in
/-- The lowest word. -/
theorem one_good {w : World} {Z : Zone} {a : Value} {m : Nat} (ha : IsN w Z a m) :
    Calls Try.prog 94 #[a] w fun e w' => e = .returned (.int .u64 ((m % 18446744073709551616 : Nat) : Int)) ∧ w = w' := by
  have hlow := limb_get m 0
  rw [Nat.pow_zero, Nat.div_one] at hlow
  obtain ⟨A, ca, rfl, ha⟩ := ha
  by_cases h0 : (limbs m).length = 0
  · have e : limbs m = [] := List.length_eq_zero_iff.1 h0
    rw [e] at hlow
    have Hlow := Lib.hid hlow
    clear hlow e ha
    rw [h0]
    go_enter Try.func94, Try.ntmps94
    go_wp2
    go_ret
    rw [← Hlow.out]
    exact ⟨rfl, rfl⟩
  · obtain ⟨b, o, rfl, _, _, _, hc⟩ := ha.open (by omega)
    have hx := hc 0 (by omega)
    rw [Nat.add_zero] at hx
    rw [List.getElem?_eq_getElem (by omega)] at hlow
    have hd : (((limbs m).length : Int) == 0) = false := beq_eq_false_iff_ne.2 (by omega)
    clear ha hc
    generalize (limbs m)[0] = x at *
    have Hlow := Lib.hid hlow
    clear hlow
    generalize (limbs m).length = p at *
    go_enter Try.func94, Try.ntmps94
    go_wp2
    go_ret
    rw [← Hlow.out]
    exact ⟨rfl, rfl⟩

end Go.Proofs.Ytodcjaobbnjikaa
