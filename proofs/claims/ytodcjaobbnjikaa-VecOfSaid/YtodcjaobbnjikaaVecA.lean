/-
  Rows of whole numbers that come of ints, the program's and the document's, and whether two are the same. No conditions but bounds on lengths.
-/
import Derived.Test.YtodcjaobbnjikaaWhB
import Derived.Test.YtodcjaobbnjikaaRefG
namespace Go.Proofs.Ytodcjaobbnjikaa
open Go.RowKit
set_option linter.unusedVariables false
set_option linter.unusedSimpArgs false

set_option maxHeartbeats 1000000 in
theorem r05of_any {w : World} {n : Int} (hn : -9223372036854775808 ≤ n ∧ n ≤ 9223372036854775807) :
    Calls Try.prog 57 #[.int .i64 n] w fun e w' => ∃ v, e = .returned v ∧ IsZ w' (new w.heap.size) v n ∧ Below w.heap.size w w' := by
  obtain ⟨m, hm⟩ : ∃ m, m = n.natAbs := ⟨_, rfl⟩
  have hmW : m < 18446744073709551616 := by omega
  have hb0 : Below w.heap.size w (w.alloc (.cells #[.bool false, .slice none 0 0] 77)) := (Below.refl _ w).alloc (Nat.le_refl _) _
  have box0 := Box.new w (.bool false) (.slice none 0 0) 77
  unfold IsZ
  rw [← hm]
  by_cases hneg : n < 0
  · obtain ⟨k, hk⟩ : ∃ k : Nat, (k : Int) = n + 18446744073709551616 := ⟨(n + 18446744073709551616).toNat, by omega⟩
    have e1 : IntKind.u64.wrap n = (k : Int) := by rw [IntKind.wrap_u64]; omega
    have e2 : IntKind.u64.wrap (-(k : Int)) = (m : Int) := by rw [IntKind.wrap_u64]; omega
    have e3 : IntKind.u64.wrap (0 - (k : Int)) = (m : Int) := by rw [IntKind.wrap_u64]; omega
    rw [decide_eq_true (p := n < 0) hneg]
    clear hm hk
    go_enter Try.func57, Try.ntmps57
    go_wp2_with fail
    refine (rof_any hmW).mono ?_
    rintro e w1 ⟨u, rfl, ⟨Au, cu, rfl, hu'⟩, hb1⟩
    have hu : IsU w1 (new (w.alloc (.cells #[.bool false, .slice none 0 0] 77)).heap.size) (.slice Au (limbs m).length cu) (limbs m) := ⟨Au, cu, rfl, hu'⟩
    have box1 := box0.below hb1
    have hB := from_ hb0 hb1
    have hP := box1.put hB (Nat.le_refl _) (.bool true) (.slice Au (limbs m).length cu)
    have hu2 := hP.keep (by simp) hu
    have Hu := Lib.hid hu2
    have HP := Lib.hid hP
    obtain ⟨q0, q1, f0, f1, _⟩ := box1
    clear hu hu' hu2 hP hb0 e1 e2 e3
    go_wp2
    refine bodyPost_ret (res_int rfl _ w.heap.size rfl HP.out.c0 HP.out.c1) rfl ?_
    exact ⟨_, rfl, ⟨_, rfl, Hu.out⟩, HP.out.bel⟩
  · have e1 : IntKind.u64.wrap n = (m : Int) := by rw [IntKind.wrap_u64]; omega
    have hd : decide (n < 0) = false := decide_eq_false hneg
    rw [hd]
    clear hm hneg
    go_enter Try.func57, Try.ntmps57
    go_wp2_with fail
    refine (rof_any hmW).mono ?_
    rintro e w1 ⟨u, rfl, ⟨Au, cu, rfl, hu'⟩, hb1⟩
    have hu : IsU w1 (new (w.alloc (.cells #[.bool false, .slice none 0 0] 77)).heap.size) (.slice Au (limbs m).length cu) (limbs m) := ⟨Au, cu, rfl, hu'⟩
    have box1 := box0.below hb1
    have hB := from_ hb0 hb1
    have hP := box1.put hB (Nat.le_refl _) (.bool false) (.slice Au (limbs m).length cu)
    have hu2 := hP.keep (by simp) hu
    have Hu := Lib.hid hu2
    have HP := Lib.hid hP
    obtain ⟨q0, q1, f0, f1, _⟩ := box1
    clear hu hu' hu2 hP hb0 e1
    go_wp2
    refine bodyPost_ret (res_int rfl _ w.heap.size rfl HP.out.c0 HP.out.c1) rfl ?_
    exact ⟨_, rfl, ⟨_, rfl, Hu.out⟩, HP.out.bel⟩

theorem boxes2 (w : World) (a0 a1 b0 b1 : Value) (t : TypeId) :
    Box ((w.alloc (.cells #[a0, a1] t)).alloc (.cells #[b0, b1] t)) w.heap.size a0 a1 ∧
    Box ((w.alloc (.cells #[a0, a1] t)).alloc (.cells #[b0, b1] t)) (w.heap.size + 1) b0 b1 ∧
    Below w.heap.size w ((w.alloc (.cells #[a0, a1] t)).alloc (.cells #[b0, b1] t)) := by
  have h1 := (Box.new w a0 a1 t).alloc (.cells #[b0, b1] t)
  have h2 := Box.new (w.alloc (.cells #[a0, a1] t)) b0 b1 t
  rw [show (w.alloc (.cells #[a0, a1] t)).heap.size = w.heap.size + 1 by simp] at h2
  exact ⟨h1, h2, ((Below.refl _ w).alloc (Nat.le_refl _) _).alloc (by simp) _⟩

set_option maxHeartbeats 1000000 in
theorem same5_any {w : World} {Z Y : Zone} {a b : Value} {s t : Bool} {l k : List Nat} (ha : IsI w Z a s l) (hb : IsI w Y b t k) :
    Calls Try.prog 55 #[a, b] w fun e w' => e = .returned (.bool (decide (s = t ∧ l = k))) ∧ Below w.heap.size w w' := by
  obtain ⟨_, rfl, A, ca, rfl, hu⟩ := ha
  obtain ⟨_, rfl, B, cb, rfl, hv⟩ := hb
  have ua : IsU w Z (.slice A l.length ca) l := ⟨A, ca, rfl, hu⟩
  have ub : IsU w Y (.slice B k.length cb) k := ⟨B, cb, rfl, hv⟩
  obtain ⟨bA, bB, hB0⟩ := boxes2 w (.bool s) (.slice A l.length ca) (.bool t) (.slice B k.length cb) 77
  obtain ⟨a0, a1, _, _, _⟩ := bA
  obtain ⟨b0, b1, _, _, _⟩ := bB
  have HB := Lib.hid hB0
  clear hu hv
  by_cases hst : s = t
  · subst hst
    have hsame := same_dec (ua.below hB0) (ub.below hB0)
    have e : decide (s = s ∧ l = k) = decide (l = k) := by simp
    rw [e]
    have Hs := Lib.hid hsame
    clear hsame ua ub hB0
    cases s
    all_goals
      go_enter Try.func55, Try.ntmps55
      go_wp2_with fail
      refine Hs.out.mono ?_
      rintro e w1 ⟨rfl, hb1⟩
      go_wp2
      go_ret
      exact ⟨rfl, from_ HB.out hb1⟩
  · have e : decide (s = t ∧ l = k) = false := by simp [hst]
    rw [e]
    clear ua ub hB0
    rcases (show (s = true ∧ t = false) ∨ (s = false ∧ t = true) by cases s <;> cases t <;> simp_all) with ⟨rfl, rfl⟩ | ⟨rfl, rfl⟩
    all_goals
      go_enter Try.func55, Try.ntmps55
      go_wp2
      go_ret
      exact ⟨rfl, HB.out⟩

end Go.Proofs.Ytodcjaobbnjikaa
