/-
  The contracts of nat.Cmp, nat.Of, nat.Word. No conditions.
-/
import Derived.Test.YtodcjaobbnjikaaLawA
import Derived.Test.YtodcjaobbnjikaaCmpB
namespace Go.Proofs.Ytodcjaobbnjikaa
open Go.RowKit
set_option linter.unusedVariables false
set_option linter.unusedSimpArgs false

set_option maxHeartbeats 800000 in
theorem cmp_good {w : World} {Z Y : Zone} {a b : Value} {m n : Nat} {c : Int} (ha : IsN w Z a m) (hb : IsN w Y b n) (hc : cmp3 m n = c) :
    Calls Try.prog 39 #[a, b] w fun e w' => e = .returned (.tuple #[.int .i64 c, .int .i64 0]) ∧ Below w.heap.size w w' := by
  have ka := ha
  have kb := hb
  obtain ⟨A, ca, rfl, ha⟩ := ha
  obtain ⟨A', cb, rfl, hb⟩ := hb
  have ga := good_limbs m
  have gb := good_limbs n
  have hg := Lib.hid (given_two ha hb)
  have hall : ∀ l ∈ [limbs m, limbs n], good l = true := by simp [ga, gb]
  have Hall := Lib.hid hall
  have Hc := Lib.hid hc
  clear hall ga gb hc
  have hb0 : Below w.heap.size w (w.alloc (.cells #[.slice A (limbs m).length ca, .slice A' (limbs n).length cb] 46)) := (Below.refl _ w).alloc (Nat.le_refl _) _
  go_enter Try.func39, Try.ntmps39
  go_wp2_with (go_at_call 63; refine (checked_good (ls := [limbs m, limbs n]) hg.out (by simp) Hall.out).mono ?_; rintro e w' ⟨rfl, rfl⟩)
  refine (compare_num (ka.below hb0) (kb.below hb0)).mono ?_
  rintro e w1 ⟨rfl, hbel⟩
  rw [Hc.out]
  go_wp2
  go_ret2
  exact ⟨rfl, step hb0 hbel⟩

set_option maxHeartbeats 800000 in
theorem cmp_bad {w : World} {Z Y : Zone} {a b : Value} {la lb : List Nat} (ha : IsU w Z a la) (hb : IsU w Y b lb) (hbad : good la = false ∨ good lb = false) :
    Calls Try.prog 39 #[a, b] w fun e w' => e = .returned (.tuple #[.int .i64 0, .int .i64 8]) ∧ Below w.heap.size w w' := by
  obtain ⟨A, ca, rfl, ha⟩ := ha
  obtain ⟨A', cb, rfl, hb⟩ := hb
  have hg := Lib.hid (given_two ha hb)
  have hall : ∃ l ∈ [la, lb], good l = false := by
    rcases hbad with h | h
    · exact ⟨la, by simp, h⟩
    · exact ⟨lb, by simp, h⟩
  have Hall := Lib.hid hall
  clear hall hbad
  go_enter Try.func39, Try.ntmps39
  go_wp2_with (go_at_call 63; refine (checked_bad (ls := [la, lb]) hg.out (by simp) Hall.out).mono ?_; rintro e w' ⟨rfl, rfl⟩)
  go_ret2
  exact ⟨rfl, (Below.refl _ w).alloc (Nat.le_refl _) _⟩

theorem same_no {w : World} {Z Y : Zone} {a b : Value} {la lb : List Nat} (ha : IsU w Z a la) (hb : IsU w Y b lb) (h : la ≠ lb) :
    Calls Try.prog 30 #[a, b] w fun e w' => e = .returned (.bool false) ∧ Below w.heap.size w w' :=
  (same_dec ha hb).mono fun e w' h' => by rwa [decide_eq_false h] at h'
theorem same_noN {w : World} {Z Y : Zone} {a b : Value} {m n : Nat} (ha : IsN w Z a m) (hb : IsN w Y b n) (h : m ≠ n) :
    Calls Try.prog 30 #[a, b] w fun e w' => e = .returned (.bool false) ∧ Below w.heap.size w w' :=
  same_no ha hb fun e => h (limbs_inj e)

set_option maxHeartbeats 800000 in
theorem of_any {w : World} {x : Nat} (hx : x < 18446744073709551616) :
    Calls Try.prog 46 #[.int .u64 (x : Int)] w fun e w' => ∃ v, e = .returned v ∧ IsN w' (new w.heap.size) v x ∧ Below w.heap.size w w' := by
  have hb0 : Below w.heap.size w (w.alloc (.cells #[.int .u64 (x : Int)] 62)) := (Below.refl _ w).alloc (Nat.le_refl _) _
  have hu : U64s (w.alloc (.cells #[.int .u64 (x : Int)] 62)) (new w.heap.size) (some ⟨w.heap.size, 0, none⟩) 1 [x] :=
    ⟨Small.cons hx Small.nil, by simp, by omega, (fun h => by cases h), fun _ => ⟨w.heap.size, 0, rfl, Nat.le_refl _, fun _ j => by simp, fun j u hu => by
      match j, hu with
      | 0, hu => simp at hu; subst hu; simp⟩⟩
  have hv : val [x] = x := by simp [val]
  have Hv := Lib.hid hv
  clear hv
  go_enter Try.func46, Try.ntmps46
  go_wp2_with (go_at_call 66; refine (trim_len hu rfl).mono ?_; rintro e w' ⟨rfl, rfl⟩)
  go_ret
  exact ⟨_, rfl, isN_trimU Hv.out hu, hb0⟩

end Go.Proofs.Ytodcjaobbnjikaa
