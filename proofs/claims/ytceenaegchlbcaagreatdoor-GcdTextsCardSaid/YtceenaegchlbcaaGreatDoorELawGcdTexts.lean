/-
  The walk of GcdTexts. The one premise: the table of powers of ten reads as it is laid. No conditions.
-/
import Derived.Test.YtceenaegchlbcaaGreatDoorEDigU
namespace Go.Proofs.YtceenaegchlbcaaGreatDoor
open Go.RowKit
set_option linter.unusedVariables false
set_option linter.unusedSimpArgs false

set_option maxRecDepth 100000 in
set_option maxHeartbeats 4000000 in
theorem lawGcdTexts {w : World} {a : Value} {la : List Nat} {s : ByteArray} (ha : IsU w old a la) (hs : s.size ≤ maxLen) (ht : Tab w) :
    Calls Tryz.prog 3 #[a, .string s] w fun e w' => e = .returned (.bool true) ∧ Below w.heap.size w w' := by
  obtain ⟨A, ca, rfl, ha⟩ := ha
  have ua : IsU w old (.slice A la.length ca) la := ⟨A, ca, rfl, ha⟩
  clear ha
  have hL : (la.length ≤ 20000 ∧ decide ((4 : Int) < (la.length : Int)) = false ∧ decide ((5000 : Int) < (la.length : Int)) = false) ∨
      (la.length ≤ 20000 ∧ decide ((4 : Int) < (la.length : Int)) = true ∧ decide ((la.length : Int) ≤ 300) = false ∧ decide ((5000 : Int) < (la.length : Int)) = false) ∨
      (decide ((4 : Int) < (la.length : Int)) = true ∧ decide ((la.length : Int) ≤ 300) = true) ∨
      (decide ((4 : Int) < (la.length : Int)) = true ∧ decide ((la.length : Int) ≤ 300) = false ∧ decide ((5000 : Int) < (la.length : Int)) = true) := by
    rcases (show la.length ≤ 4 ∨ (4 < la.length ∧ la.length ≤ 300) ∨ (300 < la.length ∧ la.length ≤ 5000) ∨ 5000 < la.length by omega) with h | h | h | h
    · exact .inl ⟨by omega, decide_eq_false (by omega), decide_eq_false (by omega)⟩
    · exact .inr (.inr (.inl ⟨decide_eq_true (by omega), decide_eq_true (by omega)⟩))
    · exact .inr (.inl ⟨by omega, decide_eq_true (by omega), decide_eq_false (by omega), decide_eq_false (by omega)⟩)
    · exact .inr (.inr (.inr ⟨decide_eq_true (by omega), decide_eq_false (by omega), decide_eq_true (by omega)⟩))
  have hS : (decide ((80 : Int) < (s.size : Int)) = false ∧ decide ((70000 : Int) < (s.size : Int)) = false) ∨
      (decide ((80 : Int) < (s.size : Int)) = true ∧ decide ((s.size : Int) ≤ 4096) = false ∧ decide ((70000 : Int) < (s.size : Int)) = false) ∨
      (decide ((80 : Int) < (s.size : Int)) = true ∧ decide ((s.size : Int) ≤ 4096) = true) ∨
      (decide ((80 : Int) < (s.size : Int)) = true ∧ decide ((s.size : Int) ≤ 4096) = false ∧ decide ((70000 : Int) < (s.size : Int)) = true) := by
    rcases (show s.size ≤ 80 ∨ (80 < s.size ∧ s.size ≤ 4096) ∨ (4096 < s.size ∧ s.size ≤ 70000) ∨ 70000 < s.size by omega) with h | h | h | h
    · exact .inl ⟨decide_eq_false (by omega), decide_eq_false (by omega)⟩
    · exact .inr (.inr (.inl ⟨decide_eq_true (by omega), decide_eq_true (by omega)⟩))
    · exact .inr (.inl ⟨decide_eq_true (by omega), decide_eq_false (by omega), decide_eq_false (by omega)⟩)
    · exact .inr (.inr (.inr ⟨decide_eq_true (by omega), decide_eq_false (by omega), decide_eq_true (by omega)⟩))
  have hs2 : s.size ≤ 9223372036854775807 := Nat.le_trans hs (by simp only [maxLen]; omega)
  have Hs := Lib.hid hs2
  have Hp := Lib.hid (fun (W : World) => gparse_any (w := W) s hs2)
  have Hq := Lib.hid (fun (W : World) => rparse_any (w := W) s hs2)
  clear hs hs2
  generalize parseE s.data.toList = pe at *
  generalize parseN s.data.toList = pn at *
  have Ht := Lib.hid ht
  clear ht
  have hrun : Hid (la.length ≤ 20000 → ∀ W, Below w.heap.size w W → Calls Tryz.prog 6 #[.slice A la.length ca] W (fun e w' => e = .returned (.tuple #[strV (txtT la), .int .i64 (errT la)]) ∧ Below W.heap.size W w')) := fun h W hb => gtext_all (ua.below hb) h (Ht.out.below hb)
  have hrun2 : Hid (la.length ≤ 20000 → ∀ W, Below w.heap.size w W → Calls Tryz.prog 7 #[.slice A la.length ca] W (fun e w' => e = .returned (.tuple #[strV (txtT la), .int .i64 (errT la)]) ∧ Below W.heap.size W w')) := fun h W hb => rtext_all (ua.below hb) h
  obtain ⟨tx, htx⟩ : ∃ tx : ByteArray, strV (txtT la) = .string tx := ⟨_, rfl⟩
  rw [htx] at hrun hrun2
  clear htx ua
  generalize errT la = te at *
  rcases hL with ⟨g, d1, d3⟩ | ⟨g, d1, d2, d3⟩ | ⟨d1, d2⟩ | ⟨d1, d2, d3⟩
  · replace hrun := Lib.hid (hrun.out g)
    replace hrun2 := Lib.hid (hrun2.out g)
    clear g
    generalize la.length = L at *
    rcases hS with ⟨d4, d6⟩ | ⟨d4, d5, d6⟩ | ⟨d4, d5⟩ | ⟨d4, d5, d6⟩
    iterate 2
      · go_enter Tryz.func3, Tryz.ntmps3
        go_wp2_with fail
        refine (hrun.out _ (Below.refl _ _)).mono ?_
        rintro e w1 ⟨rfl, hB⟩
        go_wp2_with fail
        refine (hrun2.out _ hB).mono ?_
        rintro e w2 ⟨rfl, hb⟩
        replace hB := from_ hB hb
        clear hb
        go_wp2_with fail
        refine (Hp.out _).mono ?_
        rintro e w3 ⟨z, rfl, hz, hb⟩
        replace hB := from_ hB hb
        clear hb
        go_wp2_with fail
        refine (Hq.out _).mono ?_
        rintro e w4 ⟨z2, rfl, hz2, hb⟩
        replace hB := from_ hB hb
        replace hz := hz.below hb
        clear hb
        go_wp2_with fail
        refine (same_num hz hz2 rfl).mono ?_
        rintro e w5 ⟨rfl, hb⟩
        replace hB := from_ hB hb
        go_wp2
        go_ret
        exact ⟨rfl, hB⟩
    all_goals
      go_enter Tryz.func3, Tryz.ntmps3
      go_wp2
      go_ret
      exact ⟨rfl, Below.refl _ _⟩
  · replace hrun := Lib.hid (hrun.out g)
    replace hrun2 := Lib.hid (hrun2.out g)
    clear g
    generalize la.length = L at *
    rcases hS with ⟨d4, d6⟩ | ⟨d4, d5, d6⟩ | ⟨d4, d5⟩ | ⟨d4, d5, d6⟩
    iterate 2
      · go_enter Tryz.func3, Tryz.ntmps3
        go_wp2_with fail
        refine (hrun.out _ (Below.refl _ _)).mono ?_
        rintro e w1 ⟨rfl, hB⟩
        go_wp2_with fail
        refine (hrun2.out _ hB).mono ?_
        rintro e w2 ⟨rfl, hb⟩
        replace hB := from_ hB hb
        clear hb
        go_wp2_with fail
        refine (Hp.out _).mono ?_
        rintro e w3 ⟨z, rfl, hz, hb⟩
        replace hB := from_ hB hb
        clear hb
        go_wp2_with fail
        refine (Hq.out _).mono ?_
        rintro e w4 ⟨z2, rfl, hz2, hb⟩
        replace hB := from_ hB hb
        replace hz := hz.below hb
        clear hb
        go_wp2_with fail
        refine (same_num hz hz2 rfl).mono ?_
        rintro e w5 ⟨rfl, hb⟩
        replace hB := from_ hB hb
        go_wp2
        go_ret
        exact ⟨rfl, hB⟩
    all_goals
      go_enter Tryz.func3, Tryz.ntmps3
      go_wp2
      go_ret
      exact ⟨rfl, Below.refl _ _⟩
  all_goals
    clear hrun hrun2 hS
    generalize la.length = L at *
    go_enter Tryz.func3, Tryz.ntmps3
    go_wp2
    go_ret
    exact ⟨rfl, Below.refl _ _⟩
end Go.Proofs.YtceenaegchlbcaaGreatDoor
