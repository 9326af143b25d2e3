/-
  facetroomlaw19.SatTells, walked. No conditions.
-/
import Derived.Test.YtjnjlgknmocdlaaPVecP
import Derived.Test.YtjnjlgknmocdlaaPSatJ
namespace Go.Proofs.Ytjnjlgknmocdlaa
open Go.RowKit
set_option linter.unusedVariables false
set_option linter.unusedSimpArgs false

/-- Whether a list is one that the law passes by. -/
def farB (pss : Vecs) : Bool := (greatM pss 70 8 2 && decide (pss.length ≤ 1024)) || decide (5000 < pss.length)
theorem farB_no {pss : Vecs} (h : farB pss = false) : pss.length ≤ 5000 ∧ (pss.length ≤ 1024 → ∀ qs ∈ pss, ∀ p ∈ qs, p.2.length ≤ 2) := by
  unfold farB at h
  rw [Bool.or_eq_false_iff] at h
  refine ⟨by have := of_decide_eq_false h.2; omega, fun hl qs hq => ?_⟩
  rw [decide_eq_true hl, Bool.and_true] at h
  exact (greatV_lims ((greatM_no h.1).2 qs hq)).2

set_option maxRecDepth 100000 in
set_option maxHeartbeats 1000000 in
theorem far19_any {w : World} {Z : Zone} {A : Option Addr} {c : Nat} {pss : Vecs} (hm : MatAt w Z A c pss) :
    Calls Try.prog 25 #[.slice A pss.length c] w fun e w' => e = .returned (.bool (farB pss)) ∧ w = w' := by
  have hlen := hm.len
  have hg := r18great_any (M := 70) (L := 8) (K := 2) hm (by omega) (by omega) (by omega)
  have hcase : greatM pss 70 8 2 = true ∨ greatM pss 70 8 2 = false := by cases greatM pss 70 8 2 <;> simp
  unfold farB
  clear hm
  generalize pss.length = L at *
  generalize greatM pss 70 8 2 = G at *
  have h1 : decide (L ≤ 1024) = true ∨ decide (L ≤ 1024) = false := by cases decide (L ≤ 1024) <;> simp
  have h2 : decide (5000 < L) = true ∨ decide (5000 < L) = false := by cases decide (5000 < L) <;> simp
  have Hg := Lib.hid hg
  clear hg
  rcases hcase with rfl | rfl <;> rcases h1 with h1 | h1 <;> rcases h2 with h2 | h2
  all_goals
    rw [h1, h2]
    have e1 := (Bool.eq_iff_iff (a := decide ((L : Int) ≤ 1024)) (b := decide (L ≤ 1024))).2 (by simp; omega)
    have e2 := (Bool.eq_iff_iff (a := decide ((5000 : Int) < (L : Int))) (b := decide (5000 < L))).2 (by simp; omega)
    rw [h1] at e1
    rw [h2] at e2
    go_enter Try.func25, Try.ntmps25
    go_wp2_with fail
    refine Hg.out.mono ?_
    rintro e _ ⟨rfl, rfl⟩
    go_wp2
    go_ret
    exact ⟨by first | rfl | trivial, by trivial⟩

set_option maxRecDepth 100000 in
set_option maxHeartbeats 4000000 in
theorem lawSatTells {w : World} {a l of : Value} {ps : List (Bool × List Nat)} {pss qss : Vecs} (ha : IsVec w old a ps) (hl : IsMat w old l pss) (hof : IsMat w old of qss) :
    Calls Try.prog 5 #[a, l, of] w fun e w' => e = .returned (.bool true) ∧ Below w.heap.size w w' := by
  obtain ⟨A, ca, rfl, ha⟩ := ha
  obtain ⟨B, cb, rfl, hl⟩ := hl
  obtain ⟨C, cc, rfl, hof⟩ := hof
  have f1 := far19_any hl
  have f2 := far19_any hof
  have f3 := great_any (M := 80) (K := 2) ha (by omega) (by omega)
  have k1 : farB pss = true ∨ farB pss = false := by cases farB pss <;> simp
  have k2 : farB qss = true ∨ farB qss = false := by cases farB qss <;> simp
  have k3 : greatV ps 80 2 = true ∨ greatV ps 80 2 = false := by cases greatV ps 80 2 <;> simp
  have F1 := Lib.hid f1
  have F2 := Lib.hid f2
  have F3 := Lib.hid f3
  clear f1 f2 f3
  rcases k1 with k1 | k1
  · rw [k1] at F1
    clear k1 k2 k3 ha hl hof F2 F3
    generalize ps.length = P at *
    generalize pss.length = Q at *
    generalize qss.length = R at *
    go_enter Try.func5, Try.ntmps5
    go_wp2_with fail
    refine F1.out.mono ?_
    rintro e _ ⟨rfl, rfl⟩
    go_wp2
    go_ret
    exact ⟨rfl, Below.refl _ _⟩
  rw [k1] at F1
  rcases k2 with k2 | k2
  · rw [k2] at F2
    clear k1 k2 k3 ha hl hof F3
    generalize ps.length = P at *
    generalize pss.length = Q at *
    generalize qss.length = R at *
    go_enter Try.func5, Try.ntmps5
    go_wp2_with fail
    refine F1.out.mono ?_
    rintro e _ ⟨rfl, rfl⟩
    go_wp2_with fail
    refine F2.out.mono ?_
    rintro e _ ⟨rfl, rfl⟩
    go_wp2
    go_ret
    exact ⟨rfl, Below.refl _ _⟩
  rw [k2] at F2
  rcases k3 with k3 | k3
  · rw [k3] at F3
    clear k1 k2 k3 ha hl hof
    generalize ps.length = P at *
    generalize pss.length = Q at *
    generalize qss.length = R at *
    go_enter Try.func5, Try.ntmps5
    go_wp2_with fail
    refine F1.out.mono ?_
    rintro e _ ⟨rfl, rfl⟩
    go_wp2_with fail
    refine F2.out.mono ?_
    rintro e _ ⟨rfl, rfl⟩
    go_wp2_with fail
    refine F3.out.mono ?_
    rintro e _ ⟨rfl, rfl⟩
    go_wp2
    go_ret
    exact ⟨rfl, Below.refl _ _⟩
  rw [k3] at F3
  have b1 := farB_no k1
  have b2 := farB_no k2
  have b3 := greatV_lims k3
  have C1 : Hid (∀ w1, Below w.heap.size w w1 → Calls Try.prog 27 #[.slice A ps.length ca, .slice B pss.length cb] w1 fun e w' => ∃ u, e = .returned (.tuple #[u, .int .i64 (errG ps pss)]) ∧ IsInts w' old u (signsL ps pss) ∧ Below w1.heap.size w1 w') := fun w1 h => satsigns_any (ha.below h) (hl.below h) b3.2 b1.2 (by omega)
  have C2 : Hid (∀ w1, Below w.heap.size w w1 → Calls Try.prog 28 #[.slice A ps.length ca, .slice B pss.length cb] w1 fun e w' => ∃ u, e = .returned (.tuple #[u, .int .i64 (errG ps pss)]) ∧ IsInts w' old u (signsL ps pss) ∧ Below w1.heap.size w1 w') := fun w1 h => refsigns_any (ha.below h) (hl.below h) b3.2 b1.2 (by omega)
  have C3 : Hid (∀ w1, Below w.heap.size w w1 → Calls Try.prog 29 #[.slice B pss.length cb, .slice C qss.length cc] w1 fun e w' => ∃ u, e = .returned (.tuple #[u, .int .i64 (errMk pss qss)]) ∧ IsU w' old u (masksL pss qss) ∧ Below w1.heap.size w1 w') := fun w1 h => satmasks_any (hl.below h) (hof.below h) b1.2 b2.2 (by omega)
  have C4 : Hid (∀ w1, Below w.heap.size w w1 → Calls Try.prog 30 #[.slice B pss.length cb, .slice C qss.length cc] w1 fun e w' => ∃ u, e = .returned (.tuple #[u, .int .i64 (errMk pss qss)]) ∧ IsU w' old u (masksL pss qss) ∧ Below w1.heap.size w1 w') := fun w1 h => refmasks_any (hl.below h) (hof.below h) b1.2 b2.2 (by omega)
  clear k1 k2 k3 b1 b2 b3 ha hl hof
  have t1 : (errG ps pss == errG ps pss) = true := beq_self_eq_true _
  have t2 : (errMk pss qss == errMk pss qss) = true := beq_self_eq_true _
  generalize ps.length = P at *
  generalize pss.length = Q at *
  generalize qss.length = R at *
  generalize errG ps pss = E1 at *
  generalize errMk pss qss = E2 at *
  generalize signsL ps pss = L1 at *
  generalize masksL pss qss = L2 at *
  go_enter Try.func5, Try.ntmps5
  go_wp2_with fail
  refine F1.out.mono ?_
  rintro e _ ⟨rfl, rfl⟩
  go_wp2_with fail
  refine F2.out.mono ?_
  rintro e _ ⟨rfl, rfl⟩
  go_wp2_with fail
  refine F3.out.mono ?_
  rintro e _ ⟨rfl, rfl⟩
  go_wp2_with fail
  refine (C1.out _ (Below.refl _ _)).mono ?_
  rintro e w1 ⟨u1, rfl, i1, hB1⟩
  go_wp2_with fail
  refine (C2.out _ hB1).mono ?_
  rintro e w2 ⟨u2, rfl, i2, hb2⟩
  have hB2 := from_ hB1 hb2
  replace i1 := isInts_below i1 hb2
  clear hb2
  go_wp2_with fail
  refine (C3.out _ hB2).mono ?_
  rintro e w3 ⟨u3, rfl, i3, hb3⟩
  have hB3 := from_ hB2 hb3
  replace i1 := isInts_below i1 hb3
  replace i2 := isInts_below i2 hb3
  clear hb3
  go_wp2_with fail
  refine (C4.out _ hB3).mono ?_
  rintro e w4 ⟨u4, rfl, i4, hb4⟩
  have hB4 := from_ hB3 hb4
  replace i1 := isInts_below i1 hb4
  replace i2 := isInts_below i2 hb4
  replace i3 := i3.below hb4
  clear hb4
  have D1 := Lib.hid (ints_dec i1 i2)
  rw [decide_eq_true (rfl : L1 = L1)] at D1
  have D2 : Hid (∀ w5, Below w4.heap.size w4 w5 → Calls Try.prog 23 #[u3, u4] w5 fun e w' => e = .returned (.bool true) ∧ Below w5.heap.size w5 w') := fun w5 h => by
    have := words_dec (i3.below h) (i4.below h)
    rwa [decide_eq_true (rfl : L2 = L2)] at this
  clear i1 i2 i3 i4
  go_wp2_with fail
  refine D1.out.mono ?_
  rintro e w5 ⟨rfl, hb5⟩
  go_wp2_with fail
  refine (D2.out _ hb5).mono ?_
  rintro e w6 ⟨rfl, hb6⟩
  go_wp2
  go_ret
  exact ⟨by first | rfl | trivial, from_ (from_ hB4 hb5) hb6⟩

end Go.Proofs.Ytjnjlgknmocdlaa
