/-
  The walk of DivBack. No conditions.
-/
import Derived.Test.YthdmfggcfkeenaaYDivP
import Derived.Test.YthdmfggcfkeenaaYRefO
import Derived.Test.YthdmfggcfkeenaaYNatE
import Derived.Test.YthdmfggcfkeenaaYRefC
namespace Go.Proofs.Ythdmfggcfkeenaa
open Go.RowKit
set_option linter.unusedVariables false
set_option linter.unusedSimpArgs false

set_option maxRecDepth 100000 in
set_option maxHeartbeats 2000000 in
theorem lawDivBack {w : World} {a b : Value} {la lb : List Nat} (ha : IsU w old a la) (hb : IsU w old b lb) :
    Calls Try.prog 8 #[a, b] w fun e w' => e = .returned (.bool true) ∧ Below w.heap.size w w' := by
  obtain ⟨A, ca, rfl, ha⟩ := ha
  have hla := ha.len
  have ua : IsU w old (.slice A la.length ca) la := ⟨A, ca, rfl, ha⟩
  clear ha
  obtain ⟨B, cb, rfl, hb⟩ := hb
  have hlb := hb.len
  have ub : IsU w old (.slice B lb.length cb) lb := ⟨B, cb, rfl, hb⟩
  clear hb
  have hcase : ((200 : Int) < (la.length : Int)) ∨ (decide ((200 : Int) < (la.length : Int)) = false ∧ (200 : Int) < (lb.length : Int)) ∨ (decide ((200 : Int) < (la.length : Int)) = false ∧ decide ((200 : Int) < (lb.length : Int)) = false ∧ la.length ≤ 200 ∧ lb.length ≤ 200) := by simp only [decide_eq_false_iff_not]; omega
  rcases hcase with t0 | ⟨t0, t1⟩ | ⟨t0, t1, h0, h1⟩
  · go_enter Try.func8, Try.ntmps8
    go_wp2_with fail
    refine (alive3 _).mono ?_
    rintro e w1 ⟨rfl, hb⟩
    have hs : Below w.heap.size w w1 := step (by first | exact Below.refl _ _ | go_grown) hb
    have hB := hs
    clear hb hs
    go_wp2
    go_ret
    exact ⟨rfl, hB⟩
  · go_enter Try.func8, Try.ntmps8
    go_wp2_with fail
    refine (alive3 _).mono ?_
    rintro e w1 ⟨rfl, hb⟩
    have hs : Below w.heap.size w w1 := step (by first | exact Below.refl _ _ | go_grown) hb
    have hB := hs
    clear hb hs
    go_wp2
    go_ret
    exact ⟨rfl, hB⟩
  · have hdv := fun (w1 : World) (h : Below w.heap.size w w1) => ddiv_all (ua.below h) (ub.below h) (by omega)
    have hsa := ua.small
    have hsb := ub.small
    rcases ua.decN with ⟨ga, na, ea⟩ | ga
    · rcases ub.decN with ⟨gb, nb, eb⟩ | gb
      · by_cases h00 : lb.length = 0
        · have hE : errD la lb = 30 := by simp [errD, ga, gb, h00]
          have hQ : quoL la lb = [] := by unfold quoL; rw [if_neg (by rw [hE]; decide)]
          have hR : remL la lb = [] := by unfold remL; rw [if_neg (by rw [hE]; decide)]
          rw [hE, hQ, hR] at hdv
          have Hdv := Lib.hid hdv
          have H00 := Lib.hid h00
          rw [h00] at Hdv ⊢
          clear h00 ub nb eb gb ga ea ua
          clear hdv hE hQ hR hsa hsb
          go_enter Try.func8, Try.ntmps8
          go_wp2_with fail
          refine (alive3 _).mono ?_
          rintro e w1 ⟨rfl, hb⟩
          have hs : Below w.heap.size w w1 := step (by first | exact Below.refl _ _ | go_grown) hb
          replace na := na.below hs
          have hB := hs
          clear hb hs
          go_wp2_with fail
          refine (Hdv.out _ (by first | exact hB | exact hB.trans (by first | exact Below.refl _ _ | go_grown))).mono ?_
          rintro e w2 ⟨_, _, rfl, ⟨Aq, cq, rfl, hq⟩, ⟨Ar, cr, rfl, hr⟩, hb⟩
          have hs : Below w1.heap.size w1 w2 := step (by first | exact Below.refl _ _ | go_grown) hb
          replace na := na.below hs
          replace hB := from_ hB hs
          clear hb hs
          clear hq hr
          go_wp2_with fail
          refine (check_goodN (na.below (by first | exact Below.refl _ _ | go_grown))).mono ?_
          rintro e _ ⟨rfl, rfl⟩
          go_wp2
          go_ret
          exact ⟨rfl, hB⟩
        · have hE : errD la lb = 0 := by simp [errD, ga, gb, h00]
          have hQ : quoL la lb = limbs (val la / val lb) := by unfold quoL; rw [if_pos hE]
          have hR : remL la lb = limbs (val la % val lb) := by unfold remL; rw [if_pos hE]
          have hpos := val_pos_of hsb gb (by omega)
          have hdm := Nat.div_add_mod (val la) (val lb)
          have hml := Nat.mod_lt (val la) hpos
          have l1 := len_div (val la) (val lb)
          have l2 : (limbs (val la % val lb)).length ≤ (limbs (val la)).length := len_mono (Nat.mod_le _ _)
          have l3 := len_mul (val la / val lb) (val lb)
          have ka : (limbs (val la)).length ≤ 200 := by omega
          have kb : (limbs (val lb)).length ≤ 200 := by omega
          rw [hE, hQ, hR] at hdv
          have hdv2 : ∀ w1, Below w.heap.size w w1 → Calls Try.prog 23 #[.slice A la.length ca, .slice B lb.length cb] w1 (fun e w' => ∃ q r, e = .returned (.tuple #[q, r, .int .i64 0]) ∧ IsN w' (new w1.heap.size) q (val la / val lb) ∧ IsN w' (new w1.heap.size) r (val la % val lb) ∧ Below w1.heap.size w1 w') := hdv
          have hcmp : cmp3 ((val la % val lb : Nat) : Int) (val lb : Int) = -1 := cmp3_lt (by omega)
          have heq : val la / val lb * val lb + val la % val lb = val la := by rw [Nat.mul_comm]; exact hdm
          have Hdv := Lib.hid hdv2
          have Hcmp := Lib.hid hcmp
          have Heq := Lib.hid heq
          clear hdv hdv2 hE hQ hR hsa hsb hdm hml hpos ea eb ga gb ua ub hcmp heq
          generalize val la / val lb = q0 at *
          generalize val la % val lb = r0 at *
          go_enter Try.func8, Try.ntmps8
          go_wp2_with fail
          refine (alive3 _).mono ?_
          rintro e w1 ⟨rfl, hb⟩
          have hs : Below w.heap.size w w1 := step (by first | exact Below.refl _ _ | go_grown) hb
          replace na := na.below hs
          replace nb := nb.below hs
          have hB := hs
          clear hb hs
          go_wp2_with fail
          refine (Hdv.out _ (by first | exact hB | exact hB.trans (by first | exact Below.refl _ _ | go_grown))).mono ?_
          rintro e w2 ⟨q, r, rfl, hq, hr, hb⟩
          have hs : Below w1.heap.size w1 w2 := step (by first | exact Below.refl _ _ | go_grown) hb
          replace na := na.below hs
          replace nb := nb.below hs
          replace hB := from_ hB hs
          clear hb hs
          go_wp2_with fail
          refine (check_goodN (hq.below (by first | exact Below.refl _ _ | go_grown))).mono ?_
          rintro e _ ⟨rfl, rfl⟩
          go_wp2_with fail
          refine (check_goodN (hr.below (by first | exact Below.refl _ _ | go_grown))).mono ?_
          rintro e _ ⟨rfl, rfl⟩
          go_wp2_with fail
          refine (rtimes_good (hq.below (by first | exact Below.refl _ _ | go_grown)) (nb.below (by first | exact Below.refl _ _ | go_grown)) (by omega) (by omega)).mono ?_
          rintro e w3 ⟨p, rfl, hp, hb⟩
          have hs : Below w2.heap.size w2 w3 := step (by first | exact Below.refl _ _ | go_grown) hb
          replace na := na.below hs
          replace nb := nb.below hs
          replace hq := hq.below hs
          replace hr := hr.below hs
          replace hB := from_ hB hs
          clear hb hs
          go_wp2_with fail
          refine (add_good (hp.below (by first | exact Below.refl _ _ | go_grown)) (hr.below (by first | exact Below.refl _ _ | go_grown)) (by omega) (by omega)).mono ?_
          rintro e w4 ⟨s, rfl, hs0, hb⟩
          have hs : Below w3.heap.size w3 w4 := step (by first | exact Below.refl _ _ | go_grown) hb
          replace na := na.below hs
          replace nb := nb.below hs
          replace hq := hq.below hs
          replace hr := hr.below hs
          replace hp := hp.below hs
          replace hB := from_ hB hs
          clear hb hs
          go_wp2_with fail
          refine (cmp_good (hr.below (by first | exact Below.refl _ _ | go_grown)) (nb.below (by first | exact Below.refl _ _ | go_grown)) Hcmp.out).mono ?_
          rintro e w5 ⟨rfl, hb⟩
          have hs : Below w4.heap.size w4 w5 := step (by first | exact Below.refl _ _ | go_grown) hb
          replace na := na.below hs
          replace nb := nb.below hs
          replace hq := hq.below hs
          replace hr := hr.below hs
          replace hp := hp.below hs
          replace hs0 := hs0.below hs
          replace hB := from_ hB hs
          clear hb hs
          go_wp2_with fail
          refine (same_num (hs0.below (by first | exact Below.refl _ _ | go_grown)) (na.below (by first | exact Below.refl _ _ | go_grown)) Heq.out).mono ?_
          rintro e w6 ⟨rfl, hb⟩
          have hs : Below w5.heap.size w5 w6 := step (by first | exact Below.refl _ _ | go_grown) hb
          replace na := na.below hs
          replace nb := nb.below hs
          replace hq := hq.below hs
          replace hr := hr.below hs
          replace hp := hp.below hs
          replace hs0 := hs0.below hs
          replace hB := from_ hB hs
          clear hb hs
          go_wp2
          go_ret
          exact ⟨rfl, hB⟩
      · have hE : errD la lb = 8 := by simp [errD, gb]
        have hQ : quoL la lb = [] := by unfold quoL; rw [if_neg (by rw [hE]; decide)]
        have hR : remL la lb = [] := by unfold remL; rw [if_neg (by rw [hE]; decide)]
        rw [hE, hQ, hR] at hdv
        have Hdv := Lib.hid hdv
        have hl0 : ((lb.length : Int) == 0) = false := beq_eq_false_iff_ne.2 (fun e => by
          have h1 : lb = [] := List.length_eq_zero_iff.1 (by omega)
          rw [h1] at gb
          cases gb)
        clear gb ga ea ua ub
        clear hdv hE hQ hR hsa hsb
        go_enter Try.func8, Try.ntmps8
        go_wp2_with fail
        refine (alive3 _).mono ?_
        rintro e w1 ⟨rfl, hb⟩
        have hs : Below w.heap.size w w1 := step (by first | exact Below.refl _ _ | go_grown) hb
        replace na := na.below hs
        have hB := hs
        clear hb hs
        go_wp2_with fail
        refine (Hdv.out _ (by first | exact hB | exact hB.trans (by first | exact Below.refl _ _ | go_grown))).mono ?_
        rintro e w2 ⟨_, _, rfl, ⟨Aq, cq, rfl, hq⟩, ⟨Ar, cr, rfl, hr⟩, hb⟩
        have hs : Below w1.heap.size w1 w2 := step (by first | exact Below.refl _ _ | go_grown) hb
        replace na := na.below hs
        replace hB := from_ hB hs
        clear hb hs
        clear hq hr
        go_wp2_with fail
        refine (check_goodN (na.below (by first | exact Below.refl _ _ | go_grown))).mono ?_
        rintro e _ ⟨rfl, rfl⟩
        go_wp2
        go_ret
        exact ⟨rfl, hB⟩
    · have hE : errD la lb = 8 := by simp [errD, ga]
      have hQ : quoL la lb = [] := by unfold quoL; rw [if_neg (by rw [hE]; decide)]
      have hR : remL la lb = [] := by unfold remL; rw [if_neg (by rw [hE]; decide)]
      rw [hE, hQ, hR] at hdv
      have Hdv := Lib.hid hdv
      have Ga := Lib.hid ga
      clear ga ub
      clear hdv hE hQ hR hsa hsb
      go_enter Try.func8, Try.ntmps8
      go_wp2_with fail
      refine (alive3 _).mono ?_
      rintro e w1 ⟨rfl, hb⟩
      have hs : Below w.heap.size w w1 := step (by first | exact Below.refl _ _ | go_grown) hb
      replace ua := ua.below hs
      have hB := hs
      clear hb hs
      go_wp2_with fail
      refine (Hdv.out _ (by first | exact hB | exact hB.trans (by first | exact Below.refl _ _ | go_grown))).mono ?_
      rintro e w2 ⟨_, _, rfl, ⟨Aq, cq, rfl, hq⟩, ⟨Ar, cr, rfl, hr⟩, hb⟩
      have hs : Below w1.heap.size w1 w2 := step (by first | exact Below.refl _ _ | go_grown) hb
      replace ua := ua.below hs
      replace hB := from_ hB hs
      clear hb hs
      clear hq hr
      go_wp2_with fail
      refine (check_badU (ua.below (by first | exact Below.refl _ _ | go_grown)) Ga.out).mono ?_
      rintro e _ ⟨rfl, rfl⟩
      go_wp2
      go_ret
      exact ⟨rfl, hB⟩
end Go.Proofs.Ythdmfggcfkeenaa
