/-
  The walk of GcdDivides. The one premise: the table of powers of ten reads as it is laid. No conditions.
-/
import Derived.Test.YtbcplffdoejniaaDoorGGcdE
namespace Go.Proofs.YtbcplffdoejniaaDoor
open Go.RowKit
set_option linter.unusedVariables false
set_option linter.unusedSimpArgs false

theorem errX_good {m : Nat} {lc : List Nat} (hc : good lc = true) (h0 : 0 < lc.length) : errX (limbs m) lc = if val lc ∣ m then 0 else 6 := by
  have hE : errD (limbs m) lc = 0 := by
    unfold errD
    rw [if_pos ⟨good_limbs m, hc⟩, if_neg (by omega)]
  unfold errX
  rw [if_pos hE]
  unfold remL
  rw [if_pos hE, val_limbs]
  by_cases h : val lc ∣ m
  · rw [if_pos h, Nat.mod_eq_zero_of_dvd h, limbs_zero]
    rfl
  · rw [if_neg h, if_neg]
    intro h1
    have h2 : limbs (m % val lc) = [] := List.length_eq_zero_iff.1 h1
    exact h (Nat.dvd_of_mod_eq_zero (limbs_eq_nil.1 h2))
theorem errX_bad {m : Nat} {lc : List Nat} (hc : ¬ (good lc = true ∧ 0 < lc.length)) : (errX (limbs m) lc == 0) = false := by
  have hE : errD (limbs m) lc ≠ 0 := fun h => hc (errD_zero h).2
  unfold errX
  rw [if_neg hE]
  exact beq_eq_false_iff_ne.2 hE
/-- What divides both numbers divides their greatest common divisor, and it both: as the errors tell it. -/
theorem errX_gcd (m n : Nat) (lc : List Nat) :
    (errX (limbs m) lc = 0 ∧ errX (limbs n) lc = 0 ∧ errX (limbs (Nat.gcd m n)) lc = 0) ∨ ((errX (limbs m) lc == 0) = false ∧ (errX (limbs (Nat.gcd m n)) lc == 0) = false) ∨
    (errX (limbs m) lc = 0 ∧ (errX (limbs n) lc == 0) = false ∧ (errX (limbs (Nat.gcd m n)) lc == 0) = false) := by
  by_cases hc : good lc = true ∧ 0 < lc.length
  · obtain ⟨h1, h2⟩ := hc
    rw [errX_good h1 h2, errX_good h1 h2, errX_good h1 h2]
    have hd : val lc ∣ Nat.gcd m n ↔ val lc ∣ m ∧ val lc ∣ n := Nat.dvd_gcd_iff
    by_cases a : val lc ∣ m
    · by_cases b : val lc ∣ n
      · rw [if_pos a, if_pos b, if_pos (hd.2 ⟨a, b⟩)]
        exact .inl ⟨rfl, rfl, rfl⟩
      · rw [if_pos a, if_neg b, if_neg (fun h => b (hd.1 h).2)]
        exact .inr (.inr ⟨rfl, rfl, rfl⟩)
    · rw [if_neg a, if_neg (fun h => a (hd.1 h).1)]
      exact .inr (.inl ⟨rfl, rfl⟩)
  · exact .inr (.inl ⟨errX_bad hc, errX_bad hc⟩)
theorem gcd_parts {m n : Nat} (h : Nat.gcd m n ≠ 0) : ∃ x y, m = x * Nat.gcd m n ∧ n = y * Nat.gcd m n ∧ Nat.gcd x y = 1 := by
  refine ⟨m / Nat.gcd m n, n / Nat.gcd m n, (Nat.div_mul_cancel (Nat.gcd_dvd_left m n)).symm, (Nat.div_mul_cancel (Nat.gcd_dvd_right m n)).symm, ?_⟩
  rw [Nat.gcd_div (Nat.gcd_dvd_left m n) (Nat.gcd_dvd_right m n), Nat.div_self (by omega)]
theorem errX_eq {la lb : List Nat} {E : Int} {w : World} {Z Y : Zone} {a b : Value} (ha : IsU w Z a la) (hb : IsU w Y b lb) (hl : la.length ≤ 20000) (h : errX la lb = E) :
    Calls Tryd.prog 8 #[a, b] w fun e w' => ∃ q, e = .returned (.tuple #[q, .int .i64 E]) ∧ Below w.heap.size w w' := by
  refine (dexact_all ha hb hl).mono ?_
  rintro e w' ⟨q, rfl, _, hb2⟩
  exact ⟨q, by rw [h], hb2⟩

set_option maxRecDepth 100000 in
set_option maxHeartbeats 2000000 in
theorem lawGcdDivides {w : World} {a b c : Value} {la lb lc : List Nat} (ha : IsU w old a la) (hb : IsU w old b lb) (hc : IsU w old c lc) (ht : Tab w) :
    Calls Tryd.prog 3 #[a, b, c] w fun e w' => e = .returned (.bool true) ∧ Below w.heap.size w w' := by
  obtain ⟨A, ca, rfl, ha⟩ := ha
  have hla := ha.len
  have ua : IsU w old (.slice A la.length ca) la := ⟨A, ca, rfl, ha⟩
  clear ha
  obtain ⟨B, cb, rfl, hb⟩ := hb
  have hlb := hb.len
  have ub : IsU w old (.slice B lb.length cb) lb := ⟨B, cb, rfl, hb⟩
  clear hb
  obtain ⟨C, cc, rfl, hc⟩ := hc
  have hlc := hc.len
  have uc : IsU w old (.slice C lc.length cc) lc := ⟨C, cc, rfl, hc⟩
  clear hc
  have hcase : ((20 : Int) < (la.length : Int)) ∨ (decide ((20 : Int) < (la.length : Int)) = false ∧ (20 : Int) < (lb.length : Int)) ∨ (decide ((20 : Int) < (la.length : Int)) = false ∧ decide ((20 : Int) < (lb.length : Int)) = false ∧ (20 : Int) < (lc.length : Int)) ∨ (decide ((20 : Int) < (la.length : Int)) = false ∧ decide ((20 : Int) < (lb.length : Int)) = false ∧ decide ((20 : Int) < (lc.length : Int)) = false ∧ la.length ≤ 20 ∧ lb.length ≤ 20 ∧ lc.length ≤ 20) := by simp only [decide_eq_false_iff_not]; omega
  rcases hcase with t0 | ⟨t0, t1⟩ | ⟨t0, t1, t2⟩ | ⟨t0, t1, t2, h0, h1, h2⟩
  · go_enter Tryd.func3, Tryd.ntmps3
    go_wp2_with fail
    refine (alive4 (ht.below (by first | exact Below.refl _ _ | go_grown))).mono ?_
    rintro e w1 ⟨rfl, hb⟩
    have hs : Below w.heap.size w w1 := step (by first | exact Below.refl _ _ | go_grown) hb
    have hB := hs
    clear hb hs
    go_wp2
    go_ret
    exact ⟨rfl, hB⟩
  · go_enter Tryd.func3, Tryd.ntmps3
    go_wp2_with fail
    refine (alive4 (ht.below (by first | exact Below.refl _ _ | go_grown))).mono ?_
    rintro e w1 ⟨rfl, hb⟩
    have hs : Below w.heap.size w w1 := step (by first | exact Below.refl _ _ | go_grown) hb
    have hB := hs
    clear hb hs
    go_wp2
    go_ret
    exact ⟨rfl, hB⟩
  · go_enter Tryd.func3, Tryd.ntmps3
    go_wp2_with fail
    refine (alive4 (ht.below (by first | exact Below.refl _ _ | go_grown))).mono ?_
    rintro e w1 ⟨rfl, hb⟩
    have hs : Below w.heap.size w w1 := step (by first | exact Below.refl _ _ | go_grown) hb
    have hB := hs
    clear hb hs
    go_wp2
    go_ret
    exact ⟨rfl, hB⟩
  · rcases ua.decN with ⟨ga, na, ea⟩ | ga
    · rcases ub.decN with ⟨gb, nb, eb⟩ | gb
      · have ka : (limbs (val la)).length ≤ 20 := by omega
        have kb : (limbs (val lb)).length ≤ 20 := by omega
        by_cases h00 : Nat.gcd (val la) (val lb) = 0
        · have hX := errX_gcd (val la) (val lb) lc
          have hcomm := Nat.gcd_comm (val lb) (val la)
          have lg := len_gcdN (val la) (val lb)
          have hm0 : val la = 0 := (Nat.gcd_eq_zero_iff.1 h00).1
          have hn0 : val lb = 0 := (Nat.gcd_eq_zero_iff.1 h00).2
          have hal0 : la.length = 0 := by rw [← ea, hm0]; rfl
          have hbl0 : lb.length = 0 := by rw [← eb, hn0]; rfl
          have Ka := Lib.hid (show (limbs (val la)).length ≤ 20000 by omega)
          have Kb := Lib.hid (show (limbs (val lb)).length ≤ 20000 by omega)
          have Kg := Lib.hid (show (limbs (Nat.gcd (val la) (val lb))).length ≤ 20000 by omega)
          have Hcm := Lib.hid hcomm
          clear ka kb lg hcomm
          rw [hal0] at na ⊢
          rw [hbl0] at nb ⊢
          clear hal0 hbl0 hm0 hn0
          rcases hX with ⟨hx1, hx2, hx3⟩ | ⟨hx1, hx3⟩ | ⟨hx1, hx2, hx3⟩
          · have X1 := Lib.hid hx1
            have X2 := Lib.hid hx2
            have X3 := Lib.hid hx3
            clear hx1 hx2 hx3
            clear ga gb ea eb ua ub
            generalize val la = m at *
            generalize val lb = n at *
            go_enter Tryd.func3, Tryd.ntmps3
            go_wp2_with fail
            refine (alive4 (ht.below (by first | exact Below.refl _ _ | go_grown))).mono ?_
            rintro e w1 ⟨rfl, hb⟩
            have hs : Below w.heap.size w w1 := step (by first | exact Below.refl _ _ | go_grown) hb
            replace na := na.below hs
            replace nb := nb.below hs
            replace uc := uc.below hs
            have hB := hs
            clear hb hs
            go_wp2_with fail
            refine (gcd_good (na.below (by first | exact Below.refl _ _ | go_grown)) (nb.below (by first | exact Below.refl _ _ | go_grown)) Ka.out Kb.out).mono ?_
            rintro e w2 ⟨_, rfl, ⟨Ag, cg, rfl, hug⟩, hb⟩
            have hs : Below w1.heap.size w1 w2 := step (by first | exact Below.refl _ _ | go_grown) hb
            replace na := na.below hs
            replace nb := nb.below hs
            replace uc := uc.below hs
            replace hB := from_ hB hs
            clear hb hs
            have hg : IsN w2 old (.slice Ag (limbs (Nat.gcd m n)).length cg) (Nat.gcd m n) := ⟨Ag, cg, rfl, hug.mono (le_old _)⟩
            clear hug
            obtain ⟨G, hG⟩ : ∃ G, G = (limbs (Nat.gcd m n)).length := ⟨_, rfl⟩
            have HG := Lib.hid hG
            have hG0 : G = 0 := by rw [hG, h00]; rfl
            rw [← hG, hG0] at hg ⊢
            clear hG hG0 HG
            go_wp2_with fail
            refine (gcd_good (nb.below (by first | exact Below.refl _ _ | go_grown)) (na.below (by first | exact Below.refl _ _ | go_grown)) Kb.out Ka.out).mono ?_
            rintro e w3 ⟨h', rfl, hh, hb⟩
            have hs : Below w2.heap.size w2 w3 := step (by first | exact Below.refl _ _ | go_grown) hb
            replace na := na.below hs
            replace nb := nb.below hs
            replace uc := uc.below hs
            replace hg := hg.below hs
            replace hB := from_ hB hs
            clear hb hs
            go_wp2_with fail
            refine (same_num (hg.below (by first | exact Below.refl _ _ | go_grown)) (hh.below (by first | exact Below.refl _ _ | go_grown)) Hcm.out.symm).mono ?_
            rintro e w4 ⟨rfl, hb⟩
            have hs : Below w3.heap.size w3 w4 := step (by first | exact Below.refl _ _ | go_grown) hb
            clear hh
            replace na := na.below hs
            replace nb := nb.below hs
            replace uc := uc.below hs
            replace hg := hg.below hs
            replace hB := from_ hB hs
            clear hb hs
            go_wp2_with fail
            refine (errX_eq (na.below (by first | exact Below.refl _ _ | go_grown)) (uc.below (by first | exact Below.refl _ _ | go_grown)) Ka.out X1.out).mono ?_
            rintro e w5 ⟨q1, rfl, hb⟩
            have hs : Below w4.heap.size w4 w5 := step (by first | exact Below.refl _ _ | go_grown) hb
            replace na := na.below hs
            replace nb := nb.below hs
            replace uc := uc.below hs
            replace hg := hg.below hs
            replace hB := from_ hB hs
            clear hb hs
            go_wp2_with fail
            refine (errX_eq (nb.below (by first | exact Below.refl _ _ | go_grown)) (uc.below (by first | exact Below.refl _ _ | go_grown)) Kb.out X2.out).mono ?_
            rintro e w6 ⟨q2, rfl, hb⟩
            have hs : Below w5.heap.size w5 w6 := step (by first | exact Below.refl _ _ | go_grown) hb
            replace na := na.below hs
            replace nb := nb.below hs
            replace uc := uc.below hs
            replace hg := hg.below hs
            replace hB := from_ hB hs
            clear hb hs
            go_wp2_with fail
            refine (errX_eq (hg.below (by first | exact Below.refl _ _ | go_grown)) (uc.below (by first | exact Below.refl _ _ | go_grown)) Kg.out X3.out).mono ?_
            rintro e w7 ⟨q3, rfl, hb⟩
            have hs : Below w6.heap.size w6 w7 := step (by first | exact Below.refl _ _ | go_grown) hb
            replace na := na.below hs
            replace nb := nb.below hs
            replace uc := uc.below hs
            replace hg := hg.below hs
            replace hB := from_ hB hs
            clear hb hs
            go_wp2
            go_ret
            exact ⟨rfl, hB⟩
          · obtain ⟨E1, e1⟩ : ∃ E, E = errX (limbs (val la)) lc := ⟨_, rfl⟩
            obtain ⟨E2, e2⟩ : ∃ E, E = errX (limbs (val lb)) lc := ⟨_, rfl⟩
            obtain ⟨E3, e3⟩ : ∃ E, E = errX (limbs (Nat.gcd (val la) (val lb))) lc := ⟨_, rfl⟩
            rw [← e1] at hx1
            rw [← e3] at hx3
            have X1 := Lib.hid e1.symm
            have X2 := Lib.hid e2.symm
            have X3 := Lib.hid e3.symm
            clear e1 e2 e3
            clear ga gb ea eb ua ub
            generalize val la = m at *
            generalize val lb = n at *
            go_enter Tryd.func3, Tryd.ntmps3
            go_wp2_with fail
            refine (alive4 (ht.below (by first | exact Below.refl _ _ | go_grown))).mono ?_
            rintro e w1 ⟨rfl, hb⟩
            have hs : Below w.heap.size w w1 := step (by first | exact Below.refl _ _ | go_grown) hb
            replace na := na.below hs
            replace nb := nb.below hs
            replace uc := uc.below hs
            have hB := hs
            clear hb hs
            go_wp2_with fail
            refine (gcd_good (na.below (by first | exact Below.refl _ _ | go_grown)) (nb.below (by first | exact Below.refl _ _ | go_grown)) Ka.out Kb.out).mono ?_
            rintro e w2 ⟨_, rfl, ⟨Ag, cg, rfl, hug⟩, hb⟩
            have hs : Below w1.heap.size w1 w2 := step (by first | exact Below.refl _ _ | go_grown) hb
            replace na := na.below hs
            replace nb := nb.below hs
            replace uc := uc.below hs
            replace hB := from_ hB hs
            clear hb hs
            have hg : IsN w2 old (.slice Ag (limbs (Nat.gcd m n)).length cg) (Nat.gcd m n) := ⟨Ag, cg, rfl, hug.mono (le_old _)⟩
            clear hug
            obtain ⟨G, hG⟩ : ∃ G, G = (limbs (Nat.gcd m n)).length := ⟨_, rfl⟩
            have HG := Lib.hid hG
            have hG0 : G = 0 := by rw [hG, h00]; rfl
            rw [← hG, hG0] at hg ⊢
            clear hG hG0 HG
            go_wp2_with fail
            refine (gcd_good (nb.below (by first | exact Below.refl _ _ | go_grown)) (na.below (by first | exact Below.refl _ _ | go_grown)) Kb.out Ka.out).mono ?_
            rintro e w3 ⟨h', rfl, hh, hb⟩
            have hs : Below w2.heap.size w2 w3 := step (by first | exact Below.refl _ _ | go_grown) hb
            replace na := na.below hs
            replace nb := nb.below hs
            replace uc := uc.below hs
            replace hg := hg.below hs
            replace hB := from_ hB hs
            clear hb hs
            go_wp2_with fail
            refine (same_num (hg.below (by first | exact Below.refl _ _ | go_grown)) (hh.below (by first | exact Below.refl _ _ | go_grown)) Hcm.out.symm).mono ?_
            rintro e w4 ⟨rfl, hb⟩
            have hs : Below w3.heap.size w3 w4 := step (by first | exact Below.refl _ _ | go_grown) hb
            clear hh
            replace na := na.below hs
            replace nb := nb.below hs
            replace uc := uc.below hs
            replace hg := hg.below hs
            replace hB := from_ hB hs
            clear hb hs
            go_wp2_with fail
            refine (errX_eq (na.below (by first | exact Below.refl _ _ | go_grown)) (uc.below (by first | exact Below.refl _ _ | go_grown)) Ka.out X1.out).mono ?_
            rintro e w5 ⟨q1, rfl, hb⟩
            have hs : Below w4.heap.size w4 w5 := step (by first | exact Below.refl _ _ | go_grown) hb
            replace na := na.below hs
            replace nb := nb.below hs
            replace uc := uc.below hs
            replace hg := hg.below hs
            replace hB := from_ hB hs
            clear hb hs
            go_wp2_with fail
            refine (errX_eq (nb.below (by first | exact Below.refl _ _ | go_grown)) (uc.below (by first | exact Below.refl _ _ | go_grown)) Kb.out X2.out).mono ?_
            rintro e w6 ⟨q2, rfl, hb⟩
            have hs : Below w5.heap.size w5 w6 := step (by first | exact Below.refl _ _ | go_grown) hb
            replace na := na.below hs
            replace nb := nb.below hs
            replace uc := uc.below hs
            replace hg := hg.below hs
            replace hB := from_ hB hs
            clear hb hs
            go_wp2_with fail
            refine (errX_eq (hg.below (by first | exact Below.refl _ _ | go_grown)) (uc.below (by first | exact Below.refl _ _ | go_grown)) Kg.out X3.out).mono ?_
            rintro e w7 ⟨q3, rfl, hb⟩
            have hs : Below w6.heap.size w6 w7 := step (by first | exact Below.refl _ _ | go_grown) hb
            replace na := na.below hs
            replace nb := nb.below hs
            replace uc := uc.below hs
            replace hg := hg.below hs
            replace hB := from_ hB hs
            clear hb hs
            go_wp2
            go_ret
            exact ⟨rfl, hB⟩
          · obtain ⟨E2, e2⟩ : ∃ E, E = errX (limbs (val lb)) lc := ⟨_, rfl⟩
            obtain ⟨E3, e3⟩ : ∃ E, E = errX (limbs (Nat.gcd (val la) (val lb))) lc := ⟨_, rfl⟩
            rw [← e2] at hx2
            rw [← e3] at hx3
            have X1 := Lib.hid hx1
            have X2 := Lib.hid e2.symm
            have X3 := Lib.hid e3.symm
            clear e2 e3 hx1
            clear ga gb ea eb ua ub
            generalize val la = m at *
            generalize val lb = n at *
            go_enter Tryd.func3, Tryd.ntmps3
            go_wp2_with fail
            refine (alive4 (ht.below (by first | exact Below.refl _ _ | go_grown))).mono ?_
            rintro e w1 ⟨rfl, hb⟩
            have hs : Below w.heap.size w w1 := step (by first | exact Below.refl _ _ | go_grown) hb
            replace na := na.below hs
            replace nb := nb.below hs
            replace uc := uc.below hs
            have hB := hs
            clear hb hs
            go_wp2_with fail
            refine (gcd_good (na.below (by first | exact Below.refl _ _ | go_grown)) (nb.below (by first | exact Below.refl _ _ | go_grown)) Ka.out Kb.out).mono ?_
            rintro e w2 ⟨_, rfl, ⟨Ag, cg, rfl, hug⟩, hb⟩
            have hs : Below w1.heap.size w1 w2 := step (by first | exact Below.refl _ _ | go_grown) hb
            replace na := na.below hs
            replace nb := nb.below hs
            replace uc := uc.below hs
            replace hB := from_ hB hs
            clear hb hs
            have hg : IsN w2 old (.slice Ag (limbs (Nat.gcd m n)).length cg) (Nat.gcd m n) := ⟨Ag, cg, rfl, hug.mono (le_old _)⟩
            clear hug
            obtain ⟨G, hG⟩ : ∃ G, G = (limbs (Nat.gcd m n)).length := ⟨_, rfl⟩
            have HG := Lib.hid hG
            have hG0 : G = 0 := by rw [hG, h00]; rfl
            rw [← hG, hG0] at hg ⊢
            clear hG hG0 HG
            go_wp2_with fail
            refine (gcd_good (nb.below (by first | exact Below.refl _ _ | go_grown)) (na.below (by first | exact Below.refl _ _ | go_grown)) Kb.out Ka.out).mono ?_
            rintro e w3 ⟨h', rfl, hh, hb⟩
            have hs : Below w2.heap.size w2 w3 := step (by first | exact Below.refl _ _ | go_grown) hb
            replace na := na.below hs
            replace nb := nb.below hs
            replace uc := uc.below hs
            replace hg := hg.below hs
            replace hB := from_ hB hs
            clear hb hs
            go_wp2_with fail
            refine (same_num (hg.below (by first | exact Below.refl _ _ | go_grown)) (hh.below (by first | exact Below.refl _ _ | go_grown)) Hcm.out.symm).mono ?_
            rintro e w4 ⟨rfl, hb⟩
            have hs : Below w3.heap.size w3 w4 := step (by first | exact Below.refl _ _ | go_grown) hb
            clear hh
            replace na := na.below hs
            replace nb := nb.below hs
            replace uc := uc.below hs
            replace hg := hg.below hs
            replace hB := from_ hB hs
            clear hb hs
            go_wp2_with fail
            refine (errX_eq (na.below (by first | exact Below.refl _ _ | go_grown)) (uc.below (by first | exact Below.refl _ _ | go_grown)) Ka.out X1.out).mono ?_
            rintro e w5 ⟨q1, rfl, hb⟩
            have hs : Below w4.heap.size w4 w5 := step (by first | exact Below.refl _ _ | go_grown) hb
            replace na := na.below hs
            replace nb := nb.below hs
            replace uc := uc.below hs
            replace hg := hg.below hs
            replace hB := from_ hB hs
            clear hb hs
            go_wp2_with fail
            refine (errX_eq (nb.below (by first | exact Below.refl _ _ | go_grown)) (uc.below (by first | exact Below.refl _ _ | go_grown)) Kb.out X2.out).mono ?_
            rintro e w6 ⟨q2, rfl, hb⟩
            have hs : Below w5.heap.size w5 w6 := step (by first | exact Below.refl _ _ | go_grown) hb
            replace na := na.below hs
            replace nb := nb.below hs
            replace uc := uc.below hs
            replace hg := hg.below hs
            replace hB := from_ hB hs
            clear hb hs
            go_wp2_with fail
            refine (errX_eq (hg.below (by first | exact Below.refl _ _ | go_grown)) (uc.below (by first | exact Below.refl _ _ | go_grown)) Kg.out X3.out).mono ?_
            rintro e w7 ⟨q3, rfl, hb⟩
            have hs : Below w6.heap.size w6 w7 := step (by first | exact Below.refl _ _ | go_grown) hb
            replace na := na.below hs
            replace nb := nb.below hs
            replace uc := uc.below hs
            replace hg := hg.below hs
            replace hB := from_ hB hs
            clear hb hs
            go_wp2
            go_ret
            exact ⟨rfl, hB⟩
        · have hX := errX_gcd (val la) (val lb) lc
          have hcomm := Nat.gcd_comm (val lb) (val la)
          have lg := len_gcdN (val la) (val lb)
          have hpg : 0 < Nat.gcd (val la) (val lb) := by omega
          have hgl : 0 < (limbs (Nat.gcd (val la) (val lb))).length := len_pos.2 h00
          obtain ⟨x0, y0, hx0, hy0, h1g⟩ := gcd_parts h00
          have hsum : (((la.length : Int) + (lb.length : Int)) == 0) = false := beq_eq_false_iff_ne.2 (fun h => h00 (by
            have h1 : la.length = 0 := by omega
            have h2 : lb.length = 0 := by omega
            have h3 : val la = 0 := by rw [List.length_eq_zero_iff.1 h1]; rfl
            have h4 : val lb = 0 := by rw [List.length_eq_zero_iff.1 h2]; rfl
            rw [h3, h4]; rfl))
          have lx : (limbs x0).length ≤ 20 := Nat.le_trans (len_mono (Nat.le_trans (Nat.le_mul_of_pos_right x0 hpg) (Nat.le_of_eq hx0.symm))) ka
          have ly : (limbs y0).length ≤ 20 := Nat.le_trans (len_mono (Nat.le_trans (Nat.le_mul_of_pos_right y0 hpg) (Nat.le_of_eq hy0.symm))) kb
          have hna : ∀ w1 v, IsN w1 old v (val la) → IsN w1 old v (x0 * Nat.gcd (val la) (val lb)) := fun w1 v h => by rwa [← hx0]
          have hnb : ∀ w1 v, IsN w1 old v (val lb) → IsN w1 old v (y0 * Nat.gcd (val la) (val lb)) := fun w1 v h => by rwa [← hy0]
          have kxa : (limbs (x0 * Nat.gcd (val la) (val lb))).length ≤ 20 := by rw [← hx0]; exact ka
          have kyb : (limbs (y0 * Nat.gcd (val la) (val lb))).length ≤ 20 := by rw [← hy0]; exact kb
          have Hna := Lib.hid hna
          have Hnb := Lib.hid hnb
          have H1g := Lib.hid h1g
          have Kxa := Lib.hid kxa
          have Kyb := Lib.hid kyb
          have Lx := Lib.hid lx
          have Ly := Lib.hid ly
          clear hx0 hy0 h1g lx ly hna hnb kxa kyb h00
          have Ka := Lib.hid (show (limbs (val la)).length ≤ 20000 by omega)
          have Kb := Lib.hid (show (limbs (val lb)).length ≤ 20000 by omega)
          have Kg := Lib.hid (show (limbs (Nat.gcd (val la) (val lb))).length ≤ 20000 by omega)
          have Hcm := Lib.hid hcomm
          clear ka kb lg hcomm
          rcases hX with ⟨hx1, hx2, hx3⟩ | ⟨hx1, hx3⟩ | ⟨hx1, hx2, hx3⟩
          · have X1 := Lib.hid hx1
            have X2 := Lib.hid hx2
            have X3 := Lib.hid hx3
            clear hx1 hx2 hx3
            clear ga gb ea eb ua ub
            generalize val la = m at *
            generalize val lb = n at *
            go_enter Tryd.func3, Tryd.ntmps3
            go_wp2_with fail
            refine (alive4 (ht.below (by first | exact Below.refl _ _ | go_grown))).mono ?_
            rintro e w1 ⟨rfl, hb⟩
            have hs : Below w.heap.size w w1 := step (by first | exact Below.refl _ _ | go_grown) hb
            replace na := na.below hs
            replace nb := nb.below hs
            replace uc := uc.below hs
            have hB := hs
            clear hb hs
            go_wp2_with fail
            refine (gcd_good (na.below (by first | exact Below.refl _ _ | go_grown)) (nb.below (by first | exact Below.refl _ _ | go_grown)) Ka.out Kb.out).mono ?_
            rintro e w2 ⟨_, rfl, ⟨Ag, cg, rfl, hug⟩, hb⟩
            have hs : Below w1.heap.size w1 w2 := step (by first | exact Below.refl _ _ | go_grown) hb
            replace na := na.below hs
            replace nb := nb.below hs
            replace uc := uc.below hs
            replace hB := from_ hB hs
            clear hb hs
            have hg : IsN w2 old (.slice Ag (limbs (Nat.gcd m n)).length cg) (Nat.gcd m n) := ⟨Ag, cg, rfl, hug.mono (le_old _)⟩
            clear hug
            obtain ⟨G, hG⟩ : ∃ G, G = (limbs (Nat.gcd m n)).length := ⟨_, rfl⟩
            have HG := Lib.hid hG
            have hG1 : 0 < G := by rw [hG]; exact hgl
            have hG2 : ((G : Int) == 0) = false := beq_eq_false_iff_ne.2 (by omega)
            have hG3 : decide ((0 : Int) < (G : Int)) = true := decide_eq_true (by omega)
            rw [← hG] at hg ⊢
            clear hG hgl
            go_wp2_with fail
            refine (gcd_good (nb.below (by first | exact Below.refl _ _ | go_grown)) (na.below (by first | exact Below.refl _ _ | go_grown)) Kb.out Ka.out).mono ?_
            rintro e w3 ⟨h', rfl, hh, hb⟩
            have hs : Below w2.heap.size w2 w3 := step (by first | exact Below.refl _ _ | go_grown) hb
            replace na := na.below hs
            replace nb := nb.below hs
            replace uc := uc.below hs
            replace hg := hg.below hs
            replace hB := from_ hB hs
            clear hb hs
            go_wp2_with fail
            refine (same_num (hg.below (by first | exact Below.refl _ _ | go_grown)) (hh.below (by first | exact Below.refl _ _ | go_grown)) Hcm.out.symm).mono ?_
            rintro e w4 ⟨rfl, hb⟩
            have hs : Below w3.heap.size w3 w4 := step (by first | exact Below.refl _ _ | go_grown) hb
            clear hh
            replace na := na.below hs
            replace nb := nb.below hs
            replace uc := uc.below hs
            replace hg := hg.below hs
            replace hB := from_ hB hs
            clear hb hs
            go_wp2_with fail
            refine (dexact_mul (Hna.out _ _ (na.below (by first | exact Below.refl _ _ | go_grown))) (hg.below (by first | exact Below.refl _ _ | go_grown)) hpg (by have := Kxa.out; omega)).mono ?_
            rintro e w5 ⟨vx, rfl, hx, hb⟩
            have hs : Below w4.heap.size w4 w5 := step (by first | exact Below.refl _ _ | go_grown) hb
            replace na := na.below hs
            replace nb := nb.below hs
            replace uc := uc.below hs
            replace hg := hg.below hs
            replace hB := from_ hB hs
            clear hb hs
            go_wp2_with fail
            refine (dexact_mul (Hnb.out _ _ (nb.below (by first | exact Below.refl _ _ | go_grown))) (hg.below (by first | exact Below.refl _ _ | go_grown)) hpg (by have := Kyb.out; omega)).mono ?_
            rintro e w6 ⟨vy, rfl, hy, hb⟩
            have hs : Below w5.heap.size w5 w6 := step (by first | exact Below.refl _ _ | go_grown) hb
            replace na := na.below hs
            replace nb := nb.below hs
            replace uc := uc.below hs
            replace hg := hg.below hs
            replace hx := hx.below hs
            replace hB := from_ hB hs
            clear hb hs
            go_wp2_with fail
            refine (gcd_good (hx.below (by first | exact Below.refl _ _ | go_grown)) (hy.below (by first | exact Below.refl _ _ | go_grown)) (by have := Lx.out; omega) (by have := Ly.out; omega)).mono ?_
            rintro e w7 ⟨v1, rfl, h1, hb⟩
            have hs : Below w6.heap.size w6 w7 := step (by first | exact Below.refl _ _ | go_grown) hb
            replace na := na.below hs
            replace nb := nb.below hs
            replace uc := uc.below hs
            replace hg := hg.below hs
            replace hx := hx.below hs
            replace hy := hy.below hs
            replace hB := from_ hB hs
            clear hb hs
            go_wp2_with fail
            refine (same_num (h1.below (by first | exact Below.refl _ _ | go_grown)) (isN_one (x := 1) (by omega) (by omega) (by first | (refine cell_newest ?_ rfl; simp; done) | (simp; done) | (refine keepA (cell_newest ?_ rfl); simp; done))) H1g.out).mono ?_
            rintro e w8 ⟨rfl, hb⟩
            have hs : Below w7.heap.size w7 w8 := step (by first | exact Below.refl _ _ | go_grown) hb
            clear hx hy h1
            replace na := na.below hs
            replace nb := nb.below hs
            replace uc := uc.below hs
            replace hg := hg.below hs
            replace hB := from_ hB hs
            clear hb hs
            go_wp2_with fail
            refine (errX_eq (na.below (by first | exact Below.refl _ _ | go_grown)) (uc.below (by first | exact Below.refl _ _ | go_grown)) Ka.out X1.out).mono ?_
            rintro e w9 ⟨q1, rfl, hb⟩
            have hs : Below w8.heap.size w8 w9 := step (by first | exact Below.refl _ _ | go_grown) hb
            replace na := na.below hs
            replace nb := nb.below hs
            replace uc := uc.below hs
            replace hg := hg.below hs
            replace hB := from_ hB hs
            clear hb hs
            go_wp2_with fail
            refine (errX_eq (nb.below (by first | exact Below.refl _ _ | go_grown)) (uc.below (by first | exact Below.refl _ _ | go_grown)) Kb.out X2.out).mono ?_
            rintro e w10 ⟨q2, rfl, hb⟩
            have hs : Below w9.heap.size w9 w10 := step (by first | exact Below.refl _ _ | go_grown) hb
            replace na := na.below hs
            replace nb := nb.below hs
            replace uc := uc.below hs
            replace hg := hg.below hs
            replace hB := from_ hB hs
            clear hb hs
            go_wp2_with fail
            refine (errX_eq (hg.below (by first | exact Below.refl _ _ | go_grown)) (uc.below (by first | exact Below.refl _ _ | go_grown)) Kg.out X3.out).mono ?_
            rintro e w11 ⟨q3, rfl, hb⟩
            have hs : Below w10.heap.size w10 w11 := step (by first | exact Below.refl _ _ | go_grown) hb
            replace na := na.below hs
            replace nb := nb.below hs
            replace uc := uc.below hs
            replace hg := hg.below hs
            replace hB := from_ hB hs
            clear hb hs
            go_wp2
            go_ret
            exact ⟨rfl, hB⟩
          · obtain ⟨E1, e1⟩ : ∃ E, E = errX (limbs (val la)) lc := ⟨_, rfl⟩
            obtain ⟨E2, e2⟩ : ∃ E, E = errX (limbs (val lb)) lc := ⟨_, rfl⟩
            obtain ⟨E3, e3⟩ : ∃ E, E = errX (limbs (Nat.gcd (val la) (val lb))) lc := ⟨_, rfl⟩
            rw [← e1] at hx1
            rw [← e3] at hx3
            have X1 := Lib.hid e1.symm
            have X2 := Lib.hid e2.symm
            have X3 := Lib.hid e3.symm
            clear e1 e2 e3
            clear ga gb ea eb ua ub
            generalize val la = m at *
            generalize val lb = n at *
            go_enter Tryd.func3, Tryd.ntmps3
            go_wp2_with fail
            refine (alive4 (ht.below (by first | exact Below.refl _ _ | go_grown))).mono ?_
            rintro e w1 ⟨rfl, hb⟩
            have hs : Below w.heap.size w w1 := step (by first | exact Below.refl _ _ | go_grown) hb
            replace na := na.below hs
            replace nb := nb.below hs
            replace uc := uc.below hs
            have hB := hs
            clear hb hs
            go_wp2_with fail
            refine (gcd_good (na.below (by first | exact Below.refl _ _ | go_grown)) (nb.below (by first | exact Below.refl _ _ | go_grown)) Ka.out Kb.out).mono ?_
            rintro e w2 ⟨_, rfl, ⟨Ag, cg, rfl, hug⟩, hb⟩
            have hs : Below w1.heap.size w1 w2 := step (by first | exact Below.refl _ _ | go_grown) hb
            replace na := na.below hs
            replace nb := nb.below hs
            replace uc := uc.below hs
            replace hB := from_ hB hs
            clear hb hs
            have hg : IsN w2 old (.slice Ag (limbs (Nat.gcd m n)).length cg) (Nat.gcd m n) := ⟨Ag, cg, rfl, hug.mono (le_old _)⟩
            clear hug
            obtain ⟨G, hG⟩ : ∃ G, G = (limbs (Nat.gcd m n)).length := ⟨_, rfl⟩
            have HG := Lib.hid hG
            have hG1 : 0 < G := by rw [hG]; exact hgl
            have hG2 : ((G : Int) == 0) = false := beq_eq_false_iff_ne.2 (by omega)
            have hG3 : decide ((0 : Int) < (G : Int)) = true := decide_eq_true (by omega)
            rw [← hG] at hg ⊢
            clear hG hgl
            go_wp2_with fail
            refine (gcd_good (nb.below (by first | exact Below.refl _ _ | go_grown)) (na.below (by first | exact Below.refl _ _ | go_grown)) Kb.out Ka.out).mono ?_
            rintro e w3 ⟨h', rfl, hh, hb⟩
            have hs : Below w2.heap.size w2 w3 := step (by first | exact Below.refl _ _ | go_grown) hb
            replace na := na.below hs
            replace nb := nb.below hs
            replace uc := uc.below hs
            replace hg := hg.below hs
            replace hB := from_ hB hs
            clear hb hs
            go_wp2_with fail
            refine (same_num (hg.below (by first | exact Below.refl _ _ | go_grown)) (hh.below (by first | exact Below.refl _ _ | go_grown)) Hcm.out.symm).mono ?_
            rintro e w4 ⟨rfl, hb⟩
            have hs : Below w3.heap.size w3 w4 := step (by first | exact Below.refl _ _ | go_grown) hb
            clear hh
            replace na := na.below hs
            replace nb := nb.below hs
            replace uc := uc.below hs
            replace hg := hg.below hs
            replace hB := from_ hB hs
            clear hb hs
            go_wp2_with fail
            refine (dexact_mul (Hna.out _ _ (na.below (by first | exact Below.refl _ _ | go_grown))) (hg.below (by first | exact Below.refl _ _ | go_grown)) hpg (by have := Kxa.out; omega)).mono ?_
            rintro e w5 ⟨vx, rfl, hx, hb⟩
            have hs : Below w4.heap.size w4 w5 := step (by first | exact Below.refl _ _ | go_grown) hb
            replace na := na.below hs
            replace nb := nb.below hs
            replace uc := uc.below hs
            replace hg := hg.below hs
            replace hB := from_ hB hs
            clear hb hs
            go_wp2_with fail
            refine (dexact_mul (Hnb.out _ _ (nb.below (by first | exact Below.refl _ _ | go_grown))) (hg.below (by first | exact Below.refl _ _ | go_grown)) hpg (by have := Kyb.out; omega)).mono ?_
            rintro e w6 ⟨vy, rfl, hy, hb⟩
            have hs : Below w5.heap.size w5 w6 := step (by first | exact Below.refl _ _ | go_grown) hb
            replace na := na.below hs
            replace nb := nb.below hs
            replace uc := uc.below hs
            replace hg := hg.below hs
            replace hx := hx.below hs
            replace hB := from_ hB hs
            clear hb hs
            go_wp2_with fail
            refine (gcd_good (hx.below (by first | exact Below.refl _ _ | go_grown)) (hy.below (by first | exact Below.refl _ _ | go_grown)) (by have := Lx.out; omega) (by have := Ly.out; omega)).mono ?_
            rintro e w7 ⟨v1, rfl, h1, hb⟩
            have hs : Below w6.heap.size w6 w7 := step (by first | exact Below.refl _ _ | go_grown) hb
            replace na := na.below hs
            replace nb := nb.below hs
            replace uc := uc.below hs
            replace hg := hg.below hs
            replace hx := hx.below hs
            replace hy := hy.below hs
            replace hB := from_ hB hs
            clear hb hs
            go_wp2_with fail
            refine (same_num (h1.below (by first | exact Below.refl _ _ | go_grown)) (isN_one (x := 1) (by omega) (by omega) (by first | (refine cell_newest ?_ rfl; simp; done) | (simp; done) | (refine keepA (cell_newest ?_ rfl); simp; done))) H1g.out).mono ?_
            rintro e w8 ⟨rfl, hb⟩
            have hs : Below w7.heap.size w7 w8 := step (by first | exact Below.refl _ _ | go_grown) hb
            clear hx hy h1
            replace na := na.below hs
            replace nb := nb.below hs
            replace uc := uc.below hs
            replace hg := hg.below hs
            replace hB := from_ hB hs
            clear hb hs
            go_wp2_with fail
            refine (errX_eq (na.below (by first | exact Below.refl _ _ | go_grown)) (uc.below (by first | exact Below.refl _ _ | go_grown)) Ka.out X1.out).mono ?_
            rintro e w9 ⟨q1, rfl, hb⟩
            have hs : Below w8.heap.size w8 w9 := step (by first | exact Below.refl _ _ | go_grown) hb
            replace na := na.below hs
            replace nb := nb.below hs
            replace uc := uc.below hs
            replace hg := hg.below hs
            replace hB := from_ hB hs
            clear hb hs
            go_wp2_with fail
            refine (errX_eq (nb.below (by first | exact Below.refl _ _ | go_grown)) (uc.below (by first | exact Below.refl _ _ | go_grown)) Kb.out X2.out).mono ?_
            rintro e w10 ⟨q2, rfl, hb⟩
            have hs : Below w9.heap.size w9 w10 := step (by first | exact Below.refl _ _ | go_grown) hb
            replace na := na.below hs
            replace nb := nb.below hs
            replace uc := uc.below hs
            replace hg := hg.below hs
            replace hB := from_ hB hs
            clear hb hs
            go_wp2_with fail
            refine (errX_eq (hg.below (by first | exact Below.refl _ _ | go_grown)) (uc.below (by first | exact Below.refl _ _ | go_grown)) Kg.out X3.out).mono ?_
            rintro e w11 ⟨q3, rfl, hb⟩
            have hs : Below w10.heap.size w10 w11 := step (by first | exact Below.refl _ _ | go_grown) hb
            replace na := na.below hs
            replace nb := nb.below hs
            replace uc := uc.below hs
            replace hg := hg.below hs
            replace hB := from_ hB hs
            clear hb hs
            go_wp2
            go_ret
            exact ⟨rfl, hB⟩
          · obtain ⟨E2, e2⟩ : ∃ E, E = errX (limbs (val lb)) lc := ⟨_, rfl⟩
            obtain ⟨E3, e3⟩ : ∃ E, E = errX (limbs (Nat.gcd (val la) (val lb))) lc := ⟨_, rfl⟩
            rw [← e2] at hx2
            rw [← e3] at hx3
            have X1 := Lib.hid hx1
            have X2 := Lib.hid e2.symm
            have X3 := Lib.hid e3.symm
            clear e2 e3 hx1
            clear ga gb ea eb ua ub
            generalize val la = m at *
            generalize val lb = n at *
            go_enter Tryd.func3, Tryd.ntmps3
            go_wp2_with fail
            refine (alive4 (ht.below (by first | exact Below.refl _ _ | go_grown))).mono ?_
            rintro e w1 ⟨rfl, hb⟩
            have hs : Below w.heap.size w w1 := step (by first | exact Below.refl _ _ | go_grown) hb
            replace na := na.below hs
            replace nb := nb.below hs
            replace uc := uc.below hs
            have hB := hs
            clear hb hs
            go_wp2_with fail
            refine (gcd_good (na.below (by first | exact Below.refl _ _ | go_grown)) (nb.below (by first | exact Below.refl _ _ | go_grown)) Ka.out Kb.out).mono ?_
            rintro e w2 ⟨_, rfl, ⟨Ag, cg, rfl, hug⟩, hb⟩
            have hs : Below w1.heap.size w1 w2 := step (by first | exact Below.refl _ _ | go_grown) hb
            replace na := na.below hs
            replace nb := nb.below hs
            replace uc := uc.below hs
            replace hB := from_ hB hs
            clear hb hs
            have hg : IsN w2 old (.slice Ag (limbs (Nat.gcd m n)).length cg) (Nat.gcd m n) := ⟨Ag, cg, rfl, hug.mono (le_old _)⟩
            clear hug
            obtain ⟨G, hG⟩ : ∃ G, G = (limbs (Nat.gcd m n)).length := ⟨_, rfl⟩
            have HG := Lib.hid hG
            have hG1 : 0 < G := by rw [hG]; exact hgl
            have hG2 : ((G : Int) == 0) = false := beq_eq_false_iff_ne.2 (by omega)
            have hG3 : decide ((0 : Int) < (G : Int)) = true := decide_eq_true (by omega)
            rw [← hG] at hg ⊢
            clear hG hgl
            go_wp2_with fail
            refine (gcd_good (nb.below (by first | exact Below.refl _ _ | go_grown)) (na.below (by first | exact Below.refl _ _ | go_grown)) Kb.out Ka.out).mono ?_
            rintro e w3 ⟨h', rfl, hh, hb⟩
            have hs : Below w2.heap.size w2 w3 := step (by first | exact Below.refl _ _ | go_grown) hb
            replace na := na.below hs
            replace nb := nb.below hs
            replace uc := uc.below hs
            replace hg := hg.below hs
            replace hB := from_ hB hs
            clear hb hs
            go_wp2_with fail
            refine (same_num (hg.below (by first | exact Below.refl _ _ | go_grown)) (hh.below (by first | exact Below.refl _ _ | go_grown)) Hcm.out.symm).mono ?_
            rintro e w4 ⟨rfl, hb⟩
            have hs : Below w3.heap.size w3 w4 := step (by first | exact Below.refl _ _ | go_grown) hb
            clear hh
            replace na := na.below hs
            replace nb := nb.below hs
            replace uc := uc.below hs
            replace hg := hg.below hs
            replace hB := from_ hB hs
            clear hb hs
            go_wp2_with fail
            refine (dexact_mul (Hna.out _ _ (na.below (by first | exact Below.refl _ _ | go_grown))) (hg.below (by first | exact Below.refl _ _ | go_grown)) hpg (by have := Kxa.out; omega)).mono ?_
            rintro e w5 ⟨vx, rfl, hx, hb⟩
            have hs : Below w4.heap.size w4 w5 := step (by first | exact Below.refl _ _ | go_grown) hb
            replace na := na.below hs
            replace nb := nb.below hs
            replace uc := uc.below hs
            replace hg := hg.below hs
            replace hB := from_ hB hs
            clear hb hs
            go_wp2_with fail
            refine (dexact_mul (Hnb.out _ _ (nb.below (by first | exact Below.refl _ _ | go_grown))) (hg.below (by first | exact Below.refl _ _ | go_grown)) hpg (by have := Kyb.out; omega)).mono ?_
            rintro e w6 ⟨vy, rfl, hy, hb⟩
            have hs : Below w5.heap.size w5 w6 := step (by first | exact Below.refl _ _ | go_grown) hb
            replace na := na.below hs
            replace nb := nb.below hs
            replace uc := uc.below hs
            replace hg := hg.below hs
            replace hx := hx.below hs
            replace hB := from_ hB hs
            clear hb hs
            go_wp2_with fail
            refine (gcd_good (hx.below (by first | exact Below.refl _ _ | go_grown)) (hy.below (by first | exact Below.refl _ _ | go_grown)) (by have := Lx.out; omega) (by have := Ly.out; omega)).mono ?_
            rintro e w7 ⟨v1, rfl, h1, hb⟩
            have hs : Below w6.heap.size w6 w7 := step (by first | exact Below.refl _ _ | go_grown) hb
            replace na := na.below hs
            replace nb := nb.below hs
            replace uc := uc.below hs
            replace hg := hg.below hs
            replace hx := hx.below hs
            replace hy := hy.below hs
            replace hB := from_ hB hs
            clear hb hs
            go_wp2_with fail
            refine (same_num (h1.below (by first | exact Below.refl _ _ | go_grown)) (isN_one (x := 1) (by omega) (by omega) (by first | (refine cell_newest ?_ rfl; simp; done) | (simp; done) | (refine keepA (cell_newest ?_ rfl); simp; done))) H1g.out).mono ?_
            rintro e w8 ⟨rfl, hb⟩
            have hs : Below w7.heap.size w7 w8 := step (by first | exact Below.refl _ _ | go_grown) hb
            clear hx hy h1
            replace na := na.below hs
            replace nb := nb.below hs
            replace uc := uc.below hs
            replace hg := hg.below hs
            replace hB := from_ hB hs
            clear hb hs
            go_wp2_with fail
            refine (errX_eq (na.below (by first | exact Below.refl _ _ | go_grown)) (uc.below (by first | exact Below.refl _ _ | go_grown)) Ka.out X1.out).mono ?_
            rintro e w9 ⟨q1, rfl, hb⟩
            have hs : Below w8.heap.size w8 w9 := step (by first | exact Below.refl _ _ | go_grown) hb
            replace na := na.below hs
            replace nb := nb.below hs
            replace uc := uc.below hs
            replace hg := hg.below hs
            replace hB := from_ hB hs
            clear hb hs
            go_wp2_with fail
            refine (errX_eq (nb.below (by first | exact Below.refl _ _ | go_grown)) (uc.below (by first | exact Below.refl _ _ | go_grown)) Kb.out X2.out).mono ?_
            rintro e w10 ⟨q2, rfl, hb⟩
            have hs : Below w9.heap.size w9 w10 := step (by first | exact Below.refl _ _ | go_grown) hb
            replace na := na.below hs
            replace nb := nb.below hs
            replace uc := uc.below hs
            replace hg := hg.below hs
            replace hB := from_ hB hs
            clear hb hs
            go_wp2_with fail
            refine (errX_eq (hg.below (by first | exact Below.refl _ _ | go_grown)) (uc.below (by first | exact Below.refl _ _ | go_grown)) Kg.out X3.out).mono ?_
            rintro e w11 ⟨q3, rfl, hb⟩
            have hs : Below w10.heap.size w10 w11 := step (by first | exact Below.refl _ _ | go_grown) hb
            replace na := na.below hs
            replace nb := nb.below hs
            replace uc := uc.below hs
            replace hg := hg.below hs
            replace hB := from_ hB hs
            clear hb hs
            go_wp2
            go_ret
            exact ⟨rfl, hB⟩
      · have hg1 : ¬ (good la = true ∧ good lb = true) := fun h => by rw [gb] at h; cases h.2
        have hg2 : ¬ (good lb = true ∧ good la = true) := fun h => hg1 ⟨h.2, h.1⟩
        have Hg1 := Lib.hid hg1
        have Hg2 := Lib.hid hg2
        clear ga na ea
        clear hg1 hg2 gb
        go_enter Tryd.func3, Tryd.ntmps3
        go_wp2_with fail
        refine (alive4 (ht.below (by first | exact Below.refl _ _ | go_grown))).mono ?_
        rintro e w1 ⟨rfl, hb⟩
        have hs : Below w.heap.size w w1 := step (by first | exact Below.refl _ _ | go_grown) hb
        replace ua := ua.below hs
        replace ub := ub.below hs
        have hB := hs
        clear hb hs
        go_wp2_with fail
        refine (gcd_bad (ua.below (by first | exact Below.refl _ _ | go_grown)) (ub.below (by first | exact Below.refl _ _ | go_grown)) Hg1.out).mono ?_
        rintro e w2 ⟨rfl, hb⟩
        have hs : Below w1.heap.size w1 w2 := step (by first | exact Below.refl _ _ | go_grown) hb
        replace ua := ua.below hs
        replace ub := ub.below hs
        replace hB := from_ hB hs
        clear hb hs
        go_wp2_with fail
        refine (gcd_bad (ub.below (by first | exact Below.refl _ _ | go_grown)) (ua.below (by first | exact Below.refl _ _ | go_grown)) Hg2.out).mono ?_
        rintro e w3 ⟨rfl, hb⟩
        have hs : Below w2.heap.size w2 w3 := step (by first | exact Below.refl _ _ | go_grown) hb
        replace ua := ua.below hs
        replace ub := ub.below hs
        replace hB := from_ hB hs
        clear hb hs
        go_wp2
        go_ret
        exact ⟨rfl, hB⟩
    · have hg1 : ¬ (good la = true ∧ good lb = true) := fun h => by rw [ga] at h; cases h.1
      have hg2 : ¬ (good lb = true ∧ good la = true) := fun h => hg1 ⟨h.2, h.1⟩
      have Hg1 := Lib.hid hg1
      have Hg2 := Lib.hid hg2
      clear hg1 hg2 ga
      go_enter Tryd.func3, Tryd.ntmps3
      go_wp2_with fail
      refine (alive4 (ht.below (by first | exact Below.refl _ _ | go_grown))).mono ?_
      rintro e w1 ⟨rfl, hb⟩
      have hs : Below w.heap.size w w1 := step (by first | exact Below.refl _ _ | go_grown) hb
      replace ua := ua.below hs
      replace ub := ub.below hs
      have hB := hs
      clear hb hs
      go_wp2_with fail
      refine (gcd_bad (ua.below (by first | exact Below.refl _ _ | go_grown)) (ub.below (by first | exact Below.refl _ _ | go_grown)) Hg1.out).mono ?_
      rintro e w2 ⟨rfl, hb⟩
      have hs : Below w1.heap.size w1 w2 := step (by first | exact Below.refl _ _ | go_grown) hb
      replace ua := ua.below hs
      replace ub := ub.below hs
      replace hB := from_ hB hs
      clear hb hs
      go_wp2_with fail
      refine (gcd_bad (ub.below (by first | exact Below.refl _ _ | go_grown)) (ua.below (by first | exact Below.refl _ _ | go_grown)) Hg2.out).mono ?_
      rintro e w3 ⟨rfl, hb⟩
      have hs : Below w2.heap.size w2 w3 := step (by first | exact Below.refl _ _ | go_grown) hb
      replace ua := ua.below hs
      replace ub := ub.below hs
      replace hB := from_ hB hs
      clear hb hs
      go_wp2
      go_ret
      exact ⟨rfl, hB⟩
end Go.Proofs.YtbcplffdoejniaaDoor
