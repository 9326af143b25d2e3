/-
  The walk of DivTwice. No conditions.
-/
import Derived.Test.YthdmfggcfkeenaaYDivP
import Derived.Test.YthdmfggcfkeenaaYRefO
import Derived.Test.YthdmfggcfkeenaaYNatE
import Derived.Test.YthdmfggcfkeenaaYRefC
namespace Go.Proofs.Ythdmfggcfkeenaa
open Go.RowKit
set_option linter.unusedVariables false
set_option linter.unusedSimpArgs false

set_option maxRecDepth 100000 in
set_option maxHeartbeats 2000000 in
theorem lawDivTwice {w : World} {a b c : Value} {la lb lc : List Nat} {xi : Int} (ha : IsU w old a la) (hb : IsU w old b lb) (hc : IsU w old c lc) (hw : 0 ≤ xi ∧ xi ≤ 18446744073709551615) :
    Calls Try.prog 5 #[a, b, c, .int .u64 xi] w fun e w' => e = .returned (.bool true) ∧ Below w.heap.size w w' := by
  obtain ⟨A, ca, rfl, ha⟩ := ha
  have hla := ha.len
  have ua : IsU w old (.slice A la.length ca) la := ⟨A, ca, rfl, ha⟩
  clear ha
  obtain ⟨B, cb, rfl, hb⟩ := hb
  have hlb := hb.len
  have ub : IsU w old (.slice B lb.length cb) lb := ⟨B, cb, rfl, hb⟩
  clear hb
  obtain ⟨C, cc, rfl, hc⟩ := hc
  have hlc := hc.len
  have uc : IsU w old (.slice C lc.length cc) lc := ⟨C, cc, rfl, hc⟩
  clear hc
  obtain ⟨y0, rfl⟩ : ∃ k : Nat, xi = k := ⟨xi.toNat, by omega⟩
  replace hw : y0 < 18446744073709551616 := by omega
  have hcase : ((50 : Int) < (la.length : Int)) ∨ (decide ((50 : Int) < (la.length : Int)) = false ∧ (50 : Int) < (lb.length : Int)) ∨ (decide ((50 : Int) < (la.length : Int)) = false ∧ decide ((50 : Int) < (lb.length : Int)) = false ∧ (50 : Int) < (lc.length : Int)) ∨ (decide ((50 : Int) < (la.length : Int)) = false ∧ decide ((50 : Int) < (lb.length : Int)) = false ∧ decide ((50 : Int) < (lc.length : Int)) = false ∧ la.length ≤ 50 ∧ lb.length ≤ 50 ∧ lc.length ≤ 50) := by simp only [decide_eq_false_iff_not]; omega
  rcases hcase with t0 | ⟨t0, t1⟩ | ⟨t0, t1, t2⟩ | ⟨t0, t1, t2, h0, h1, h2⟩
  · go_enter Try.func5, Try.ntmps5
    go_wp2_with fail
    refine (alive3 _).mono ?_
    rintro e w1 ⟨rfl, hb⟩
    have hs : Below w.heap.size w w1 := step (by first | exact Below.refl _ _ | go_grown) hb
    have hB := hs
    clear hb hs
    go_wp2
    go_ret
    exact ⟨rfl, hB⟩
  · go_enter Try.func5, Try.ntmps5
    go_wp2_with fail
    refine (alive3 _).mono ?_
    rintro e w1 ⟨rfl, hb⟩
    have hs : Below w.heap.size w w1 := step (by first | exact Below.refl _ _ | go_grown) hb
    have hB := hs
    clear hb hs
    go_wp2
    go_ret
    exact ⟨rfl, hB⟩
  · go_enter Try.func5, Try.ntmps5
    go_wp2_with fail
    refine (alive3 _).mono ?_
    rintro e w1 ⟨rfl, hb⟩
    have hs : Below w.heap.size w w1 := step (by first | exact Below.refl _ _ | go_grown) hb
    have hB := hs
    clear hb hs
    go_wp2
    go_ret
    exact ⟨rfl, hB⟩
  · have hsa := ua.small
    have hsb := ub.small
    have hsc := uc.small
    have hof := fun (w1 : World) => of_any (w := w1) hw
    have hqs : (quoL la lb).length ≤ 50 := by
      unfold quoL
      split
      · exact Nat.le_trans (len_div _ _) (Nat.le_trans (len_val_le hsa) (by omega))
      · simp
    have hword := fun (w1 : World) (h : Below w.heap.size w w1) => dword_all (ua.below h) hw (by omega)
    have hRl := remW_limbs la y0
    have hrW : remW la y0 < 18446744073709551616 := by
      unfold remW
      split
      · rename_i h
        have h1 := (errD_zero h).2.2
        exact Nat.lt_trans (Nat.mod_lt _ (by
          rcases Nat.eq_zero_or_pos y0 with h2 | h2
          · rw [h2] at h1; simp [limbs_zero] at h1
          · exact h2)) hw
      · omega
    have hof2 := fun (w1 : World) => of_any (w := w1) hrW
    have hd1 := fun (w1 : World) (h : Below w.heap.size w w1) => ddiv_all (ua.below h) (ub.below h) (by omega)
    have hd2 : ∀ (w1 : World) Z1 Z2 q c', IsU w1 Z1 q (quoL la lb) → IsU w1 Z2 c' lc → _ := fun w1 Z1 Z2 q c' h1 h2 => ddiv_all h1 h2 (by omega)
    have hd3 : ∀ (w1 : World) Z1 Z2 a' c', IsU w1 Z1 a' la → IsU w1 Z2 c' (limbs y0) → _ := fun w1 Z1 Z2 a' c' h1 h2 => ddiv_all h1 h2 (by omega)
    have hfin : errD la lb = 0 → errD (quoL la lb) lc = 0 → ∃ m n k, IsN w old (.slice A la.length ca) m ∧ IsN w old (.slice B lb.length cb) n ∧ IsN w old (.slice C lc.length cc) k ∧ 0 < n ∧ 0 < k ∧ (limbs m).length ≤ 50 ∧ (limbs n).length ≤ 50 ∧ (limbs k).length ≤ 50 ∧ quoL (quoL la lb) lc = limbs (m / (n * k)) := fun h1 h2 => by
      obtain ⟨g1, g2, g3⟩ := errD_zero h1
      obtain ⟨_, g4, g5⟩ := errD_zero h2
      refine ⟨val la, val lb, val lc, ua.num g1, ub.num g2, uc.num g4, val_pos_of hsb g2 g3, val_pos_of hsc g4 g5, by rw [limbs_val la hsa g1]; omega, by rw [limbs_val lb hsb g2]; omega, by rw [limbs_val lc hsc g4]; omega, ?_⟩
      unfold quoL at h2 ⊢
      rw [if_pos h1] at h2 ⊢
      rw [if_pos h2, val_limbs, Nat.div_div_eq_div_mul]
    clear hsa hsb hsc
    generalize hEw : errD la (limbs y0) = Ew at *
    generalize hQw : quoL la (limbs y0) = Qw at *
    generalize hRw : remL la (limbs y0) = Rw at *
    generalize remW la y0 = rw0 at *
    rw [hRl] at hd3
    have Hof := Lib.hid hof
    have Hof2 := Lib.hid hof2
    have Hword := Lib.hid hword
    have Hd3 := Lib.hid hd3
    clear hof hof2 hword hd3 hRl hEw hQw hRw hqs
    have hcases : errD la lb = 0 ∨ (errD la lb != 0) = true := by
      by_cases h : errD la lb = 0
      · exact .inl h
      · exact .inr (by simpa using h)
    have hcases2 : errD (quoL la lb) lc = 0 ∨ (errD (quoL la lb) lc != 0) = true := by
      by_cases h : errD (quoL la lb) lc = 0
      · exact .inl h
      · exact .inr (by simpa using h)
    have hcw : (Ew == 0) = true ∨ (Ew == 0) = false := by cases (Ew == 0) <;> simp
    rcases hcw with hw0 | hw0
    · rcases hcases with h1 | h1
      · rcases hcases2 with h2 | h2
        · obtain ⟨m, n, k, na, nb, nc, hn0, hk0, s1, s2, s3, hfq⟩ := hfin h1 h2
          rw [h1] at hd1
          rw [h2, hfq] at hd2
          have l1 := len_mul n k
          have hnk : 0 < n * k := Nat.mul_pos hn0 hk0
          have Hd1 := Lib.hid hd1
          have Hd2 := Lib.hid hd2
          clear hd1 hd2
          have Hfq := Lib.hid hfq
          clear hfq hfin
          clear h1
          clear h2
          obtain rfl : Ew = 0 := by simpa using hw0
          clear hw0
          generalize quoL la lb = Q1 at *
          go_enter Try.func5, Try.ntmps5
          go_wp2_with fail
          refine (alive3 _).mono ?_
          rintro e w1 ⟨rfl, hb⟩
          have hs : Below w.heap.size w w1 := step (by first | exact Below.refl _ _ | go_grown) hb
          replace ua := ua.below hs
          replace ub := ub.below hs
          replace uc := uc.below hs
          replace na := na.below hs
          replace nb := nb.below hs
          replace nc := nc.below hs
          have hB := hs
          clear hb hs
          go_wp2_with fail
          refine (Hd1.out _ (by first | exact hB | exact hB.trans (by first | exact Below.refl _ _ | go_grown))).mono ?_
          rintro e w2 ⟨q, r1, rfl, hq, hr1, hb⟩
          have hs : Below w1.heap.size w1 w2 := step (by first | exact Below.refl _ _ | go_grown) hb
          replace ua := ua.below hs
          replace ub := ub.below hs
          replace uc := uc.below hs
          replace na := na.below hs
          replace nb := nb.below hs
          replace nc := nc.below hs
          replace hB := from_ hB hs
          clear hb hs
          go_wp2_with fail
          refine (Hd2.out _ _ _ _ _ (hq.below (by first | exact Below.refl _ _ | go_grown)) (uc.below (by first | exact Below.refl _ _ | go_grown))).mono ?_
          rintro e w3 ⟨p, r2, rfl, hp, hr2, hb⟩
          have hs : Below w2.heap.size w2 w3 := step (by first | exact Below.refl _ _ | go_grown) hb
          replace ua := ua.below hs
          replace ub := ub.below hs
          replace uc := uc.below hs
          replace na := na.below hs
          replace nb := nb.below hs
          replace nc := nc.below hs
          replace hq := hq.below hs
          replace hB := from_ hB hs
          clear hb hs
          go_wp2_with fail
          refine (Hword.out _ (by first | exact hB | exact hB.trans (by first | exact Below.refl _ _ | go_grown))).mono ?_
          rintro e w4 ⟨x, rfl, hx, hb⟩
          have hs : Below w3.heap.size w3 w4 := step (by first | exact Below.refl _ _ | go_grown) hb
          replace ua := ua.below hs
          replace ub := ub.below hs
          replace uc := uc.below hs
          replace na := na.below hs
          replace nb := nb.below hs
          replace nc := nc.below hs
          replace hq := hq.below hs
          replace hp := hp.below hs
          replace hB := from_ hB hs
          clear hb hs
          go_wp2_with fail
          refine (Hof.out _).mono ?_
          rintro e w5 ⟨yv, rfl, hyv, hb⟩
          have hs : Below w4.heap.size w4 w5 := step (by first | exact Below.refl _ _ | go_grown) hb
          replace ua := ua.below hs
          replace ub := ub.below hs
          replace uc := uc.below hs
          replace na := na.below hs
          replace nb := nb.below hs
          replace nc := nc.below hs
          replace hq := hq.below hs
          replace hp := hp.below hs
          replace hx := hx.below hs
          replace hB := from_ hB hs
          clear hb hs
          go_wp2_with fail
          refine (Hd3.out _ _ _ _ _ (ua.below (by first | exact Below.refl _ _ | go_grown)) (hyv.below (by first | exact Below.refl _ _ | go_grown))).mono ?_
          rintro e w6 ⟨y1, s1', rfl, hy1, hs1, hb⟩
          have hs : Below w5.heap.size w5 w6 := step (by first | exact Below.refl _ _ | go_grown) hb
          replace ua := ua.below hs
          replace ub := ub.below hs
          replace uc := uc.below hs
          replace na := na.below hs
          replace nb := nb.below hs
          replace nc := nc.below hs
          replace hq := hq.below hs
          replace hp := hp.below hs
          replace hx := hx.below hs
          replace hyv := hyv.below hs
          replace hB := from_ hB hs
          clear hb hs
          go_wp2_with fail
          refine (same_yes (hx.below (by first | exact Below.refl _ _ | go_grown)) (hy1.below (by first | exact Below.refl _ _ | go_grown))).mono ?_
          rintro e w7 ⟨rfl, hb⟩
          have hs : Below w6.heap.size w6 w7 := step (by first | exact Below.refl _ _ | go_grown) hb
          replace ua := ua.below hs
          replace ub := ub.below hs
          replace uc := uc.below hs
          replace na := na.below hs
          replace nb := nb.below hs
          replace nc := nc.below hs
          replace hq := hq.below hs
          replace hp := hp.below hs
          replace hx := hx.below hs
          replace hyv := hyv.below hs
          replace hy1 := hy1.below hs
          replace hs1 := hs1.below hs
          replace hB := from_ hB hs
          clear hb hs
          go_wp2_with fail
          refine (Hof2.out _).mono ?_
          rintro e w8 ⟨rv, rfl, hrv, hb⟩
          have hs : Below w7.heap.size w7 w8 := step (by first | exact Below.refl _ _ | go_grown) hb
          replace ua := ua.below hs
          replace ub := ub.below hs
          replace uc := uc.below hs
          replace na := na.below hs
          replace nb := nb.below hs
          replace nc := nc.below hs
          replace hq := hq.below hs
          replace hp := hp.below hs
          replace hx := hx.below hs
          replace hyv := hyv.below hs
          replace hy1 := hy1.below hs
          replace hs1 := hs1.below hs
          replace hB := from_ hB hs
          clear hb hs
          go_wp2_with fail
          refine (same_yes (hrv.below (by first | exact Below.refl _ _ | go_grown)) (hs1.below (by first | exact Below.refl _ _ | go_grown))).mono ?_
          rintro e w9 ⟨rfl, hb⟩
          have hs : Below w8.heap.size w8 w9 := step (by first | exact Below.refl _ _ | go_grown) hb
          replace ua := ua.below hs
          replace ub := ub.below hs
          replace uc := uc.below hs
          replace na := na.below hs
          replace nb := nb.below hs
          replace nc := nc.below hs
          replace hq := hq.below hs
          replace hp := hp.below hs
          replace hx := hx.below hs
          replace hyv := hyv.below hs
          replace hy1 := hy1.below hs
          replace hs1 := hs1.below hs
          replace hrv := hrv.below hs
          replace hB := from_ hB hs
          clear hb hs
          go_wp2_with fail
          refine (rtimes_good (nb.below (by first | exact Below.refl _ _ | go_grown)) (nc.below (by first | exact Below.refl _ _ | go_grown)) (by omega) (by omega)).mono ?_
          rintro e w10 ⟨t, rfl, ht, hb⟩
          have hs : Below w9.heap.size w9 w10 := step (by first | exact Below.refl _ _ | go_grown) hb
          replace ua := ua.below hs
          replace ub := ub.below hs
          replace uc := uc.below hs
          replace na := na.below hs
          replace nb := nb.below hs
          replace nc := nc.below hs
          replace hq := hq.below hs
          replace hp := hp.below hs
          replace hx := hx.below hs
          replace hyv := hyv.below hs
          replace hy1 := hy1.below hs
          replace hs1 := hs1.below hs
          replace hrv := hrv.below hs
          replace hB := from_ hB hs
          clear hb hs
          go_wp2_with fail
          refine (ddiv_good (na.below (by first | exact Below.refl _ _ | go_grown)) (ht.below (by first | exact Below.refl _ _ | go_grown)) hnk (by omega)).mono ?_
          rintro e w11 ⟨z, r3, rfl, hz, hr3, hb⟩
          have hs : Below w10.heap.size w10 w11 := step (by first | exact Below.refl _ _ | go_grown) hb
          replace ua := ua.below hs
          replace ub := ub.below hs
          replace uc := uc.below hs
          replace na := na.below hs
          replace nb := nb.below hs
          replace nc := nc.below hs
          replace hq := hq.below hs
          replace hp := hp.below hs
          replace hx := hx.below hs
          replace hyv := hyv.below hs
          replace hy1 := hy1.below hs
          replace hs1 := hs1.below hs
          replace hrv := hrv.below hs
          replace ht := ht.below hs
          replace hB := from_ hB hs
          clear hb hs
          go_wp2_with fail
          refine (same_yes (hz.below (by first | exact Below.refl _ _ | go_grown)) (hp.below (by first | exact Below.refl _ _ | go_grown))).mono ?_
          rintro e w12 ⟨rfl, hb⟩
          have hs : Below w11.heap.size w11 w12 := step (by first | exact Below.refl _ _ | go_grown) hb
          replace ua := ua.below hs
          replace ub := ub.below hs
          replace uc := uc.below hs
          replace na := na.below hs
          replace nb := nb.below hs
          replace nc := nc.below hs
          replace hq := hq.below hs
          replace hp := hp.below hs
          replace hx := hx.below hs
          replace hyv := hyv.below hs
          replace hy1 := hy1.below hs
          replace hs1 := hs1.below hs
          replace hrv := hrv.below hs
          replace ht := ht.below hs
          replace hz := hz.below hs
          replace hB := from_ hB hs
          clear hb hs
          go_wp2
          go_ret
          exact ⟨rfl, hB⟩
        · rw [h1] at hd1
          clear hfin
          have Hd1 := Lib.hid hd1
          have Hd2 := Lib.hid hd2
          clear hd1 hd2
          clear h1
          generalize errD (quoL la lb) lc = E2 at *
          obtain rfl : Ew = 0 := by simpa using hw0
          clear hw0
          generalize quoL la lb = Q1 at *
          go_enter Try.func5, Try.ntmps5
          go_wp2_with fail
          refine (alive3 _).mono ?_
          rintro e w1 ⟨rfl, hb⟩
          have hs : Below w.heap.size w w1 := step (by first | exact Below.refl _ _ | go_grown) hb
          replace ua := ua.below hs
          replace ub := ub.below hs
          replace uc := uc.below hs
          have hB := hs
          clear hb hs
          go_wp2_with fail
          refine (Hd1.out _ (by first | exact hB | exact hB.trans (by first | exact Below.refl _ _ | go_grown))).mono ?_
          rintro e w2 ⟨q, r1, rfl, hq, hr1, hb⟩
          have hs : Below w1.heap.size w1 w2 := step (by first | exact Below.refl _ _ | go_grown) hb
          replace ua := ua.below hs
          replace ub := ub.below hs
          replace uc := uc.below hs
          replace hB := from_ hB hs
          clear hb hs
          go_wp2_with fail
          refine (Hd2.out _ _ _ _ _ (hq.below (by first | exact Below.refl _ _ | go_grown)) (uc.below (by first | exact Below.refl _ _ | go_grown))).mono ?_
          rintro e w3 ⟨p, r2, rfl, hp, hr2, hb⟩
          have hs : Below w2.heap.size w2 w3 := step (by first | exact Below.refl _ _ | go_grown) hb
          replace ua := ua.below hs
          replace ub := ub.below hs
          replace uc := uc.below hs
          replace hq := hq.below hs
          replace hB := from_ hB hs
          clear hb hs
          go_wp2_with fail
          refine (Hword.out _ (by first | exact hB | exact hB.trans (by first | exact Below.refl _ _ | go_grown))).mono ?_
          rintro e w4 ⟨x, rfl, hx, hb⟩
          have hs : Below w3.heap.size w3 w4 := step (by first | exact Below.refl _ _ | go_grown) hb
          replace ua := ua.below hs
          replace ub := ub.below hs
          replace uc := uc.below hs
          replace hq := hq.below hs
          replace hp := hp.below hs
          replace hB := from_ hB hs
          clear hb hs
          go_wp2_with fail
          refine (Hof.out _).mono ?_
          rintro e w5 ⟨yv, rfl, hyv, hb⟩
          have hs : Below w4.heap.size w4 w5 := step (by first | exact Below.refl _ _ | go_grown) hb
          replace ua := ua.below hs
          replace ub := ub.below hs
          replace uc := uc.below hs
          replace hq := hq.below hs
          replace hp := hp.below hs
          replace hx := hx.below hs
          replace hB := from_ hB hs
          clear hb hs
          go_wp2_with fail
          refine (Hd3.out _ _ _ _ _ (ua.below (by first | exact Below.refl _ _ | go_grown)) (hyv.below (by first | exact Below.refl _ _ | go_grown))).mono ?_
          rintro e w6 ⟨y1, s1', rfl, hy1, hs1, hb⟩
          have hs : Below w5.heap.size w5 w6 := step (by first | exact Below.refl _ _ | go_grown) hb
          replace ua := ua.below hs
          replace ub := ub.below hs
          replace uc := uc.below hs
          replace hq := hq.below hs
          replace hp := hp.below hs
          replace hx := hx.below hs
          replace hyv := hyv.below hs
          replace hB := from_ hB hs
          clear hb hs
          go_wp2_with fail
          refine (same_yes (hx.below (by first | exact Below.refl _ _ | go_grown)) (hy1.below (by first | exact Below.refl _ _ | go_grown))).mono ?_
          rintro e w7 ⟨rfl, hb⟩
          have hs : Below w6.heap.size w6 w7 := step (by first | exact Below.refl _ _ | go_grown) hb
          replace ua := ua.below hs
          replace ub := ub.below hs
          replace uc := uc.below hs
          replace hq := hq.below hs
          replace hp := hp.below hs
          replace hx := hx.below hs
          replace hyv := hyv.below hs
          replace hy1 := hy1.below hs
          replace hs1 := hs1.below hs
          replace hB := from_ hB hs
          clear hb hs
          go_wp2_with fail
          refine (Hof2.out _).mono ?_
          rintro e w8 ⟨rv, rfl, hrv, hb⟩
          have hs : Below w7.heap.size w7 w8 := step (by first | exact Below.refl _ _ | go_grown) hb
          replace ua := ua.below hs
          replace ub := ub.below hs
          replace uc := uc.below hs
          replace hq := hq.below hs
          replace hp := hp.below hs
          replace hx := hx.below hs
          replace hyv := hyv.below hs
          replace hy1 := hy1.below hs
          replace hs1 := hs1.below hs
          replace hB := from_ hB hs
          clear hb hs
          go_wp2_with fail
          refine (same_yes (hrv.below (by first | exact Below.refl _ _ | go_grown)) (hs1.below (by first | exact Below.refl _ _ | go_grown))).mono ?_
          rintro e w9 ⟨rfl, hb⟩
          have hs : Below w8.heap.size w8 w9 := step (by first | exact Below.refl _ _ | go_grown) hb
          replace ua := ua.below hs
          replace ub := ub.below hs
          replace uc := uc.below hs
          replace hq := hq.below hs
          replace hp := hp.below hs
          replace hx := hx.below hs
          replace hyv := hyv.below hs
          replace hy1 := hy1.below hs
          replace hs1 := hs1.below hs
          replace hrv := hrv.below hs
          replace hB := from_ hB hs
          clear hb hs
          go_wp2
          go_ret
          exact ⟨rfl, hB⟩
      · clear hfin
        have Hd1 := Lib.hid hd1
        have Hd2 := Lib.hid hd2
        clear hd1 hd2
        generalize errD la lb = E1 at *
        generalize errD (quoL la lb) lc = E2 at *
        obtain rfl : Ew = 0 := by simpa using hw0
        clear hw0
        generalize quoL la lb = Q1 at *
        go_enter Try.func5, Try.ntmps5
        go_wp2_with fail
        refine (alive3 _).mono ?_
        rintro e w1 ⟨rfl, hb⟩
        have hs : Below w.heap.size w w1 := step (by first | exact Below.refl _ _ | go_grown) hb
        replace ua := ua.below hs
        replace ub := ub.below hs
        replace uc := uc.below hs
        have hB := hs
        clear hb hs
        go_wp2_with fail
        refine (Hd1.out _ (by first | exact hB | exact hB.trans (by first | exact Below.refl _ _ | go_grown))).mono ?_
        rintro e w2 ⟨q, r1, rfl, hq, hr1, hb⟩
        have hs : Below w1.heap.size w1 w2 := step (by first | exact Below.refl _ _ | go_grown) hb
        replace ua := ua.below hs
        replace ub := ub.below hs
        replace uc := uc.below hs
        replace hB := from_ hB hs
        clear hb hs
        go_wp2_with fail
        refine (Hd2.out _ _ _ _ _ (hq.below (by first | exact Below.refl _ _ | go_grown)) (uc.below (by first | exact Below.refl _ _ | go_grown))).mono ?_
        rintro e w3 ⟨p, r2, rfl, hp, hr2, hb⟩
        have hs : Below w2.heap.size w2 w3 := step (by first | exact Below.refl _ _ | go_grown) hb
        replace ua := ua.below hs
        replace ub := ub.below hs
        replace uc := uc.below hs
        replace hq := hq.below hs
        replace hB := from_ hB hs
        clear hb hs
        go_wp2_with fail
        refine (Hword.out _ (by first | exact hB | exact hB.trans (by first | exact Below.refl _ _ | go_grown))).mono ?_
        rintro e w4 ⟨x, rfl, hx, hb⟩
        have hs : Below w3.heap.size w3 w4 := step (by first | exact Below.refl _ _ | go_grown) hb
        replace ua := ua.below hs
        replace ub := ub.below hs
        replace uc := uc.below hs
        replace hq := hq.below hs
        replace hp := hp.below hs
        replace hB := from_ hB hs
        clear hb hs
        go_wp2_with fail
        refine (Hof.out _).mono ?_
        rintro e w5 ⟨yv, rfl, hyv, hb⟩
        have hs : Below w4.heap.size w4 w5 := step (by first | exact Below.refl _ _ | go_grown) hb
        replace ua := ua.below hs
        replace ub := ub.below hs
        replace uc := uc.below hs
        replace hq := hq.below hs
        replace hp := hp.below hs
        replace hx := hx.below hs
        replace hB := from_ hB hs
        clear hb hs
        go_wp2_with fail
        refine (Hd3.out _ _ _ _ _ (ua.below (by first | exact Below.refl _ _ | go_grown)) (hyv.below (by first | exact Below.refl _ _ | go_grown))).mono ?_
        rintro e w6 ⟨y1, s1', rfl, hy1, hs1, hb⟩
        have hs : Below w5.heap.size w5 w6 := step (by first | exact Below.refl _ _ | go_grown) hb
        replace ua := ua.below hs
        replace ub := ub.below hs
        replace uc := uc.below hs
        replace hq := hq.below hs
        replace hp := hp.below hs
        replace hx := hx.below hs
        replace hyv := hyv.below hs
        replace hB := from_ hB hs
        clear hb hs
        go_wp2_with fail
        refine (same_yes (hx.below (by first | exact Below.refl _ _ | go_grown)) (hy1.below (by first | exact Below.refl _ _ | go_grown))).mono ?_
        rintro e w7 ⟨rfl, hb⟩
        have hs : Below w6.heap.size w6 w7 := step (by first | exact Below.refl _ _ | go_grown) hb
        replace ua := ua.below hs
        replace ub := ub.below hs
        replace uc := uc.below hs
        replace hq := hq.below hs
        replace hp := hp.below hs
        replace hx := hx.below hs
        replace hyv := hyv.below hs
        replace hy1 := hy1.below hs
        replace hs1 := hs1.below hs
        replace hB := from_ hB hs
        clear hb hs
        go_wp2_with fail
        refine (Hof2.out _).mono ?_
        rintro e w8 ⟨rv, rfl, hrv, hb⟩
        have hs : Below w7.heap.size w7 w8 := step (by first | exact Below.refl _ _ | go_grown) hb
        replace ua := ua.below hs
        replace ub := ub.below hs
        replace uc := uc.below hs
        replace hq := hq.below hs
        replace hp := hp.below hs
        replace hx := hx.below hs
        replace hyv := hyv.below hs
        replace hy1 := hy1.below hs
        replace hs1 := hs1.below hs
        replace hB := from_ hB hs
        clear hb hs
        go_wp2_with fail
        refine (same_yes (hrv.below (by first | exact Below.refl _ _ | go_grown)) (hs1.below (by first | exact Below.refl _ _ | go_grown))).mono ?_
        rintro e w9 ⟨rfl, hb⟩
        have hs : Below w8.heap.size w8 w9 := step (by first | exact Below.refl _ _ | go_grown) hb
        replace ua := ua.below hs
        replace ub := ub.below hs
        replace uc := uc.below hs
        replace hq := hq.below hs
        replace hp := hp.below hs
        replace hx := hx.below hs
        replace hyv := hyv.below hs
        replace hy1 := hy1.below hs
        replace hs1 := hs1.below hs
        replace hrv := hrv.below hs
        replace hB := from_ hB hs
        clear hb hs
        go_wp2
        go_ret
        exact ⟨rfl, hB⟩
    · rcases hcases with h1 | h1
      · rcases hcases2 with h2 | h2
        · obtain ⟨m, n, k, na, nb, nc, hn0, hk0, s1, s2, s3, hfq⟩ := hfin h1 h2
          rw [h1] at hd1
          rw [h2, hfq] at hd2
          have l1 := len_mul n k
          have hnk : 0 < n * k := Nat.mul_pos hn0 hk0
          have Hd1 := Lib.hid hd1
          have Hd2 := Lib.hid hd2
          clear hd1 hd2
          have Hfq := Lib.hid hfq
          clear hfq hfin
          clear h1
          clear h2
          generalize quoL la lb = Q1 at *
          go_enter Try.func5, Try.ntmps5
          go_wp2_with fail
          refine (alive3 _).mono ?_
          rintro e w1 ⟨rfl, hb⟩
          have hs : Below w.heap.size w w1 := step (by first | exact Below.refl _ _ | go_grown) hb
          replace ua := ua.below hs
          replace ub := ub.below hs
          replace uc := uc.below hs
          replace na := na.below hs
          replace nb := nb.below hs
          replace nc := nc.below hs
          have hB := hs
          clear hb hs
          go_wp2_with fail
          refine (Hd1.out _ (by first | exact hB | exact hB.trans (by first | exact Below.refl _ _ | go_grown))).mono ?_
          rintro e w2 ⟨q, r1, rfl, hq, hr1, hb⟩
          have hs : Below w1.heap.size w1 w2 := step (by first | exact Below.refl _ _ | go_grown) hb
          replace ua := ua.below hs
          replace ub := ub.below hs
          replace uc := uc.below hs
          replace na := na.below hs
          replace nb := nb.below hs
          replace nc := nc.below hs
          replace hB := from_ hB hs
          clear hb hs
          go_wp2_with fail
          refine (Hd2.out _ _ _ _ _ (hq.below (by first | exact Below.refl _ _ | go_grown)) (uc.below (by first | exact Below.refl _ _ | go_grown))).mono ?_
          rintro e w3 ⟨p, r2, rfl, hp, hr2, hb⟩
          have hs : Below w2.heap.size w2 w3 := step (by first | exact Below.refl _ _ | go_grown) hb
          replace ua := ua.below hs
          replace ub := ub.below hs
          replace uc := uc.below hs
          replace na := na.below hs
          replace nb := nb.below hs
          replace nc := nc.below hs
          replace hq := hq.below hs
          replace hB := from_ hB hs
          clear hb hs
          go_wp2_with fail
          refine (Hword.out _ (by first | exact hB | exact hB.trans (by first | exact Below.refl _ _ | go_grown))).mono ?_
          rintro e w4 ⟨x, rfl, hx, hb⟩
          have hs : Below w3.heap.size w3 w4 := step (by first | exact Below.refl _ _ | go_grown) hb
          replace ua := ua.below hs
          replace ub := ub.below hs
          replace uc := uc.below hs
          replace na := na.below hs
          replace nb := nb.below hs
          replace nc := nc.below hs
          replace hq := hq.below hs
          replace hp := hp.below hs
          replace hB := from_ hB hs
          clear hb hs
          go_wp2_with fail
          refine (Hof.out _).mono ?_
          rintro e w5 ⟨yv, rfl, hyv, hb⟩
          have hs : Below w4.heap.size w4 w5 := step (by first | exact Below.refl _ _ | go_grown) hb
          replace ua := ua.below hs
          replace ub := ub.below hs
          replace uc := uc.below hs
          replace na := na.below hs
          replace nb := nb.below hs
          replace nc := nc.below hs
          replace hq := hq.below hs
          replace hp := hp.below hs
          replace hx := hx.below hs
          replace hB := from_ hB hs
          clear hb hs
          go_wp2_with fail
          refine (Hd3.out _ _ _ _ _ (ua.below (by first | exact Below.refl _ _ | go_grown)) (hyv.below (by first | exact Below.refl _ _ | go_grown))).mono ?_
          rintro e w6 ⟨y1, s1', rfl, hy1, hs1, hb⟩
          have hs : Below w5.heap.size w5 w6 := step (by first | exact Below.refl _ _ | go_grown) hb
          replace ua := ua.below hs
          replace ub := ub.below hs
          replace uc := uc.below hs
          replace na := na.below hs
          replace nb := nb.below hs
          replace nc := nc.below hs
          replace hq := hq.below hs
          replace hp := hp.below hs
          replace hx := hx.below hs
          replace hyv := hyv.below hs
          replace hB := from_ hB hs
          clear hb hs
          go_wp2_with fail
          refine (rtimes_good (nb.below (by first | exact Below.refl _ _ | go_grown)) (nc.below (by first | exact Below.refl _ _ | go_grown)) (by omega) (by omega)).mono ?_
          rintro e w7 ⟨t, rfl, ht, hb⟩
          have hs : Below w6.heap.size w6 w7 := step (by first | exact Below.refl _ _ | go_grown) hb
          replace ua := ua.below hs
          replace ub := ub.below hs
          replace uc := uc.below hs
          replace na := na.below hs
          replace nb := nb.below hs
          replace nc := nc.below hs
          replace hq := hq.below hs
          replace hp := hp.below hs
          replace hx := hx.below hs
          replace hyv := hyv.below hs
          replace hy1 := hy1.below hs
          replace hs1 := hs1.below hs
          replace hB := from_ hB hs
          clear hb hs
          go_wp2_with fail
          refine (ddiv_good (na.below (by first | exact Below.refl _ _ | go_grown)) (ht.below (by first | exact Below.refl _ _ | go_grown)) hnk (by omega)).mono ?_
          rintro e w8 ⟨z, r3, rfl, hz, hr3, hb⟩
          have hs : Below w7.heap.size w7 w8 := step (by first | exact Below.refl _ _ | go_grown) hb
          replace ua := ua.below hs
          replace ub := ub.below hs
          replace uc := uc.below hs
          replace na := na.below hs
          replace nb := nb.below hs
          replace nc := nc.below hs
          replace hq := hq.below hs
          replace hp := hp.below hs
          replace hx := hx.below hs
          replace hyv := hyv.below hs
          replace hy1 := hy1.below hs
          replace hs1 := hs1.below hs
          replace ht := ht.below hs
          replace hB := from_ hB hs
          clear hb hs
          go_wp2_with fail
          refine (same_yes (hz.below (by first | exact Below.refl _ _ | go_grown)) (hp.below (by first | exact Below.refl _ _ | go_grown))).mono ?_
          rintro e w9 ⟨rfl, hb⟩
          have hs : Below w8.heap.size w8 w9 := step (by first | exact Below.refl _ _ | go_grown) hb
          replace ua := ua.below hs
          replace ub := ub.below hs
          replace uc := uc.below hs
          replace na := na.below hs
          replace nb := nb.below hs
          replace nc := nc.below hs
          replace hq := hq.below hs
          replace hp := hp.below hs
          replace hx := hx.below hs
          replace hyv := hyv.below hs
          replace hy1 := hy1.below hs
          replace hs1 := hs1.below hs
          replace ht := ht.below hs
          replace hz := hz.below hs
          replace hB := from_ hB hs
          clear hb hs
          go_wp2
          go_ret
          exact ⟨rfl, hB⟩
        · rw [h1] at hd1
          clear hfin
          have Hd1 := Lib.hid hd1
          have Hd2 := Lib.hid hd2
          clear hd1 hd2
          clear h1
          generalize errD (quoL la lb) lc = E2 at *
          generalize quoL la lb = Q1 at *
          go_enter Try.func5, Try.ntmps5
          go_wp2_with fail
          refine (alive3 _).mono ?_
          rintro e w1 ⟨rfl, hb⟩
          have hs : Below w.heap.size w w1 := step (by first | exact Below.refl _ _ | go_grown) hb
          replace ua := ua.below hs
          replace ub := ub.below hs
          replace uc := uc.below hs
          have hB := hs
          clear hb hs
          go_wp2_with fail
          refine (Hd1.out _ (by first | exact hB | exact hB.trans (by first | exact Below.refl _ _ | go_grown))).mono ?_
          rintro e w2 ⟨q, r1, rfl, hq, hr1, hb⟩
          have hs : Below w1.heap.size w1 w2 := step (by first | exact Below.refl _ _ | go_grown) hb
          replace ua := ua.below hs
          replace ub := ub.below hs
          replace uc := uc.below hs
          replace hB := from_ hB hs
          clear hb hs
          go_wp2_with fail
          refine (Hd2.out _ _ _ _ _ (hq.below (by first | exact Below.refl _ _ | go_grown)) (uc.below (by first | exact Below.refl _ _ | go_grown))).mono ?_
          rintro e w3 ⟨p, r2, rfl, hp, hr2, hb⟩
          have hs : Below w2.heap.size w2 w3 := step (by first | exact Below.refl _ _ | go_grown) hb
          replace ua := ua.below hs
          replace ub := ub.below hs
          replace uc := uc.below hs
          replace hq := hq.below hs
          replace hB := from_ hB hs
          clear hb hs
          go_wp2_with fail
          refine (Hword.out _ (by first | exact hB | exact hB.trans (by first | exact Below.refl _ _ | go_grown))).mono ?_
          rintro e w4 ⟨x, rfl, hx, hb⟩
          have hs : Below w3.heap.size w3 w4 := step (by first | exact Below.refl _ _ | go_grown) hb
          replace ua := ua.below hs
          replace ub := ub.below hs
          replace uc := uc.below hs
          replace hq := hq.below hs
          replace hp := hp.below hs
          replace hB := from_ hB hs
          clear hb hs
          go_wp2_with fail
          refine (Hof.out _).mono ?_
          rintro e w5 ⟨yv, rfl, hyv, hb⟩
          have hs : Below w4.heap.size w4 w5 := step (by first | exact Below.refl _ _ | go_grown) hb
          replace ua := ua.below hs
          replace ub := ub.below hs
          replace uc := uc.below hs
          replace hq := hq.below hs
          replace hp := hp.below hs
          replace hx := hx.below hs
          replace hB := from_ hB hs
          clear hb hs
          go_wp2_with fail
          refine (Hd3.out _ _ _ _ _ (ua.below (by first | exact Below.refl _ _ | go_grown)) (hyv.below (by first | exact Below.refl _ _ | go_grown))).mono ?_
          rintro e w6 ⟨y1, s1', rfl, hy1, hs1, hb⟩
          have hs : Below w5.heap.size w5 w6 := step (by first | exact Below.refl _ _ | go_grown) hb
          replace ua := ua.below hs
          replace ub := ub.below hs
          replace uc := uc.below hs
          replace hq := hq.below hs
          replace hp := hp.below hs
          replace hx := hx.below hs
          replace hyv := hyv.below hs
          replace hB := from_ hB hs
          clear hb hs
          go_wp2
          go_ret
          exact ⟨rfl, hB⟩
      · clear hfin
        have Hd1 := Lib.hid hd1
        have Hd2 := Lib.hid hd2
        clear hd1 hd2
        generalize errD la lb = E1 at *
        generalize errD (quoL la lb) lc = E2 at *
        generalize quoL la lb = Q1 at *
        go_enter Try.func5, Try.ntmps5
        go_wp2_with fail
        refine (alive3 _).mono ?_
        rintro e w1 ⟨rfl, hb⟩
        have hs : Below w.heap.size w w1 := step (by first | exact Below.refl _ _ | go_grown) hb
        replace ua := ua.below hs
        replace ub := ub.below hs
        replace uc := uc.below hs
        have hB := hs
        clear hb hs
        go_wp2_with fail
        refine (Hd1.out _ (by first | exact hB | exact hB.trans (by first | exact Below.refl _ _ | go_grown))).mono ?_
        rintro e w2 ⟨q, r1, rfl, hq, hr1, hb⟩
        have hs : Below w1.heap.size w1 w2 := step (by first | exact Below.refl _ _ | go_grown) hb
        replace ua := ua.below hs
        replace ub := ub.below hs
        replace uc := uc.below hs
        replace hB := from_ hB hs
        clear hb hs
        go_wp2_with fail
        refine (Hd2.out _ _ _ _ _ (hq.below (by first | exact Below.refl _ _ | go_grown)) (uc.below (by first | exact Below.refl _ _ | go_grown))).mono ?_
        rintro e w3 ⟨p, r2, rfl, hp, hr2, hb⟩
        have hs : Below w2.heap.size w2 w3 := step (by first | exact Below.refl _ _ | go_grown) hb
        replace ua := ua.below hs
        replace ub := ub.below hs
        replace uc := uc.below hs
        replace hq := hq.below hs
        replace hB := from_ hB hs
        clear hb hs
        go_wp2_with fail
        refine (Hword.out _ (by first | exact hB | exact hB.trans (by first | exact Below.refl _ _ | go_grown))).mono ?_
        rintro e w4 ⟨x, rfl, hx, hb⟩
        have hs : Below w3.heap.size w3 w4 := step (by first | exact Below.refl _ _ | go_grown) hb
        replace ua := ua.below hs
        replace ub := ub.below hs
        replace uc := uc.below hs
        replace hq := hq.below hs
        replace hp := hp.below hs
        replace hB := from_ hB hs
        clear hb hs
        go_wp2_with fail
        refine (Hof.out _).mono ?_
        rintro e w5 ⟨yv, rfl, hyv, hb⟩
        have hs : Below w4.heap.size w4 w5 := step (by first | exact Below.refl _ _ | go_grown) hb
        replace ua := ua.below hs
        replace ub := ub.below hs
        replace uc := uc.below hs
        replace hq := hq.below hs
        replace hp := hp.below hs
        replace hx := hx.below hs
        replace hB := from_ hB hs
        clear hb hs
        go_wp2_with fail
        refine (Hd3.out _ _ _ _ _ (ua.below (by first | exact Below.refl _ _ | go_grown)) (hyv.below (by first | exact Below.refl _ _ | go_grown))).mono ?_
        rintro e w6 ⟨y1, s1', rfl, hy1, hs1, hb⟩
        have hs : Below w5.heap.size w5 w6 := step (by first | exact Below.refl _ _ | go_grown) hb
        replace ua := ua.below hs
        replace ub := ub.below hs
        replace uc := uc.below hs
        replace hq := hq.below hs
        replace hp := hp.below hs
        replace hx := hx.below hs
        replace hyv := hyv.below hs
        replace hB := from_ hB hs
        clear hb hs
        go_wp2
        go_ret
        exact ⟨rfl, hB⟩
end Go.Proofs.Ythdmfggcfkeenaa
