/-
  The walk of MulLong. No conditions.
-/
import Derived.Test.YthdmfggcfkeenaaMulF
import Derived.Test.YthdmfggcfkeenaaNatH
namespace Go.Proofs.Ythdmfggcfkeenaa
open Go.RowKit
set_option linter.unusedVariables false
set_option linter.unusedSimpArgs false

theorem size_mul {m n : Nat} (hm : m ≠ 0) (hn : n ≠ 0) : size (m * n) = size m + size n ∨ size (m * n) + 1 = size m + size n := by
  have h1 := lt_size m
  have h2 := lt_size n
  have h3 := size_le hm
  have h4 := size_le hn
  have p1 := size_pos hm
  have p2 := size_pos hn
  have h5 : size (m * n) ≤ size m + size n := size_le_of (by
    rw [Nat.pow_add]
    exact Nat.mul_lt_mul'' h1 h2)
  have h6 : size m - 1 + (size n - 1) < size (m * n) := le_size_of (by
    rw [Nat.pow_add]
    exact Nat.mul_le_mul h3 h4)
  omega

theorem long_cases (m n : Nat) (hm : (limbs m).length ≤ 200) (hn : (limbs n).length ≤ 200) : ∃ sa sb sx : Int, Hid ((size m : Int) = sa) ∧ Hid ((size n : Int) = sb) ∧ Hid ((size (m * n) : Int) = sx) ∧ (0 ≤ sa ∧ sa ≤ 12800) ∧ (0 ≤ sb ∧ sb ≤ 12800) ∧ (0 ≤ sx ∧ sx ≤ 25600) ∧
    ((sa = 0 ∧ sx = 0) ∨ ((sa == 0) = false ∧ sb = 0 ∧ sx = 0) ∨ ((sa == 0) = false ∧ (sb == 0) = false ∧ sa + sb = sx) ∨ ((sa == 0) = false ∧ (sb == 0) = false ∧ ∃ t, sa + sb = t ∧ (sx == t) = false ∧ t - 1 = sx)) := by
  have h1 := size_len m
  have h2 := size_len n
  refine ⟨_, _, _, Lib.hid rfl, Lib.hid rfl, Lib.hid rfl, by omega, by omega, ?_, ?_⟩
  · by_cases h0 : m = 0
    · subst h0; simp [size_zero]
    · by_cases h0' : n = 0
      · subst h0'; simp [size_zero]
      · have := size_mul h0 h0'
        omega
  · by_cases h0 : m = 0
    · left
      subst h0
      simp [size_zero]
    · right
      have p1 := size_pos h0
      by_cases h0' : n = 0
      · left
        subst h0'
        exact ⟨beq_eq_false_iff_ne.2 (by omega), by simp [size_zero], by simp [size_zero]⟩
      · right
        have p2 := size_pos h0'
        rcases size_mul h0 h0' with h | h
        · exact .inl ⟨beq_eq_false_iff_ne.2 (by omega), beq_eq_false_iff_ne.2 (by omega), by omega⟩
        · exact .inr ⟨beq_eq_false_iff_ne.2 (by omega), beq_eq_false_iff_ne.2 (by omega), _, rfl, beq_eq_false_iff_ne.2 (by omega), by omega⟩

set_option maxRecDepth 100000 in
set_option maxHeartbeats 2000000 in
theorem lawMulLong {w : World} {a b : Value} {la lb : List Nat} {bits : Int} (ha : IsU w old a la) (hb : IsU w old b lb) (hbits : 0 ≤ bits ∧ bits ≤ 65535) :
    Calls Try.prog 4 #[a, b, .int .u16 bits] w fun e w' => e = .returned (.bool true) ∧ Below w.heap.size w w' := by
  obtain ⟨A, ca, rfl, ha⟩ := ha
  have hla := ha.len
  have ua : IsU w old (.slice A la.length ca) la := ⟨A, ca, rfl, ha⟩
  clear ha
  obtain ⟨B, cb, rfl, hb⟩ := hb
  have hlb := hb.len
  have ub : IsU w old (.slice B lb.length cb) lb := ⟨B, cb, rfl, hb⟩
  clear hb
  obtain ⟨c, hc⟩ : ∃ c : Nat, bits % 2001 = c := ⟨(bits % 2001).toNat, by omega⟩
  have hc2 : c ≤ 2000 := by omega
  have hcase : ((200 : Int) < (la.length : Int)) ∨ (decide ((200 : Int) < (la.length : Int)) = false ∧ (200 : Int) < (lb.length : Int)) ∨ (decide ((200 : Int) < (la.length : Int)) = false ∧ decide ((200 : Int) < (lb.length : Int)) = false ∧ la.length ≤ 200 ∧ lb.length ≤ 200) := by simp only [decide_eq_false_iff_not]; omega
  rcases hcase with t0 | ⟨t0, t1⟩ | ⟨t0, t1, h0, h1⟩
  · go_enter Try.func4, Try.ntmps4
    go_wp2_with fail
    refine (alive2 _).mono ?_
    rintro e w1 ⟨rfl, hb⟩
    have hs : Below w.heap.size w w1 := step (by first | exact Below.refl _ _ | go_grown) hb
    have hB := hs
    clear hb hs
    go_wp2
    go_ret
    exact ⟨rfl, hB⟩
  · go_enter Try.func4, Try.ntmps4
    go_wp2_with fail
    refine (alive2 _).mono ?_
    rintro e w1 ⟨rfl, hb⟩
    have hs : Below w.heap.size w w1 := step (by first | exact Below.refl _ _ | go_grown) hb
    have hB := hs
    clear hb hs
    go_wp2
    go_ret
    exact ⟨rfl, hB⟩
  · by_cases hbad : good la = false ∨ good lb = false
    · have Hbad := Lib.hid hbad
      clear hbad hla hlb
      go_enter Try.func4, Try.ntmps4
      go_wp2_with fail
      refine (alive2 _).mono ?_
      rintro e w1 ⟨rfl, hb⟩
      have hs : Below w.heap.size w w1 := step (by first | exact Below.refl _ _ | go_grown) hb
      replace ua := ua.below hs
      replace ub := ub.below hs
      have hB := hs
      clear hb hs
      go_wp2_with fail
      refine (mul_bad (ua.below (by first | exact Below.refl _ _ | go_grown)) (ub.below (by first | exact Below.refl _ _ | go_grown)) Hbad.out).mono ?_
      rintro e _ ⟨rfl, rfl⟩
      go_wp2
      go_ret
      exact ⟨rfl, hB⟩
    · have ga : good la = true := by cases h : good la <;> simp_all
      have gb : good lb = true := by cases h : good lb <;> simp_all
      have na := ua.num ga
      have nb := ub.num gb
      have ea : (limbs (val la)).length = la.length := by rw [limbs_val la ua.small ga]
      have eb : (limbs (val lb)).length = lb.length := by rw [limbs_val lb ub.small gb]
      have ka : (limbs (val la)).length ≤ 200 := by omega
      have kb : (limbs (val lb)).length ≤ 200 := by omega
      have kx := len_mul (val la) (val lb)
      have kt := len_shift 1 c
      have k1 : (limbs 1).length ≤ 1 := len_in 1 (by omega) (by omega)
      obtain ⟨sa, sb, sx, Ha, Hb, Hx, b1, b2, b3, hcase⟩ := long_cases (val la) (val lb) (by omega) (by omega)
      clear ga gb hbad ea eb ua ub hla hlb
      rcases hcase with ⟨rfl, rfl⟩ | ⟨d1, rfl, rfl⟩ | ⟨d1, d2, d3⟩ | ⟨d1, d2, t, d3, d4, d5⟩
      all_goals
        go_enter Try.func4, Try.ntmps4
        go_wp2_with fail
        refine (alive2 _).mono ?_
        rintro e w1 ⟨rfl, hb⟩
        have hs : Below w.heap.size w w1 := step (by first | exact Below.refl _ _ | go_grown) hb
        replace na := na.below hs
        replace nb := nb.below hs
        have hB := hs
        clear hb hs
        go_wp2_with fail
        refine (mul_good (na.below (by first | exact Below.refl _ _ | go_grown)) (nb.below (by first | exact Below.refl _ _ | go_grown)) (by omega) (by omega)).mono ?_
        rintro e w2 ⟨x, rfl, hx, hb⟩
        have hs : Below w1.heap.size w1 w2 := step (by first | exact Below.refl _ _ | go_grown) hb
        replace na := na.below hs
        replace nb := nb.below hs
        replace hB := from_ hB hs
        clear hb hs
        go_wp2_with fail
        refine (long_lit (na.below (by first | exact Below.refl _ _ | go_grown)) (by omega) Ha.out).mono ?_
        rintro e _ ⟨rfl, rfl⟩
        go_wp2_with fail
        refine (long_lit (nb.below (by first | exact Below.refl _ _ | go_grown)) (by omega) Hb.out).mono ?_
        rintro e _ ⟨rfl, rfl⟩
        go_wp2_with fail
        refine (long_lit (hx.below (by first | exact Below.refl _ _ | go_grown)) (by omega) Hx.out).mono ?_
        rintro e _ ⟨rfl, rfl⟩
        go_wp2_with fail
        refine (up_good (b := c) (isN_one (x := 1) (by omega) (by omega) (by first | (simp; done) | exact cell_newest (by simp) rfl)) (by omega) (by omega)).mono ?_
        rintro e w3 ⟨two, rfl, ht, hb⟩
        have hs : Below w2.heap.size w2 w3 := step (by first | exact Below.refl _ _ | go_grown) hb
        replace na := na.below hs
        replace nb := nb.below hs
        replace hx := hx.below hs
        replace hB := from_ hB hs
        clear hb hs
        go_wp2_with fail
        refine (mul_good (na.below (by first | exact Below.refl _ _ | go_grown)) (ht.below (by first | exact Below.refl _ _ | go_grown)) (by omega) (by omega)).mono ?_
        rintro e w4 ⟨y, rfl, hy, hb⟩
        have hs : Below w3.heap.size w3 w4 := step (by first | exact Below.refl _ _ | go_grown) hb
        replace na := na.below hs
        replace nb := nb.below hs
        replace hx := hx.below hs
        replace ht := ht.below hs
        replace hB := from_ hB hs
        clear hb hs
        go_wp2_with fail
        refine (up_good (b := c) (na.below (by first | exact Below.refl _ _ | go_grown)) (by omega) (by omega)).mono ?_
        rintro e w5 ⟨z, rfl, hz, hb⟩
        have hs : Below w4.heap.size w4 w5 := step (by first | exact Below.refl _ _ | go_grown) hb
        replace na := na.below hs
        replace nb := nb.below hs
        replace hx := hx.below hs
        replace ht := ht.below hs
        replace hy := hy.below hs
        replace hB := from_ hB hs
        clear hb hs
        go_wp2_with fail
        refine (same_num (hy.below (by first | exact Below.refl _ _ | go_grown)) (hz.below (by first | exact Below.refl _ _ | go_grown)) (by rw [Nat.one_mul])).mono ?_
        rintro e w6 ⟨rfl, hb⟩
        have hs : Below w5.heap.size w5 w6 := step (by first | exact Below.refl _ _ | go_grown) hb
        replace na := na.below hs
        replace nb := nb.below hs
        replace hx := hx.below hs
        replace ht := ht.below hs
        replace hy := hy.below hs
        replace hz := hz.below hs
        replace hB := from_ hB hs
        clear hb hs
        go_wp2
        go_ret
        exact ⟨rfl, hB⟩
end Go.Proofs.Ythdmfggcfkeenaa
