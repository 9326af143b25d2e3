/-
  The walk of GcdProduct. The one premise: the table of powers of ten reads as it is laid. No conditions.
-/
import Derived.Test.YtbcplffdoejniaaDoorGGcdE
namespace Go.Proofs.YtbcplffdoejniaaDoor
open Go.RowKit
set_option linter.unusedVariables false
set_option linter.unusedSimpArgs false

set_option maxRecDepth 100000 in
set_option maxHeartbeats 2000000 in
theorem lawGcdProduct {w : World} {a b c : Value} {la lb lc : List Nat} (ha : IsU w old a la) (hb : IsU w old b lb) (hc : IsU w old c lc) (ht : Tab w) :
    Calls Tryd.prog 4 #[a, b, c] w fun e w' => e = .returned (.bool true) ∧ Below w.heap.size w w' := by
  obtain ⟨A, ca, rfl, ha⟩ := ha
  have hla := ha.len
  have ua : IsU w old (.slice A la.length ca) la := ⟨A, ca, rfl, ha⟩
  clear ha
  obtain ⟨B, cb, rfl, hb⟩ := hb
  have hlb := hb.len
  have ub : IsU w old (.slice B lb.length cb) lb := ⟨B, cb, rfl, hb⟩
  clear hb
  obtain ⟨C, cc, rfl, hc⟩ := hc
  have hlc := hc.len
  have uc : IsU w old (.slice C lc.length cc) lc := ⟨C, cc, rfl, hc⟩
  clear hc
  have hcase : ((10 : Int) < (la.length : Int)) ∨ (decide ((10 : Int) < (la.length : Int)) = false ∧ (10 : Int) < (lb.length : Int)) ∨ (decide ((10 : Int) < (la.length : Int)) = false ∧ decide ((10 : Int) < (lb.length : Int)) = false ∧ (10 : Int) < (lc.length : Int)) ∨ (decide ((10 : Int) < (la.length : Int)) = false ∧ decide ((10 : Int) < (lb.length : Int)) = false ∧ decide ((10 : Int) < (lc.length : Int)) = false ∧ la.length ≤ 10 ∧ lb.length ≤ 10 ∧ lc.length ≤ 10) := by simp only [decide_eq_false_iff_not]; omega
  rcases hcase with t0 | ⟨t0, t1⟩ | ⟨t0, t1, t2⟩ | ⟨t0, t1, t2, h0, h1, h2⟩
  · go_enter Tryd.func4, Tryd.ntmps4
    go_wp2_with fail
    refine (alive4 (ht.below (by first | exact Below.refl _ _ | go_grown))).mono ?_
    rintro e w1 ⟨rfl, hb⟩
    have hs : Below w.heap.size w w1 := step (by first | exact Below.refl _ _ | go_grown) hb
    have hB := hs
    clear hb hs
    go_wp2
    go_ret
    exact ⟨rfl, hB⟩
  · go_enter Tryd.func4, Tryd.ntmps4
    go_wp2_with fail
    refine (alive4 (ht.below (by first | exact Below.refl _ _ | go_grown))).mono ?_
    rintro e w1 ⟨rfl, hb⟩
    have hs : Below w.heap.size w w1 := step (by first | exact Below.refl _ _ | go_grown) hb
    have hB := hs
    clear hb hs
    go_wp2
    go_ret
    exact ⟨rfl, hB⟩
  · go_enter Tryd.func4, Tryd.ntmps4
    go_wp2_with fail
    refine (alive4 (ht.below (by first | exact Below.refl _ _ | go_grown))).mono ?_
    rintro e w1 ⟨rfl, hb⟩
    have hs : Below w.heap.size w w1 := step (by first | exact Below.refl _ _ | go_grown) hb
    have hB := hs
    clear hb hs
    go_wp2
    go_ret
    exact ⟨rfl, hB⟩
  · rcases ua.decN with ⟨ga, na, ea⟩ | ga
    · rcases ub.decN with ⟨gb, nb, eb⟩ | gb
      · rcases uc.decN with ⟨gc, nc, ec⟩ | gc
        · have ka : (limbs (val la)).length ≤ 10 := by omega
          have kb : (limbs (val lb)).length ≤ 10 := by omega
          have kc : (limbs (val lc)).length ≤ 10 := by omega
          clear ea ga ua eb gb ub ec gc uc
          generalize val la = m at *
          generalize val lb = n at *
          generalize val lc = k at *
          have k1 := len_gcdN m n
          have k2 := len_gcdN n k
          have k3 := len_mul m n
          have k4 := len_mul m k
          have k5 := len_mul n k
          have k6 : (limbs (Nat.lcm m n)).length ≤ (limbs (m * n)).length := len_mono (by
            rcases Nat.eq_zero_or_pos m with h | h
            · rw [h, Nat.lcm_zero_left]; omega
            rcases Nat.eq_zero_or_pos n with h' | h'
            · rw [h', Nat.lcm_zero_right]; omega
            exact Nat.le_of_dvd (Nat.mul_pos h h') (Nat.lcm_dvd_mul m n))
          have q1 : m * n = Nat.gcd m n * Nat.lcm m n := (Nat.gcd_mul_lcm m n).symm
          have q2 : Nat.gcd (Nat.gcd m n) k = Nat.gcd m (Nat.gcd n k) := Nat.gcd_assoc m n k
          have q3 : Nat.gcd (m * k) (n * k) = Nat.gcd m n * k := Nat.gcd_mul_right m k n
          have Q1 := Lib.hid q1
          have Q2 := Lib.hid q2
          have Q3 := Lib.hid q3
          clear q1 q2 q3
          go_enter Tryd.func4, Tryd.ntmps4
          go_wp2_with fail
          refine (alive4 (ht.below (by first | exact Below.refl _ _ | go_grown))).mono ?_
          rintro e w1 ⟨rfl, hb⟩
          have hs : Below w.heap.size w w1 := step (by first | exact Below.refl _ _ | go_grown) hb
          replace na := na.below hs
          replace nb := nb.below hs
          replace nc := nc.below hs
          have hB := hs
          clear hb hs
          go_wp2_with fail
          refine (gcd_good (na.below (by first | exact Below.refl _ _ | go_grown)) (nb.below (by first | exact Below.refl _ _ | go_grown)) (by omega) (by omega)).mono ?_
          rintro e w2 ⟨g, rfl, hg, hb⟩
          have hs : Below w1.heap.size w1 w2 := step (by first | exact Below.refl _ _ | go_grown) hb
          replace na := na.below hs
          replace nb := nb.below hs
          replace nc := nc.below hs
          replace hB := from_ hB hs
          clear hb hs
          go_wp2_with fail
          refine (lcm_good (na.below (by first | exact Below.refl _ _ | go_grown)) (nb.below (by first | exact Below.refl _ _ | go_grown)) (by omega) (by omega)).mono ?_
          rintro e w3 ⟨l, rfl, hl, hb⟩
          have hs : Below w2.heap.size w2 w3 := step (by first | exact Below.refl _ _ | go_grown) hb
          replace na := na.below hs
          replace nb := nb.below hs
          replace nc := nc.below hs
          replace hg := hg.below hs
          replace hB := from_ hB hs
          clear hb hs
          go_wp2_with fail
          refine (mul_good (na.below (by first | exact Below.refl _ _ | go_grown)) (nb.below (by first | exact Below.refl _ _ | go_grown)) (by omega) (by omega)).mono ?_
          rintro e w4 ⟨p, rfl, hp, hb⟩
          have hs : Below w3.heap.size w3 w4 := step (by first | exact Below.refl _ _ | go_grown) hb
          replace na := na.below hs
          replace nb := nb.below hs
          replace nc := nc.below hs
          replace hg := hg.below hs
          replace hl := hl.below hs
          replace hB := from_ hB hs
          clear hb hs
          go_wp2_with fail
          refine (check_goodN (nc.below (by first | exact Below.refl _ _ | go_grown))).mono ?_
          rintro e _ ⟨rfl, rfl⟩
          go_wp2_with fail
          refine (mul_good (hg.below (by first | exact Below.refl _ _ | go_grown)) (hl.below (by first | exact Below.refl _ _ | go_grown)) (by omega) (by omega)).mono ?_
          rintro e w5 ⟨q, rfl, hq, hb⟩
          have hs : Below w4.heap.size w4 w5 := step (by first | exact Below.refl _ _ | go_grown) hb
          clear hl
          replace na := na.below hs
          replace nb := nb.below hs
          replace nc := nc.below hs
          replace hg := hg.below hs
          replace hp := hp.below hs
          replace hB := from_ hB hs
          clear hb hs
          go_wp2_with fail
          refine (gcd_good (hg.below (by first | exact Below.refl _ _ | go_grown)) (nc.below (by first | exact Below.refl _ _ | go_grown)) (by omega) (by omega)).mono ?_
          rintro e w6 ⟨x, rfl, hx, hb⟩
          have hs : Below w5.heap.size w5 w6 := step (by first | exact Below.refl _ _ | go_grown) hb
          replace na := na.below hs
          replace nb := nb.below hs
          replace nc := nc.below hs
          replace hg := hg.below hs
          replace hp := hp.below hs
          replace hq := hq.below hs
          replace hB := from_ hB hs
          clear hb hs
          go_wp2_with fail
          refine (gcd_good (nb.below (by first | exact Below.refl _ _ | go_grown)) (nc.below (by first | exact Below.refl _ _ | go_grown)) (by omega) (by omega)).mono ?_
          rintro e w7 ⟨y, rfl, hy, hb⟩
          have hs : Below w6.heap.size w6 w7 := step (by first | exact Below.refl _ _ | go_grown) hb
          replace na := na.below hs
          replace nb := nb.below hs
          replace nc := nc.below hs
          replace hg := hg.below hs
          replace hp := hp.below hs
          replace hq := hq.below hs
          replace hx := hx.below hs
          replace hB := from_ hB hs
          clear hb hs
          go_wp2_with fail
          refine (gcd_good (na.below (by first | exact Below.refl _ _ | go_grown)) (hy.below (by first | exact Below.refl _ _ | go_grown)) (by omega) (by omega)).mono ?_
          rintro e w8 ⟨z, rfl, hz, hb⟩
          have hs : Below w7.heap.size w7 w8 := step (by first | exact Below.refl _ _ | go_grown) hb
          clear hy
          replace na := na.below hs
          replace nb := nb.below hs
          replace nc := nc.below hs
          replace hg := hg.below hs
          replace hp := hp.below hs
          replace hq := hq.below hs
          replace hx := hx.below hs
          replace hB := from_ hB hs
          clear hb hs
          go_wp2_with fail
          refine (mul_good (na.below (by first | exact Below.refl _ _ | go_grown)) (nc.below (by first | exact Below.refl _ _ | go_grown)) (by omega) (by omega)).mono ?_
          rintro e w9 ⟨u, rfl, hu, hb⟩
          have hs : Below w8.heap.size w8 w9 := step (by first | exact Below.refl _ _ | go_grown) hb
          replace na := na.below hs
          replace nb := nb.below hs
          replace nc := nc.below hs
          replace hg := hg.below hs
          replace hp := hp.below hs
          replace hq := hq.below hs
          replace hx := hx.below hs
          replace hz := hz.below hs
          replace hB := from_ hB hs
          clear hb hs
          go_wp2_with fail
          refine (mul_good (nb.below (by first | exact Below.refl _ _ | go_grown)) (nc.below (by first | exact Below.refl _ _ | go_grown)) (by omega) (by omega)).mono ?_
          rintro e w10 ⟨v, rfl, hv, hb⟩
          have hs : Below w9.heap.size w9 w10 := step (by first | exact Below.refl _ _ | go_grown) hb
          replace na := na.below hs
          replace nb := nb.below hs
          replace nc := nc.below hs
          replace hg := hg.below hs
          replace hp := hp.below hs
          replace hq := hq.below hs
          replace hx := hx.below hs
          replace hz := hz.below hs
          replace hu := hu.below hs
          replace hB := from_ hB hs
          clear hb hs
          go_wp2_with fail
          refine (gcd_good (hu.below (by first | exact Below.refl _ _ | go_grown)) (hv.below (by first | exact Below.refl _ _ | go_grown)) (by omega) (by omega)).mono ?_
          rintro e w11 ⟨ww, rfl, hw, hb⟩
          have hs : Below w10.heap.size w10 w11 := step (by first | exact Below.refl _ _ | go_grown) hb
          clear hu hv
          replace na := na.below hs
          replace nb := nb.below hs
          replace nc := nc.below hs
          replace hg := hg.below hs
          replace hp := hp.below hs
          replace hq := hq.below hs
          replace hx := hx.below hs
          replace hz := hz.below hs
          replace hB := from_ hB hs
          clear hb hs
          go_wp2_with fail
          refine (mul_good (hg.below (by first | exact Below.refl _ _ | go_grown)) (nc.below (by first | exact Below.refl _ _ | go_grown)) (by omega) (by omega)).mono ?_
          rintro e w12 ⟨t, rfl, ht2, hb⟩
          have hs : Below w11.heap.size w11 w12 := step (by first | exact Below.refl _ _ | go_grown) hb
          replace na := na.below hs
          replace nb := nb.below hs
          replace nc := nc.below hs
          replace hg := hg.below hs
          replace hp := hp.below hs
          replace hq := hq.below hs
          replace hx := hx.below hs
          replace hz := hz.below hs
          replace hw := hw.below hs
          replace hB := from_ hB hs
          clear hb hs
          go_wp2_with fail
          refine (same_num (hp.below (by first | exact Below.refl _ _ | go_grown)) (hq.below (by first | exact Below.refl _ _ | go_grown)) Q1.out).mono ?_
          rintro e w13 ⟨rfl, hb⟩
          have hs : Below w12.heap.size w12 w13 := step (by first | exact Below.refl _ _ | go_grown) hb
          replace na := na.below hs
          replace nb := nb.below hs
          replace nc := nc.below hs
          replace hg := hg.below hs
          replace hp := hp.below hs
          replace hq := hq.below hs
          replace hx := hx.below hs
          replace hz := hz.below hs
          replace hw := hw.below hs
          replace ht2 := ht2.below hs
          replace hB := from_ hB hs
          clear hb hs
          go_wp2_with fail
          refine (same_num (hx.below (by first | exact Below.refl _ _ | go_grown)) (hz.below (by first | exact Below.refl _ _ | go_grown)) Q2.out).mono ?_
          rintro e w14 ⟨rfl, hb⟩
          have hs : Below w13.heap.size w13 w14 := step (by first | exact Below.refl _ _ | go_grown) hb
          replace na := na.below hs
          replace nb := nb.below hs
          replace nc := nc.below hs
          replace hg := hg.below hs
          replace hp := hp.below hs
          replace hq := hq.below hs
          replace hx := hx.below hs
          replace hz := hz.below hs
          replace hw := hw.below hs
          replace ht2 := ht2.below hs
          replace hB := from_ hB hs
          clear hb hs
          go_wp2_with fail
          refine (same_num (hw.below (by first | exact Below.refl _ _ | go_grown)) (ht2.below (by first | exact Below.refl _ _ | go_grown)) Q3.out).mono ?_
          rintro e w15 ⟨rfl, hb⟩
          have hs : Below w14.heap.size w14 w15 := step (by first | exact Below.refl _ _ | go_grown) hb
          replace na := na.below hs
          replace nb := nb.below hs
          replace nc := nc.below hs
          replace hg := hg.below hs
          replace hp := hp.below hs
          replace hq := hq.below hs
          replace hx := hx.below hs
          replace hz := hz.below hs
          replace hw := hw.below hs
          replace ht2 := ht2.below hs
          replace hB := from_ hB hs
          clear hb hs
          go_wp2
          go_ret
          exact ⟨rfl, hB⟩
        · have ka : (limbs (val la)).length ≤ 10 := by omega
          have kb : (limbs (val lb)).length ≤ 10 := by omega
          have Gc := Lib.hid gc
          clear ea ga ua eb gb ub gc
          go_enter Tryd.func4, Tryd.ntmps4
          go_wp2_with fail
          refine (alive4 (ht.below (by first | exact Below.refl _ _ | go_grown))).mono ?_
          rintro e w1 ⟨rfl, hb⟩
          have hs : Below w.heap.size w w1 := step (by first | exact Below.refl _ _ | go_grown) hb
          replace na := na.below hs
          replace nb := nb.below hs
          replace uc := uc.below hs
          have hB := hs
          clear hb hs
          go_wp2_with fail
          refine (gcd_good (na.below (by first | exact Below.refl _ _ | go_grown)) (nb.below (by first | exact Below.refl _ _ | go_grown)) (by omega) (by omega)).mono ?_
          rintro e w2 ⟨g, rfl, hg, hb⟩
          have hs : Below w1.heap.size w1 w2 := step (by first | exact Below.refl _ _ | go_grown) hb
          replace na := na.below hs
          replace nb := nb.below hs
          replace uc := uc.below hs
          replace hB := from_ hB hs
          clear hb hs
          go_wp2_with fail
          refine (lcm_good (na.below (by first | exact Below.refl _ _ | go_grown)) (nb.below (by first | exact Below.refl _ _ | go_grown)) (by omega) (by omega)).mono ?_
          rintro e w3 ⟨l, rfl, hl, hb⟩
          have hs : Below w2.heap.size w2 w3 := step (by first | exact Below.refl _ _ | go_grown) hb
          replace na := na.below hs
          replace nb := nb.below hs
          replace uc := uc.below hs
          replace hB := from_ hB hs
          clear hb hs
          go_wp2_with fail
          refine (mul_good (na.below (by first | exact Below.refl _ _ | go_grown)) (nb.below (by first | exact Below.refl _ _ | go_grown)) (by omega) (by omega)).mono ?_
          rintro e w4 ⟨p, rfl, hp, hb⟩
          have hs : Below w3.heap.size w3 w4 := step (by first | exact Below.refl _ _ | go_grown) hb
          replace na := na.below hs
          replace nb := nb.below hs
          replace uc := uc.below hs
          replace hB := from_ hB hs
          clear hb hs
          go_wp2_with fail
          refine (check_badU (uc.below (by first | exact Below.refl _ _ | go_grown)) Gc.out).mono ?_
          rintro e _ ⟨rfl, rfl⟩
          go_wp2
          go_ret
          exact ⟨rfl, hB⟩
      · have hg1 : ¬ (good la = true ∧ good lb = true) := fun h => by rw [gb] at h; cases h.2
        have hg3 : good la = false ∨ good lb = false := .inr gb
        have hE : err2 la lb = 8 := by unfold err2; rw [if_neg hg1]
        have Hg1 := Lib.hid hg1
        have Hg3 := Lib.hid hg3
        have hlc : ∀ w1 a b, IsU w1 old a la → IsU w1 old b lb → Calls Tryd.prog 9 #[a, b] w1 (fun e w' => ∃ v, e = .returned (.tuple #[v, .int .i64 8]) ∧ Below w1.heap.size w1 w') := fun w1 a b h1 h2 => by
          refine (lcm_all h1 h2 (by omega) (by omega)).mono ?_
          rintro e w' ⟨v, rfl, _, hb⟩
          exact ⟨v, by rw [hE], hb⟩
        have Hlc := Lib.hid hlc
        clear hlc hE
        clear ga na ea
        clear hg1 hg3 gb
        go_enter Tryd.func4, Tryd.ntmps4
        go_wp2_with fail
        refine (alive4 (ht.below (by first | exact Below.refl _ _ | go_grown))).mono ?_
        rintro e w1 ⟨rfl, hb⟩
        have hs : Below w.heap.size w w1 := step (by first | exact Below.refl _ _ | go_grown) hb
        replace ua := ua.below hs
        replace ub := ub.below hs
        have hB := hs
        clear hb hs
        go_wp2_with fail
        refine (gcd_bad (ua.below (by first | exact Below.refl _ _ | go_grown)) (ub.below (by first | exact Below.refl _ _ | go_grown)) Hg1.out).mono ?_
        rintro e w2 ⟨rfl, hb⟩
        have hs : Below w1.heap.size w1 w2 := step (by first | exact Below.refl _ _ | go_grown) hb
        replace ua := ua.below hs
        replace ub := ub.below hs
        replace hB := from_ hB hs
        clear hb hs
        go_wp2_with fail
        refine (Hlc.out _ _ _ (ua.below (by first | exact Below.refl _ _ | go_grown)) (ub.below (by first | exact Below.refl _ _ | go_grown))).mono ?_
        rintro e w3 ⟨v, rfl, hb⟩
        have hs : Below w2.heap.size w2 w3 := step (by first | exact Below.refl _ _ | go_grown) hb
        replace ua := ua.below hs
        replace ub := ub.below hs
        replace hB := from_ hB hs
        clear hb hs
        go_wp2_with fail
        refine (mul_bad (ua.below (by first | exact Below.refl _ _ | go_grown)) (ub.below (by first | exact Below.refl _ _ | go_grown)) Hg3.out).mono ?_
        rintro e _ ⟨rfl, rfl⟩
        go_wp2
        go_ret
        exact ⟨rfl, hB⟩
    · have hg1 : ¬ (good la = true ∧ good lb = true) := fun h => by rw [ga] at h; cases h.1
      have hg3 : good la = false ∨ good lb = false := .inl ga
      have hE : err2 la lb = 8 := by unfold err2; rw [if_neg hg1]
      have Hg1 := Lib.hid hg1
      have Hg3 := Lib.hid hg3
      have hlc : ∀ w1 a b, IsU w1 old a la → IsU w1 old b lb → Calls Tryd.prog 9 #[a, b] w1 (fun e w' => ∃ v, e = .returned (.tuple #[v, .int .i64 8]) ∧ Below w1.heap.size w1 w') := fun w1 a b h1 h2 => by
        refine (lcm_all h1 h2 (by omega) (by omega)).mono ?_
        rintro e w' ⟨v, rfl, _, hb⟩
        exact ⟨v, by rw [hE], hb⟩
      have Hlc := Lib.hid hlc
      clear hlc hE
      clear hg1 hg3 ga
      go_enter Tryd.func4, Tryd.ntmps4
      go_wp2_with fail
      refine (alive4 (ht.below (by first | exact Below.refl _ _ | go_grown))).mono ?_
      rintro e w1 ⟨rfl, hb⟩
      have hs : Below w.heap.size w w1 := step (by first | exact Below.refl _ _ | go_grown) hb
      replace ua := ua.below hs
      replace ub := ub.below hs
      have hB := hs
      clear hb hs
      go_wp2_with fail
      refine (gcd_bad (ua.below (by first | exact Below.refl _ _ | go_grown)) (ub.below (by first | exact Below.refl _ _ | go_grown)) Hg1.out).mono ?_
      rintro e w2 ⟨rfl, hb⟩
      have hs : Below w1.heap.size w1 w2 := step (by first | exact Below.refl _ _ | go_grown) hb
      replace ua := ua.below hs
      replace ub := ub.below hs
      replace hB := from_ hB hs
      clear hb hs
      go_wp2_with fail
      refine (Hlc.out _ _ _ (ua.below (by first | exact Below.refl _ _ | go_grown)) (ub.below (by first | exact Below.refl _ _ | go_grown))).mono ?_
      rintro e w3 ⟨v, rfl, hb⟩
      have hs : Below w2.heap.size w2 w3 := step (by first | exact Below.refl _ _ | go_grown) hb
      replace ua := ua.below hs
      replace ub := ub.below hs
      replace hB := from_ hB hs
      clear hb hs
      go_wp2_with fail
      refine (mul_bad (ua.below (by first | exact Below.refl _ _ | go_grown)) (ub.below (by first | exact Below.refl _ _ | go_grown)) Hg3.out).mono ?_
      rintro e _ ⟨rfl, rfl⟩
      go_wp2
      go_ret
      exact ⟨rfl, hB⟩
end Go.Proofs.YtbcplffdoejniaaDoor
