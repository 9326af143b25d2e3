/-
  The walk of MulPow. No conditions.
-/
import Derived.Test.YtodcjaobbnjikabMulF
namespace Go.Proofs.Ytodcjaobbnjikab
open Go.RowKit
set_option linter.unusedVariables false
set_option linter.unusedSimpArgs false

set_option maxRecDepth 100000 in
set_option maxHeartbeats 2000000 in
theorem lawMulPow {w : World} {a b : Value} {la lb : List Nat} {n m : Int} (ha : IsU w old a la) (hb : IsU w old b lb) (hn : 0 ≤ n ∧ n ≤ 255) (hm : 0 ≤ m ∧ m ≤ 255) :
    Calls Try.prog 3 #[a, b, .int .u8 n, .int .u8 m] w fun e w' => e = .returned (.bool true) ∧ Below w.heap.size w w' := by
  obtain ⟨A, ca, rfl, ha⟩ := ha
  have hla := ha.len
  have ua : IsU w old (.slice A la.length ca) la := ⟨A, ca, rfl, ha⟩
  clear ha
  obtain ⟨B, cb, rfl, hb⟩ := hb
  have hlb := hb.len
  have ub : IsU w old (.slice B lb.length cb) lb := ⟨B, cb, rfl, hb⟩
  clear hb
  obtain ⟨n, rfl⟩ : ∃ k : Nat, n = k := ⟨n.toNat, by omega⟩
  obtain ⟨m, rfl⟩ : ∃ k : Nat, m = k := ⟨m.toNat, by omega⟩
  have hn2 : n ≤ 255 := by omega
  have hm2 : m ≤ 255 := by omega
  clear hn hm
  have hcase : ((5 : Int) < (la.length : Int)) ∨ (decide ((5 : Int) < (la.length : Int)) = false ∧ (5 : Int) < (lb.length : Int)) ∨ (decide ((5 : Int) < (la.length : Int)) = false ∧ decide ((5 : Int) < (lb.length : Int)) = false ∧ (30 : Int) < (n : Int)) ∨ (decide ((5 : Int) < (la.length : Int)) = false ∧ decide ((5 : Int) < (lb.length : Int)) = false ∧ decide ((30 : Int) < (n : Int)) = false ∧ (30 : Int) < (m : Int)) ∨ (decide ((5 : Int) < (la.length : Int)) = false ∧ decide ((5 : Int) < (lb.length : Int)) = false ∧ decide ((30 : Int) < (n : Int)) = false ∧ decide ((30 : Int) < (m : Int)) = false ∧ la.length ≤ 5 ∧ lb.length ≤ 5 ∧ n ≤ 30 ∧ m ≤ 30) := by simp only [decide_eq_false_iff_not]; omega
  rcases hcase with t0 | ⟨t0, t1⟩ | ⟨t0, t1, t2⟩ | ⟨t0, t1, t2, t3⟩ | ⟨t0, t1, t2, t3, h0, h1, h2, h3⟩
  · go_enter Try.func3, Try.ntmps3
    go_wp2_with fail
    refine (alive2 _).mono ?_
    rintro e w1 ⟨rfl, hb⟩
    have hs : Below w.heap.size w w1 := step (by first | exact Below.refl _ _ | go_grown) hb
    have hB := hs
    clear hb hs
    go_wp2
    go_ret
    exact ⟨rfl, hB⟩
  · go_enter Try.func3, Try.ntmps3
    go_wp2_with fail
    refine (alive2 _).mono ?_
    rintro e w1 ⟨rfl, hb⟩
    have hs : Below w.heap.size w w1 := step (by first | exact Below.refl _ _ | go_grown) hb
    have hB := hs
    clear hb hs
    go_wp2
    go_ret
    exact ⟨rfl, hB⟩
  · go_enter Try.func3, Try.ntmps3
    go_wp2_with fail
    refine (alive2 _).mono ?_
    rintro e w1 ⟨rfl, hb⟩
    have hs : Below w.heap.size w w1 := step (by first | exact Below.refl _ _ | go_grown) hb
    have hB := hs
    clear hb hs
    go_wp2
    go_ret
    exact ⟨rfl, hB⟩
  · go_enter Try.func3, Try.ntmps3
    go_wp2_with fail
    refine (alive2 _).mono ?_
    rintro e w1 ⟨rfl, hb⟩
    have hs : Below w.heap.size w w1 := step (by first | exact Below.refl _ _ | go_grown) hb
    have hB := hs
    clear hb hs
    go_wp2
    go_ret
    exact ⟨rfl, hB⟩
  · have va := ua
    have vb := ub
    rcases ua.decN with ⟨ga, na, ea⟩ | ga
    · rcases ub.decN with ⟨gb, nb, eb⟩ | gb
      · have ka : (limbs (val la)).length ≤ 5 := by omega
        have za := size_len (val la)
        clear ea ga ua va
        have sn : n * size (val la) ≤ 65536 := Nat.le_trans (Nat.mul_le_mul h2 (show size (val la) ≤ 320 by omega)) (by omega)
        have sm : m * size (val la) ≤ 65536 := Nat.le_trans (Nat.mul_le_mul h3 (show size (val la) ≤ 320 by omega)) (by omega)
        have snm : (n + m) * size (val la) ≤ 65536 := Nat.le_trans (Nat.mul_le_mul (show n + m ≤ 60 by omega) (show size (val la) ≤ 320 by omega)) (by omega)
        have q1 := pow_lens sn (Nat.le_refl n)
        have q2 := pow_lens sm (Nat.le_refl m)
        have kb : (limbs (val lb)).length ≤ 5 := by omega
        have zb := size_len (val lb)
        clear eb gb ub vb
        have snb : n * size (val lb) ≤ 65536 := Nat.le_trans (Nat.mul_le_mul h2 (show size (val lb) ≤ 320 by omega)) (by omega)
        have kab := len_mul (val la) (val lb)
        have zab := size_len (val la * val lb)
        have snab : n * size (val la * val lb) ≤ 65536 := Nat.le_trans (Nat.mul_le_mul h2 (show size (val la * val lb) ≤ 640 by omega)) (by omega)
        have q3 := pow_lens snb (Nat.le_refl n)
        go_enter Try.func3, Try.ntmps3
        go_wp2_with fail
        refine (alive2 _).mono ?_
        rintro e w1 ⟨rfl, hb⟩
        have hs : Below w.heap.size w w1 := step (by first | exact Below.refl _ _ | go_grown) hb
        replace na := na.below hs
        replace nb := nb.below hs
        have hB := hs
        clear hb hs
        go_wp2_with fail
        refine (pow_lit n (na.below (by first | exact Below.refl _ _ | go_grown)) (by omega) (by omega) sn rfl).mono ?_
        rintro e w2 ⟨x, rfl, hx, hb⟩
        have hs : Below w1.heap.size w1 w2 := step (by first | exact Below.refl _ _ | go_grown) hb
        replace na := na.below hs
        replace nb := nb.below hs
        replace hB := from_ hB hs
        clear hb hs
        go_wp2_with fail
        refine (pow_lit m (na.below (by first | exact Below.refl _ _ | go_grown)) (by omega) (by omega) sm rfl).mono ?_
        rintro e w3 ⟨y, rfl, hy, hb⟩
        have hs : Below w2.heap.size w2 w3 := step (by first | exact Below.refl _ _ | go_grown) hb
        replace na := na.below hs
        replace nb := nb.below hs
        replace hx := hx.below hs
        replace hB := from_ hB hs
        clear hb hs
        go_wp2_with fail
        refine (pow_lit (n + m) (na.below (by first | exact Below.refl _ _ | go_grown)) (by omega) (by omega) snm (by omega)).mono ?_
        rintro e w4 ⟨z, rfl, hz, hb⟩
        have hs : Below w3.heap.size w3 w4 := step (by first | exact Below.refl _ _ | go_grown) hb
        replace na := na.below hs
        replace nb := nb.below hs
        replace hx := hx.below hs
        replace hy := hy.below hs
        replace hB := from_ hB hs
        clear hb hs
        go_wp2_with fail
        refine (mul_good (hx.below (by first | exact Below.refl _ _ | go_grown)) (hy.below (by first | exact Below.refl _ _ | go_grown)) (by omega) (by omega)).mono ?_
        rintro e w5 ⟨p, rfl, hp, hb⟩
        have hs : Below w4.heap.size w4 w5 := step (by first | exact Below.refl _ _ | go_grown) hb
        replace na := na.below hs
        replace nb := nb.below hs
        replace hx := hx.below hs
        replace hy := hy.below hs
        replace hz := hz.below hs
        replace hB := from_ hB hs
        clear hb hs
        go_wp2_with fail
        refine (pow_lit n (nb.below (by first | exact Below.refl _ _ | go_grown)) (by omega) (by omega) snb rfl).mono ?_
        rintro e w6 ⟨q, rfl, hq, hb⟩
        have hs : Below w5.heap.size w5 w6 := step (by first | exact Below.refl _ _ | go_grown) hb
        replace na := na.below hs
        replace nb := nb.below hs
        replace hx := hx.below hs
        replace hy := hy.below hs
        replace hz := hz.below hs
        replace hp := hp.below hs
        replace hB := from_ hB hs
        clear hb hs
        go_wp2_with fail
        refine (mul_good (na.below (by first | exact Below.refl _ _ | go_grown)) (nb.below (by first | exact Below.refl _ _ | go_grown)) (by omega) (by omega)).mono ?_
        rintro e w7 ⟨ab, rfl, hab, hb⟩
        have hs : Below w6.heap.size w6 w7 := step (by first | exact Below.refl _ _ | go_grown) hb
        replace na := na.below hs
        replace nb := nb.below hs
        replace hx := hx.below hs
        replace hy := hy.below hs
        replace hz := hz.below hs
        replace hp := hp.below hs
        replace hq := hq.below hs
        replace hB := from_ hB hs
        clear hb hs
        go_wp2_with fail
        refine (pow_lit n (hab.below (by first | exact Below.refl _ _ | go_grown)) (by omega) (by omega) snab rfl).mono ?_
        rintro e w8 ⟨u, rfl, hu, hb⟩
        have hs : Below w7.heap.size w7 w8 := step (by first | exact Below.refl _ _ | go_grown) hb
        replace na := na.below hs
        replace nb := nb.below hs
        replace hx := hx.below hs
        replace hy := hy.below hs
        replace hz := hz.below hs
        replace hp := hp.below hs
        replace hq := hq.below hs
        replace hab := hab.below hs
        replace hB := from_ hB hs
        clear hb hs
        go_wp2_with fail
        refine (mul_good (hx.below (by first | exact Below.refl _ _ | go_grown)) (hq.below (by first | exact Below.refl _ _ | go_grown)) (by omega) (by omega)).mono ?_
        rintro e w9 ⟨v, rfl, hv, hb⟩
        have hs : Below w8.heap.size w8 w9 := step (by first | exact Below.refl _ _ | go_grown) hb
        replace na := na.below hs
        replace nb := nb.below hs
        replace hx := hx.below hs
        replace hy := hy.below hs
        replace hz := hz.below hs
        replace hp := hp.below hs
        replace hq := hq.below hs
        replace hab := hab.below hs
        replace hu := hu.below hs
        replace hB := from_ hB hs
        clear hb hs
        go_wp2_with fail
        refine (same_num (hp.below (by first | exact Below.refl _ _ | go_grown)) (hz.below (by first | exact Below.refl _ _ | go_grown)) (Nat.pow_add _ _ _).symm).mono ?_
        rintro e w10 ⟨rfl, hb⟩
        have hs : Below w9.heap.size w9 w10 := step (by first | exact Below.refl _ _ | go_grown) hb
        replace na := na.below hs
        replace nb := nb.below hs
        replace hx := hx.below hs
        replace hy := hy.below hs
        replace hz := hz.below hs
        replace hp := hp.below hs
        replace hq := hq.below hs
        replace hab := hab.below hs
        replace hu := hu.below hs
        replace hv := hv.below hs
        replace hB := from_ hB hs
        clear hb hs
        go_wp2_with fail
        refine (same_num (hu.below (by first | exact Below.refl _ _ | go_grown)) (hv.below (by first | exact Below.refl _ _ | go_grown)) (Nat.mul_pow _ _ _)).mono ?_
        rintro e w11 ⟨rfl, hb⟩
        have hs : Below w10.heap.size w10 w11 := step (by first | exact Below.refl _ _ | go_grown) hb
        replace na := na.below hs
        replace nb := nb.below hs
        replace hx := hx.below hs
        replace hy := hy.below hs
        replace hz := hz.below hs
        replace hp := hp.below hs
        replace hq := hq.below hs
        replace hab := hab.below hs
        replace hu := hu.below hs
        replace hv := hv.below hs
        replace hB := from_ hB hs
        clear hb hs
        go_wp2
        go_ret
        exact ⟨rfl, hB⟩
      · have ka : (limbs (val la)).length ≤ 5 := by omega
        have za := size_len (val la)
        clear ea ga ua va
        have sn : n * size (val la) ≤ 65536 := Nat.le_trans (Nat.mul_le_mul h2 (show size (val la) ≤ 320 by omega)) (by omega)
        have sm : m * size (val la) ≤ 65536 := Nat.le_trans (Nat.mul_le_mul h3 (show size (val la) ≤ 320 by omega)) (by omega)
        have snm : (n + m) * size (val la) ≤ 65536 := Nat.le_trans (Nat.mul_le_mul (show n + m ≤ 60 by omega) (show size (val la) ≤ 320 by omega)) (by omega)
        have q1 := pow_lens sn (Nat.le_refl n)
        have q2 := pow_lens sm (Nat.le_refl m)
        have Gb := Lib.hid gb
        clear gb ub
        go_enter Try.func3, Try.ntmps3
        go_wp2_with fail
        refine (alive2 _).mono ?_
        rintro e w1 ⟨rfl, hb⟩
        have hs : Below w.heap.size w w1 := step (by first | exact Below.refl _ _ | go_grown) hb
        replace na := na.below hs
        replace vb := vb.below hs
        have hB := hs
        clear hb hs
        go_wp2_with fail
        refine (pow_lit n (na.below (by first | exact Below.refl _ _ | go_grown)) (by omega) (by omega) sn rfl).mono ?_
        rintro e w2 ⟨x, rfl, hx, hb⟩
        have hs : Below w1.heap.size w1 w2 := step (by first | exact Below.refl _ _ | go_grown) hb
        replace na := na.below hs
        replace vb := vb.below hs
        replace hB := from_ hB hs
        clear hb hs
        go_wp2_with fail
        refine (pow_lit m (na.below (by first | exact Below.refl _ _ | go_grown)) (by omega) (by omega) sm rfl).mono ?_
        rintro e w3 ⟨y, rfl, hy, hb⟩
        have hs : Below w2.heap.size w2 w3 := step (by first | exact Below.refl _ _ | go_grown) hb
        replace na := na.below hs
        replace vb := vb.below hs
        replace hx := hx.below hs
        replace hB := from_ hB hs
        clear hb hs
        go_wp2_with fail
        refine (pow_lit (n + m) (na.below (by first | exact Below.refl _ _ | go_grown)) (by omega) (by omega) snm (by omega)).mono ?_
        rintro e w4 ⟨z, rfl, hz, hb⟩
        have hs : Below w3.heap.size w3 w4 := step (by first | exact Below.refl _ _ | go_grown) hb
        replace na := na.below hs
        replace vb := vb.below hs
        replace hx := hx.below hs
        replace hy := hy.below hs
        replace hB := from_ hB hs
        clear hb hs
        go_wp2_with fail
        refine (mul_good (hx.below (by first | exact Below.refl _ _ | go_grown)) (hy.below (by first | exact Below.refl _ _ | go_grown)) (by omega) (by omega)).mono ?_
        rintro e w5 ⟨p, rfl, hp, hb⟩
        have hs : Below w4.heap.size w4 w5 := step (by first | exact Below.refl _ _ | go_grown) hb
        replace na := na.below hs
        replace vb := vb.below hs
        replace hx := hx.below hs
        replace hy := hy.below hs
        replace hz := hz.below hs
        replace hB := from_ hB hs
        clear hb hs
        go_wp2_with fail
        refine (pow_badA (vb.below (by first | exact Below.refl _ _ | go_grown)) Gb.out).mono ?_
        rintro e _ ⟨rfl, rfl⟩
        go_wp2
        go_ret
        exact ⟨rfl, hB⟩
    · have Ga := Lib.hid ga
      clear ga ua ub vb
      go_enter Try.func3, Try.ntmps3
      go_wp2_with fail
      refine (alive2 _).mono ?_
      rintro e w1 ⟨rfl, hb⟩
      have hs : Below w.heap.size w w1 := step (by first | exact Below.refl _ _ | go_grown) hb
      replace va := va.below hs
      have hB := hs
      clear hb hs
      go_wp2_with fail
      refine (pow_badA (va.below (by first | exact Below.refl _ _ | go_grown)) Ga.out).mono ?_
      rintro e _ ⟨rfl, rfl⟩
      go_wp2_with fail
      refine (pow_badA (va.below (by first | exact Below.refl _ _ | go_grown)) Ga.out).mono ?_
      rintro e _ ⟨rfl, rfl⟩
      go_wp2_with fail
      refine (pow_badA (va.below (by first | exact Below.refl _ _ | go_grown)) Ga.out).mono ?_
      rintro e _ ⟨rfl, rfl⟩
      go_wp2
      go_ret
      exact ⟨rfl, hB⟩
end Go.Proofs.Ytodcjaobbnjikab
