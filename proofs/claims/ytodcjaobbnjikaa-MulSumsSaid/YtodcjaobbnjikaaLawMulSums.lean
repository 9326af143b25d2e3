/-
  The walk of MulSums. No conditions.
-/
import Derived.Test.YtodcjaobbnjikaaMulF
namespace Go.Proofs.Ytodcjaobbnjikaa
open Go.RowKit
set_option linter.unusedVariables false
set_option linter.unusedSimpArgs false

set_option maxRecDepth 100000 in
set_option maxHeartbeats 2000000 in
theorem lawMulSums {w : World} {a b c : Value} {la lb lc : List Nat} (ha : IsU w old a la) (hb : IsU w old b lb) (hc : IsU w old c lc) :
    Calls Try.prog 14 #[a, b, c] w fun e w' => e = .returned (.bool true) ∧ Below w.heap.size w w' := by
  obtain ⟨A, ca, rfl, ha⟩ := ha
  have hla := ha.len
  have ua : IsU w old (.slice A la.length ca) la := ⟨A, ca, rfl, ha⟩
  clear ha
  obtain ⟨B, cb, rfl, hb⟩ := hb
  have hlb := hb.len
  have ub : IsU w old (.slice B lb.length cb) lb := ⟨B, cb, rfl, hb⟩
  clear hb
  obtain ⟨C, cc, rfl, hc⟩ := hc
  have hlc := hc.len
  have uc : IsU w old (.slice C lc.length cc) lc := ⟨C, cc, rfl, hc⟩
  clear hc
  by_cases hlim : la.length ≤ 200 ∧ lb.length ≤ 200 ∧ lc.length ≤ 200
  · obtain ⟨h1, h2, h3⟩ := hlim
    have ta : decide ((200 : Int) < (la.length : Int)) = false := by simp; omega
    have tb : decide ((200 : Int) < (lb.length : Int)) = false := by simp; omega
    have tc : decide ((200 : Int) < (lc.length : Int)) = false := by simp; omega
    have va := ua
    have vb := ub
    have vc := uc
    rcases ua.decN with ⟨ga, na, ea⟩ | ga
    · rcases ub.decN with ⟨gb, nb, eb⟩ | gb
      · rcases uc.decN with ⟨gc, nc, ec⟩ | gc
        · have ka : (limbs (val la)).length ≤ la.length := by omega
          have kb : (limbs (val lb)).length ≤ lb.length := by omega
          have kc : (limbs (val lc)).length ≤ lc.length := by omega
          have Ea := Lib.hid ea
          clear ea ga ua
          have Eb := Lib.hid eb
          clear eb gb ub
          have Ec := Lib.hid ec
          clear ec gc uc
          clear va vb vc
          have m1 := len_mul (val la) (val lb)
          have m2 := len_mul (val la) (val lc)
          have m3 := len_mul (val lb) (val lc)
          have m4 := len_add (val lb) (val lc)
          go_enter Try.func14, Try.ntmps14
          go_wp2_with fail
          refine (alive2 _).mono ?_
          rintro e w1 ⟨rfl, hb⟩
          have hs : Below w.heap.size w w1 := step (by first | exact Below.refl _ _ | go_grown) hb
          replace na := na.below hs
          replace nb := nb.below hs
          replace nc := nc.below hs
          have hB := hs
          clear hb hs
          go_wp2_with fail
          refine (mul_good (na.below (by first | exact Below.refl _ _ | go_grown)) (nb.below (by first | exact Below.refl _ _ | go_grown)) (by omega) (by omega)).mono ?_
          rintro e w2 ⟨x, rfl, hx, hb⟩
          have hs : Below w1.heap.size w1 w2 := step (by first | exact Below.refl _ _ | go_grown) hb
          replace na := na.below hs
          replace nb := nb.below hs
          replace nc := nc.below hs
          replace hB := from_ hB hs
          clear hb hs
          go_wp2_with fail
          refine (mul_good (nb.below (by first | exact Below.refl _ _ | go_grown)) (na.below (by first | exact Below.refl _ _ | go_grown)) (by omega) (by omega)).mono ?_
          rintro e w3 ⟨y, rfl, hy, hb⟩
          have hs : Below w2.heap.size w2 w3 := step (by first | exact Below.refl _ _ | go_grown) hb
          replace na := na.below hs
          replace nb := nb.below hs
          replace nc := nc.below hs
          replace hx := hx.below hs
          replace hB := from_ hB hs
          clear hb hs
          go_wp2_with fail
          refine (mul_good (na.below (by first | exact Below.refl _ _ | go_grown)) (nc.below (by first | exact Below.refl _ _ | go_grown)) (by omega) (by omega)).mono ?_
          rintro e w4 ⟨z, rfl, hz, hb⟩
          have hs : Below w3.heap.size w3 w4 := step (by first | exact Below.refl _ _ | go_grown) hb
          replace na := na.below hs
          replace nb := nb.below hs
          replace nc := nc.below hs
          replace hx := hx.below hs
          replace hy := hy.below hs
          replace hB := from_ hB hs
          clear hb hs
          go_wp2_with fail
          refine (add_good (nb.below (by first | exact Below.refl _ _ | go_grown)) (nc.below (by first | exact Below.refl _ _ | go_grown)) (by omega) (by omega)).mono ?_
          rintro e w5 ⟨s, rfl, hsu, hb⟩
          have hs : Below w4.heap.size w4 w5 := step (by first | exact Below.refl _ _ | go_grown) hb
          replace na := na.below hs
          replace nb := nb.below hs
          replace nc := nc.below hs
          replace hx := hx.below hs
          replace hy := hy.below hs
          replace hz := hz.below hs
          replace hB := from_ hB hs
          clear hb hs
          go_wp2_with fail
          refine (mul_good (na.below (by first | exact Below.refl _ _ | go_grown)) (hsu.below (by first | exact Below.refl _ _ | go_grown)) (by omega) (by omega)).mono ?_
          rintro e w6 ⟨p, rfl, hp, hb⟩
          have hs : Below w5.heap.size w5 w6 := step (by first | exact Below.refl _ _ | go_grown) hb
          replace na := na.below hs
          replace nb := nb.below hs
          replace nc := nc.below hs
          replace hx := hx.below hs
          replace hy := hy.below hs
          replace hz := hz.below hs
          replace hsu := hsu.below hs
          replace hB := from_ hB hs
          clear hb hs
          go_wp2_with fail
          refine (add_good (hx.below (by first | exact Below.refl _ _ | go_grown)) (hz.below (by first | exact Below.refl _ _ | go_grown)) (by omega) (by omega)).mono ?_
          rintro e w7 ⟨q, rfl, hq, hb⟩
          have hs : Below w6.heap.size w6 w7 := step (by first | exact Below.refl _ _ | go_grown) hb
          replace na := na.below hs
          replace nb := nb.below hs
          replace nc := nc.below hs
          replace hx := hx.below hs
          replace hy := hy.below hs
          replace hz := hz.below hs
          replace hsu := hsu.below hs
          replace hp := hp.below hs
          replace hB := from_ hB hs
          clear hb hs
          go_wp2_with fail
          refine (mul_good (nb.below (by first | exact Below.refl _ _ | go_grown)) (nc.below (by first | exact Below.refl _ _ | go_grown)) (by omega) (by omega)).mono ?_
          rintro e w8 ⟨v, rfl, hv, hb⟩
          have hs : Below w7.heap.size w7 w8 := step (by first | exact Below.refl _ _ | go_grown) hb
          replace na := na.below hs
          replace nb := nb.below hs
          replace nc := nc.below hs
          replace hx := hx.below hs
          replace hy := hy.below hs
          replace hz := hz.below hs
          replace hsu := hsu.below hs
          replace hp := hp.below hs
          replace hq := hq.below hs
          replace hB := from_ hB hs
          clear hb hs
          go_wp2_with fail
          refine (mul_good (na.below (by first | exact Below.refl _ _ | go_grown)) (hv.below (by first | exact Below.refl _ _ | go_grown)) (by omega) (by omega)).mono ?_
          rintro e w9 ⟨u, rfl, hu, hb⟩
          have hs : Below w8.heap.size w8 w9 := step (by first | exact Below.refl _ _ | go_grown) hb
          replace na := na.below hs
          replace nb := nb.below hs
          replace nc := nc.below hs
          replace hx := hx.below hs
          replace hy := hy.below hs
          replace hz := hz.below hs
          replace hsu := hsu.below hs
          replace hp := hp.below hs
          replace hq := hq.below hs
          replace hv := hv.below hs
          replace hB := from_ hB hs
          clear hb hs
          go_wp2_with fail
          refine (mul_good (hx.below (by first | exact Below.refl _ _ | go_grown)) (nc.below (by first | exact Below.refl _ _ | go_grown)) (by omega) (by omega)).mono ?_
          rintro e w10 ⟨r, rfl, hr, hb⟩
          have hs : Below w9.heap.size w9 w10 := step (by first | exact Below.refl _ _ | go_grown) hb
          replace na := na.below hs
          replace nb := nb.below hs
          replace nc := nc.below hs
          replace hx := hx.below hs
          replace hy := hy.below hs
          replace hz := hz.below hs
          replace hsu := hsu.below hs
          replace hp := hp.below hs
          replace hq := hq.below hs
          replace hv := hv.below hs
          replace hu := hu.below hs
          replace hB := from_ hB hs
          clear hb hs
          go_wp2_with fail
          refine (same_num (hx.below (by first | exact Below.refl _ _ | go_grown)) (hy.below (by first | exact Below.refl _ _ | go_grown)) (Nat.mul_comm _ _)).mono ?_
          rintro e w11 ⟨rfl, hb⟩
          have hs : Below w10.heap.size w10 w11 := step (by first | exact Below.refl _ _ | go_grown) hb
          replace na := na.below hs
          replace nb := nb.below hs
          replace nc := nc.below hs
          replace hx := hx.below hs
          replace hy := hy.below hs
          replace hz := hz.below hs
          replace hsu := hsu.below hs
          replace hp := hp.below hs
          replace hq := hq.below hs
          replace hv := hv.below hs
          replace hu := hu.below hs
          replace hr := hr.below hs
          replace hB := from_ hB hs
          clear hb hs
          go_wp2_with fail
          refine (same_num (hp.below (by first | exact Below.refl _ _ | go_grown)) (hq.below (by first | exact Below.refl _ _ | go_grown)) (Nat.mul_add _ _ _)).mono ?_
          rintro e w12 ⟨rfl, hb⟩
          have hs : Below w11.heap.size w11 w12 := step (by first | exact Below.refl _ _ | go_grown) hb
          replace na := na.below hs
          replace nb := nb.below hs
          replace nc := nc.below hs
          replace hx := hx.below hs
          replace hy := hy.below hs
          replace hz := hz.below hs
          replace hsu := hsu.below hs
          replace hp := hp.below hs
          replace hq := hq.below hs
          replace hv := hv.below hs
          replace hu := hu.below hs
          replace hr := hr.below hs
          replace hB := from_ hB hs
          clear hb hs
          go_wp2_with fail
          refine (same_num (hu.below (by first | exact Below.refl _ _ | go_grown)) (hr.below (by first | exact Below.refl _ _ | go_grown)) (Nat.mul_assoc _ _ _).symm).mono ?_
          rintro e w13 ⟨rfl, hb⟩
          have hs : Below w12.heap.size w12 w13 := step (by first | exact Below.refl _ _ | go_grown) hb
          replace na := na.below hs
          replace nb := nb.below hs
          replace nc := nc.below hs
          replace hx := hx.below hs
          replace hy := hy.below hs
          replace hz := hz.below hs
          replace hsu := hsu.below hs
          replace hp := hp.below hs
          replace hq := hq.below hs
          replace hv := hv.below hs
          replace hu := hu.below hs
          replace hr := hr.below hs
          replace hB := from_ hB hs
          clear hb hs
          go_wp2
          go_ret
          exact ⟨rfl, hB⟩
        · have ka : (limbs (val la)).length ≤ la.length := by omega
          clear ea ga
          have kb : (limbs (val lb)).length ≤ lb.length := by omega
          clear eb gb
          have Gc := Lib.hid gc
          clear gc
          clear ua ub uc
          go_enter Try.func14, Try.ntmps14
          go_wp2_with fail
          refine (alive2 _).mono ?_
          rintro e w1 ⟨rfl, hb⟩
          have hs : Below w.heap.size w w1 := step (by first | exact Below.refl _ _ | go_grown) hb
          replace na := na.below hs
          replace nb := nb.below hs
          replace va := va.below hs
          replace vb := vb.below hs
          replace vc := vc.below hs
          have hB := hs
          clear hb hs
          go_wp2_with fail
          refine (mul_good (na.below (by first | exact Below.refl _ _ | go_grown)) (nb.below (by first | exact Below.refl _ _ | go_grown)) (by omega) (by omega)).mono ?_
          rintro e w2 ⟨x, rfl, hx, hb⟩
          have hs : Below w1.heap.size w1 w2 := step (by first | exact Below.refl _ _ | go_grown) hb
          replace na := na.below hs
          replace nb := nb.below hs
          replace va := va.below hs
          replace vb := vb.below hs
          replace vc := vc.below hs
          replace hB := from_ hB hs
          clear hb hs
          go_wp2_with fail
          refine (mul_good (nb.below (by first | exact Below.refl _ _ | go_grown)) (na.below (by first | exact Below.refl _ _ | go_grown)) (by omega) (by omega)).mono ?_
          rintro e w3 ⟨y, rfl, hy, hb⟩
          have hs : Below w2.heap.size w2 w3 := step (by first | exact Below.refl _ _ | go_grown) hb
          replace na := na.below hs
          replace nb := nb.below hs
          replace va := va.below hs
          replace vb := vb.below hs
          replace vc := vc.below hs
          replace hx := hx.below hs
          replace hB := from_ hB hs
          clear hb hs
          go_wp2_with fail
          refine (mul_bad (va.below (by first | exact Below.refl _ _ | go_grown)) (vc.below (by first | exact Below.refl _ _ | go_grown)) (.inr Gc.out)).mono ?_
          rintro e _ ⟨rfl, rfl⟩
          go_wp2
          go_ret
          exact ⟨rfl, hB⟩
      · rcases uc.decN with ⟨gc, nc, ec⟩ | gc
        · have ka : (limbs (val la)).length ≤ la.length := by omega
          clear ea ga
          have kc : (limbs (val lc)).length ≤ lc.length := by omega
          clear ec gc
          have Gb := Lib.hid gb
          clear gb
          clear ua ub uc
          go_enter Try.func14, Try.ntmps14
          go_wp2_with fail
          refine (alive2 _).mono ?_
          rintro e w1 ⟨rfl, hb⟩
          have hs : Below w.heap.size w w1 := step (by first | exact Below.refl _ _ | go_grown) hb
          replace na := na.below hs
          replace nc := nc.below hs
          replace va := va.below hs
          replace vb := vb.below hs
          replace vc := vc.below hs
          have hB := hs
          clear hb hs
          go_wp2_with fail
          refine (mul_bad (va.below (by first | exact Below.refl _ _ | go_grown)) (vb.below (by first | exact Below.refl _ _ | go_grown)) (.inr Gb.out)).mono ?_
          rintro e _ ⟨rfl, rfl⟩
          go_wp2_with fail
          refine (mul_bad (vb.below (by first | exact Below.refl _ _ | go_grown)) (va.below (by first | exact Below.refl _ _ | go_grown)) (.inl Gb.out)).mono ?_
          rintro e _ ⟨rfl, rfl⟩
          go_wp2_with fail
          refine (mul_good (na.below (by first | exact Below.refl _ _ | go_grown)) (nc.below (by first | exact Below.refl _ _ | go_grown)) (by omega) (by omega)).mono ?_
          rintro e w2 ⟨z, rfl, hz, hb⟩
          have hs : Below w1.heap.size w1 w2 := step (by first | exact Below.refl _ _ | go_grown) hb
          replace na := na.below hs
          replace nc := nc.below hs
          replace va := va.below hs
          replace vb := vb.below hs
          replace vc := vc.below hs
          replace hB := from_ hB hs
          clear hb hs
          go_wp2
          go_ret
          exact ⟨rfl, hB⟩
        · have ka : (limbs (val la)).length ≤ la.length := by omega
          clear ea ga
          have Gb := Lib.hid gb
          clear gb
          have Gc := Lib.hid gc
          clear gc
          clear ua ub uc
          go_enter Try.func14, Try.ntmps14
          go_wp2_with fail
          refine (alive2 _).mono ?_
          rintro e w1 ⟨rfl, hb⟩
          have hs : Below w.heap.size w w1 := step (by first | exact Below.refl _ _ | go_grown) hb
          replace na := na.below hs
          replace va := va.below hs
          replace vb := vb.below hs
          replace vc := vc.below hs
          have hB := hs
          clear hb hs
          go_wp2_with fail
          refine (mul_bad (va.below (by first | exact Below.refl _ _ | go_grown)) (vb.below (by first | exact Below.refl _ _ | go_grown)) (.inr Gb.out)).mono ?_
          rintro e _ ⟨rfl, rfl⟩
          go_wp2_with fail
          refine (mul_bad (vb.below (by first | exact Below.refl _ _ | go_grown)) (va.below (by first | exact Below.refl _ _ | go_grown)) (.inl Gb.out)).mono ?_
          rintro e _ ⟨rfl, rfl⟩
          go_wp2_with fail
          refine (mul_bad (va.below (by first | exact Below.refl _ _ | go_grown)) (vc.below (by first | exact Below.refl _ _ | go_grown)) (.inr Gc.out)).mono ?_
          rintro e _ ⟨rfl, rfl⟩
          go_wp2
          go_ret
          exact ⟨rfl, hB⟩
    · have Ga := Lib.hid ga
      clear ga
      clear ua ub uc
      go_enter Try.func14, Try.ntmps14
      go_wp2_with fail
      refine (alive2 _).mono ?_
      rintro e w1 ⟨rfl, hb⟩
      have hs : Below w.heap.size w w1 := step (by first | exact Below.refl _ _ | go_grown) hb
      replace va := va.below hs
      replace vb := vb.below hs
      replace vc := vc.below hs
      have hB := hs
      clear hb hs
      go_wp2_with fail
      refine (mul_bad (va.below (by first | exact Below.refl _ _ | go_grown)) (vb.below (by first | exact Below.refl _ _ | go_grown)) (.inl Ga.out)).mono ?_
      rintro e _ ⟨rfl, rfl⟩
      go_wp2_with fail
      refine (mul_bad (vb.below (by first | exact Below.refl _ _ | go_grown)) (va.below (by first | exact Below.refl _ _ | go_grown)) (.inr Ga.out)).mono ?_
      rintro e _ ⟨rfl, rfl⟩
      go_wp2_with fail
      refine (mul_bad (va.below (by first | exact Below.refl _ _ | go_grown)) (vc.below (by first | exact Below.refl _ _ | go_grown)) (.inl Ga.out)).mono ?_
      rintro e _ ⟨rfl, rfl⟩
      go_wp2
      go_ret
      exact ⟨rfl, hB⟩
  · have hd : ((200 : Int) < (la.length : Int)) ∨ (decide ((200 : Int) < (la.length : Int)) = false ∧ (200 : Int) < (lb.length : Int)) ∨ (decide ((200 : Int) < (la.length : Int)) = false ∧ decide ((200 : Int) < (lb.length : Int)) = false ∧ (200 : Int) < (lc.length : Int)) := by simp; omega
    clear hlim
    rcases hd with t0 | ⟨t0, t1⟩ | ⟨t0, t1, t2⟩
    all_goals
      go_enter Try.func14, Try.ntmps14
      go_wp2_with fail
      refine (alive2 _).mono ?_
      rintro e w1 ⟨rfl, hb⟩
      have hs : Below w.heap.size w w1 := step (by first | exact Below.refl _ _ | go_grown) hb
      have hB := hs
      clear hb hs
      go_wp2
      go_ret
      exact ⟨rfl, hB⟩
end Go.Proofs.Ytodcjaobbnjikaa
