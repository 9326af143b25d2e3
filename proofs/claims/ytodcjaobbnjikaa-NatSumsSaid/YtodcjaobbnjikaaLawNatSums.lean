/-
  The walk of NatSums: it returns true, and nothing that was there has turned. No conditions.
-/
import Derived.Test.YtodcjaobbnjikaaLawA
namespace Go.Proofs.Ytodcjaobbnjikaa
open Go.RowKit
set_option linter.unusedVariables false
set_option linter.unusedSimpArgs false

set_option maxRecDepth 100000 in
set_option maxHeartbeats 2000000 in
theorem lawNatSums {w : World} {a b c : Value} {la lb lc : List Nat} (ha : IsU w old a la) (hb : IsU w old b lb) (hc : IsU w old c lc) :
    Calls Try.prog 5 #[a, b, c] w fun e w' => e = .returned (.bool true) ∧ Below w.heap.size w w' := by
  obtain ⟨A, ca, rfl, ha⟩ := ha
  obtain ⟨B, cb, rfl, hb⟩ := hb
  obtain ⟨C, cc, rfl, hc⟩ := hc
  have hla := ha.len
  have hlb := hb.len
  have hlc := hc.len
  have ua : IsU w old (.slice A la.length ca) la := ⟨A, ca, rfl, ha⟩
  have ub : IsU w old (.slice B lb.length cb) lb := ⟨B, cb, rfl, hb⟩
  have uc : IsU w old (.slice C lc.length cc) lc := ⟨C, cc, rfl, hc⟩
  clear ha hb hc
  by_cases h1 : la.length ≤ 1000 ∧ lb.length ≤ 1000 ∧ lc.length ≤ 1000
  · obtain ⟨h1, h2, h3⟩ := h1
    have t1 : decide ((1000 : Int) < (la.length : Int)) = false := by simp; omega
    have t2 : decide ((1000 : Int) < (lb.length : Int)) = false := by simp; omega
    have t3 : decide ((1000 : Int) < (lc.length : Int)) = false := by simp; omega
    rcases ua.decN with ⟨ga, na, ea⟩ | ga
    · rcases ub.decN with ⟨gb, nb, eb⟩ | gb
      · rcases uc.decN with ⟨gc, nc, ec⟩ | gc
        · have Ea := Lib.hid ea
          have Eb := Lib.hid eb
          have Ec := Lib.hid ec
          have l1 : (limbs (val la)).length ≤ 1000 := by omega
          have l2 : (limbs (val lb)).length ≤ 1000 := by omega
          have l3 : (limbs (val lc)).length ≤ 1000 := by omega
          have l4 := len_add (val la) (val lb)
          have l5 := len_add (val lb) (val lc)
          obtain ⟨C', cc', hC, hC'⟩ := nc
          injection hC with hC1 hC2 hC3
          subst hC1 hC3
          have nc : IsN w old (.slice C lc.length cc) (val lc) := ⟨C, cc, by rw [ec], hC'⟩
          clear ea eb ec ga gb gc ua ub uc hC2 hC'
          go_enter Try.func5, Try.ntmps5
          go_wp2_with fail
          refine (alive1 _).mono ?_
          rintro e w1 ⟨rfl, hb⟩
          have hs : Below w.heap.size w w1 := step (by first | exact Below.refl _ _ | go_grown) hb
          replace na := na.below hs
          replace nb := nb.below hs
          replace nc := nc.below hs
          have hB := hs
          clear hb hs
          go_wp2_with fail
          refine (add_good (na.below (by first | exact Below.refl _ _ | go_grown)) (nb.below (by first | exact Below.refl _ _ | go_grown)) (by omega) (by omega)).mono ?_
          rintro e w2 ⟨x, rfl, hx, hb⟩
          have hs : Below w1.heap.size w1 w2 := step (by first | exact Below.refl _ _ | go_grown) hb
          replace na := na.below hs
          replace nb := nb.below hs
          replace nc := nc.below hs
          replace hB := from_ hB hs
          clear hb hs
          go_wp2_with fail
          refine (add_good (nb.below (by first | exact Below.refl _ _ | go_grown)) (na.below (by first | exact Below.refl _ _ | go_grown)) (by omega) (by omega)).mono ?_
          rintro e w3 ⟨y, rfl, hy, hb⟩
          have hs : Below w2.heap.size w2 w3 := step (by first | exact Below.refl _ _ | go_grown) hb
          replace na := na.below hs
          replace nb := nb.below hs
          replace nc := nc.below hs
          replace hx := hx.below hs
          replace hB := from_ hB hs
          clear hb hs
          go_wp2_with fail
          refine (check_goodN (nc.below (by first | exact Below.refl _ _ | go_grown))).mono ?_
          rintro e _ ⟨rfl, rfl⟩
          go_wp2_with fail
          refine (add_good (hx.below (by first | exact Below.refl _ _ | go_grown)) (nc.below (by first | exact Below.refl _ _ | go_grown)) (by omega) (by omega)).mono ?_
          rintro e w4 ⟨p, rfl, hp, hb⟩
          have hs : Below w3.heap.size w3 w4 := step (by first | exact Below.refl _ _ | go_grown) hb
          replace na := na.below hs
          replace nb := nb.below hs
          replace nc := nc.below hs
          replace hx := hx.below hs
          replace hy := hy.below hs
          replace hB := from_ hB hs
          clear hb hs
          go_wp2_with fail
          refine (add_good (nb.below (by first | exact Below.refl _ _ | go_grown)) (nc.below (by first | exact Below.refl _ _ | go_grown)) (by omega) (by omega)).mono ?_
          rintro e w5 ⟨q, rfl, hq, hb⟩
          have hs : Below w4.heap.size w4 w5 := step (by first | exact Below.refl _ _ | go_grown) hb
          replace na := na.below hs
          replace nb := nb.below hs
          replace nc := nc.below hs
          replace hx := hx.below hs
          replace hy := hy.below hs
          replace hp := hp.below hs
          replace hB := from_ hB hs
          clear hb hs
          go_wp2_with fail
          refine (add_good (na.below (by first | exact Below.refl _ _ | go_grown)) (hq.below (by first | exact Below.refl _ _ | go_grown)) (by omega) (by omega)).mono ?_
          rintro e w6 ⟨r, rfl, hr, hb⟩
          have hs : Below w5.heap.size w5 w6 := step (by first | exact Below.refl _ _ | go_grown) hb
          replace na := na.below hs
          replace nb := nb.below hs
          replace nc := nc.below hs
          replace hx := hx.below hs
          replace hy := hy.below hs
          replace hp := hp.below hs
          replace hq := hq.below hs
          replace hB := from_ hB hs
          clear hb hs
          go_wp2_with fail
          refine (sub_good (hx.below (by first | exact Below.refl _ _ | go_grown)) (nb.below (by first | exact Below.refl _ _ | go_grown)) (by omega) (by omega) (by omega)).mono ?_
          rintro e w7 ⟨s, rfl, hd, hb⟩
          have hs : Below w6.heap.size w6 w7 := step (by first | exact Below.refl _ _ | go_grown) hb
          replace na := na.below hs
          replace nb := nb.below hs
          replace nc := nc.below hs
          replace hx := hx.below hs
          replace hy := hy.below hs
          replace hp := hp.below hs
          replace hq := hq.below hs
          replace hr := hr.below hs
          replace hB := from_ hB hs
          clear hb hs
          go_wp2_with fail
          refine (add_good (na.below (by first | exact Below.refl _ _ | go_grown)) (IsN.zero _ old) (by omega) (by simp [limbs_zero])).mono ?_
          rintro e w8 ⟨t, rfl, ht, hb⟩
          have hs : Below w7.heap.size w7 w8 := step (by first | exact Below.refl _ _ | go_grown) hb
          replace na := na.below hs
          replace nb := nb.below hs
          replace nc := nc.below hs
          replace hx := hx.below hs
          replace hy := hy.below hs
          replace hp := hp.below hs
          replace hq := hq.below hs
          replace hr := hr.below hs
          replace hd := hd.below hs
          replace hB := from_ hB hs
          clear hb hs
          go_wp2_with fail
          refine (same_num (hx.below (by first | exact Below.refl _ _ | go_grown)) (hy.below (by first | exact Below.refl _ _ | go_grown)) (by omega)).mono ?_
          rintro e w9 ⟨rfl, hb⟩
          have hs : Below w8.heap.size w8 w9 := step (by first | exact Below.refl _ _ | go_grown) hb
          replace na := na.below hs
          replace nb := nb.below hs
          replace nc := nc.below hs
          replace hx := hx.below hs
          replace hy := hy.below hs
          replace hp := hp.below hs
          replace hq := hq.below hs
          replace hr := hr.below hs
          replace hd := hd.below hs
          replace ht := ht.below hs
          replace hB := from_ hB hs
          clear hb hs
          go_wp2_with fail
          refine (same_num (hp.below (by first | exact Below.refl _ _ | go_grown)) (hr.below (by first | exact Below.refl _ _ | go_grown)) (by omega)).mono ?_
          rintro e w10 ⟨rfl, hb⟩
          have hs : Below w9.heap.size w9 w10 := step (by first | exact Below.refl _ _ | go_grown) hb
          replace na := na.below hs
          replace nb := nb.below hs
          replace nc := nc.below hs
          replace hx := hx.below hs
          replace hy := hy.below hs
          replace hp := hp.below hs
          replace hq := hq.below hs
          replace hr := hr.below hs
          replace hd := hd.below hs
          replace ht := ht.below hs
          replace hB := from_ hB hs
          clear hb hs
          go_wp2_with fail
          refine (same_num (hd.below (by first | exact Below.refl _ _ | go_grown)) (na.below (by first | exact Below.refl _ _ | go_grown)) (by omega)).mono ?_
          rintro e w11 ⟨rfl, hb⟩
          have hs : Below w10.heap.size w10 w11 := step (by first | exact Below.refl _ _ | go_grown) hb
          replace na := na.below hs
          replace nb := nb.below hs
          replace nc := nc.below hs
          replace hx := hx.below hs
          replace hy := hy.below hs
          replace hp := hp.below hs
          replace hq := hq.below hs
          replace hr := hr.below hs
          replace hd := hd.below hs
          replace ht := ht.below hs
          replace hB := from_ hB hs
          clear hb hs
          go_wp2_with fail
          refine (same_num (ht.below (by first | exact Below.refl _ _ | go_grown)) (na.below (by first | exact Below.refl _ _ | go_grown)) (by omega)).mono ?_
          rintro e w12 ⟨rfl, hb⟩
          have hs : Below w11.heap.size w11 w12 := step (by first | exact Below.refl _ _ | go_grown) hb
          replace na := na.below hs
          replace nb := nb.below hs
          replace nc := nc.below hs
          replace hx := hx.below hs
          replace hy := hy.below hs
          replace hp := hp.below hs
          replace hq := hq.below hs
          replace hr := hr.below hs
          replace hd := hd.below hs
          replace ht := ht.below hs
          replace hB := from_ hB hs
          clear hb hs
          go_wp2_with fail
          refine (check_goodN (hx.below (by first | exact Below.refl _ _ | go_grown))).mono ?_
          rintro e _ ⟨rfl, rfl⟩
          go_wp2_with fail
          refine (check_goodN (hd.below (by first | exact Below.refl _ _ | go_grown))).mono ?_
          rintro e _ ⟨rfl, rfl⟩
          go_wp2
          go_ret
          exact ⟨rfl, hB⟩
        · have l1 : (limbs (val la)).length ≤ 1000 := by omega
          have l2 : (limbs (val lb)).length ≤ 1000 := by omega
          clear ea eb ua ub ga gb
          have Gc := Lib.hid gc
          clear gc
          go_enter Try.func5, Try.ntmps5
          go_wp2_with fail
          refine (alive1 _).mono ?_
          rintro e w1 ⟨rfl, hb⟩
          have hs : Below w.heap.size w w1 := step (by first | exact Below.refl _ _ | go_grown) hb
          replace na := na.below hs
          replace nb := nb.below hs
          replace uc := uc.below hs
          have hB := hs
          clear hb hs
          go_wp2_with fail
          refine (add_good (na.below (by first | exact Below.refl _ _ | go_grown)) (nb.below (by first | exact Below.refl _ _ | go_grown)) (by omega) (by omega)).mono ?_
          rintro e w2 ⟨x, rfl, hx, hb⟩
          have hs : Below w1.heap.size w1 w2 := step (by first | exact Below.refl _ _ | go_grown) hb
          replace na := na.below hs
          replace nb := nb.below hs
          replace uc := uc.below hs
          replace hB := from_ hB hs
          clear hb hs
          go_wp2_with fail
          refine (add_good (nb.below (by first | exact Below.refl _ _ | go_grown)) (na.below (by first | exact Below.refl _ _ | go_grown)) (by omega) (by omega)).mono ?_
          rintro e w3 ⟨y, rfl, hy, hb⟩
          have hs : Below w2.heap.size w2 w3 := step (by first | exact Below.refl _ _ | go_grown) hb
          replace na := na.below hs
          replace nb := nb.below hs
          replace uc := uc.below hs
          replace hx := hx.below hs
          replace hB := from_ hB hs
          clear hb hs
          go_wp2_with fail
          refine (check_badU (uc.below (by first | exact Below.refl _ _ | go_grown)) Gc.out).mono ?_
          rintro e _ ⟨rfl, rfl⟩
          go_wp2
          go_ret
          exact ⟨rfl, hB⟩
      · have Gx := Lib.hid gb
        clear gb ga ea na
        go_enter Try.func5, Try.ntmps5
        go_wp2_with fail
        refine (alive1 _).mono ?_
        rintro e w1 ⟨rfl, hb⟩
        have hs : Below w.heap.size w w1 := step (by first | exact Below.refl _ _ | go_grown) hb
        replace ua := ua.below hs
        replace ub := ub.below hs
        have hB := hs
        clear hb hs
        go_wp2_with fail
        refine (add_bad (ua.below (by first | exact Below.refl _ _ | go_grown)) (ub.below (by first | exact Below.refl _ _ | go_grown)) (.inr Gx.out)).mono ?_
        rintro e w2 ⟨rfl, hb⟩
        have hs : Below w1.heap.size w1 w2 := step (by first | exact Below.refl _ _ | go_grown) hb
        replace ua := ua.below hs
        replace ub := ub.below hs
        replace hB := from_ hB hs
        clear hb hs
        go_wp2_with fail
        refine (add_bad (ub.below (by first | exact Below.refl _ _ | go_grown)) (ua.below (by first | exact Below.refl _ _ | go_grown)) (.inl Gx.out)).mono ?_
        rintro e w3 ⟨rfl, hb⟩
        have hs : Below w2.heap.size w2 w3 := step (by first | exact Below.refl _ _ | go_grown) hb
        replace ua := ua.below hs
        replace ub := ub.below hs
        replace hB := from_ hB hs
        clear hb hs
        go_wp2
        go_ret
        exact ⟨rfl, hB⟩
    · have Gx := Lib.hid ga
      clear ga
      go_enter Try.func5, Try.ntmps5
      go_wp2_with fail
      refine (alive1 _).mono ?_
      rintro e w1 ⟨rfl, hb⟩
      have hs : Below w.heap.size w w1 := step (by first | exact Below.refl _ _ | go_grown) hb
      replace ua := ua.below hs
      replace ub := ub.below hs
      have hB := hs
      clear hb hs
      go_wp2_with fail
      refine (add_bad (ua.below (by first | exact Below.refl _ _ | go_grown)) (ub.below (by first | exact Below.refl _ _ | go_grown)) (.inl Gx.out)).mono ?_
      rintro e w2 ⟨rfl, hb⟩
      have hs : Below w1.heap.size w1 w2 := step (by first | exact Below.refl _ _ | go_grown) hb
      replace ua := ua.below hs
      replace ub := ub.below hs
      replace hB := from_ hB hs
      clear hb hs
      go_wp2_with fail
      refine (add_bad (ub.below (by first | exact Below.refl _ _ | go_grown)) (ua.below (by first | exact Below.refl _ _ | go_grown)) (.inr Gx.out)).mono ?_
      rintro e w3 ⟨rfl, hb⟩
      have hs : Below w2.heap.size w2 w3 := step (by first | exact Below.refl _ _ | go_grown) hb
      replace ua := ua.below hs
      replace ub := ub.below hs
      replace hB := from_ hB hs
      clear hb hs
      go_wp2
      go_ret
      exact ⟨rfl, hB⟩
  · have hd : ((1000 : Int) < (la.length : Int)) ∨ (decide ((1000 : Int) < (la.length : Int)) = false ∧ (1000 : Int) < (lb.length : Int)) ∨ (decide ((1000 : Int) < (la.length : Int)) = false ∧ decide ((1000 : Int) < (lb.length : Int)) = false ∧ (1000 : Int) < (lc.length : Int)) := by simp; omega
    clear h1
    rcases hd with h1 | ⟨h1, h2⟩ | ⟨h1, h2, h3⟩
    all_goals
      go_enter Try.func5, Try.ntmps5
      go_wp2_with fail
      refine (alive1 _).mono ?_
      rintro e w1 ⟨rfl, hb⟩
      have hs : Below w.heap.size w w1 := step (by first | exact Below.refl _ _ | go_grown) hb
      have hB := hs
      clear hb hs
      go_wp2
      go_ret
      exact ⟨rfl, hB⟩
end Go.Proofs.Ytodcjaobbnjikaa
