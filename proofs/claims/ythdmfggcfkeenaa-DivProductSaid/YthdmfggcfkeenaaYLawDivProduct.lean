/-
  The walk of DivProduct. No conditions.
-/
import Derived.Test.YthdmfggcfkeenaaYDivP
import Derived.Test.YthdmfggcfkeenaaYRefO
import Derived.Test.YthdmfggcfkeenaaYNatE
import Derived.Test.YthdmfggcfkeenaaYRefC
namespace Go.Proofs.Ythdmfggcfkeenaa
open Go.RowKit
set_option linter.unusedVariables false
set_option linter.unusedSimpArgs false

set_option maxRecDepth 100000 in
set_option maxHeartbeats 2000000 in
theorem lawDivProduct {w : World} {a b c : Value} {la lb lc : List Nat} (ha : IsU w old a la) (hb : IsU w old b lb) (hc : IsU w old c lc) :
    Calls Try.prog 9 #[a, b, c] w fun e w' => e = .returned (.bool true) ∧ Below w.heap.size w w' := by
  obtain ⟨A, ca, rfl, ha⟩ := ha
  have hla := ha.len
  have ua : IsU w old (.slice A la.length ca) la := ⟨A, ca, rfl, ha⟩
  clear ha
  obtain ⟨B, cb, rfl, hb⟩ := hb
  have hlb := hb.len
  have ub : IsU w old (.slice B lb.length cb) lb := ⟨B, cb, rfl, hb⟩
  clear hb
  obtain ⟨C, cc, rfl, hc⟩ := hc
  have hlc := hc.len
  have uc : IsU w old (.slice C lc.length cc) lc := ⟨C, cc, rfl, hc⟩
  clear hc
  have hcase : ((100 : Int) < (la.length : Int)) ∨ (decide ((100 : Int) < (la.length : Int)) = false ∧ (100 : Int) < (lb.length : Int)) ∨ (decide ((100 : Int) < (la.length : Int)) = false ∧ decide ((100 : Int) < (lb.length : Int)) = false ∧ (100 : Int) < (lc.length : Int)) ∨ (decide ((100 : Int) < (la.length : Int)) = false ∧ decide ((100 : Int) < (lb.length : Int)) = false ∧ decide ((100 : Int) < (lc.length : Int)) = false ∧ la.length ≤ 100 ∧ lb.length ≤ 100 ∧ lc.length ≤ 100) := by simp only [decide_eq_false_iff_not]; omega
  rcases hcase with t0 | ⟨t0, t1⟩ | ⟨t0, t1, t2⟩ | ⟨t0, t1, t2, h0, h1, h2⟩
  · go_enter Try.func9, Try.ntmps9
    go_wp2_with fail
    refine (alive3 _).mono ?_
    rintro e w1 ⟨rfl, hb⟩
    have hs : Below w.heap.size w w1 := step (by first | exact Below.refl _ _ | go_grown) hb
    have hB := hs
    clear hb hs
    go_wp2
    go_ret
    exact ⟨rfl, hB⟩
  · go_enter Try.func9, Try.ntmps9
    go_wp2_with fail
    refine (alive3 _).mono ?_
    rintro e w1 ⟨rfl, hb⟩
    have hs : Below w.heap.size w w1 := step (by first | exact Below.refl _ _ | go_grown) hb
    have hB := hs
    clear hb hs
    go_wp2
    go_ret
    exact ⟨rfl, hB⟩
  · go_enter Try.func9, Try.ntmps9
    go_wp2_with fail
    refine (alive3 _).mono ?_
    rintro e w1 ⟨rfl, hb⟩
    have hs : Below w.heap.size w w1 := step (by first | exact Below.refl _ _ | go_grown) hb
    have hB := hs
    clear hb hs
    go_wp2
    go_ret
    exact ⟨rfl, hB⟩
  · rcases ua.decN with ⟨ga, na, ea⟩ | ga
    · rcases ub.decN with ⟨gb, nb, eb⟩ | gb
      · rcases uc.decN with ⟨gc, nc, ec⟩ | gc
        · by_cases h00 : lb.length = 0
          · have eb0 : (limbs (val lb)).length = 0 := by rw [eb]; exact h00
            clear ea ga ua eb gb ub ec gc uc
            rw [h00] at nb ⊢
            clear h00 eb0
            go_enter Try.func9, Try.ntmps9
            go_wp2_with fail
            refine (alive3 _).mono ?_
            rintro e w1 ⟨rfl, hb⟩
            have hs : Below w.heap.size w w1 := step (by first | exact Below.refl _ _ | go_grown) hb
            replace na := na.below hs
            replace nb := nb.below hs
            replace nc := nc.below hs
            have hB := hs
            clear hb hs
            go_wp2_with fail
            refine (check_goodN (na.below (by first | exact Below.refl _ _ | go_grown))).mono ?_
            rintro e _ ⟨rfl, rfl⟩
            go_wp2_with fail
            refine (check_goodN (nb.below (by first | exact Below.refl _ _ | go_grown))).mono ?_
            rintro e _ ⟨rfl, rfl⟩
            go_wp2_with fail
            refine (check_goodN (nc.below (by first | exact Below.refl _ _ | go_grown))).mono ?_
            rintro e _ ⟨rfl, rfl⟩
            go_wp2
            go_ret
            exact ⟨rfl, hB⟩
          · have hpos := val_pos_of ub.small gb (by omega)
            have hl0 : ((lb.length : Int) == 0) = false := beq_eq_false_iff_ne.2 (by omega)
            have ka : (limbs (val la)).length ≤ 100 := by omega
            have kb : (limbs (val lb)).length ≤ 100 := by omega
            have kc : (limbs (val lc)).length ≤ 100 := by omega
            have l1 := len_mul (val la) (val lb)
            have l2 := len_add (val la * val lb) (val lc)
            have hq : val lc < val lb → (val la * val lb + val lc) / val lb = val la ∧ (val la * val lb + val lc) % val lb = val lc := fun h => ⟨by rw [Nat.add_comm, Nat.add_mul_div_right _ _ hpos, Nat.div_eq_of_lt h, Nat.zero_add], by rw [Nat.add_comm, Nat.add_mul_mod_self_right, Nat.mod_eq_of_lt h]⟩
            have hcc : (val lc < val lb ∧ cmp3 (val lc : Int) (val lb : Int) = -1) ∨ (val lb ≤ val lc ∧ (cmp3 (val lc : Int) (val lb : Int) = 0 ∨ cmp3 (val lc : Int) (val lb : Int) = 1)) := by
              rcases Nat.lt_trichotomy (val lc) (val lb) with h | h | h
              · exact .inl ⟨h, cmp3_lt (by omega)⟩
              · exact .inr ⟨by omega, .inl (by rw [h, cmp3_eq])⟩
              · exact .inr ⟨by omega, .inr (cmp3_gt (by omega))⟩
            clear ea ga ua eb gb ub ec gc uc
            generalize val la = m at *
            generalize val lb = n at *
            generalize val lc = k at *
            rcases hcc with ⟨hlt, hcm⟩ | ⟨hge, hcm | hcm⟩
            · obtain ⟨hq1, hq2⟩ := hq hlt
              have Hq1 := Lib.hid hq1
              have Hq2 := Lib.hid hq2
              clear hq1 hq2
              have Hcm := Lib.hid hcm
              clear hcm hq
              go_enter Try.func9, Try.ntmps9
              go_wp2_with fail
              refine (alive3 _).mono ?_
              rintro e w1 ⟨rfl, hb⟩
              have hs : Below w.heap.size w w1 := step (by first | exact Below.refl _ _ | go_grown) hb
              replace na := na.below hs
              replace nb := nb.below hs
              replace nc := nc.below hs
              have hB := hs
              clear hb hs
              go_wp2_with fail
              refine (check_goodN (na.below (by first | exact Below.refl _ _ | go_grown))).mono ?_
              rintro e _ ⟨rfl, rfl⟩
              go_wp2_with fail
              refine (check_goodN (nb.below (by first | exact Below.refl _ _ | go_grown))).mono ?_
              rintro e _ ⟨rfl, rfl⟩
              go_wp2_with fail
              refine (check_goodN (nc.below (by first | exact Below.refl _ _ | go_grown))).mono ?_
              rintro e _ ⟨rfl, rfl⟩
              go_wp2_with fail
              refine (rtimes_good (na.below (by first | exact Below.refl _ _ | go_grown)) (nb.below (by first | exact Below.refl _ _ | go_grown)) (by omega) (by omega)).mono ?_
              rintro e w2 ⟨p, rfl, hp, hb⟩
              have hs : Below w1.heap.size w1 w2 := step (by first | exact Below.refl _ _ | go_grown) hb
              replace na := na.below hs
              replace nb := nb.below hs
              replace nc := nc.below hs
              replace hB := from_ hB hs
              clear hb hs
              go_wp2_with fail
              refine (dexact_mul (hp.below (by first | exact Below.refl _ _ | go_grown)) (nb.below (by first | exact Below.refl _ _ | go_grown)) hpos (by omega)).mono ?_
              rintro e w3 ⟨x, rfl, hx, hb⟩
              have hs : Below w2.heap.size w2 w3 := step (by first | exact Below.refl _ _ | go_grown) hb
              replace na := na.below hs
              replace nb := nb.below hs
              replace nc := nc.below hs
              replace hp := hp.below hs
              replace hB := from_ hB hs
              clear hb hs
              go_wp2_with fail
              refine (cmp_good (nc.below (by first | exact Below.refl _ _ | go_grown)) (nb.below (by first | exact Below.refl _ _ | go_grown)) Hcm.out).mono ?_
              rintro e w4 ⟨rfl, hb⟩
              have hs : Below w3.heap.size w3 w4 := step (by first | exact Below.refl _ _ | go_grown) hb
              replace na := na.below hs
              replace nb := nb.below hs
              replace nc := nc.below hs
              replace hp := hp.below hs
              replace hx := hx.below hs
              replace hB := from_ hB hs
              clear hb hs
              go_wp2_with fail
              refine (add_good (hp.below (by first | exact Below.refl _ _ | go_grown)) (nc.below (by first | exact Below.refl _ _ | go_grown)) (by omega) (by omega)).mono ?_
              rintro e w5 ⟨s, rfl, hs0, hb⟩
              have hs : Below w4.heap.size w4 w5 := step (by first | exact Below.refl _ _ | go_grown) hb
              replace na := na.below hs
              replace nb := nb.below hs
              replace nc := nc.below hs
              replace hp := hp.below hs
              replace hx := hx.below hs
              replace hB := from_ hB hs
              clear hb hs
              go_wp2_with fail
              refine (ddiv_good (hs0.below (by first | exact Below.refl _ _ | go_grown)) (nb.below (by first | exact Below.refl _ _ | go_grown)) hpos (by omega)).mono ?_
              rintro e w6 ⟨q, r, rfl, hq, hr, hb⟩
              have hs : Below w5.heap.size w5 w6 := step (by first | exact Below.refl _ _ | go_grown) hb
              replace na := na.below hs
              replace nb := nb.below hs
              replace nc := nc.below hs
              replace hp := hp.below hs
              replace hx := hx.below hs
              replace hs0 := hs0.below hs
              replace hB := from_ hB hs
              clear hb hs
              go_wp2_with fail
              refine (same_num (hx.below (by first | exact Below.refl _ _ | go_grown)) (na.below (by first | exact Below.refl _ _ | go_grown)) rfl).mono ?_
              rintro e w7 ⟨rfl, hb⟩
              have hs : Below w6.heap.size w6 w7 := step (by first | exact Below.refl _ _ | go_grown) hb
              replace na := na.below hs
              replace nb := nb.below hs
              replace nc := nc.below hs
              replace hp := hp.below hs
              replace hx := hx.below hs
              replace hs0 := hs0.below hs
              replace hq := hq.below hs
              replace hr := hr.below hs
              replace hB := from_ hB hs
              clear hb hs
              go_wp2_with fail
              refine (same_num (hq.below (by first | exact Below.refl _ _ | go_grown)) (na.below (by first | exact Below.refl _ _ | go_grown)) Hq1.out).mono ?_
              rintro e w8 ⟨rfl, hb⟩
              have hs : Below w7.heap.size w7 w8 := step (by first | exact Below.refl _ _ | go_grown) hb
              replace na := na.below hs
              replace nb := nb.below hs
              replace nc := nc.below hs
              replace hp := hp.below hs
              replace hx := hx.below hs
              replace hs0 := hs0.below hs
              replace hq := hq.below hs
              replace hr := hr.below hs
              replace hB := from_ hB hs
              clear hb hs
              go_wp2_with fail
              refine (same_num (hr.below (by first | exact Below.refl _ _ | go_grown)) (nc.below (by first | exact Below.refl _ _ | go_grown)) Hq2.out).mono ?_
              rintro e w9 ⟨rfl, hb⟩
              have hs : Below w8.heap.size w8 w9 := step (by first | exact Below.refl _ _ | go_grown) hb
              replace na := na.below hs
              replace nb := nb.below hs
              replace nc := nc.below hs
              replace hp := hp.below hs
              replace hx := hx.below hs
              replace hs0 := hs0.below hs
              replace hq := hq.below hs
              replace hr := hr.below hs
              replace hB := from_ hB hs
              clear hb hs
              go_wp2
              go_ret
              exact ⟨rfl, hB⟩
            · have Hcm := Lib.hid hcm
              clear hcm hq
              go_enter Try.func9, Try.ntmps9
              go_wp2_with fail
              refine (alive3 _).mono ?_
              rintro e w1 ⟨rfl, hb⟩
              have hs : Below w.heap.size w w1 := step (by first | exact Below.refl _ _ | go_grown) hb
              replace na := na.below hs
              replace nb := nb.below hs
              replace nc := nc.below hs
              have hB := hs
              clear hb hs
              go_wp2_with fail
              refine (check_goodN (na.below (by first | exact Below.refl _ _ | go_grown))).mono ?_
              rintro e _ ⟨rfl, rfl⟩
              go_wp2_with fail
              refine (check_goodN (nb.below (by first | exact Below.refl _ _ | go_grown))).mono ?_
              rintro e _ ⟨rfl, rfl⟩
              go_wp2_with fail
              refine (check_goodN (nc.below (by first | exact Below.refl _ _ | go_grown))).mono ?_
              rintro e _ ⟨rfl, rfl⟩
              go_wp2_with fail
              refine (rtimes_good (na.below (by first | exact Below.refl _ _ | go_grown)) (nb.below (by first | exact Below.refl _ _ | go_grown)) (by omega) (by omega)).mono ?_
              rintro e w2 ⟨p, rfl, hp, hb⟩
              have hs : Below w1.heap.size w1 w2 := step (by first | exact Below.refl _ _ | go_grown) hb
              replace na := na.below hs
              replace nb := nb.below hs
              replace nc := nc.below hs
              replace hB := from_ hB hs
              clear hb hs
              go_wp2_with fail
              refine (dexact_mul (hp.below (by first | exact Below.refl _ _ | go_grown)) (nb.below (by first | exact Below.refl _ _ | go_grown)) hpos (by omega)).mono ?_
              rintro e w3 ⟨x, rfl, hx, hb⟩
              have hs : Below w2.heap.size w2 w3 := step (by first | exact Below.refl _ _ | go_grown) hb
              replace na := na.below hs
              replace nb := nb.below hs
              replace nc := nc.below hs
              replace hp := hp.below hs
              replace hB := from_ hB hs
              clear hb hs
              go_wp2_with fail
              refine (cmp_good (nc.below (by first | exact Below.refl _ _ | go_grown)) (nb.below (by first | exact Below.refl _ _ | go_grown)) Hcm.out).mono ?_
              rintro e w4 ⟨rfl, hb⟩
              have hs : Below w3.heap.size w3 w4 := step (by first | exact Below.refl _ _ | go_grown) hb
              replace na := na.below hs
              replace nb := nb.below hs
              replace nc := nc.below hs
              replace hp := hp.below hs
              replace hx := hx.below hs
              replace hB := from_ hB hs
              clear hb hs
              go_wp2_with fail
              refine (add_good (hp.below (by first | exact Below.refl _ _ | go_grown)) (nc.below (by first | exact Below.refl _ _ | go_grown)) (by omega) (by omega)).mono ?_
              rintro e w5 ⟨s, rfl, hs0, hb⟩
              have hs : Below w4.heap.size w4 w5 := step (by first | exact Below.refl _ _ | go_grown) hb
              replace na := na.below hs
              replace nb := nb.below hs
              replace nc := nc.below hs
              replace hp := hp.below hs
              replace hx := hx.below hs
              replace hB := from_ hB hs
              clear hb hs
              go_wp2_with fail
              refine (ddiv_good (hs0.below (by first | exact Below.refl _ _ | go_grown)) (nb.below (by first | exact Below.refl _ _ | go_grown)) hpos (by omega)).mono ?_
              rintro e w6 ⟨q, r, rfl, hq, hr, hb⟩
              have hs : Below w5.heap.size w5 w6 := step (by first | exact Below.refl _ _ | go_grown) hb
              replace na := na.below hs
              replace nb := nb.below hs
              replace nc := nc.below hs
              replace hp := hp.below hs
              replace hx := hx.below hs
              replace hs0 := hs0.below hs
              replace hB := from_ hB hs
              clear hb hs
              go_wp2_with fail
              refine (same_num (hx.below (by first | exact Below.refl _ _ | go_grown)) (na.below (by first | exact Below.refl _ _ | go_grown)) rfl).mono ?_
              rintro e w7 ⟨rfl, hb⟩
              have hs : Below w6.heap.size w6 w7 := step (by first | exact Below.refl _ _ | go_grown) hb
              replace na := na.below hs
              replace nb := nb.below hs
              replace nc := nc.below hs
              replace hp := hp.below hs
              replace hx := hx.below hs
              replace hs0 := hs0.below hs
              replace hq := hq.below hs
              replace hr := hr.below hs
              replace hB := from_ hB hs
              clear hb hs
              go_wp2
              go_ret
              exact ⟨rfl, hB⟩
            · have Hcm := Lib.hid hcm
              clear hcm hq
              go_enter Try.func9, Try.ntmps9
              go_wp2_with fail
              refine (alive3 _).mono ?_
              rintro e w1 ⟨rfl, hb⟩
              have hs : Below w.heap.size w w1 := step (by first | exact Below.refl _ _ | go_grown) hb
              replace na := na.below hs
              replace nb := nb.below hs
              replace nc := nc.below hs
              have hB := hs
              clear hb hs
              go_wp2_with fail
              refine (check_goodN (na.below (by first | exact Below.refl _ _ | go_grown))).mono ?_
              rintro e _ ⟨rfl, rfl⟩
              go_wp2_with fail
              refine (check_goodN (nb.below (by first | exact Below.refl _ _ | go_grown))).mono ?_
              rintro e _ ⟨rfl, rfl⟩
              go_wp2_with fail
              refine (check_goodN (nc.below (by first | exact Below.refl _ _ | go_grown))).mono ?_
              rintro e _ ⟨rfl, rfl⟩
              go_wp2_with fail
              refine (rtimes_good (na.below (by first | exact Below.refl _ _ | go_grown)) (nb.below (by first | exact Below.refl _ _ | go_grown)) (by omega) (by omega)).mono ?_
              rintro e w2 ⟨p, rfl, hp, hb⟩
              have hs : Below w1.heap.size w1 w2 := step (by first | exact Below.refl _ _ | go_grown) hb
              replace na := na.below hs
              replace nb := nb.below hs
              replace nc := nc.below hs
              replace hB := from_ hB hs
              clear hb hs
              go_wp2_with fail
              refine (dexact_mul (hp.below (by first | exact Below.refl _ _ | go_grown)) (nb.below (by first | exact Below.refl _ _ | go_grown)) hpos (by omega)).mono ?_
              rintro e w3 ⟨x, rfl, hx, hb⟩
              have hs : Below w2.heap.size w2 w3 := step (by first | exact Below.refl _ _ | go_grown) hb
              replace na := na.below hs
              replace nb := nb.below hs
              replace nc := nc.below hs
              replace hp := hp.below hs
              replace hB := from_ hB hs
              clear hb hs
              go_wp2_with fail
              refine (cmp_good (nc.below (by first | exact Below.refl _ _ | go_grown)) (nb.below (by first | exact Below.refl _ _ | go_grown)) Hcm.out).mono ?_
              rintro e w4 ⟨rfl, hb⟩
              have hs : Below w3.heap.size w3 w4 := step (by first | exact Below.refl _ _ | go_grown) hb
              replace na := na.below hs
              replace nb := nb.below hs
              replace nc := nc.below hs
              replace hp := hp.below hs
              replace hx := hx.below hs
              replace hB := from_ hB hs
              clear hb hs
              go_wp2_with fail
              refine (add_good (hp.below (by first | exact Below.refl _ _ | go_grown)) (nc.below (by first | exact Below.refl _ _ | go_grown)) (by omega) (by omega)).mono ?_
              rintro e w5 ⟨s, rfl, hs0, hb⟩
              have hs : Below w4.heap.size w4 w5 := step (by first | exact Below.refl _ _ | go_grown) hb
              replace na := na.below hs
              replace nb := nb.below hs
              replace nc := nc.below hs
              replace hp := hp.below hs
              replace hx := hx.below hs
              replace hB := from_ hB hs
              clear hb hs
              go_wp2_with fail
              refine (ddiv_good (hs0.below (by first | exact Below.refl _ _ | go_grown)) (nb.below (by first | exact Below.refl _ _ | go_grown)) hpos (by omega)).mono ?_
              rintro e w6 ⟨q, r, rfl, hq, hr, hb⟩
              have hs : Below w5.heap.size w5 w6 := step (by first | exact Below.refl _ _ | go_grown) hb
              replace na := na.below hs
              replace nb := nb.below hs
              replace nc := nc.below hs
              replace hp := hp.below hs
              replace hx := hx.below hs
              replace hs0 := hs0.below hs
              replace hB := from_ hB hs
              clear hb hs
              go_wp2_with fail
              refine (same_num (hx.below (by first | exact Below.refl _ _ | go_grown)) (na.below (by first | exact Below.refl _ _ | go_grown)) rfl).mono ?_
              rintro e w7 ⟨rfl, hb⟩
              have hs : Below w6.heap.size w6 w7 := step (by first | exact Below.refl _ _ | go_grown) hb
              replace na := na.below hs
              replace nb := nb.below hs
              replace nc := nc.below hs
              replace hp := hp.below hs
              replace hx := hx.below hs
              replace hs0 := hs0.below hs
              replace hq := hq.below hs
              replace hr := hr.below hs
              replace hB := from_ hB hs
              clear hb hs
              go_wp2
              go_ret
              exact ⟨rfl, hB⟩
        · clear ea ga ua
          clear eb gb ub
          have Gx := Lib.hid gc
          clear gc
          go_enter Try.func9, Try.ntmps9
          go_wp2_with fail
          refine (alive3 _).mono ?_
          rintro e w1 ⟨rfl, hb⟩
          have hs : Below w.heap.size w w1 := step (by first | exact Below.refl _ _ | go_grown) hb
          replace na := na.below hs
          replace nb := nb.below hs
          replace uc := uc.below hs
          have hB := hs
          clear hb hs
          go_wp2_with fail
          refine (check_goodN (na.below (by first | exact Below.refl _ _ | go_grown))).mono ?_
          rintro e _ ⟨rfl, rfl⟩
          go_wp2_with fail
          refine (check_goodN (nb.below (by first | exact Below.refl _ _ | go_grown))).mono ?_
          rintro e _ ⟨rfl, rfl⟩
          go_wp2_with fail
          refine (check_badU (uc.below (by first | exact Below.refl _ _ | go_grown)) Gx.out).mono ?_
          rintro e _ ⟨rfl, rfl⟩
          go_wp2
          go_ret
          exact ⟨rfl, hB⟩
      · clear ea ga ua
        have Gx := Lib.hid gb
        clear gb
        clear uc
        go_enter Try.func9, Try.ntmps9
        go_wp2_with fail
        refine (alive3 _).mono ?_
        rintro e w1 ⟨rfl, hb⟩
        have hs : Below w.heap.size w w1 := step (by first | exact Below.refl _ _ | go_grown) hb
        replace na := na.below hs
        replace ub := ub.below hs
        have hB := hs
        clear hb hs
        go_wp2_with fail
        refine (check_goodN (na.below (by first | exact Below.refl _ _ | go_grown))).mono ?_
        rintro e _ ⟨rfl, rfl⟩
        go_wp2_with fail
        refine (check_badU (ub.below (by first | exact Below.refl _ _ | go_grown)) Gx.out).mono ?_
        rintro e _ ⟨rfl, rfl⟩
        go_wp2
        go_ret
        exact ⟨rfl, hB⟩
    · have Gx := Lib.hid ga
      clear ga
      clear ub
      clear uc
      go_enter Try.func9, Try.ntmps9
      go_wp2_with fail
      refine (alive3 _).mono ?_
      rintro e w1 ⟨rfl, hb⟩
      have hs : Below w.heap.size w w1 := step (by first | exact Below.refl _ _ | go_grown) hb
      replace ua := ua.below hs
      have hB := hs
      clear hb hs
      go_wp2_with fail
      refine (check_badU (ua.below (by first | exact Below.refl _ _ | go_grown)) Gx.out).mono ?_
      rintro e _ ⟨rfl, rfl⟩
      go_wp2
      go_ret
      exact ⟨rfl, hB⟩
end Go.Proofs.Ythdmfggcfkeenaa
