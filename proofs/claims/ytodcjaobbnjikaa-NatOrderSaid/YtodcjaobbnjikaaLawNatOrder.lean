/-
  The walk of NatOrder. No conditions.
-/
import Derived.Test.YtodcjaobbnjikaaNatE
namespace Go.Proofs.Ytodcjaobbnjikaa
open Go.RowKit
set_option linter.unusedVariables false
set_option linter.unusedSimpArgs false

set_option maxRecDepth 100000 in
set_option maxHeartbeats 2000000 in
theorem lawNatOrder {w : World} {a b c : Value} {la lb lc : List Nat} (ha : IsU w old a la) (hb : IsU w old b lb) (hc : IsU w old c lc) :
    Calls Try.prog 8 #[a, b, c] w fun e w' => e = .returned (.bool true) ∧ Below w.heap.size w w' := by
  obtain ⟨A, ca, rfl, ha⟩ := ha
  have hla := ha.len
  have ua : IsU w old (.slice A la.length ca) la := ⟨A, ca, rfl, ha⟩
  clear ha
  obtain ⟨B, cb, rfl, hb⟩ := hb
  have hlb := hb.len
  have ub : IsU w old (.slice B lb.length cb) lb := ⟨B, cb, rfl, hb⟩
  clear hb
  obtain ⟨C, cc, rfl, hc⟩ := hc
  have hlc := hc.len
  have uc : IsU w old (.slice C lc.length cc) lc := ⟨C, cc, rfl, hc⟩
  clear hc
  by_cases hlim : la.length ≤ 1000 ∧ lb.length ≤ 1000 ∧ lc.length ≤ 1000
  · obtain ⟨h1, h2, h3⟩ := hlim
    have ta : decide ((1000 : Int) < (la.length : Int)) = false := by simp; omega
    have tb : decide ((1000 : Int) < (lb.length : Int)) = false := by simp; omega
    have tc : decide ((1000 : Int) < (lc.length : Int)) = false := by simp; omega
    rcases ua.decN with ⟨ga, na, ea⟩ | ga
    · rcases ub.decN with ⟨gb, nb, eb⟩ | gb
      · rcases uc.decN with ⟨gc, nc, ec⟩ | gc
        · have ka : (limbs (val la)).length ≤ la.length := by omega
          have kb : (limbs (val lb)).length ≤ lb.length := by omega
          have kc : (limbs (val lc)).length ≤ lc.length := by omega
          have Ea := Lib.hid ea
          clear ea ga ua
          have Eb := Lib.hid eb
          clear eb gb ub
          have Ec := Lib.hid ec
          clear ec gc uc
          have s1 := len_add (val la) (val lc)
          have s2 := len_add (val lb) (val lc)
          rcases Nat.lt_trichotomy (val la) (val lb) with hlt | heq | hgt
          · go_enter Try.func8, Try.ntmps8
            go_wp2_with fail
            refine (alive1 _).mono ?_
            rintro e w1 ⟨rfl, hb⟩
            have hs : Below w.heap.size w w1 := step (by first | exact Below.refl _ _ | go_grown) hb
            replace na := na.below hs
            replace nb := nb.below hs
            replace nc := nc.below hs
            have hB := hs
            clear hb hs
            go_wp2_with fail
            refine (cmp_good (na.below (by first | exact Below.refl _ _ | go_grown)) (nb.below (by first | exact Below.refl _ _ | go_grown)) (c := -1) (cmp3_lt (by omega))).mono ?_
            rintro e w2 ⟨rfl, hb⟩
            have hs : Below w1.heap.size w1 w2 := step (by first | exact Below.refl _ _ | go_grown) hb
            replace na := na.below hs
            replace nb := nb.below hs
            replace nc := nc.below hs
            replace hB := from_ hB hs
            clear hb hs
            go_wp2_with fail
            refine (cmp_good (nb.below (by first | exact Below.refl _ _ | go_grown)) (na.below (by first | exact Below.refl _ _ | go_grown)) (c := 1) (cmp3_gt (by omega))).mono ?_
            rintro e w3 ⟨rfl, hb⟩
            have hs : Below w2.heap.size w2 w3 := step (by first | exact Below.refl _ _ | go_grown) hb
            replace na := na.below hs
            replace nb := nb.below hs
            replace nc := nc.below hs
            replace hB := from_ hB hs
            clear hb hs
            go_wp2_with fail
            refine (check_goodS (nc.below (by first | exact Below.refl _ _ | go_grown)) Ec.out).mono ?_
            rintro e _ ⟨rfl, rfl⟩
            go_wp2_with fail
            refine (sub_good (nb.below (by first | exact Below.refl _ _ | go_grown)) (na.below (by first | exact Below.refl _ _ | go_grown)) (by omega) (by omega) (by omega)).mono ?_
            rintro e w4 ⟨rest, rfl, hrest, hb⟩
            have hs : Below w3.heap.size w3 w4 := step (by first | exact Below.refl _ _ | go_grown) hb
            replace na := na.below hs
            replace nb := nb.below hs
            replace nc := nc.below hs
            replace hB := from_ hB hs
            clear hb hs
            go_wp2_with fail
            refine (sub_less (na.below (by first | exact Below.refl _ _ | go_grown)) (nb.below (by first | exact Below.refl _ _ | go_grown)) (by omega) (by omega) (by omega)).mono ?_
            rintro e w5 ⟨rfl, hb⟩
            have hs : Below w4.heap.size w4 w5 := step (by first | exact Below.refl _ _ | go_grown) hb
            replace na := na.below hs
            replace nb := nb.below hs
            replace nc := nc.below hs
            replace hrest := hrest.below hs
            replace hB := from_ hB hs
            clear hb hs
            have s3 : (limbs (val lb - val la)).length ≤ 1000 := Nat.le_trans (len_mono (Nat.sub_le _ _)) (by omega)
            go_wp2_with fail
            refine (add_good (na.below (by first | exact Below.refl _ _ | go_grown)) (hrest.below (by first | exact Below.refl _ _ | go_grown)) (by omega) (by omega)).mono ?_
            rintro e w6 ⟨home, rfl, hhome, hb⟩
            have hs : Below w5.heap.size w5 w6 := step (by first | exact Below.refl _ _ | go_grown) hb
            replace na := na.below hs
            replace nb := nb.below hs
            replace nc := nc.below hs
            replace hrest := hrest.below hs
            replace hB := from_ hB hs
            clear hb hs
            go_wp2_with fail
            refine (add_good (na.below (by first | exact Below.refl _ _ | go_grown)) (nc.below (by first | exact Below.refl _ _ | go_grown)) (by omega) (by omega)).mono ?_
            rintro e w7 ⟨p, rfl, hp, hb⟩
            have hs : Below w6.heap.size w6 w7 := step (by first | exact Below.refl _ _ | go_grown) hb
            replace na := na.below hs
            replace nb := nb.below hs
            replace nc := nc.below hs
            replace hrest := hrest.below hs
            replace hhome := hhome.below hs
            replace hB := from_ hB hs
            clear hb hs
            go_wp2_with fail
            refine (add_good (nb.below (by first | exact Below.refl _ _ | go_grown)) (nc.below (by first | exact Below.refl _ _ | go_grown)) (by omega) (by omega)).mono ?_
            rintro e w8 ⟨q, rfl, hq, hb⟩
            have hs : Below w7.heap.size w7 w8 := step (by first | exact Below.refl _ _ | go_grown) hb
            replace na := na.below hs
            replace nb := nb.below hs
            replace nc := nc.below hs
            replace hrest := hrest.below hs
            replace hhome := hhome.below hs
            replace hp := hp.below hs
            replace hB := from_ hB hs
            clear hb hs
            go_wp2_with fail
            refine (cmp_good (hp.below (by first | exact Below.refl _ _ | go_grown)) (hq.below (by first | exact Below.refl _ _ | go_grown)) (c := -1) (cmp3_lt (by omega))).mono ?_
            rintro e w9 ⟨rfl, hb⟩
            have hs : Below w8.heap.size w8 w9 := step (by first | exact Below.refl _ _ | go_grown) hb
            replace na := na.below hs
            replace nb := nb.below hs
            replace nc := nc.below hs
            replace hrest := hrest.below hs
            replace hhome := hhome.below hs
            replace hp := hp.below hs
            replace hq := hq.below hs
            replace hB := from_ hB hs
            clear hb hs
            go_wp2_with fail
            refine (same_noN (na.below (by first | exact Below.refl _ _ | go_grown)) (nb.below (by first | exact Below.refl _ _ | go_grown)) (by omega)).mono ?_
            rintro e w10 ⟨rfl, hb⟩
            have hs : Below w9.heap.size w9 w10 := step (by first | exact Below.refl _ _ | go_grown) hb
            replace na := na.below hs
            replace nb := nb.below hs
            replace nc := nc.below hs
            replace hrest := hrest.below hs
            replace hhome := hhome.below hs
            replace hp := hp.below hs
            replace hq := hq.below hs
            replace hB := from_ hB hs
            clear hb hs
            go_wp2_with fail
            refine (same_num (hhome.below (by first | exact Below.refl _ _ | go_grown)) (nb.below (by first | exact Below.refl _ _ | go_grown)) (by omega)).mono ?_
            rintro e w11 ⟨rfl, hb⟩
            have hs : Below w10.heap.size w10 w11 := step (by first | exact Below.refl _ _ | go_grown) hb
            replace na := na.below hs
            replace nb := nb.below hs
            replace nc := nc.below hs
            replace hrest := hrest.below hs
            replace hhome := hhome.below hs
            replace hp := hp.below hs
            replace hq := hq.below hs
            replace hB := from_ hB hs
            clear hb hs
            go_wp2
            go_ret
            exact ⟨rfl, hB⟩
          · have Heq := Lib.hid heq
            have q1 : val la ≤ val lb := by omega
            have q2 : val lb ≤ val la := by omega
            clear heq
            go_enter Try.func8, Try.ntmps8
            go_wp2_with fail
            refine (alive1 _).mono ?_
            rintro e w1 ⟨rfl, hb⟩
            have hs : Below w.heap.size w w1 := step (by first | exact Below.refl _ _ | go_grown) hb
            replace na := na.below hs
            replace nb := nb.below hs
            replace nc := nc.below hs
            have hB := hs
            clear hb hs
            go_wp2_with fail
            refine (cmp_good (na.below (by first | exact Below.refl _ _ | go_grown)) (nb.below (by first | exact Below.refl _ _ | go_grown)) (c := 0) (by rw [Heq.out, cmp3_eq])).mono ?_
            rintro e w2 ⟨rfl, hb⟩
            have hs : Below w1.heap.size w1 w2 := step (by first | exact Below.refl _ _ | go_grown) hb
            replace na := na.below hs
            replace nb := nb.below hs
            replace nc := nc.below hs
            replace hB := from_ hB hs
            clear hb hs
            go_wp2_with fail
            refine (cmp_good (nb.below (by first | exact Below.refl _ _ | go_grown)) (na.below (by first | exact Below.refl _ _ | go_grown)) (c := 0) (by rw [Heq.out, cmp3_eq])).mono ?_
            rintro e w3 ⟨rfl, hb⟩
            have hs : Below w2.heap.size w2 w3 := step (by first | exact Below.refl _ _ | go_grown) hb
            replace na := na.below hs
            replace nb := nb.below hs
            replace nc := nc.below hs
            replace hB := from_ hB hs
            clear hb hs
            go_wp2_with fail
            refine (check_goodS (nc.below (by first | exact Below.refl _ _ | go_grown)) Ec.out).mono ?_
            rintro e _ ⟨rfl, rfl⟩
            go_wp2_with fail
            refine (sub_good (nb.below (by first | exact Below.refl _ _ | go_grown)) (na.below (by first | exact Below.refl _ _ | go_grown)) (by omega) (by omega) (by omega)).mono ?_
            rintro e w4 ⟨rest, rfl, hrest, hb⟩
            have hs : Below w3.heap.size w3 w4 := step (by first | exact Below.refl _ _ | go_grown) hb
            replace na := na.below hs
            replace nb := nb.below hs
            replace nc := nc.below hs
            replace hB := from_ hB hs
            clear hb hs
            go_wp2_with fail
            refine (sub_good (na.below (by first | exact Below.refl _ _ | go_grown)) (nb.below (by first | exact Below.refl _ _ | go_grown)) (by omega) (by omega) (by omega)).mono ?_
            rintro e w5 ⟨_, rfl, _, hb⟩
            have hs : Below w4.heap.size w4 w5 := step (by first | exact Below.refl _ _ | go_grown) hb
            replace na := na.below hs
            replace nb := nb.below hs
            replace nc := nc.below hs
            replace hrest := hrest.below hs
            replace hB := from_ hB hs
            clear hb hs
            have s3 : (limbs (val lb - val la)).length ≤ 1000 := Nat.le_trans (len_mono (Nat.sub_le _ _)) (by omega)
            go_wp2_with fail
            refine (add_good (na.below (by first | exact Below.refl _ _ | go_grown)) (hrest.below (by first | exact Below.refl _ _ | go_grown)) (by omega) (by omega)).mono ?_
            rintro e w6 ⟨home, rfl, hhome, hb⟩
            have hs : Below w5.heap.size w5 w6 := step (by first | exact Below.refl _ _ | go_grown) hb
            replace na := na.below hs
            replace nb := nb.below hs
            replace nc := nc.below hs
            replace hrest := hrest.below hs
            replace hB := from_ hB hs
            clear hb hs
            go_wp2_with fail
            refine (add_good (na.below (by first | exact Below.refl _ _ | go_grown)) (nc.below (by first | exact Below.refl _ _ | go_grown)) (by omega) (by omega)).mono ?_
            rintro e w7 ⟨p, rfl, hp, hb⟩
            have hs : Below w6.heap.size w6 w7 := step (by first | exact Below.refl _ _ | go_grown) hb
            replace na := na.below hs
            replace nb := nb.below hs
            replace nc := nc.below hs
            replace hrest := hrest.below hs
            replace hhome := hhome.below hs
            replace hB := from_ hB hs
            clear hb hs
            go_wp2_with fail
            refine (add_good (nb.below (by first | exact Below.refl _ _ | go_grown)) (nc.below (by first | exact Below.refl _ _ | go_grown)) (by omega) (by omega)).mono ?_
            rintro e w8 ⟨q, rfl, hq, hb⟩
            have hs : Below w7.heap.size w7 w8 := step (by first | exact Below.refl _ _ | go_grown) hb
            replace na := na.below hs
            replace nb := nb.below hs
            replace nc := nc.below hs
            replace hrest := hrest.below hs
            replace hhome := hhome.below hs
            replace hp := hp.below hs
            replace hB := from_ hB hs
            clear hb hs
            go_wp2_with fail
            refine (cmp_good (hp.below (by first | exact Below.refl _ _ | go_grown)) (hq.below (by first | exact Below.refl _ _ | go_grown)) (c := 0) (by rw [Heq.out, cmp3_eq])).mono ?_
            rintro e w9 ⟨rfl, hb⟩
            have hs : Below w8.heap.size w8 w9 := step (by first | exact Below.refl _ _ | go_grown) hb
            replace na := na.below hs
            replace nb := nb.below hs
            replace nc := nc.below hs
            replace hrest := hrest.below hs
            replace hhome := hhome.below hs
            replace hp := hp.below hs
            replace hq := hq.below hs
            replace hB := from_ hB hs
            clear hb hs
            go_wp2_with fail
            refine (same_num (na.below (by first | exact Below.refl _ _ | go_grown)) (nb.below (by first | exact Below.refl _ _ | go_grown)) Heq.out).mono ?_
            rintro e w10 ⟨rfl, hb⟩
            have hs : Below w9.heap.size w9 w10 := step (by first | exact Below.refl _ _ | go_grown) hb
            replace na := na.below hs
            replace nb := nb.below hs
            replace nc := nc.below hs
            replace hrest := hrest.below hs
            replace hhome := hhome.below hs
            replace hp := hp.below hs
            replace hq := hq.below hs
            replace hB := from_ hB hs
            clear hb hs
            go_wp2_with fail
            refine (same_num (hhome.below (by first | exact Below.refl _ _ | go_grown)) (nb.below (by first | exact Below.refl _ _ | go_grown)) (by omega)).mono ?_
            rintro e w11 ⟨rfl, hb⟩
            have hs : Below w10.heap.size w10 w11 := step (by first | exact Below.refl _ _ | go_grown) hb
            replace na := na.below hs
            replace nb := nb.below hs
            replace nc := nc.below hs
            replace hrest := hrest.below hs
            replace hhome := hhome.below hs
            replace hp := hp.below hs
            replace hq := hq.below hs
            replace hB := from_ hB hs
            clear hb hs
            go_wp2
            go_ret
            exact ⟨rfl, hB⟩
          · go_enter Try.func8, Try.ntmps8
            go_wp2_with fail
            refine (alive1 _).mono ?_
            rintro e w1 ⟨rfl, hb⟩
            have hs : Below w.heap.size w w1 := step (by first | exact Below.refl _ _ | go_grown) hb
            replace na := na.below hs
            replace nb := nb.below hs
            replace nc := nc.below hs
            have hB := hs
            clear hb hs
            go_wp2_with fail
            refine (cmp_good (na.below (by first | exact Below.refl _ _ | go_grown)) (nb.below (by first | exact Below.refl _ _ | go_grown)) (c := 1) (cmp3_gt (by omega))).mono ?_
            rintro e w2 ⟨rfl, hb⟩
            have hs : Below w1.heap.size w1 w2 := step (by first | exact Below.refl _ _ | go_grown) hb
            replace na := na.below hs
            replace nb := nb.below hs
            replace nc := nc.below hs
            replace hB := from_ hB hs
            clear hb hs
            go_wp2_with fail
            refine (cmp_good (nb.below (by first | exact Below.refl _ _ | go_grown)) (na.below (by first | exact Below.refl _ _ | go_grown)) (c := -1) (cmp3_lt (by omega))).mono ?_
            rintro e w3 ⟨rfl, hb⟩
            have hs : Below w2.heap.size w2 w3 := step (by first | exact Below.refl _ _ | go_grown) hb
            replace na := na.below hs
            replace nb := nb.below hs
            replace nc := nc.below hs
            replace hB := from_ hB hs
            clear hb hs
            go_wp2_with fail
            refine (check_goodS (nc.below (by first | exact Below.refl _ _ | go_grown)) Ec.out).mono ?_
            rintro e _ ⟨rfl, rfl⟩
            go_wp2_with fail
            refine (sub_good (na.below (by first | exact Below.refl _ _ | go_grown)) (nb.below (by first | exact Below.refl _ _ | go_grown)) (by omega) (by omega) (by omega)).mono ?_
            rintro e w4 ⟨rest, rfl, hrest, hb⟩
            have hs : Below w3.heap.size w3 w4 := step (by first | exact Below.refl _ _ | go_grown) hb
            replace na := na.below hs
            replace nb := nb.below hs
            replace nc := nc.below hs
            replace hB := from_ hB hs
            clear hb hs
            go_wp2_with fail
            refine (sub_less (nb.below (by first | exact Below.refl _ _ | go_grown)) (na.below (by first | exact Below.refl _ _ | go_grown)) (by omega) (by omega) (by omega)).mono ?_
            rintro e w5 ⟨rfl, hb⟩
            have hs : Below w4.heap.size w4 w5 := step (by first | exact Below.refl _ _ | go_grown) hb
            replace na := na.below hs
            replace nb := nb.below hs
            replace nc := nc.below hs
            replace hrest := hrest.below hs
            replace hB := from_ hB hs
            clear hb hs
            have s3 : (limbs (val la - val lb)).length ≤ 1000 := Nat.le_trans (len_mono (Nat.sub_le _ _)) (by omega)
            go_wp2_with fail
            refine (add_good (nb.below (by first | exact Below.refl _ _ | go_grown)) (hrest.below (by first | exact Below.refl _ _ | go_grown)) (by omega) (by omega)).mono ?_
            rintro e w6 ⟨home, rfl, hhome, hb⟩
            have hs : Below w5.heap.size w5 w6 := step (by first | exact Below.refl _ _ | go_grown) hb
            replace na := na.below hs
            replace nb := nb.below hs
            replace nc := nc.below hs
            replace hrest := hrest.below hs
            replace hB := from_ hB hs
            clear hb hs
            go_wp2_with fail
            refine (add_good (na.below (by first | exact Below.refl _ _ | go_grown)) (nc.below (by first | exact Below.refl _ _ | go_grown)) (by omega) (by omega)).mono ?_
            rintro e w7 ⟨p, rfl, hp, hb⟩
            have hs : Below w6.heap.size w6 w7 := step (by first | exact Below.refl _ _ | go_grown) hb
            replace na := na.below hs
            replace nb := nb.below hs
            replace nc := nc.below hs
            replace hrest := hrest.below hs
            replace hhome := hhome.below hs
            replace hB := from_ hB hs
            clear hb hs
            go_wp2_with fail
            refine (add_good (nb.below (by first | exact Below.refl _ _ | go_grown)) (nc.below (by first | exact Below.refl _ _ | go_grown)) (by omega) (by omega)).mono ?_
            rintro e w8 ⟨q, rfl, hq, hb⟩
            have hs : Below w7.heap.size w7 w8 := step (by first | exact Below.refl _ _ | go_grown) hb
            replace na := na.below hs
            replace nb := nb.below hs
            replace nc := nc.below hs
            replace hrest := hrest.below hs
            replace hhome := hhome.below hs
            replace hp := hp.below hs
            replace hB := from_ hB hs
            clear hb hs
            go_wp2_with fail
            refine (cmp_good (hp.below (by first | exact Below.refl _ _ | go_grown)) (hq.below (by first | exact Below.refl _ _ | go_grown)) (c := 1) (cmp3_gt (by omega))).mono ?_
            rintro e w9 ⟨rfl, hb⟩
            have hs : Below w8.heap.size w8 w9 := step (by first | exact Below.refl _ _ | go_grown) hb
            replace na := na.below hs
            replace nb := nb.below hs
            replace nc := nc.below hs
            replace hrest := hrest.below hs
            replace hhome := hhome.below hs
            replace hp := hp.below hs
            replace hq := hq.below hs
            replace hB := from_ hB hs
            clear hb hs
            go_wp2_with fail
            refine (same_noN (na.below (by first | exact Below.refl _ _ | go_grown)) (nb.below (by first | exact Below.refl _ _ | go_grown)) (by omega)).mono ?_
            rintro e w10 ⟨rfl, hb⟩
            have hs : Below w9.heap.size w9 w10 := step (by first | exact Below.refl _ _ | go_grown) hb
            replace na := na.below hs
            replace nb := nb.below hs
            replace nc := nc.below hs
            replace hrest := hrest.below hs
            replace hhome := hhome.below hs
            replace hp := hp.below hs
            replace hq := hq.below hs
            replace hB := from_ hB hs
            clear hb hs
            go_wp2_with fail
            refine (same_num (hhome.below (by first | exact Below.refl _ _ | go_grown)) (na.below (by first | exact Below.refl _ _ | go_grown)) (by omega)).mono ?_
            rintro e w11 ⟨rfl, hb⟩
            have hs : Below w10.heap.size w10 w11 := step (by first | exact Below.refl _ _ | go_grown) hb
            replace na := na.below hs
            replace nb := nb.below hs
            replace nc := nc.below hs
            replace hrest := hrest.below hs
            replace hhome := hhome.below hs
            replace hp := hp.below hs
            replace hq := hq.below hs
            replace hB := from_ hB hs
            clear hb hs
            go_wp2
            go_ret
            exact ⟨rfl, hB⟩
        · have ka : (limbs (val la)).length ≤ la.length := by omega
          have kb : (limbs (val lb)).length ≤ lb.length := by omega
          clear ea eb ua ub ga gb
          have Gc := Lib.hid gc
          clear gc
          go_enter Try.func8, Try.ntmps8
          go_wp2_with fail
          refine (alive1 _).mono ?_
          rintro e w1 ⟨rfl, hb⟩
          have hs : Below w.heap.size w w1 := step (by first | exact Below.refl _ _ | go_grown) hb
          replace na := na.below hs
          replace nb := nb.below hs
          replace uc := uc.below hs
          have hB := hs
          clear hb hs
          go_wp2_with fail
          refine (cmp_good (na.below (by first | exact Below.refl _ _ | go_grown)) (nb.below (by first | exact Below.refl _ _ | go_grown)) rfl).mono ?_
          rintro e w2 ⟨rfl, hb⟩
          have hs : Below w1.heap.size w1 w2 := step (by first | exact Below.refl _ _ | go_grown) hb
          replace na := na.below hs
          replace nb := nb.below hs
          replace uc := uc.below hs
          replace hB := from_ hB hs
          clear hb hs
          go_wp2_with fail
          refine (cmp_good (nb.below (by first | exact Below.refl _ _ | go_grown)) (na.below (by first | exact Below.refl _ _ | go_grown)) rfl).mono ?_
          rintro e w3 ⟨rfl, hb⟩
          have hs : Below w2.heap.size w2 w3 := step (by first | exact Below.refl _ _ | go_grown) hb
          replace na := na.below hs
          replace nb := nb.below hs
          replace uc := uc.below hs
          replace hB := from_ hB hs
          clear hb hs
          go_wp2_with fail
          refine (check_badU (uc.below (by first | exact Below.refl _ _ | go_grown)) Gc.out).mono ?_
          rintro e _ ⟨rfl, rfl⟩
          go_wp2
          go_ret
          exact ⟨rfl, hB⟩
      · have Gx := Lib.hid gb
        clear gb ga ea na
        go_enter Try.func8, Try.ntmps8
        go_wp2_with fail
        refine (alive1 _).mono ?_
        rintro e w1 ⟨rfl, hb⟩
        have hs : Below w.heap.size w w1 := step (by first | exact Below.refl _ _ | go_grown) hb
        replace ua := ua.below hs
        replace ub := ub.below hs
        have hB := hs
        clear hb hs
        go_wp2_with fail
        refine (cmp_bad (ua.below (by first | exact Below.refl _ _ | go_grown)) (ub.below (by first | exact Below.refl _ _ | go_grown)) (.inr Gx.out)).mono ?_
        rintro e w2 ⟨rfl, hb⟩
        have hs : Below w1.heap.size w1 w2 := step (by first | exact Below.refl _ _ | go_grown) hb
        replace ua := ua.below hs
        replace ub := ub.below hs
        replace hB := from_ hB hs
        clear hb hs
        go_wp2_with fail
        refine (cmp_bad (ub.below (by first | exact Below.refl _ _ | go_grown)) (ua.below (by first | exact Below.refl _ _ | go_grown)) (.inl Gx.out)).mono ?_
        rintro e w3 ⟨rfl, hb⟩
        have hs : Below w2.heap.size w2 w3 := step (by first | exact Below.refl _ _ | go_grown) hb
        replace ua := ua.below hs
        replace ub := ub.below hs
        replace hB := from_ hB hs
        clear hb hs
        go_wp2
        go_ret
        exact ⟨rfl, hB⟩
    · have Gx := Lib.hid ga
      clear ga
      go_enter Try.func8, Try.ntmps8
      go_wp2_with fail
      refine (alive1 _).mono ?_
      rintro e w1 ⟨rfl, hb⟩
      have hs : Below w.heap.size w w1 := step (by first | exact Below.refl _ _ | go_grown) hb
      replace ua := ua.below hs
      replace ub := ub.below hs
      have hB := hs
      clear hb hs
      go_wp2_with fail
      refine (cmp_bad (ua.below (by first | exact Below.refl _ _ | go_grown)) (ub.below (by first | exact Below.refl _ _ | go_grown)) (.inl Gx.out)).mono ?_
      rintro e w2 ⟨rfl, hb⟩
      have hs : Below w1.heap.size w1 w2 := step (by first | exact Below.refl _ _ | go_grown) hb
      replace ua := ua.below hs
      replace ub := ub.below hs
      replace hB := from_ hB hs
      clear hb hs
      go_wp2_with fail
      refine (cmp_bad (ub.below (by first | exact Below.refl _ _ | go_grown)) (ua.below (by first | exact Below.refl _ _ | go_grown)) (.inr Gx.out)).mono ?_
      rintro e w3 ⟨rfl, hb⟩
      have hs : Below w2.heap.size w2 w3 := step (by first | exact Below.refl _ _ | go_grown) hb
      replace ua := ua.below hs
      replace ub := ub.below hs
      replace hB := from_ hB hs
      clear hb hs
      go_wp2
      go_ret
      exact ⟨rfl, hB⟩
  · have hd : ((1000 : Int) < (la.length : Int)) ∨ (decide ((1000 : Int) < (la.length : Int)) = false ∧ (1000 : Int) < (lb.length : Int)) ∨ (decide ((1000 : Int) < (la.length : Int)) = false ∧ decide ((1000 : Int) < (lb.length : Int)) = false ∧ (1000 : Int) < (lc.length : Int)) := by simp; omega
    clear hlim
    rcases hd with t0 | ⟨t0, t1⟩ | ⟨t0, t1, t2⟩
    all_goals
      go_enter Try.func8, Try.ntmps8
      go_wp2_with fail
      refine (alive1 _).mono ?_
      rintro e w1 ⟨rfl, hb⟩
      have hs : Below w.heap.size w w1 := step (by first | exact Below.refl _ _ | go_grown) hb
      have hB := hs
      clear hb hs
      go_wp2
      go_ret
      exact ⟨rfl, hB⟩
end Go.Proofs.Ytodcjaobbnjikaa
