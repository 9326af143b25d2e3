/-
  The walk of VecTells. No conditions.
-/
import Derived.Deep.RegionHeld3
import Derived.Test.YtdhgjkihghndiaaGreatYVecT
import Derived.Test.YtdhgjkihghndiaaGreatYVecW
namespace Go.Proofs.YtdhgjkihghndiaaGreat
open Go.RowKit
set_option linter.unusedVariables false
set_option linter.unusedSimpArgs false


theorem cell_neV {w : World} {p q : Addr} {v u : Value} (h1 : w.cell? p = some v) (h2 : w.cell? q = some u) (h : v ≠ u) : p ≠ q := fun e => h (by rw [e] at h1; exact Option.some.inj (h1.symm.trans h2))

set_option maxRecDepth 100000 in
set_option maxHeartbeats 1000000 in
theorem lawVecTells {w : World} {a b m n : Value} {ps qs : List (Bool × List Nat)} {sm sn : Bool} {lm ln : List Nat} (ha : IsVec w old a ps) (hb : IsVec w old b qs) (hm : IsI w old m sm lm) (hn : IsI w old n sn ln) :
    Calls Tryz.prog 3 #[a, b, m, n] w fun e w' => e = .returned (.bool true) ∧ Below w.heap.size w w' := by
  obtain ⟨A, ca, rfl, qa⟩ := ha
  obtain ⟨B, cb, rfl, qb⟩ := hb
  obtain ⟨_, rfl, Am, cm, rfl, um⟩ := hm
  obtain ⟨_, rfl, An, cn, rfl, un⟩ := hn
  obtain ⟨bM, bN, hB⟩ := boxes2 w (.bool sm) (.slice Am lm.length cm) (.bool sn) (.slice An ln.length cn) 27
  obtain ⟨xm, ym, _, _, _⟩ := bM
  obtain ⟨xn, yn, _, _, _⟩ := bN
  replace qa := qa.below hB
  replace qb := qb.below hB
  replace um := um.below hB
  replace un := un.below hB
  have lna := qa.len
  have lnb := qb.len
  have hG1 : Hid (∀ W, VecAt W old A ca ps → Calls Tryz.prog 4 #[.slice A ps.length ca, .int .i64 80, .int .i64 3] W fun e w' => e = .returned (.bool (greatV ps 80 3)) ∧ W = w') := fun W h => great_any (M := 80) (K := 3) h (by omega) (by omega)
  have hG2 : Hid (∀ W, VecAt W old B cb qs → Calls Tryz.prog 4 #[.slice B qs.length cb, .int .i64 80, .int .i64 3] W fun e w' => e = .returned (.bool (greatV qs 80 3)) ∧ W = w') := fun W h => great_any (M := 80) (K := 3) h (by omega) (by omega)
  cases g1 : greatV ps 80 3 with
  | true =>
    rw [g1] at hG1
    clear g1
    go_enter Tryz.func3, Tryz.ntmps3
    go_wp2_with fail
    refine (hG1.out _ qa).mono ?_
    rintro e w1 ⟨rfl, rfl⟩
    go_wp2
    go_ret
    exact ⟨rfl, hB⟩
  | false =>
    rw [g1] at hG1
    cases g2 : greatV qs 80 3 with
    | true =>
      rw [g2] at hG2
      clear g1 g2
      go_enter Tryz.func3, Tryz.ntmps3
      go_wp2_with fail
      refine (hG1.out _ qa).mono ?_
      rintro e w1 ⟨rfl, rfl⟩
      go_wp2_with fail
      refine (hG2.out _ qb).mono ?_
      rintro e w2 ⟨rfl, rfl⟩
      go_wp2
      go_ret
      exact ⟨rfl, hB⟩
    | false =>
      rw [g2] at hG2
      by_cases h3 : lm.length ≤ 3
      · by_cases h4 : ln.length ≤ 3
        · have d1 : decide ((3 : Int) < (lm.length : Int)) = false := decide_eq_false (by omega)
          have d2 : decide ((3 : Int) < (ln.length : Int)) = false := decide_eq_false (by omega)
          obtain ⟨la, ka⟩ := greatV_no g1
          obtain ⟨lb, kb⟩ := greatV_no g2
          have sa := qa.small
          have sb := qb.small
          have smm := um.small
          have smn := un.small
          have Hla := Lib.hid (show ps.length ≤ 80 from la)
          have Hka := Lib.hid ka
          clear g1 g2
          obtain ⟨r1, m1, E1, P1, R1⟩ := pair_Dot ps qs ka kb sa sb
          obtain ⟨v2, E2, P2, R2⟩ := pair_VAdd ps qs ka kb sa sb
          obtain ⟨v3, E3, P3, R3⟩ := pair_Scale ps sn ln ka sa h4 smn
          obtain ⟨v4, E4, P4, R4⟩ := pair_Mix ps qs sm lm sn ln ka kb sa sb h3 h4 smm smn
          obtain ⟨m5, E5, P5, R5⟩ := pair_Content ps ka sa
          obtain ⟨v6, E6, P6, R6⟩ := pair_Prime ps ka sa
          obtain ⟨g7, E7, P7, R7⟩ := pair_VCmp ps qs ka kb sa sb
          replace P1 := Lib.hid P1
          replace R1 := Lib.hid R1
          replace P2 := Lib.hid P2
          replace R2 := Lib.hid R2
          replace P3 := Lib.hid P3
          replace R3 := Lib.hid R3
          replace P4 := Lib.hid P4
          replace R4 := Lib.hid R4
          replace P5 := Lib.hid P5
          replace R5 := Lib.hid R5
          replace P6 := Lib.hid P6
          replace R6 := Lib.hid R6
          replace P7 := Lib.hid P7
          replace R7 := Lib.hid R7
          have TW1 : Hid (∀ W Z A c, VecAt W Z A c ps → Calls Tryz.prog 5 #[.slice A ps.length c] W fun e w' => ∃ Av cv, e = .returned (.slice Av ps.length cv) ∧ VecAt w' (new W.heap.size) Av cv ps ∧ Below W.heap.size W w') := fun W Z A c h => by
            refine (r7twin_any h (by have := Hla.out; omega) (fun p hp => by have := Hka.out p hp; omega)).mono ?_
            rintro e w' ⟨_, rfl, ⟨Av, cv, rfl, hv⟩, hb⟩
            exact ⟨Av, cv, rfl, hv, hb⟩
          have TW2 : Hid (∀ W Z A c, VecAt W Z A c ps → Calls Tryz.prog 28 #[.slice A ps.length c] W fun e w' => ∃ Av cv, e = .returned (.slice Av ps.length cv) ∧ VecAt w' (new W.heap.size) Av cv ps ∧ Below W.heap.size W w') := fun W Z A c h => vtwin_any h (by have := Hla.out; omega) (fun p hp => by have := Hka.out p hp; omega)
          have SV : Hid (∀ W Z Y A B c d (rs : List (Bool × List Nat)), VecAt W Z A c rs → VecAt W Y B d rs → Calls Tryz.prog 21 #[.slice A rs.length c, .slice B rs.length d] W fun e w' => e = .returned (.bool true) ∧ Below W.heap.size W w') := fun W Z Y A B c d rs h1 h2 => same7_n h1 h2
          have SU : Hid (∀ W Z Y A B c d (l : List Nat), U64s W Z A c l → U64s W Y B d l → Calls Tryz.prog 22 #[.slice A l.length c, .slice B l.length d] W fun e w' => e = .returned (.bool true) ∧ Below W.heap.size W w') := fun W Z Y A B c d l h1 h2 => same_yes ⟨A, c, rfl, h1⟩ ⟨B, d, rfl, h2⟩
          have CK1 : Hid (∀ W Z A c, VecAt W Z A c ps → Calls Tryz.prog 23 #[.slice A ps.length c] W fun e w' => e = .returned (.int .i64 (errV ps)) ∧ Below W.heap.size W w') := fun W Z A c h => vcheck_any h
          have CK2 : Hid (∀ W Z A c, VecAt W Z A c ps → Calls Tryz.prog 24 #[.slice A ps.length c] W fun e w' => e = .returned (.int .i64 (errV ps)) ∧ Below W.heap.size W w') := fun W Z A c h => r7check_any h
          have ZR1 : Hid (∀ W Z A c, VecAt W Z A c ps → Calls Tryz.prog 25 #[.slice A ps.length c] W fun e w' => e = .returned (.bool (zeroV ps)) ∧ Below W.heap.size W w') := fun W Z A c h => vzero_any h (by have := Hla.out; omega)
          have ZR2 : Hid (∀ W Z A c, VecAt W Z A c ps → Calls Tryz.prog 26 #[.slice A ps.length c] W fun e w' => e = .returned (.bool (zeroV ps)) ∧ Below W.heap.size W w') := fun W Z A c h => r7zero_any h
          have SD1 : Hid (∀ W Z Y A B c d, VecAt W Z A c ps → VecAt W Y B d qs → Calls Tryz.prog 27 #[.slice A ps.length c, .slice B qs.length d] W fun e w' => e = .returned (.bool (decide (ps = qs))) ∧ Below W.heap.size W w') := fun W Z Y A B c d h1 h2 => vsame_any h1 h2
          have SD2 : Hid (∀ W Z Y A B c d, VecAt W Z A c ps → VecAt W Y B d qs → Calls Tryz.prog 21 #[.slice A ps.length c, .slice B qs.length d] W fun e w' => e = .returned (.bool (decide (ps = qs))) ∧ Below W.heap.size W w') := fun W Z Y A B c d h1 h2 => same7_all h1 h2
          generalize decide (ps = qs) = dS at *
          generalize errV ps = eV at *
          generalize zeroV ps = zV at *
          clear ka kb sa sb smm smn h3 h4
          go_enter Tryz.func3, Tryz.ntmps3
          go_wp2_with fail
          refine (hG1.out _ qa).mono ?_
          rintro e w1 ⟨rfl, rfl⟩
          go_wp2_with fail
          refine (hG2.out _ qb).mono ?_
          rintro e w2 ⟨rfl, rfl⟩
          clear hG1 hG2
          go_wp2_with fail
          refine (TW1.out _ _ _ _ qa).mono ?_
          rintro e w3 ⟨A3, c3, rfl, qo, hb⟩
          replace xm := keepC hb xm
          replace ym := keepC hb ym
          replace xn := keepC hb xn
          replace yn := keepC hb yn
          replace qa := qa.below hb
          replace qb := qb.below hb
          replace um := um.below hb
          replace un := un.below hb
          replace hB := from_ hB hb
          clear hb
          go_wp2_with fail
          refine (P1.out _ _ _ _ _ _ _ qo qb).mono ?_
          rintro e w4 ⟨A4, c4, rfl, uDP, hb⟩
          have hal : Below w4.heap.size w4 (w4.alloc (.cells #[.bool r1, .slice A4 m1.length c4] 27)) := (Below.refl _ _).alloc (Nat.le_refl _) _
          replace uDP := uDP.below hal
          obtain ⟨xDP, yDP, _, _, _⟩ := Box.new w4 (.bool r1) (.slice A4 m1.length c4) 27
          have hs := from_ hb hal
          replace xm := keepC hs xm
          replace ym := keepC hs ym
          replace xn := keepC hs xn
          replace yn := keepC hs yn
          replace qa := qa.below hs
          replace qb := qb.below hs
          replace um := um.below hs
          replace un := un.below hs
          replace qo := qo.below hs
          replace hB := from_ hB hs
          clear hb hal hs
          go_wp2_with fail
          refine (R1.out _ _ _ _ _ _ _ qa qb).mono ?_
          rintro e w5 ⟨A5, c5, rfl, uDR, hb⟩
          have hal : Below w5.heap.size w5 (w5.alloc (.cells #[.bool r1, .slice A5 m1.length c5] 27)) := (Below.refl _ _).alloc (Nat.le_refl _) _
          replace uDR := uDR.below hal
          obtain ⟨xDR, yDR, _, _, _⟩ := Box.new w5 (.bool r1) (.slice A5 m1.length c5) 27
          have hs := from_ hb hal
          replace xm := keepC hs xm
          replace ym := keepC hs ym
          replace xn := keepC hs xn
          replace yn := keepC hs yn
          replace xDP := keepC hs xDP
          replace yDP := keepC hs yDP
          replace qa := qa.below hs
          replace qb := qb.below hs
          replace um := um.below hs
          replace un := un.below hs
          replace qo := qo.below hs
          replace uDP := uDP.below hs
          replace hB := from_ hB hs
          clear hb hal hs
          go_wp2_with fail
          refine (P2.out _ _ _ _ _ _ _ qo qb).mono ?_
          rintro e w6 ⟨A6, c6, rfl, qP2, hb⟩
          replace xm := keepC hb xm
          replace ym := keepC hb ym
          replace xn := keepC hb xn
          replace yn := keepC hb yn
          replace xDP := keepC hb xDP
          replace yDP := keepC hb yDP
          replace xDR := keepC hb xDR
          replace yDR := keepC hb yDR
          replace qa := qa.below hb
          replace qb := qb.below hb
          replace um := um.below hb
          replace un := un.below hb
          replace qo := qo.below hb
          replace uDP := uDP.below hb
          replace uDR := uDR.below hb
          replace hB := from_ hB hb
          clear hb
          go_wp2_with fail
          refine (R2.out _ _ _ _ _ _ _ qa qb).mono ?_
          rintro e w7 ⟨A7, c7, rfl, qR2, hb⟩
          replace xm := keepC hb xm
          replace ym := keepC hb ym
          replace xn := keepC hb xn
          replace yn := keepC hb yn
          replace xDP := keepC hb xDP
          replace yDP := keepC hb yDP
          replace xDR := keepC hb xDR
          replace yDR := keepC hb yDR
          replace qa := qa.below hb
          replace qb := qb.below hb
          replace um := um.below hb
          replace un := un.below hb
          replace qo := qo.below hb
          replace uDP := uDP.below hb
          replace uDR := uDR.below hb
          replace qP2 := qP2.below hb
          replace hB := from_ hB hb
          clear hb
          go_wp2_with fail
          refine (P3.out _ _ _ _ _ _ _ qo un).mono ?_
          rintro e w8 ⟨A8, c8, rfl, qP3, hb⟩
          replace xm := keepC hb xm
          replace ym := keepC hb ym
          replace xn := keepC hb xn
          replace yn := keepC hb yn
          replace xDP := keepC hb xDP
          replace yDP := keepC hb yDP
          replace xDR := keepC hb xDR
          replace yDR := keepC hb yDR
          replace qa := qa.below hb
          replace qb := qb.below hb
          replace um := um.below hb
          replace un := un.below hb
          replace qo := qo.below hb
          replace uDP := uDP.below hb
          replace uDR := uDR.below hb
          replace qP2 := qP2.below hb
          replace qR2 := qR2.below hb
          replace hB := from_ hB hb
          clear hb
          go_wp2_with fail
          refine (R3.out _ _ _ _ _ _ _ qa un).mono ?_
          rintro e w9 ⟨A9, c9, rfl, qR3, hb⟩
          replace xm := keepC hb xm
          replace ym := keepC hb ym
          replace xn := keepC hb xn
          replace yn := keepC hb yn
          replace xDP := keepC hb xDP
          replace yDP := keepC hb yDP
          replace xDR := keepC hb xDR
          replace yDR := keepC hb yDR
          replace qa := qa.below hb
          replace qb := qb.below hb
          replace um := um.below hb
          replace un := un.below hb
          replace qo := qo.below hb
          replace uDP := uDP.below hb
          replace uDR := uDR.below hb
          replace qP2 := qP2.below hb
          replace qR2 := qR2.below hb
          replace qP3 := qP3.below hb
          replace hB := from_ hB hb
          clear hb
          go_wp2_with fail
          refine (P4.out _ _ _ _ _ _ _ _ _ _ _ _ _ qo qb um un).mono ?_
          rintro e w10 ⟨A10, c10, rfl, qP4, hb⟩
          replace xm := keepC hb xm
          replace ym := keepC hb ym
          replace xn := keepC hb xn
          replace yn := keepC hb yn
          replace xDP := keepC hb xDP
          replace yDP := keepC hb yDP
          replace xDR := keepC hb xDR
          replace yDR := keepC hb yDR
          replace qa := qa.below hb
          replace qb := qb.below hb
          replace um := um.below hb
          replace un := un.below hb
          replace qo := qo.below hb
          replace uDP := uDP.below hb
          replace uDR := uDR.below hb
          replace qP2 := qP2.below hb
          replace qR2 := qR2.below hb
          replace qP3 := qP3.below hb
          replace qR3 := qR3.below hb
          replace hB := from_ hB hb
          clear hb
          go_wp2_with fail
          refine (R4.out _ _ _ _ _ _ _ _ _ _ _ _ _ qa qb um un).mono ?_
          rintro e w11 ⟨A11, c11, rfl, qR4, hb⟩
          replace xm := keepC hb xm
          replace ym := keepC hb ym
          replace xn := keepC hb xn
          replace yn := keepC hb yn
          replace xDP := keepC hb xDP
          replace yDP := keepC hb yDP
          replace xDR := keepC hb xDR
          replace yDR := keepC hb yDR
          replace qa := qa.below hb
          replace qb := qb.below hb
          replace um := um.below hb
          replace un := un.below hb
          replace qo := qo.below hb
          replace uDP := uDP.below hb
          replace uDR := uDR.below hb
          replace qP2 := qP2.below hb
          replace qR2 := qR2.below hb
          replace qP3 := qP3.below hb
          replace qR3 := qR3.below hb
          replace qP4 := qP4.below hb
          replace hB := from_ hB hb
          clear hb
          go_wp2_with fail
          refine (P5.out _ _ _ _ qo).mono ?_
          rintro e w12 ⟨A12, c12, rfl, qP5, hb⟩
          replace xm := keepC hb xm
          replace ym := keepC hb ym
          replace xn := keepC hb xn
          replace yn := keepC hb yn
          replace xDP := keepC hb xDP
          replace yDP := keepC hb yDP
          replace xDR := keepC hb xDR
          replace yDR := keepC hb yDR
          replace qa := qa.below hb
          replace qb := qb.below hb
          replace um := um.below hb
          replace un := un.below hb
          replace qo := qo.below hb
          replace uDP := uDP.below hb
          replace uDR := uDR.below hb
          replace qP2 := qP2.below hb
          replace qR2 := qR2.below hb
          replace qP3 := qP3.below hb
          replace qR3 := qR3.below hb
          replace qP4 := qP4.below hb
          replace qR4 := qR4.below hb
          replace hB := from_ hB hb
          clear hb
          go_wp2_with fail
          refine (R5.out _ _ _ _ qa).mono ?_
          rintro e w13 ⟨A13, c13, rfl, qR5, hb⟩
          replace xm := keepC hb xm
          replace ym := keepC hb ym
          replace xn := keepC hb xn
          replace yn := keepC hb yn
          replace xDP := keepC hb xDP
          replace yDP := keepC hb yDP
          replace xDR := keepC hb xDR
          replace yDR := keepC hb yDR
          replace qa := qa.below hb
          replace qb := qb.below hb
          replace um := um.below hb
          replace un := un.below hb
          replace qo := qo.below hb
          replace uDP := uDP.below hb
          replace uDR := uDR.below hb
          replace qP2 := qP2.below hb
          replace qR2 := qR2.below hb
          replace qP3 := qP3.below hb
          replace qR3 := qR3.below hb
          replace qP4 := qP4.below hb
          replace qR4 := qR4.below hb
          replace qP5 := qP5.below hb
          replace hB := from_ hB hb
          clear hb
          go_wp2_with fail
          refine (P6.out _ _ _ _ qo).mono ?_
          rintro e w14 ⟨A14, c14, rfl, qP6, hb⟩
          replace xm := keepC hb xm
          replace ym := keepC hb ym
          replace xn := keepC hb xn
          replace yn := keepC hb yn
          replace xDP := keepC hb xDP
          replace yDP := keepC hb yDP
          replace xDR := keepC hb xDR
          replace yDR := keepC hb yDR
          replace qa := qa.below hb
          replace qb := qb.below hb
          replace um := um.below hb
          replace un := un.below hb
          replace qo := qo.below hb
          replace uDP := uDP.below hb
          replace uDR := uDR.below hb
          replace qP2 := qP2.below hb
          replace qR2 := qR2.below hb
          replace qP3 := qP3.below hb
          replace qR3 := qR3.below hb
          replace qP4 := qP4.below hb
          replace qR4 := qR4.below hb
          replace qP5 := qP5.below hb
          replace qR5 := qR5.below hb
          replace hB := from_ hB hb
          clear hb
          go_wp2_with fail
          refine (R6.out _ _ _ _ qa).mono ?_
          rintro e w15 ⟨A15, c15, rfl, qR6, hb⟩
          replace xm := keepC hb xm
          replace ym := keepC hb ym
          replace xn := keepC hb xn
          replace yn := keepC hb yn
          replace xDP := keepC hb xDP
          replace yDP := keepC hb yDP
          replace xDR := keepC hb xDR
          replace yDR := keepC hb yDR
          replace qa := qa.below hb
          replace qb := qb.below hb
          replace um := um.below hb
          replace un := un.below hb
          replace qo := qo.below hb
          replace uDP := uDP.below hb
          replace uDR := uDR.below hb
          replace qP2 := qP2.below hb
          replace qR2 := qR2.below hb
          replace qP3 := qP3.below hb
          replace qR3 := qR3.below hb
          replace qP4 := qP4.below hb
          replace qR4 := qR4.below hb
          replace qP5 := qP5.below hb
          replace qR5 := qR5.below hb
          replace qP6 := qP6.below hb
          replace hB := from_ hB hb
          clear hb
          go_wp2_with fail
          refine (P7.out _ _ _ _ _ _ _ qo qb).mono ?_
          rintro e w16 ⟨rfl, hb⟩
          replace xm := keepC hb xm
          replace ym := keepC hb ym
          replace xn := keepC hb xn
          replace yn := keepC hb yn
          replace xDP := keepC hb xDP
          replace yDP := keepC hb yDP
          replace xDR := keepC hb xDR
          replace yDR := keepC hb yDR
          replace qa := qa.below hb
          replace qb := qb.below hb
          replace um := um.below hb
          replace un := un.below hb
          replace qo := qo.below hb
          replace uDP := uDP.below hb
          replace uDR := uDR.below hb
          replace qP2 := qP2.below hb
          replace qR2 := qR2.below hb
          replace qP3 := qP3.below hb
          replace qR3 := qR3.below hb
          replace qP4 := qP4.below hb
          replace qR4 := qR4.below hb
          replace qP5 := qP5.below hb
          replace qR5 := qR5.below hb
          replace qP6 := qP6.below hb
          replace qR6 := qR6.below hb
          replace hB := from_ hB hb
          clear hb
          go_wp2_with fail
          refine (R7.out _ _ _ _ _ _ _ qa qb).mono ?_
          rintro e w17 ⟨rfl, hb⟩
          replace xm := keepC hb xm
          replace ym := keepC hb ym
          replace xn := keepC hb xn
          replace yn := keepC hb yn
          replace xDP := keepC hb xDP
          replace yDP := keepC hb yDP
          replace xDR := keepC hb xDR
          replace yDR := keepC hb yDR
          replace qa := qa.below hb
          replace qb := qb.below hb
          replace um := um.below hb
          replace un := un.below hb
          replace qo := qo.below hb
          replace uDP := uDP.below hb
          replace uDR := uDR.below hb
          replace qP2 := qP2.below hb
          replace qR2 := qR2.below hb
          replace qP3 := qP3.below hb
          replace qR3 := qR3.below hb
          replace qP4 := qP4.below hb
          replace qR4 := qR4.below hb
          replace qP5 := qP5.below hb
          replace qR5 := qR5.below hb
          replace qP6 := qP6.below hb
          replace qR6 := qR6.below hb
          replace hB := from_ hB hb
          clear hb
          go_wp2_with fail
          refine (same_n uDP uDR).mono ?_
          rintro e w18 ⟨rfl, hb⟩
          replace xm := keepC hb xm
          replace ym := keepC hb ym
          replace xn := keepC hb xn
          replace yn := keepC hb yn
          replace xDP := keepC hb xDP
          replace yDP := keepC hb yDP
          replace xDR := keepC hb xDR
          replace yDR := keepC hb yDR
          replace qa := qa.below hb
          replace qb := qb.below hb
          replace um := um.below hb
          replace un := un.below hb
          replace qo := qo.below hb
          replace uDP := uDP.below hb
          replace uDR := uDR.below hb
          replace qP2 := qP2.below hb
          replace qR2 := qR2.below hb
          replace qP3 := qP3.below hb
          replace qR3 := qR3.below hb
          replace qP4 := qP4.below hb
          replace qR4 := qR4.below hb
          replace qP5 := qP5.below hb
          replace qR5 := qR5.below hb
          replace qP6 := qP6.below hb
          replace qR6 := qR6.below hb
          replace hB := from_ hB hb
          clear hb
          go_wp2_with fail
          refine (SV.out _ _ _ _ _ _ _ _ qP2 qR2).mono ?_
          rintro e w19 ⟨rfl, hb⟩
          replace xm := keepC hb xm
          replace ym := keepC hb ym
          replace xn := keepC hb xn
          replace yn := keepC hb yn
          replace xDP := keepC hb xDP
          replace yDP := keepC hb yDP
          replace xDR := keepC hb xDR
          replace yDR := keepC hb yDR
          replace qa := qa.below hb
          replace qb := qb.below hb
          replace um := um.below hb
          replace un := un.below hb
          replace qo := qo.below hb
          replace uDP := uDP.below hb
          replace uDR := uDR.below hb
          replace qP2 := qP2.below hb
          replace qR2 := qR2.below hb
          replace qP3 := qP3.below hb
          replace qR3 := qR3.below hb
          replace qP4 := qP4.below hb
          replace qR4 := qR4.below hb
          replace qP5 := qP5.below hb
          replace qR5 := qR5.below hb
          replace qP6 := qP6.below hb
          replace qR6 := qR6.below hb
          replace hB := from_ hB hb
          clear hb
          go_wp2_with fail
          refine (SV.out _ _ _ _ _ _ _ _ qP3 qR3).mono ?_
          rintro e w20 ⟨rfl, hb⟩
          replace xm := keepC hb xm
          replace ym := keepC hb ym
          replace xn := keepC hb xn
          replace yn := keepC hb yn
          replace xDP := keepC hb xDP
          replace yDP := keepC hb yDP
          replace xDR := keepC hb xDR
          replace yDR := keepC hb yDR
          replace qa := qa.below hb
          replace qb := qb.below hb
          replace um := um.below hb
          replace un := un.below hb
          replace qo := qo.below hb
          replace uDP := uDP.below hb
          replace uDR := uDR.below hb
          replace qP2 := qP2.below hb
          replace qR2 := qR2.below hb
          replace qP3 := qP3.below hb
          replace qR3 := qR3.below hb
          replace qP4 := qP4.below hb
          replace qR4 := qR4.below hb
          replace qP5 := qP5.below hb
          replace qR5 := qR5.below hb
          replace qP6 := qP6.below hb
          replace qR6 := qR6.below hb
          replace hB := from_ hB hb
          clear hb
          go_wp2_with fail
          refine (SV.out _ _ _ _ _ _ _ _ qP4 qR4).mono ?_
          rintro e w21 ⟨rfl, hb⟩
          replace xm := keepC hb xm
          replace ym := keepC hb ym
          replace xn := keepC hb xn
          replace yn := keepC hb yn
          replace xDP := keepC hb xDP
          replace yDP := keepC hb yDP
          replace xDR := keepC hb xDR
          replace yDR := keepC hb yDR
          replace qa := qa.below hb
          replace qb := qb.below hb
          replace um := um.below hb
          replace un := un.below hb
          replace qo := qo.below hb
          replace uDP := uDP.below hb
          replace uDR := uDR.below hb
          replace qP2 := qP2.below hb
          replace qR2 := qR2.below hb
          replace qP3 := qP3.below hb
          replace qR3 := qR3.below hb
          replace qP4 := qP4.below hb
          replace qR4 := qR4.below hb
          replace qP5 := qP5.below hb
          replace qR5 := qR5.below hb
          replace qP6 := qP6.below hb
          replace qR6 := qR6.below hb
          replace hB := from_ hB hb
          clear hb
          clear xDP yDP xDR yDR uDP uDR qP2 qR2 qP3 qR3 qP4 qR4
          go_wp2_with fail
          refine (SU.out _ _ _ _ _ _ _ _ qP5 qR5).mono ?_
          rintro e w22 ⟨rfl, hb⟩
          replace xm := keepC hb xm
          replace ym := keepC hb ym
          replace xn := keepC hb xn
          replace yn := keepC hb yn
          replace qa := qa.below hb
          replace qb := qb.below hb
          replace um := um.below hb
          replace un := un.below hb
          replace qo := qo.below hb
          replace qP5 := qP5.below hb
          replace qR5 := qR5.below hb
          replace qP6 := qP6.below hb
          replace qR6 := qR6.below hb
          replace hB := from_ hB hb
          clear hb
          go_wp2_with fail
          refine (SV.out _ _ _ _ _ _ _ _ qP6 qR6).mono ?_
          rintro e w23 ⟨rfl, hb⟩
          replace xm := keepC hb xm
          replace ym := keepC hb ym
          replace xn := keepC hb xn
          replace yn := keepC hb yn
          replace qa := qa.below hb
          replace qb := qb.below hb
          replace um := um.below hb
          replace un := un.below hb
          replace qo := qo.below hb
          replace qP5 := qP5.below hb
          replace qR5 := qR5.below hb
          replace qP6 := qP6.below hb
          replace qR6 := qR6.below hb
          replace hB := from_ hB hb
          clear hb
          clear qP5 qR5 qP6 qR6
          go_wp2_with fail
          refine (CK1.out _ _ _ _ qo).mono ?_
          rintro e w24 ⟨rfl, hb⟩
          replace xm := keepC hb xm
          replace ym := keepC hb ym
          replace xn := keepC hb xn
          replace yn := keepC hb yn
          replace qa := qa.below hb
          replace qb := qb.below hb
          replace um := um.below hb
          replace un := un.below hb
          replace qo := qo.below hb
          replace hB := from_ hB hb
          clear hb
          go_wp2_with fail
          refine (CK2.out _ _ _ _ qa).mono ?_
          rintro e w25 ⟨rfl, hb⟩
          replace xm := keepC hb xm
          replace ym := keepC hb ym
          replace xn := keepC hb xn
          replace yn := keepC hb yn
          replace qa := qa.below hb
          replace qb := qb.below hb
          replace um := um.below hb
          replace un := un.below hb
          replace qo := qo.below hb
          replace hB := from_ hB hb
          clear hb
          go_wp2_with fail
          refine (ZR1.out _ _ _ _ qo).mono ?_
          rintro e w26 ⟨rfl, hb⟩
          replace xm := keepC hb xm
          replace ym := keepC hb ym
          replace xn := keepC hb xn
          replace yn := keepC hb yn
          replace qa := qa.below hb
          replace qb := qb.below hb
          replace um := um.below hb
          replace un := un.below hb
          replace qo := qo.below hb
          replace hB := from_ hB hb
          clear hb
          go_wp2_with fail
          refine (ZR2.out _ _ _ _ qa).mono ?_
          rintro e w27 ⟨rfl, hb⟩
          replace xm := keepC hb xm
          replace ym := keepC hb ym
          replace xn := keepC hb xn
          replace yn := keepC hb yn
          replace qa := qa.below hb
          replace qb := qb.below hb
          replace um := um.below hb
          replace un := un.below hb
          replace qo := qo.below hb
          replace hB := from_ hB hb
          clear hb
          go_wp2_with fail
          refine (SD1.out _ _ _ _ _ _ _ qo qb).mono ?_
          rintro e w28 ⟨rfl, hb⟩
          replace xm := keepC hb xm
          replace ym := keepC hb ym
          replace xn := keepC hb xn
          replace yn := keepC hb yn
          replace qa := qa.below hb
          replace qb := qb.below hb
          replace um := um.below hb
          replace un := un.below hb
          replace qo := qo.below hb
          replace hB := from_ hB hb
          clear hb
          go_wp2_with fail
          refine (SD2.out _ _ _ _ _ _ _ qa qb).mono ?_
          rintro e w29 ⟨rfl, hb⟩
          replace xm := keepC hb xm
          replace ym := keepC hb ym
          replace xn := keepC hb xn
          replace yn := keepC hb yn
          replace qa := qa.below hb
          replace qb := qb.below hb
          replace um := um.below hb
          replace un := un.below hb
          replace qo := qo.below hb
          replace hB := from_ hB hb
          clear hb
          clear xm ym xn yn um un qb
          go_wp2_with fail
          refine (TW2.out _ _ _ _ qo).mono ?_
          rintro e w30 ⟨At, ct, rfl, qt, hb⟩
          have hD := hb
          have qa0 := qa
          have qo0 := qo
          have hB0 := hB
          replace qa := qa.below hb
          replace qo := qo.below hb
          replace hB := from_ hB hb
          clear hb
          go_wp2_with fail
          refine (SV.out _ _ _ _ _ _ _ _ qt qa).mono ?_
          rintro e w31 ⟨rfl, hb⟩
          replace qt := qt.below hb
          replace hD := from_ hD hb
          clear hb hB qa qo
          obtain ⟨N, hN⟩ : ∃ N, N = ps.length := ⟨_, rfl⟩
          have HN := Lib.hid hN
          rw [← hN]
          have QT : Hid (∃ pt : List (Bool × List Nat), pt.length = N ∧ VecAt w31 (new w29.heap.size) At ct pt) := ⟨ps, hN.symm, qt⟩
          have HD := Lib.hid hD
          have QA := Lib.hid qa0
          have QO := Lib.hid qo0
          have HB0 := Lib.hid hB0
          have hNl : N ≤ 80 := by rw [hN]; exact Hla.out
          clear hN qt hD qa0 qo0 hB0
          go_wp2
          go_loopw [43] (fun i wr => ∃ k : Nat, k ≤ N ∧ i = .int .i64 (k : Int) ∧ Hid (∃ pt : List (Bool × List Nat), pt.length = N ∧ VecAt wr (new w29.heap.size) At ct pt) ∧ Below w29.heap.size w29 wr) (fun i _ => N - (intOf i).toNat)
          case atStart => exact ⟨0, Nat.zero_le _, rfl, QT, HD.out⟩
          case round =>
            obtain ⟨k, hk, rfl, hqt, hbel⟩ := hrel
            by_cases hlt : k < N
            · rename World => wo
              have hdk : decide ((k : Int) < (N : Int)) = true := decide_eq_true (by omega)
              obtain ⟨pt0, hpl0, qt0⟩ := hqt.out
              have hk0 : k < pt0.length := by omega
              obtain ⟨b0, o0, _, _, eA0, -⟩ := qt0.at hk0
              subst eA0
              clear qt0 hpl0 hk0
              go_wp2
              go_loopw [44] (fun i wr => ∃ j : Nat, j ≤ 9223372036854775807 ∧ i = .int .i64 (j : Int) ∧ Hid (∃ pt : List (Bool × List Nat), ∃ hp : pt.length = N, VecAt wr (new w29.heap.size) (some ⟨b0, o0, none⟩) ct pt ∧ j ≤ (pt[k]'(by omega)).2.length) ∧ Below w29.heap.size w29 wr) (fun i wr => (match wr.cell? ⟨b0, o0 + k * 2 + 1, none⟩ with | some (.slice _ n _) => n | _ => 0) - (intOf i).toNat)
              case atStart =>
                obtain ⟨pt, hpl, qt⟩ := hqt.out
                exact ⟨0, by omega, rfl, ⟨pt, hpl, qt, Nat.zero_le _⟩, hbel⟩
              case round =>
                obtain ⟨j, hj, rfl, hin, hbelj⟩ := hrel
                obtain ⟨pt, hpl, qt, hjl⟩ := hin.out
                have hkt : k < pt.length := by omega
                obtain ⟨b9, o9, B1, d1, eA, hbb, c0, c1, hu⟩ := qt.at hkt
                injection eA with eA
                injection eA with e1 e2 _
                subst e1 e2
                have hlen := hu.len
                by_cases hjlt : j < pt[k].2.length
                · obtain ⟨b1, o1, rfl, hz1, hlt1, hf, hc⟩ := hu.open (by omega)
                  have hx := hc j hjlt
                  have hfr := hf trivial j
                  obtain ⟨x, hxx⟩ : ∃ x, x = pt[k].2[j] := ⟨_, rfl⟩
                  have hxs : x < 18446744073709551616 := by rw [hxx]; exact hu.small _ (List.getElem_mem hjlt)
                  replace hx : wr.cell? ⟨b1, o1 + j, none⟩ = some (.int .u64 (x : Int)) := by rw [hxx]; exact hx
                  obtain ⟨y, hy⟩ : ∃ y, y = (x + 1) % 18446744073709551616 := ⟨_, rfl⟩
                  have hyw : IntKind.u64.wrap ((x : Int) + 1) = (y : Int) := by rw [IntKind.wrap_u64, hy]; omega
                  have hys : y < 18446744073709551616 := by omega
                  have hpk := qt.poke2 hx hys
                  have HPK := Lib.hid hpk
                  have Hjl := Lib.hid hjlt
                  have HPL := Lib.hid hpl
                  have HZ1 := Lib.hid hz1
                  have hB2 := hbelj.setCell (p := ⟨b1, o1 + j, none⟩) hz1 (.int .u64 (y : Int))
                  have HB2 := Lib.hid hB2
                  obtain ⟨L, hL⟩ : ∃ L, L = pt[k].2.length := ⟨_, rfl⟩
                  have HL := Lib.hid hL
                  rw [← hL] at c1 hjlt hlen
                  have hne1 := cell_neV hx c1 (fun h => by cases h)
                  have HM := Lib.hid ((World.cell?_setCell_other _ _ _ (.int .u64 (y : Int)) hne1).trans c1)
                  have HC1 := Lib.hid c1
                  have hdj : decide ((j : Int) < (L : Int)) = true := decide_eq_true (by omega)
                  clear qt hu hc hf hxx hxs hy hys hpk hbb hin hL hB2 hjl hpl hz1 hne1
                  go_wp2
                  go_roundw
                  case rel =>
                    obtain ⟨pt', hp', qt', hl'⟩ := HPK.out
                    refine ⟨j + 1, by omega, by go_num, ⟨pt', hp'.trans HPL.out, qt', ?_⟩, HB2.out⟩
                    have := hl' k hkt (by have := HPL.out; omega)
                    have := Hjl.out
                    omega
                  case measure =>
                    rw [HM.out, HC1.out]
                    simp [intOf]
                    omega
                · have hdj : decide (j < pt[k].2.length) = false := decide_eq_false (by omega)
                  obtain ⟨L, hL⟩ : ∃ L, L = pt[k].2.length := ⟨_, rfl⟩
                  rw [← hL] at c1 hdj hlen
                  have HQ : Hid (∃ pt : List (Bool × List Nat), pt.length = N ∧ VecAt wr (new w29.heap.size) (some ⟨b0, o0, none⟩) ct pt) := ⟨pt, hpl, qt⟩
                  clear hin hu hL hjlt hjl qt
                  go_wp2
                  go_roundw
                  case rel => exact ⟨k + 1, by omega, by go_num, HQ, hbelj⟩
                  case measure => simp [intOf]; omega
            · obtain rfl : k = N := by omega
              have hdk : decide ((k : Int) < (k : Int)) = false := decide_eq_false (by omega)
              have qa9 := QA.out.below hbel
              have qo9 := QO.out.below hbel
              have hB9 := from_ HB0.out hbel
              have hsv := SV.out _ _ _ _ _ _ _ _ qo9 qa9
              rw [← HN.out] at hsv
              have HSV := Lib.hid hsv
              clear hqt qa9 qo9 hsv hbel
              go_wp2_with fail
              refine HSV.out.mono ?_
              rintro e wz ⟨rfl, hb⟩
              have hBz := from_ hB9 hb
              go_wp2
              go_ret
              exact ⟨by first | rfl | trivial | simp, hBz⟩
        · clear g1 g2
          have d1 : decide ((3 : Int) < (lm.length : Int)) = false := decide_eq_false (by omega)
          have d2 : decide ((3 : Int) < (ln.length : Int)) = true := decide_eq_true (by omega)
          go_enter Tryz.func3, Tryz.ntmps3
          go_wp2_with fail
          refine (hG1.out _ qa).mono ?_
          rintro e w1 ⟨rfl, rfl⟩
          go_wp2_with fail
          refine (hG2.out _ qb).mono ?_
          rintro e w2 ⟨rfl, rfl⟩
          go_wp2
          go_ret
          exact ⟨rfl, hB⟩
      · clear g1 g2
        have d1 : decide ((3 : Int) < (lm.length : Int)) = true := decide_eq_true (by omega)
        go_enter Tryz.func3, Tryz.ntmps3
        go_wp2_with fail
        refine (hG1.out _ qa).mono ?_
        rintro e w1 ⟨rfl, rfl⟩
        go_wp2_with fail
        refine (hG2.out _ qb).mono ?_
        rintro e w2 ⟨rfl, rfl⟩
        go_wp2
        go_ret
        exact ⟨rfl, hB⟩

end Go.Proofs.YtdhgjkihghndiaaGreat
