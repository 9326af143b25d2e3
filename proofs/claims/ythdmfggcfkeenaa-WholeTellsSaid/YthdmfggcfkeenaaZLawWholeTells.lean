/-
  facetroomlaw05.WholeTells, walked. No conditions.
-/
import Derived.Test.YthdmfggcfkeenaaZW5G
import Derived.Test.YthdmfggcfkeenaaZWhJ
import Derived.Test.YthdmfggcfkeenaaZVecC
namespace Go.Proofs.Ythdmfggcfkeenaa
open Go.RowKit
set_option linter.unusedVariables false
set_option linter.unusedSimpArgs false

set_option maxRecDepth 100000 in
set_option maxHeartbeats 4000000 in
theorem lawWholeTells {w : World} {Z Y : Zone} {a b : Value} {s t : Bool} {l k : List Nat} {n : Int} (ha : IsI w Z a s l) (hb : IsI w Y b t k) (hn : -9223372036854775808 ≤ n ∧ n ≤ 9223372036854775807) :
    Calls Try.prog 10 #[a, b, .int .i64 n] w fun e w' => e = .returned (.bool true) ∧ Below w.heap.size w w' := by
  obtain ⟨_, rfl, A, ca, rfl, hu⟩ := ha
  obtain ⟨_, rfl, B, cb, rfl, hv⟩ := hb
  have ia : IsI w Z (.agg #[.bool s, .slice A l.length ca]) s l := ⟨_, rfl, A, ca, rfl, hu⟩
  have ib : IsI w Y (.agg #[.bool t, .slice B k.length cb]) t k := ⟨_, rfl, B, cb, rfl, hv⟩
  obtain ⟨bA, bB, hB⟩ := boxes2 w (.bool s) (.slice A l.length ca) (.bool t) (.slice B k.length cb) 52
  obtain ⟨a0, a1, _, _, _⟩ := bA
  obtain ⟨b0, b1, _, _, _⟩ := bB
  clear hu hv
  by_cases hll : l.length ≤ 8
  · by_cases hkl : k.length ≤ 8
    · have d1 : decide ((8 : Int) < (l.length : Int)) = false := decide_eq_false (by omega)
      have d2 : decide ((8 : Int) < (k.length : Int)) = false := decide_eq_false (by omega)
      have hAdd := fun (w1 : World) (h : Below w.heap.size w w1) => wadd_all (ia.below h) (ib.below h) (by omega) (by omega)
      have rAdd := fun (w1 : World) (h : Below w.heap.size w w1) => r5add_all (ia.below h) (ib.below h) (by omega) (by omega)
      have hSub := fun (w1 : World) (h : Below w.heap.size w w1) => wsub_all (ia.below h) (ib.below h) (by omega) (by omega)
      have rSub := fun (w1 : World) (h : Below w.heap.size w w1) => r5sub_all (ia.below h) (ib.below h) (by omega) (by omega)
      have hMul := fun (w1 : World) (h : Below w.heap.size w w1) => wmul_all (ia.below h) (ib.below h) (by omega) (by omega)
      have rMul := fun (w1 : World) (h : Below w.heap.size w w1) => r5mul_all (ia.below h) (ib.below h) (by omega) (by omega)
      have hCmp := fun (w1 : World) (h : Below w.heap.size w w1) => wcmp_all (ia.below h) (ib.below h) (by omega) (by omega)
      have rCmp := fun (w1 : World) (h : Below w.heap.size w w1) => r5cmp_all (ia.below h) (ib.below h) (by omega) (by omega)
      have hSign := fun (w1 : World) (h : Below w.heap.size w w1) => wSign_all (ia.below h)
      have rSign := fun (w1 : World) (h : Below w.heap.size w w1) => r5sign_all (ia.below h)
      have hNeg := fun (w1 : World) (h : Below w.heap.size w w1) => wneg_all (ia.below h) (by omega)
      have rNeg := fun (w1 : World) (h : Below w.heap.size w w1) => r5neg_all (ia.below h) (by omega)
      have hInt := fun (w1 : World) (h : Below w.heap.size w w1) => wint_all (ia.below h)
      have rInt := fun (w1 : World) (h : Below w.heap.size w w1) => r5int_all (ia.below h) (by omega)
      have hCheck := fun (w1 : World) (h : Below w.heap.size w w1) => wcheck_any (ia.below h)
      have rCheck := fun (w1 : World) (h : Below w.heap.size w w1) => r5check_all (ia.below h)
      have hSame := fun (w1 : World) (h : Below w.heap.size w w1) => wsame_any (ia.below h) (ib.below h)
      have rSame := fun (w1 : World) (h : Below w.heap.size w w1) => same5_any (ia.below h) (ib.below h)
      have hOf := fun (w1 : World) => wof_any (w := w1) hn
      have rOf := fun (w1 : World) => r05of_any (w := w1) hn
      unfold IsZ at hOf rOf
      generalize decide (n < 0) = fs at *
      generalize limbs n.natAbs = fl at *
      obtain ⟨pa, hpa⟩ : ∃ q, q = (opP (· + ·) s l t k) := ⟨_, rfl⟩
      simp only [← hpa] at hAdd rAdd
      obtain ⟨pa1, pa2⟩ := pa
      simp only at hAdd rAdd
      obtain ⟨ps, hps⟩ : ∃ q, q = (opP (· - ·) s l t k) := ⟨_, rfl⟩
      simp only [← hps] at hSub rSub
      obtain ⟨ps1, ps2⟩ := ps
      simp only at hSub rSub
      obtain ⟨pm, hpm⟩ : ∃ q, q = (opP (· * ·) s l t k) := ⟨_, rfl⟩
      simp only [← hpm] at hMul rMul
      obtain ⟨pm1, pm2⟩ := pm
      simp only at hMul rMul
      obtain ⟨pn, hpn⟩ : ∃ q, q = (negP s l) := ⟨_, rfl⟩
      simp only [← hpn] at hNeg rNeg
      obtain ⟨pn1, pn2⟩ := pn
      simp only at hNeg rNeg
      generalize errO s l t k = eO at *
      generalize cmpO s l t k = eC at *
      generalize sgX s l = eS at *
      generalize errC s l = eK at *
      generalize intX s l = iX at *
      generalize intE s l = iE at *
      generalize decide (s = t ∧ l = k) = dS at *
      have HAdd := Lib.hid hAdd
      have RAdd := Lib.hid rAdd
      have HSub := Lib.hid hSub
      have RSub := Lib.hid rSub
      have HMul := Lib.hid hMul
      have RMul := Lib.hid rMul
      have HCmp := Lib.hid hCmp
      have RCmp := Lib.hid rCmp
      have HSign := Lib.hid hSign
      have RSign := Lib.hid rSign
      have HNeg := Lib.hid hNeg
      have RNeg := Lib.hid rNeg
      have HInt := Lib.hid hInt
      have RInt := Lib.hid rInt
      have HCheck := Lib.hid hCheck
      have RCheck := Lib.hid rCheck
      have HSame := Lib.hid hSame
      have RSame := Lib.hid rSame
      have HOf := Lib.hid hOf
      have ROf := Lib.hid rOf
      clear hAdd rAdd hSub rSub hMul rMul hCmp rCmp hSign rSign hNeg rNeg hInt rInt hCheck rCheck hSame rSame hOf rOf hpa hps hpm hpn ia ib hll hkl hn
      go_enter Try.func10, Try.ntmps10
      go_wp2_with fail
      refine (HAdd.out _ hB).mono ?_
      rintro e w1 ⟨_, rfl, ⟨_, rfl, A1, c1, rfl, hc⟩, hb⟩
      have iC : IsI w1 _ (.agg #[.bool pa1, .slice A1 pa2.length c1]) pa1 pa2 := ⟨_, rfl, A1, c1, rfl, hc⟩
      have hal : Below w1.heap.size w1 (w1.alloc (.cells #[.bool pa1, .slice A1 pa2.length c1] 52)) := (Below.refl _ _).alloc (Nat.le_refl _) _
      replace iC := iC.below hal
      obtain ⟨xC, yC, _, _, _⟩ := Box.new w1 (.bool pa1) (.slice A1 pa2.length c1) 52
      have hs := from_ hb hal
      replace a0 := keepC hs a0
      replace a1 := keepC hs a1
      replace b0 := keepC hs b0
      replace b1 := keepC hs b1
      replace hB := from_ hB hs
      clear hb hal hs hc
      go_wp2_with fail
      refine (RAdd.out _ hB).mono ?_
      rintro e w2 ⟨_, rfl, ⟨_, rfl, A2, c2, rfl, hc⟩, hb⟩
      have iD : IsI w2 _ (.agg #[.bool pa1, .slice A2 pa2.length c2]) pa1 pa2 := ⟨_, rfl, A2, c2, rfl, hc⟩
      have hal : Below w2.heap.size w2 (w2.alloc (.cells #[.bool pa1, .slice A2 pa2.length c2] 52)) := (Below.refl _ _).alloc (Nat.le_refl _) _
      replace iD := iD.below hal
      obtain ⟨xD, yD, _, _, _⟩ := Box.new w2 (.bool pa1) (.slice A2 pa2.length c2) 52
      have hs := from_ hb hal
      replace a0 := keepC hs a0
      replace a1 := keepC hs a1
      replace b0 := keepC hs b0
      replace b1 := keepC hs b1
      replace xC := keepC hs xC
      replace yC := keepC hs yC
      replace iC := iC.below hs
      replace hB := from_ hB hs
      clear hb hal hs hc
      go_wp2_with fail
      refine (HSub.out _ hB).mono ?_
      rintro e w3 ⟨_, rfl, ⟨_, rfl, A3, c3, rfl, hc⟩, hb⟩
      have iG : IsI w3 _ (.agg #[.bool ps1, .slice A3 ps2.length c3]) ps1 ps2 := ⟨_, rfl, A3, c3, rfl, hc⟩
      have hal : Below w3.heap.size w3 (w3.alloc (.cells #[.bool ps1, .slice A3 ps2.length c3] 52)) := (Below.refl _ _).alloc (Nat.le_refl _) _
      replace iG := iG.below hal
      obtain ⟨xG, yG, _, _, _⟩ := Box.new w3 (.bool ps1) (.slice A3 ps2.length c3) 52
      have hs := from_ hb hal
      replace a0 := keepC hs a0
      replace a1 := keepC hs a1
      replace b0 := keepC hs b0
      replace b1 := keepC hs b1
      replace xC := keepC hs xC
      replace yC := keepC hs yC
      replace xD := keepC hs xD
      replace yD := keepC hs yD
      replace iC := iC.below hs
      replace iD := iD.below hs
      replace hB := from_ hB hs
      clear hb hal hs hc
      go_wp2_with fail
      refine (RSub.out _ hB).mono ?_
      rintro e w4 ⟨_, rfl, ⟨_, rfl, A4, c4, rfl, hc⟩, hb⟩
      have iJ : IsI w4 _ (.agg #[.bool ps1, .slice A4 ps2.length c4]) ps1 ps2 := ⟨_, rfl, A4, c4, rfl, hc⟩
      have hal : Below w4.heap.size w4 (w4.alloc (.cells #[.bool ps1, .slice A4 ps2.length c4] 52)) := (Below.refl _ _).alloc (Nat.le_refl _) _
      replace iJ := iJ.below hal
      obtain ⟨xJ, yJ, _, _, _⟩ := Box.new w4 (.bool ps1) (.slice A4 ps2.length c4) 52
      have hs := from_ hb hal
      replace a0 := keepC hs a0
      replace a1 := keepC hs a1
      replace b0 := keepC hs b0
      replace b1 := keepC hs b1
      replace xC := keepC hs xC
      replace yC := keepC hs yC
      replace xD := keepC hs xD
      replace yD := keepC hs yD
      replace xG := keepC hs xG
      replace yG := keepC hs yG
      replace iC := iC.below hs
      replace iD := iD.below hs
      replace iG := iG.below hs
      replace hB := from_ hB hs
      clear hb hal hs hc
      go_wp2_with fail
      refine (HMul.out _ hB).mono ?_
      rintro e w5 ⟨_, rfl, ⟨_, rfl, A5, c5, rfl, hc⟩, hb⟩
      have iK : IsI w5 _ (.agg #[.bool pm1, .slice A5 pm2.length c5]) pm1 pm2 := ⟨_, rfl, A5, c5, rfl, hc⟩
      have hal : Below w5.heap.size w5 (w5.alloc (.cells #[.bool pm1, .slice A5 pm2.length c5] 52)) := (Below.refl _ _).alloc (Nat.le_refl _) _
      replace iK := iK.below hal
      obtain ⟨xK, yK, _, _, _⟩ := Box.new w5 (.bool pm1) (.slice A5 pm2.length c5) 52
      have hs := from_ hb hal
      replace a0 := keepC hs a0
      replace a1 := keepC hs a1
      replace b0 := keepC hs b0
      replace b1 := keepC hs b1
      replace xC := keepC hs xC
      replace yC := keepC hs yC
      replace xD := keepC hs xD
      replace yD := keepC hs yD
      replace xG := keepC hs xG
      replace yG := keepC hs yG
      replace xJ := keepC hs xJ
      replace yJ := keepC hs yJ
      replace iC := iC.below hs
      replace iD := iD.below hs
      replace iG := iG.below hs
      replace iJ := iJ.below hs
      replace hB := from_ hB hs
      clear hb hal hs hc
      go_wp2_with fail
      refine (RMul.out _ hB).mono ?_
      rintro e w6 ⟨_, rfl, ⟨_, rfl, A6, c6, rfl, hc⟩, hb⟩
      have iM : IsI w6 _ (.agg #[.bool pm1, .slice A6 pm2.length c6]) pm1 pm2 := ⟨_, rfl, A6, c6, rfl, hc⟩
      have hal : Below w6.heap.size w6 (w6.alloc (.cells #[.bool pm1, .slice A6 pm2.length c6] 52)) := (Below.refl _ _).alloc (Nat.le_refl _) _
      replace iM := iM.below hal
      obtain ⟨xM, yM, _, _, _⟩ := Box.new w6 (.bool pm1) (.slice A6 pm2.length c6) 52
      have hs := from_ hb hal
      replace a0 := keepC hs a0
      replace a1 := keepC hs a1
      replace b0 := keepC hs b0
      replace b1 := keepC hs b1
      replace xC := keepC hs xC
      replace yC := keepC hs yC
      replace xD := keepC hs xD
      replace yD := keepC hs yD
      replace xG := keepC hs xG
      replace yG := keepC hs yG
      replace xJ := keepC hs xJ
      replace yJ := keepC hs yJ
      replace xK := keepC hs xK
      replace yK := keepC hs yK
      replace iC := iC.below hs
      replace iD := iD.below hs
      replace iG := iG.below hs
      replace iJ := iJ.below hs
      replace iK := iK.below hs
      replace hB := from_ hB hs
      clear hb hal hs hc
      go_wp2_with fail
      refine (HCmp.out _ hB).mono ?_
      rintro e w7 ⟨rfl, hb⟩
      replace a0 := keepC hb a0
      replace a1 := keepC hb a1
      replace b0 := keepC hb b0
      replace b1 := keepC hb b1
      replace xC := keepC hb xC
      replace yC := keepC hb yC
      replace xD := keepC hb xD
      replace yD := keepC hb yD
      replace xG := keepC hb xG
      replace yG := keepC hb yG
      replace xJ := keepC hb xJ
      replace yJ := keepC hb yJ
      replace xK := keepC hb xK
      replace yK := keepC hb yK
      replace xM := keepC hb xM
      replace yM := keepC hb yM
      replace iC := iC.below hb
      replace iD := iD.below hb
      replace iG := iG.below hb
      replace iJ := iJ.below hb
      replace iK := iK.below hb
      replace iM := iM.below hb
      replace hB := from_ hB hb
      clear hb
      go_wp2_with fail
      refine (RCmp.out _ hB).mono ?_
      rintro e w8 ⟨rfl, hb⟩
      replace a0 := keepC hb a0
      replace a1 := keepC hb a1
      replace b0 := keepC hb b0
      replace b1 := keepC hb b1
      replace xC := keepC hb xC
      replace yC := keepC hb yC
      replace xD := keepC hb xD
      replace yD := keepC hb yD
      replace xG := keepC hb xG
      replace yG := keepC hb yG
      replace xJ := keepC hb xJ
      replace yJ := keepC hb yJ
      replace xK := keepC hb xK
      replace yK := keepC hb yK
      replace xM := keepC hb xM
      replace yM := keepC hb yM
      replace iC := iC.below hb
      replace iD := iD.below hb
      replace iG := iG.below hb
      replace iJ := iJ.below hb
      replace iK := iK.below hb
      replace iM := iM.below hb
      replace hB := from_ hB hb
      clear hb
      go_wp2_with fail
      refine (HSign.out _ hB).mono ?_
      rintro e w9 ⟨rfl, hb⟩
      replace a0 := keepC hb a0
      replace a1 := keepC hb a1
      replace b0 := keepC hb b0
      replace b1 := keepC hb b1
      replace xC := keepC hb xC
      replace yC := keepC hb yC
      replace xD := keepC hb xD
      replace yD := keepC hb yD
      replace xG := keepC hb xG
      replace yG := keepC hb yG
      replace xJ := keepC hb xJ
      replace yJ := keepC hb yJ
      replace xK := keepC hb xK
      replace yK := keepC hb yK
      replace xM := keepC hb xM
      replace yM := keepC hb yM
      replace iC := iC.below hb
      replace iD := iD.below hb
      replace iG := iG.below hb
      replace iJ := iJ.below hb
      replace iK := iK.below hb
      replace iM := iM.below hb
      replace hB := from_ hB hb
      clear hb
      go_wp2_with fail
      refine (RSign.out _ hB).mono ?_
      rintro e w10 ⟨rfl, hb⟩
      replace a0 := keepC hb a0
      replace a1 := keepC hb a1
      replace b0 := keepC hb b0
      replace b1 := keepC hb b1
      replace xC := keepC hb xC
      replace yC := keepC hb yC
      replace xD := keepC hb xD
      replace yD := keepC hb yD
      replace xG := keepC hb xG
      replace yG := keepC hb yG
      replace xJ := keepC hb xJ
      replace yJ := keepC hb yJ
      replace xK := keepC hb xK
      replace yK := keepC hb yK
      replace xM := keepC hb xM
      replace yM := keepC hb yM
      replace iC := iC.below hb
      replace iD := iD.below hb
      replace iG := iG.below hb
      replace iJ := iJ.below hb
      replace iK := iK.below hb
      replace iM := iM.below hb
      replace hB := from_ hB hb
      clear hb
      go_wp2_with fail
      refine (HNeg.out _ hB).mono ?_
      rintro e w11 ⟨_, rfl, ⟨_, rfl, A11, c11, rfl, hc⟩, hb⟩
      have iX : IsI w11 _ (.agg #[.bool pn1, .slice A11 pn2.length c11]) pn1 pn2 := ⟨_, rfl, A11, c11, rfl, hc⟩
      have hal : Below w11.heap.size w11 (w11.alloc (.cells #[.bool pn1, .slice A11 pn2.length c11] 52)) := (Below.refl _ _).alloc (Nat.le_refl _) _
      replace iX := iX.below hal
      obtain ⟨xX, yX, _, _, _⟩ := Box.new w11 (.bool pn1) (.slice A11 pn2.length c11) 52
      have hs := from_ hb hal
      replace a0 := keepC hs a0
      replace a1 := keepC hs a1
      replace b0 := keepC hs b0
      replace b1 := keepC hs b1
      replace xC := keepC hs xC
      replace yC := keepC hs yC
      replace xD := keepC hs xD
      replace yD := keepC hs yD
      replace xG := keepC hs xG
      replace yG := keepC hs yG
      replace xJ := keepC hs xJ
      replace yJ := keepC hs yJ
      replace xK := keepC hs xK
      replace yK := keepC hs yK
      replace xM := keepC hs xM
      replace yM := keepC hs yM
      replace iC := iC.below hs
      replace iD := iD.below hs
      replace iG := iG.below hs
      replace iJ := iJ.below hs
      replace iK := iK.below hs
      replace iM := iM.below hs
      replace hB := from_ hB hs
      clear hb hal hs hc
      go_wp2_with fail
      refine (RNeg.out _ hB).mono ?_
      rintro e w12 ⟨_, rfl, ⟨_, rfl, A12, c12, rfl, hc⟩, hb⟩
      have iW : IsI w12 _ (.agg #[.bool pn1, .slice A12 pn2.length c12]) pn1 pn2 := ⟨_, rfl, A12, c12, rfl, hc⟩
      have hal : Below w12.heap.size w12 (w12.alloc (.cells #[.bool pn1, .slice A12 pn2.length c12] 52)) := (Below.refl _ _).alloc (Nat.le_refl _) _
      replace iW := iW.below hal
      obtain ⟨xW, yW, _, _, _⟩ := Box.new w12 (.bool pn1) (.slice A12 pn2.length c12) 52
      have hs := from_ hb hal
      replace a0 := keepC hs a0
      replace a1 := keepC hs a1
      replace b0 := keepC hs b0
      replace b1 := keepC hs b1
      replace xC := keepC hs xC
      replace yC := keepC hs yC
      replace xD := keepC hs xD
      replace yD := keepC hs yD
      replace xG := keepC hs xG
      replace yG := keepC hs yG
      replace xJ := keepC hs xJ
      replace yJ := keepC hs yJ
      replace xK := keepC hs xK
      replace yK := keepC hs yK
      replace xM := keepC hs xM
      replace yM := keepC hs yM
      replace xX := keepC hs xX
      replace yX := keepC hs yX
      replace iC := iC.below hs
      replace iD := iD.below hs
      replace iG := iG.below hs
      replace iJ := iJ.below hs
      replace iK := iK.below hs
      replace iM := iM.below hs
      replace iX := iX.below hs
      replace hB := from_ hB hs
      clear hb hal hs hc
      go_wp2_with fail
      refine (HInt.out _ hB).mono ?_
      rintro e w13 ⟨rfl, hb⟩
      replace a0 := keepC hb a0
      replace a1 := keepC hb a1
      replace b0 := keepC hb b0
      replace b1 := keepC hb b1
      replace xC := keepC hb xC
      replace yC := keepC hb yC
      replace xD := keepC hb xD
      replace yD := keepC hb yD
      replace xG := keepC hb xG
      replace yG := keepC hb yG
      replace xJ := keepC hb xJ
      replace yJ := keepC hb yJ
      replace xK := keepC hb xK
      replace yK := keepC hb yK
      replace xM := keepC hb xM
      replace yM := keepC hb yM
      replace xX := keepC hb xX
      replace yX := keepC hb yX
      replace xW := keepC hb xW
      replace yW := keepC hb yW
      replace iC := iC.below hb
      replace iD := iD.below hb
      replace iG := iG.below hb
      replace iJ := iJ.below hb
      replace iK := iK.below hb
      replace iM := iM.below hb
      replace iX := iX.below hb
      replace iW := iW.below hb
      replace hB := from_ hB hb
      clear hb
      go_wp2_with fail
      refine (RInt.out _ hB).mono ?_
      rintro e w14 ⟨rfl, hb⟩
      replace a0 := keepC hb a0
      replace a1 := keepC hb a1
      replace b0 := keepC hb b0
      replace b1 := keepC hb b1
      replace xC := keepC hb xC
      replace yC := keepC hb yC
      replace xD := keepC hb xD
      replace yD := keepC hb yD
      replace xG := keepC hb xG
      replace yG := keepC hb yG
      replace xJ := keepC hb xJ
      replace yJ := keepC hb yJ
      replace xK := keepC hb xK
      replace yK := keepC hb yK
      replace xM := keepC hb xM
      replace yM := keepC hb yM
      replace xX := keepC hb xX
      replace yX := keepC hb yX
      replace xW := keepC hb xW
      replace yW := keepC hb yW
      replace iC := iC.below hb
      replace iD := iD.below hb
      replace iG := iG.below hb
      replace iJ := iJ.below hb
      replace iK := iK.below hb
      replace iM := iM.below hb
      replace iX := iX.below hb
      replace iW := iW.below hb
      replace hB := from_ hB hb
      clear hb
      go_wp2_with fail
      refine (same5_yes iC iD).mono ?_
      rintro e w15 ⟨rfl, hb⟩
      replace a0 := keepC hb a0
      replace a1 := keepC hb a1
      replace b0 := keepC hb b0
      replace b1 := keepC hb b1
      replace xC := keepC hb xC
      replace yC := keepC hb yC
      replace xD := keepC hb xD
      replace yD := keepC hb yD
      replace xG := keepC hb xG
      replace yG := keepC hb yG
      replace xJ := keepC hb xJ
      replace yJ := keepC hb yJ
      replace xK := keepC hb xK
      replace yK := keepC hb yK
      replace xM := keepC hb xM
      replace yM := keepC hb yM
      replace xX := keepC hb xX
      replace yX := keepC hb yX
      replace xW := keepC hb xW
      replace yW := keepC hb yW
      replace iC := iC.below hb
      replace iD := iD.below hb
      replace iG := iG.below hb
      replace iJ := iJ.below hb
      replace iK := iK.below hb
      replace iM := iM.below hb
      replace iX := iX.below hb
      replace iW := iW.below hb
      replace hB := from_ hB hb
      clear hb
      go_wp2_with fail
      refine (same5_yes iG iJ).mono ?_
      rintro e w16 ⟨rfl, hb⟩
      replace a0 := keepC hb a0
      replace a1 := keepC hb a1
      replace b0 := keepC hb b0
      replace b1 := keepC hb b1
      replace xC := keepC hb xC
      replace yC := keepC hb yC
      replace xD := keepC hb xD
      replace yD := keepC hb yD
      replace xG := keepC hb xG
      replace yG := keepC hb yG
      replace xJ := keepC hb xJ
      replace yJ := keepC hb yJ
      replace xK := keepC hb xK
      replace yK := keepC hb yK
      replace xM := keepC hb xM
      replace yM := keepC hb yM
      replace xX := keepC hb xX
      replace yX := keepC hb yX
      replace xW := keepC hb xW
      replace yW := keepC hb yW
      replace iC := iC.below hb
      replace iD := iD.below hb
      replace iG := iG.below hb
      replace iJ := iJ.below hb
      replace iK := iK.below hb
      replace iM := iM.below hb
      replace iX := iX.below hb
      replace iW := iW.below hb
      replace hB := from_ hB hb
      clear hb
      go_wp2_with fail
      refine (same5_yes iK iM).mono ?_
      rintro e w17 ⟨rfl, hb⟩
      replace a0 := keepC hb a0
      replace a1 := keepC hb a1
      replace b0 := keepC hb b0
      replace b1 := keepC hb b1
      replace xC := keepC hb xC
      replace yC := keepC hb yC
      replace xD := keepC hb xD
      replace yD := keepC hb yD
      replace xG := keepC hb xG
      replace yG := keepC hb yG
      replace xJ := keepC hb xJ
      replace yJ := keepC hb yJ
      replace xK := keepC hb xK
      replace yK := keepC hb yK
      replace xM := keepC hb xM
      replace yM := keepC hb yM
      replace xX := keepC hb xX
      replace yX := keepC hb yX
      replace xW := keepC hb xW
      replace yW := keepC hb yW
      replace iC := iC.below hb
      replace iD := iD.below hb
      replace iG := iG.below hb
      replace iJ := iJ.below hb
      replace iK := iK.below hb
      replace iM := iM.below hb
      replace iX := iX.below hb
      replace iW := iW.below hb
      replace hB := from_ hB hb
      clear hb
      go_wp2_with fail
      refine (same5_yes iX iW).mono ?_
      rintro e w18 ⟨rfl, hb⟩
      replace a0 := keepC hb a0
      replace a1 := keepC hb a1
      replace b0 := keepC hb b0
      replace b1 := keepC hb b1
      replace xC := keepC hb xC
      replace yC := keepC hb yC
      replace xD := keepC hb xD
      replace yD := keepC hb yD
      replace xG := keepC hb xG
      replace yG := keepC hb yG
      replace xJ := keepC hb xJ
      replace yJ := keepC hb yJ
      replace xK := keepC hb xK
      replace yK := keepC hb yK
      replace xM := keepC hb xM
      replace yM := keepC hb yM
      replace xX := keepC hb xX
      replace yX := keepC hb yX
      replace xW := keepC hb xW
      replace yW := keepC hb yW
      replace iC := iC.below hb
      replace iD := iD.below hb
      replace iG := iG.below hb
      replace iJ := iJ.below hb
      replace iK := iK.below hb
      replace iM := iM.below hb
      replace iX := iX.below hb
      replace iW := iW.below hb
      replace hB := from_ hB hb
      clear hb
      clear iC iD iG iJ iK iM iX iW xC yC xD yD xG yG xJ yJ xK yK xM yM xX yX xW yW
      go_wp2
      have a0d := (show w18.drew.cell? ⟨w.heap.size, 0, none⟩ = _ from a0)
      have a1d := (show w18.drew.cell? ⟨w.heap.size, 1, none⟩ = _ from a1)
      have b0d := (show w18.drew.cell? ⟨w.heap.size + 1, 0, none⟩ = _ from b0)
      have b1d := (show w18.drew.cell? ⟨w.heap.size + 1, 1, none⟩ = _ from b1)
      have hBd := hB.drew
      have H9 : Hid (∀ w1 Z1 Z2 u v, IsI w1 Z1 u fs fl → IsI w1 Z2 v fs fl → Calls Try.prog 50 #[u, v] w1 (fun e w' => e = .returned (.bool true) ∧ Below w1.heap.size w1 w')) := fun w1 Z1 Z2 u v h1 h2 => same5_yes h1 h2
      go_region_held3 (fun w' => w'.cell? ⟨w.heap.size, 0, none⟩ = some (.bool s) ∧ w'.cell? ⟨w.heap.size, 1, none⟩ = some (.slice A l.length ca) ∧ w'.cell? ⟨w.heap.size + 1, 0, none⟩ = some (.bool t) ∧ w'.cell? ⟨w.heap.size + 1, 1, none⟩ = some (.slice B k.length cb) ∧ Below w.heap.size w w')
        (first
          | (with_reducible exact ⟨a0d, a1d, b0d, b1d, hBd⟩)
          | (go_split_ands; with_reducible exact ⟨keepC hc (by with_reducible assumption), keepC hc (by with_reducible assumption), keepC hc (by with_reducible assumption), keepC hc (by with_reducible assumption), from_ (by with_reducible assumption) hc⟩)
          | (go_keep; done))
        (first
          | (go_at_call 51; refine (HOf.out _).mono ?_; rintro e wa ⟨v1, rfl, hv1, hc⟩; try replace hv2 := IsI.below hv2 hc)
          | (go_at_call 52; refine (ROf.out _).mono ?_; rintro e wb ⟨v2, rfl, hv2, hc⟩; try replace hv1 := IsI.below hv1 hc)
          | (go_at_call 50; with_reducible refine (H9.out _ _ _ _ _ hv1 hv2).mono ?_; rintro e wc ⟨rfl, hc⟩)
          | (go_at_call 50; refine (RSame.out _ (by go_split_ands; with_reducible assumption)).mono ?_; rintro e wg ⟨rfl, hc⟩)
          | (go_at_call 53; refine (HCheck.out _ (by go_split_ands; with_reducible assumption)).mono ?_; rintro e wd ⟨rfl, hc⟩)
          | (go_at_call 54; refine (RCheck.out _ (by go_split_ands; with_reducible assumption)).mono ?_; rintro e we ⟨rfl, hc⟩)
          | (go_at_call 55; refine (HSame.out _ (by go_split_ands; with_reducible assumption)).mono ?_; rintro e wf ⟨rfl, hc⟩))
      all_goals
        go_wp2
        go_ret
        exact ⟨rfl, by go_split_ands; with_reducible assumption⟩
    · have d1 : decide ((8 : Int) < (l.length : Int)) = false := decide_eq_false (by omega)
      have d2 : decide ((8 : Int) < (k.length : Int)) = true := decide_eq_true (by omega)
      clear ia ib
      go_enter Try.func10, Try.ntmps10
      go_wp2
      go_ret
      exact ⟨rfl, hB⟩
  · have d1 : decide ((8 : Int) < (l.length : Int)) = true := decide_eq_true (by omega)
    clear ia ib
    go_enter Try.func10, Try.ntmps10
    go_wp2
    go_ret
    exact ⟨rfl, hB⟩

end Go.Proofs.Ythdmfggcfkeenaa
