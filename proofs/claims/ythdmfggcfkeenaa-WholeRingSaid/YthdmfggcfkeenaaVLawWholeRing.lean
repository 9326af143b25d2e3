/-
  facetroomlaw05.WholeRing, walked. No conditions.
-/
import Derived.Test.YthdmfggcfkeenaaVWhN
namespace Go.Proofs.Ythdmfggcfkeenaa
open Go.RowKit
set_option linter.unusedVariables false
set_option linter.unusedSimpArgs false

set_option maxRecDepth 100000 in
set_option maxHeartbeats 4000000 in
theorem lawWholeRing {w : World} {Z1 Z2 Z3 : Zone} {a b c : Value} {s t r : Bool} {l k m : List Nat} (ha : IsI w Z1 a s l) (hb : IsI w Z2 b t k) (hc : IsI w Z3 c r m) :
    Calls Try.prog 11 #[a, b, c] w fun e w' => e = .returned (.bool true) ∧ Below w.heap.size w w' := by
  obtain ⟨_, rfl, A, ca, rfl, hu⟩ := ha
  obtain ⟨_, rfl, B, cb, rfl, hv⟩ := hb
  obtain ⟨_, rfl, C, cc, rfl, hx⟩ := hc
  obtain ⟨bA, bB, bC, hB⟩ := boxes3 w (.bool s) (.slice A l.length ca) (.bool t) (.slice B k.length cb) (.bool r) (.slice C m.length cc) 52
  obtain ⟨a0, a1, _, _, _⟩ := bA
  obtain ⟨b0, b1, _, _, _⟩ := bB
  obtain ⟨e0, e1, _, _, _⟩ := (show Box _ (w.heap.size + 1 + 1) _ _ from bC)
  have uA := hu.below hB
  have uB := hv.below hB
  have uC := hx.below hB
  have hsa := hu.small
  have hsb := hv.small
  have hsc := hx.small
  clear hu hv hx bC
  rcases (show 50 < l.length ∨ (l.length ≤ 50 ∧ 50 < k.length) ∨ (l.length ≤ 50 ∧ k.length ≤ 50 ∧ 50 < m.length) ∨ (l.length ≤ 50 ∧ k.length ≤ 50 ∧ m.length ≤ 50) by omega) with g1 | ⟨g1, g2⟩ | ⟨g1, g2, g3⟩ | ⟨g1, g2, g3⟩
  · have d0 : decide ((50 : Int) < (l.length : Int)) = true := decide_eq_true (by omega)
    clear uA uB uC hsa hsb hsc
    go_enter Try.func11, Try.ntmps11
    go_wp2_with fail
    refine (alive5 _).mono ?_
    rintro e w1 ⟨rfl, hb⟩
    replace a0 := keepC hb a0
    replace a1 := keepC hb a1
    replace b0 := keepC hb b0
    replace b1 := keepC hb b1
    replace e0 := keepC hb e0
    replace e1 := keepC hb e1
    replace hB := from_ hB hb
    clear hb
    go_wp2
    go_ret
    exact ⟨rfl, hB⟩
  · have d0 : decide ((50 : Int) < (l.length : Int)) = false := decide_eq_false (by omega)
    have d1 : decide ((50 : Int) < (k.length : Int)) = true := decide_eq_true (by omega)
    clear uA uB uC hsa hsb hsc
    go_enter Try.func11, Try.ntmps11
    go_wp2_with fail
    refine (alive5 _).mono ?_
    rintro e w1 ⟨rfl, hb⟩
    replace a0 := keepC hb a0
    replace a1 := keepC hb a1
    replace b0 := keepC hb b0
    replace b1 := keepC hb b1
    replace e0 := keepC hb e0
    replace e1 := keepC hb e1
    replace hB := from_ hB hb
    clear hb
    go_wp2
    go_ret
    exact ⟨rfl, hB⟩
  · have d0 : decide ((50 : Int) < (l.length : Int)) = false := decide_eq_false (by omega)
    have d1 : decide ((50 : Int) < (k.length : Int)) = false := decide_eq_false (by omega)
    have d2 : decide ((50 : Int) < (m.length : Int)) = true := decide_eq_true (by omega)
    clear uA uB uC hsa hsb hsc
    go_enter Try.func11, Try.ntmps11
    go_wp2_with fail
    refine (alive5 _).mono ?_
    rintro e w1 ⟨rfl, hb⟩
    replace a0 := keepC hb a0
    replace a1 := keepC hb a1
    replace b0 := keepC hb b0
    replace b1 := keepC hb b1
    replace e0 := keepC hb e0
    replace e1 := keepC hb e1
    replace hB := from_ hB hb
    clear hb
    go_wp2
    go_ret
    exact ⟨rfl, hB⟩
  · have d0 : decide ((50 : Int) < (l.length : Int)) = false := decide_eq_false (by omega)
    have d1 : decide ((50 : Int) < (k.length : Int)) = false := decide_eq_false (by omega)
    have d2 : decide ((50 : Int) < (m.length : Int)) = false := decide_eq_false (by omega)
    by_cases hok : okI s l = true ∧ okI t k = true ∧ okI r m = true
    · obtain ⟨o1, o2, o3⟩ := hok
      have na := Nm.ok o1 hsa
      have nb := Nm.ok o2 hsb
      have nc := Nm.ok o3 hsc
      generalize zof s l = x at *
      generalize zof t k = y at *
      generalize zof r m = z at *
      have la := na.len
      have lb := nb.len
      have lc := nc.len
      clear o1 o2 o3 hsa hsb hsc
      have q1 := lz_add x y
      have q2 := lz_add y z
      have q3 := lz_add (x + y) z
      have q4 := lz_mul x y
      have q5 := lz_mul x z
      have q6 := lz_mul x (y + z)
      have q7 := lz_mul y z
      have q8 := lz_mul (x * y) z
      have q9 : (limbs (-x).natAbs).length = (limbs x.natAbs).length := by rw [Int.natAbs_neg]
      obtain ⟨sab, lab, nab⟩ : ∃ s l, Nm (x + y) s l := ⟨_, _, Nm.mk' _⟩
      have kab := nab.len
      obtain ⟨sbc, lbc, nbc⟩ : ∃ s l, Nm (y + z) s l := ⟨_, _, Nm.mk' _⟩
      have kbc := nbc.len
      obtain ⟨sxx, lxx, nxx⟩ : ∃ s l, Nm (x + y + z) s l := ⟨_, _, Nm.mk' _⟩
      have kxx := nxx.len
      obtain ⟨sp, lp, np⟩ : ∃ s l, Nm (x * y) s l := ⟨_, _, Nm.mk' _⟩
      have kp := np.len
      obtain ⟨sac, lac, nac⟩ : ∃ s l, Nm (x * z) s l := ⟨_, _, Nm.mk' _⟩
      have kac := nac.len
      obtain ⟨su, lu, nu⟩ : ∃ s l, Nm (x * (y + z)) s l := ⟨_, _, Nm.mk' _⟩
      have ku := nu.len
      obtain ⟨sm2, lm2, nm2⟩ : ∃ s l, Nm (y * z) s l := ⟨_, _, Nm.mk' _⟩
      have km2 := nm2.len
      obtain ⟨sn, ln, nn⟩ : ∃ s l, Nm (x * y * z) s l := ⟨_, _, Nm.mk' _⟩
      have kn := nn.len
      obtain ⟨sng, lng, nng⟩ : ∃ s l, Nm (-x) s l := ⟨_, _, Nm.mk' _⟩
      have kng := nng.len
      have n0 : Nm 0 false [] := ⟨rfl, rfl⟩
      have z1 : y + x = x + y := Int.add_comm _ _
      have z2 : x + (y + z) = x + y + z := by omega
      have z3 : y * x = x * y := Int.mul_comm _ _
      have z4 : x * y + x * z = x * (y + z) := (Int.mul_add _ _ _).symm
      have z5 : x * (y * z) = x * y * z := (Int.mul_assoc _ _ _).symm
      have z6 : x + y - y = x := by omega
      have z7 : x + -x = 0 := by omega
      have b_a : l.length ≤ 90000 := by omega
      have b_b : k.length ≤ 90000 := by omega
      have b_c : m.length ≤ 90000 := by omega
      have b_ab : lab.length ≤ 90000 := by omega
      have b_bc : lbc.length ≤ 90000 := by omega
      have b_xx : lxx.length ≤ 90000 := by omega
      have b_p : lp.length ≤ 90000 := by omega
      have b_ac : lac.length ≤ 90000 := by omega
      have b_u : lu.length ≤ 90000 := by omega
      have b_m2 : lm2.length ≤ 90000 := by omega
      have b_n : ln.length ≤ 90000 := by omega
      have b_ng : lng.length ≤ 90000 := by omega
      have Na := Lib.hid na
      have Nb := Lib.hid nb
      have Nc := Lib.hid nc
      have Nab := Lib.hid nab
      have Nbc := Lib.hid nbc
      have Nxx := Lib.hid nxx
      have Np := Lib.hid np
      have Nac := Lib.hid nac
      have Nu := Lib.hid nu
      have Nm2 := Lib.hid nm2
      have Nn := Lib.hid nn
      have Nng := Lib.hid nng
      have N0 := Lib.hid n0
      have Z1' := Lib.hid z1
      have Z2' := Lib.hid z2
      have Z3' := Lib.hid z3
      have Z4' := Lib.hid z4
      have Z5' := Lib.hid z5
      have Z6' := Lib.hid z6
      have Z7' := Lib.hid z7
      clear na nb nc nab nbc nxx np nac nu nm2 nn nng n0 kab kbc kxx kp kac ku km2 kn kng la lb lc q1 q2 q3 q4 q5 q6 q7 q8 q9 z1 z2 z3 z4 z5 z6 z7
      go_enter Try.func11, Try.ntmps11
      go_wp2_with fail
      refine (alive5 _).mono ?_
      rintro e w1 ⟨rfl, hb⟩
      replace a0 := keepC hb a0
      replace a1 := keepC hb a1
      replace b0 := keepC hb b0
      replace b1 := keepC hb b1
      replace e0 := keepC hb e0
      replace e1 := keepC hb e1
      replace uA := uA.below hb
      replace uB := uB.below hb
      replace uC := uC.below hb
      replace hB := from_ hB hb
      clear hb
      go_wp2_with fail
      refine (check_n Na.out uA).mono ?_
      rintro e w2 ⟨rfl, hb⟩
      replace a0 := keepC hb a0
      replace a1 := keepC hb a1
      replace b0 := keepC hb b0
      replace b1 := keepC hb b1
      replace e0 := keepC hb e0
      replace e1 := keepC hb e1
      replace uA := uA.below hb
      replace uB := uB.below hb
      replace uC := uC.below hb
      replace hB := from_ hB hb
      clear hb
      go_wp2_with fail
      refine (check_n Nb.out uB).mono ?_
      rintro e w3 ⟨rfl, hb⟩
      replace a0 := keepC hb a0
      replace a1 := keepC hb a1
      replace b0 := keepC hb b0
      replace b1 := keepC hb b1
      replace e0 := keepC hb e0
      replace e1 := keepC hb e1
      replace uA := uA.below hb
      replace uB := uB.below hb
      replace uC := uC.below hb
      replace hB := from_ hB hb
      clear hb
      go_wp2_with fail
      refine (check_n Nc.out uC).mono ?_
      rintro e w4 ⟨rfl, hb⟩
      replace a0 := keepC hb a0
      replace a1 := keepC hb a1
      replace b0 := keepC hb b0
      replace b1 := keepC hb b1
      replace e0 := keepC hb e0
      replace e1 := keepC hb e1
      replace uA := uA.below hb
      replace uB := uB.below hb
      replace uC := uC.below hb
      replace hB := from_ hB hb
      clear hb
      go_wp2_with fail
      refine (wadd_n Na.out Nb.out Nab.out rfl b_a b_b uA uB).mono ?_
      rintro e w5 ⟨A5, c5, rfl, uAB, hb⟩
      have hal : Below w5.heap.size w5 (w5.alloc (.cells #[.bool sab, .slice A5 lab.length c5] 52)) := (Below.refl _ _).alloc (Nat.le_refl _) _
      replace uAB := uAB.below hal
      obtain ⟨xAB, yAB, _, _, _⟩ := Box.new w5 (.bool sab) (.slice A5 lab.length c5) 52
      have hs := from_ hb hal
      replace a0 := keepC hs a0
      replace a1 := keepC hs a1
      replace b0 := keepC hs b0
      replace b1 := keepC hs b1
      replace e0 := keepC hs e0
      replace e1 := keepC hs e1
      replace uA := uA.below hs
      replace uB := uB.below hs
      replace uC := uC.below hs
      replace hB := from_ hB hs
      clear hb hal hs
      go_wp2_with fail
      refine (wadd_n Nb.out Na.out Nab.out Z1'.out b_b b_a uB uA).mono ?_
      rintro e w6 ⟨A6, c6, rfl, uBA, hb⟩
      have hal : Below w6.heap.size w6 (w6.alloc (.cells #[.bool sab, .slice A6 lab.length c6] 52)) := (Below.refl _ _).alloc (Nat.le_refl _) _
      replace uBA := uBA.below hal
      obtain ⟨xBA, yBA, _, _, _⟩ := Box.new w6 (.bool sab) (.slice A6 lab.length c6) 52
      have hs := from_ hb hal
      replace a0 := keepC hs a0
      replace a1 := keepC hs a1
      replace b0 := keepC hs b0
      replace b1 := keepC hs b1
      replace e0 := keepC hs e0
      replace e1 := keepC hs e1
      replace xAB := keepC hs xAB
      replace yAB := keepC hs yAB
      replace uA := uA.below hs
      replace uB := uB.below hs
      replace uC := uC.below hs
      replace uAB := uAB.below hs
      replace hB := from_ hB hs
      clear hb hal hs
      go_wp2_with fail
      refine (wadd_n Nb.out Nc.out Nbc.out rfl b_b b_c uB uC).mono ?_
      rintro e w7 ⟨A7, c7, rfl, uBC, hb⟩
      have hal : Below w7.heap.size w7 (w7.alloc (.cells #[.bool sbc, .slice A7 lbc.length c7] 52)) := (Below.refl _ _).alloc (Nat.le_refl _) _
      replace uBC := uBC.below hal
      obtain ⟨xBC, yBC, _, _, _⟩ := Box.new w7 (.bool sbc) (.slice A7 lbc.length c7) 52
      have hs := from_ hb hal
      replace a0 := keepC hs a0
      replace a1 := keepC hs a1
      replace b0 := keepC hs b0
      replace b1 := keepC hs b1
      replace e0 := keepC hs e0
      replace e1 := keepC hs e1
      replace xAB := keepC hs xAB
      replace yAB := keepC hs yAB
      replace xBA := keepC hs xBA
      replace yBA := keepC hs yBA
      replace uA := uA.below hs
      replace uB := uB.below hs
      replace uC := uC.below hs
      replace uAB := uAB.below hs
      replace uBA := uBA.below hs
      replace hB := from_ hB hs
      clear hb hal hs
      go_wp2_with fail
      refine (wadd_n Nab.out Nc.out Nxx.out rfl b_ab b_c uAB uC).mono ?_
      rintro e w8 ⟨A8, c8, rfl, uX, hb⟩
      have hal : Below w8.heap.size w8 (w8.alloc (.cells #[.bool sxx, .slice A8 lxx.length c8] 52)) := (Below.refl _ _).alloc (Nat.le_refl _) _
      replace uX := uX.below hal
      obtain ⟨xX, yX, _, _, _⟩ := Box.new w8 (.bool sxx) (.slice A8 lxx.length c8) 52
      have hs := from_ hb hal
      replace a0 := keepC hs a0
      replace a1 := keepC hs a1
      replace b0 := keepC hs b0
      replace b1 := keepC hs b1
      replace e0 := keepC hs e0
      replace e1 := keepC hs e1
      replace xAB := keepC hs xAB
      replace yAB := keepC hs yAB
      replace xBA := keepC hs xBA
      replace yBA := keepC hs yBA
      replace xBC := keepC hs xBC
      replace yBC := keepC hs yBC
      replace uA := uA.below hs
      replace uB := uB.below hs
      replace uC := uC.below hs
      replace uAB := uAB.below hs
      replace uBA := uBA.below hs
      replace uBC := uBC.below hs
      replace hB := from_ hB hs
      clear hb hal hs
      go_wp2_with fail
      refine (wadd_n Na.out Nbc.out Nxx.out Z2'.out b_a b_bc uA uBC).mono ?_
      rintro e w9 ⟨A9, c9, rfl, uY, hb⟩
      have hal : Below w9.heap.size w9 (w9.alloc (.cells #[.bool sxx, .slice A9 lxx.length c9] 52)) := (Below.refl _ _).alloc (Nat.le_refl _) _
      replace uY := uY.below hal
      obtain ⟨xY, yY, _, _, _⟩ := Box.new w9 (.bool sxx) (.slice A9 lxx.length c9) 52
      have hs := from_ hb hal
      replace a0 := keepC hs a0
      replace a1 := keepC hs a1
      replace b0 := keepC hs b0
      replace b1 := keepC hs b1
      replace e0 := keepC hs e0
      replace e1 := keepC hs e1
      replace xAB := keepC hs xAB
      replace yAB := keepC hs yAB
      replace xBA := keepC hs xBA
      replace yBA := keepC hs yBA
      replace xBC := keepC hs xBC
      replace yBC := keepC hs yBC
      replace xX := keepC hs xX
      replace yX := keepC hs yX
      replace uA := uA.below hs
      replace uB := uB.below hs
      replace uC := uC.below hs
      replace uAB := uAB.below hs
      replace uBA := uBA.below hs
      replace uBC := uBC.below hs
      replace uX := uX.below hs
      replace hB := from_ hB hs
      clear hb hal hs
      go_wp2_with fail
      refine (wmul_n Na.out Nb.out Np.out rfl b_a b_b uA uB).mono ?_
      rintro e w10 ⟨A10, c10, rfl, uP, hb⟩
      have hal : Below w10.heap.size w10 (w10.alloc (.cells #[.bool sp, .slice A10 lp.length c10] 52)) := (Below.refl _ _).alloc (Nat.le_refl _) _
      replace uP := uP.below hal
      obtain ⟨xP, yP, _, _, _⟩ := Box.new w10 (.bool sp) (.slice A10 lp.length c10) 52
      have hs := from_ hb hal
      replace a0 := keepC hs a0
      replace a1 := keepC hs a1
      replace b0 := keepC hs b0
      replace b1 := keepC hs b1
      replace e0 := keepC hs e0
      replace e1 := keepC hs e1
      replace xAB := keepC hs xAB
      replace yAB := keepC hs yAB
      replace xBA := keepC hs xBA
      replace yBA := keepC hs yBA
      replace xBC := keepC hs xBC
      replace yBC := keepC hs yBC
      replace xX := keepC hs xX
      replace yX := keepC hs yX
      replace xY := keepC hs xY
      replace yY := keepC hs yY
      replace uA := uA.below hs
      replace uB := uB.below hs
      replace uC := uC.below hs
      replace uAB := uAB.below hs
      replace uBA := uBA.below hs
      replace uBC := uBC.below hs
      replace uX := uX.below hs
      replace uY := uY.below hs
      replace hB := from_ hB hs
      clear hb hal hs
      go_wp2_with fail
      refine (wmul_n Nb.out Na.out Np.out Z3'.out b_b b_a uB uA).mono ?_
      rintro e w11 ⟨A11, c11, rfl, uQ, hb⟩
      have hal : Below w11.heap.size w11 (w11.alloc (.cells #[.bool sp, .slice A11 lp.length c11] 52)) := (Below.refl _ _).alloc (Nat.le_refl _) _
      replace uQ := uQ.below hal
      obtain ⟨xQ, yQ, _, _, _⟩ := Box.new w11 (.bool sp) (.slice A11 lp.length c11) 52
      have hs := from_ hb hal
      replace a0 := keepC hs a0
      replace a1 := keepC hs a1
      replace b0 := keepC hs b0
      replace b1 := keepC hs b1
      replace e0 := keepC hs e0
      replace e1 := keepC hs e1
      replace xAB := keepC hs xAB
      replace yAB := keepC hs yAB
      replace xBA := keepC hs xBA
      replace yBA := keepC hs yBA
      replace xBC := keepC hs xBC
      replace yBC := keepC hs yBC
      replace xX := keepC hs xX
      replace yX := keepC hs yX
      replace xY := keepC hs xY
      replace yY := keepC hs yY
      replace xP := keepC hs xP
      replace yP := keepC hs yP
      replace uA := uA.below hs
      replace uB := uB.below hs
      replace uC := uC.below hs
      replace uAB := uAB.below hs
      replace uBA := uBA.below hs
      replace uBC := uBC.below hs
      replace uX := uX.below hs
      replace uY := uY.below hs
      replace uP := uP.below hs
      replace hB := from_ hB hs
      clear hb hal hs
      go_wp2_with fail
      refine (wmul_n Na.out Nc.out Nac.out rfl b_a b_c uA uC).mono ?_
      rintro e w12 ⟨A12, c12, rfl, uAC, hb⟩
      have hal : Below w12.heap.size w12 (w12.alloc (.cells #[.bool sac, .slice A12 lac.length c12] 52)) := (Below.refl _ _).alloc (Nat.le_refl _) _
      replace uAC := uAC.below hal
      obtain ⟨xAC, yAC, _, _, _⟩ := Box.new w12 (.bool sac) (.slice A12 lac.length c12) 52
      have hs := from_ hb hal
      replace a0 := keepC hs a0
      replace a1 := keepC hs a1
      replace b0 := keepC hs b0
      replace b1 := keepC hs b1
      replace e0 := keepC hs e0
      replace e1 := keepC hs e1
      replace xAB := keepC hs xAB
      replace yAB := keepC hs yAB
      replace xBA := keepC hs xBA
      replace yBA := keepC hs yBA
      replace xBC := keepC hs xBC
      replace yBC := keepC hs yBC
      replace xX := keepC hs xX
      replace yX := keepC hs yX
      replace xY := keepC hs xY
      replace yY := keepC hs yY
      replace xP := keepC hs xP
      replace yP := keepC hs yP
      replace xQ := keepC hs xQ
      replace yQ := keepC hs yQ
      replace uA := uA.below hs
      replace uB := uB.below hs
      replace uC := uC.below hs
      replace uAB := uAB.below hs
      replace uBA := uBA.below hs
      replace uBC := uBC.below hs
      replace uX := uX.below hs
      replace uY := uY.below hs
      replace uP := uP.below hs
      replace uQ := uQ.below hs
      replace hB := from_ hB hs
      clear hb hal hs
      go_wp2_with fail
      refine (wmul_n Na.out Nbc.out Nu.out rfl b_a b_bc uA uBC).mono ?_
      rintro e w13 ⟨A13, c13, rfl, uU, hb⟩
      have hal : Below w13.heap.size w13 (w13.alloc (.cells #[.bool su, .slice A13 lu.length c13] 52)) := (Below.refl _ _).alloc (Nat.le_refl _) _
      replace uU := uU.below hal
      obtain ⟨xU, yU, _, _, _⟩ := Box.new w13 (.bool su) (.slice A13 lu.length c13) 52
      have hs := from_ hb hal
      replace a0 := keepC hs a0
      replace a1 := keepC hs a1
      replace b0 := keepC hs b0
      replace b1 := keepC hs b1
      replace e0 := keepC hs e0
      replace e1 := keepC hs e1
      replace xAB := keepC hs xAB
      replace yAB := keepC hs yAB
      replace xBA := keepC hs xBA
      replace yBA := keepC hs yBA
      replace xBC := keepC hs xBC
      replace yBC := keepC hs yBC
      replace xX := keepC hs xX
      replace yX := keepC hs yX
      replace xY := keepC hs xY
      replace yY := keepC hs yY
      replace xP := keepC hs xP
      replace yP := keepC hs yP
      replace xQ := keepC hs xQ
      replace yQ := keepC hs yQ
      replace xAC := keepC hs xAC
      replace yAC := keepC hs yAC
      replace uA := uA.below hs
      replace uB := uB.below hs
      replace uC := uC.below hs
      replace uAB := uAB.below hs
      replace uBA := uBA.below hs
      replace uBC := uBC.below hs
      replace uX := uX.below hs
      replace uY := uY.below hs
      replace uP := uP.below hs
      replace uQ := uQ.below hs
      replace uAC := uAC.below hs
      replace hB := from_ hB hs
      clear hb hal hs
      go_wp2_with fail
      refine (wadd_n Np.out Nac.out Nu.out Z4'.out b_p b_ac uP uAC).mono ?_
      rintro e w14 ⟨A14, c14, rfl, uV, hb⟩
      have hal : Below w14.heap.size w14 (w14.alloc (.cells #[.bool su, .slice A14 lu.length c14] 52)) := (Below.refl _ _).alloc (Nat.le_refl _) _
      replace uV := uV.below hal
      obtain ⟨xV, yV, _, _, _⟩ := Box.new w14 (.bool su) (.slice A14 lu.length c14) 52
      have hs := from_ hb hal
      replace a0 := keepC hs a0
      replace a1 := keepC hs a1
      replace b0 := keepC hs b0
      replace b1 := keepC hs b1
      replace e0 := keepC hs e0
      replace e1 := keepC hs e1
      replace xAB := keepC hs xAB
      replace yAB := keepC hs yAB
      replace xBA := keepC hs xBA
      replace yBA := keepC hs yBA
      replace xBC := keepC hs xBC
      replace yBC := keepC hs yBC
      replace xX := keepC hs xX
      replace yX := keepC hs yX
      replace xY := keepC hs xY
      replace yY := keepC hs yY
      replace xP := keepC hs xP
      replace yP := keepC hs yP
      replace xQ := keepC hs xQ
      replace yQ := keepC hs yQ
      replace xAC := keepC hs xAC
      replace yAC := keepC hs yAC
      replace xU := keepC hs xU
      replace yU := keepC hs yU
      replace uA := uA.below hs
      replace uB := uB.below hs
      replace uC := uC.below hs
      replace uAB := uAB.below hs
      replace uBA := uBA.below hs
      replace uBC := uBC.below hs
      replace uX := uX.below hs
      replace uY := uY.below hs
      replace uP := uP.below hs
      replace uQ := uQ.below hs
      replace uAC := uAC.below hs
      replace uU := uU.below hs
      replace hB := from_ hB hs
      clear hb hal hs
      clear xBC yBC uBC
      clear xAC yAC uAC
      go_wp2_with fail
      refine (wmul_n Nb.out Nc.out Nm2.out rfl b_b b_c uB uC).mono ?_
      rintro e w15 ⟨A15, c15, rfl, uM, hb⟩
      have hal : Below w15.heap.size w15 (w15.alloc (.cells #[.bool sm2, .slice A15 lm2.length c15] 52)) := (Below.refl _ _).alloc (Nat.le_refl _) _
      replace uM := uM.below hal
      obtain ⟨xM, yM, _, _, _⟩ := Box.new w15 (.bool sm2) (.slice A15 lm2.length c15) 52
      have hs := from_ hb hal
      replace a0 := keepC hs a0
      replace a1 := keepC hs a1
      replace b0 := keepC hs b0
      replace b1 := keepC hs b1
      replace e0 := keepC hs e0
      replace e1 := keepC hs e1
      replace xAB := keepC hs xAB
      replace yAB := keepC hs yAB
      replace xBA := keepC hs xBA
      replace yBA := keepC hs yBA
      replace xX := keepC hs xX
      replace yX := keepC hs yX
      replace xY := keepC hs xY
      replace yY := keepC hs yY
      replace xP := keepC hs xP
      replace yP := keepC hs yP
      replace xQ := keepC hs xQ
      replace yQ := keepC hs yQ
      replace xU := keepC hs xU
      replace yU := keepC hs yU
      replace xV := keepC hs xV
      replace yV := keepC hs yV
      replace uA := uA.below hs
      replace uB := uB.below hs
      replace uC := uC.below hs
      replace uAB := uAB.below hs
      replace uBA := uBA.below hs
      replace uX := uX.below hs
      replace uY := uY.below hs
      replace uP := uP.below hs
      replace uQ := uQ.below hs
      replace uU := uU.below hs
      replace uV := uV.below hs
      replace hB := from_ hB hs
      clear hb hal hs
      go_wp2_with fail
      refine (wmul_n Np.out Nc.out Nn.out rfl b_p b_c uP uC).mono ?_
      rintro e w16 ⟨A16, c16, rfl, uN, hb⟩
      have hal : Below w16.heap.size w16 (w16.alloc (.cells #[.bool sn, .slice A16 ln.length c16] 52)) := (Below.refl _ _).alloc (Nat.le_refl _) _
      replace uN := uN.below hal
      obtain ⟨xN, yN, _, _, _⟩ := Box.new w16 (.bool sn) (.slice A16 ln.length c16) 52
      have hs := from_ hb hal
      replace a0 := keepC hs a0
      replace a1 := keepC hs a1
      replace b0 := keepC hs b0
      replace b1 := keepC hs b1
      replace e0 := keepC hs e0
      replace e1 := keepC hs e1
      replace xAB := keepC hs xAB
      replace yAB := keepC hs yAB
      replace xBA := keepC hs xBA
      replace yBA := keepC hs yBA
      replace xX := keepC hs xX
      replace yX := keepC hs yX
      replace xY := keepC hs xY
      replace yY := keepC hs yY
      replace xP := keepC hs xP
      replace yP := keepC hs yP
      replace xQ := keepC hs xQ
      replace yQ := keepC hs yQ
      replace xU := keepC hs xU
      replace yU := keepC hs yU
      replace xV := keepC hs xV
      replace yV := keepC hs yV
      replace xM := keepC hs xM
      replace yM := keepC hs yM
      replace uA := uA.below hs
      replace uB := uB.below hs
      replace uC := uC.below hs
      replace uAB := uAB.below hs
      replace uBA := uBA.below hs
      replace uX := uX.below hs
      replace uY := uY.below hs
      replace uP := uP.below hs
      replace uQ := uQ.below hs
      replace uU := uU.below hs
      replace uV := uV.below hs
      replace uM := uM.below hs
      replace hB := from_ hB hs
      clear hb hal hs
      go_wp2_with fail
      refine (wmul_n Na.out Nm2.out Nn.out Z5'.out b_a b_m2 uA uM).mono ?_
      rintro e w17 ⟨A17, c17, rfl, uO, hb⟩
      have hal : Below w17.heap.size w17 (w17.alloc (.cells #[.bool sn, .slice A17 ln.length c17] 52)) := (Below.refl _ _).alloc (Nat.le_refl _) _
      replace uO := uO.below hal
      obtain ⟨xO, yO, _, _, _⟩ := Box.new w17 (.bool sn) (.slice A17 ln.length c17) 52
      have hs := from_ hb hal
      replace a0 := keepC hs a0
      replace a1 := keepC hs a1
      replace b0 := keepC hs b0
      replace b1 := keepC hs b1
      replace e0 := keepC hs e0
      replace e1 := keepC hs e1
      replace xAB := keepC hs xAB
      replace yAB := keepC hs yAB
      replace xBA := keepC hs xBA
      replace yBA := keepC hs yBA
      replace xX := keepC hs xX
      replace yX := keepC hs yX
      replace xY := keepC hs xY
      replace yY := keepC hs yY
      replace xP := keepC hs xP
      replace yP := keepC hs yP
      replace xQ := keepC hs xQ
      replace yQ := keepC hs yQ
      replace xU := keepC hs xU
      replace yU := keepC hs yU
      replace xV := keepC hs xV
      replace yV := keepC hs yV
      replace xM := keepC hs xM
      replace yM := keepC hs yM
      replace xN := keepC hs xN
      replace yN := keepC hs yN
      replace uA := uA.below hs
      replace uB := uB.below hs
      replace uC := uC.below hs
      replace uAB := uAB.below hs
      replace uBA := uBA.below hs
      replace uX := uX.below hs
      replace uY := uY.below hs
      replace uP := uP.below hs
      replace uQ := uQ.below hs
      replace uU := uU.below hs
      replace uV := uV.below hs
      replace uM := uM.below hs
      replace uN := uN.below hs
      replace hB := from_ hB hs
      clear hb hal hs
      clear xM yM uM
      go_wp2_with fail
      refine (wsub_n Nab.out Nb.out Na.out Z6'.out b_ab b_b uAB uB).mono ?_
      rintro e w18 ⟨A18, c18, rfl, uBK, hb⟩
      have hal : Below w18.heap.size w18 (w18.alloc (.cells #[.bool s, .slice A18 l.length c18] 52)) := (Below.refl _ _).alloc (Nat.le_refl _) _
      replace uBK := uBK.below hal
      obtain ⟨xBK, yBK, _, _, _⟩ := Box.new w18 (.bool s) (.slice A18 l.length c18) 52
      have hs := from_ hb hal
      replace a0 := keepC hs a0
      replace a1 := keepC hs a1
      replace b0 := keepC hs b0
      replace b1 := keepC hs b1
      replace e0 := keepC hs e0
      replace e1 := keepC hs e1
      replace xAB := keepC hs xAB
      replace yAB := keepC hs yAB
      replace xBA := keepC hs xBA
      replace yBA := keepC hs yBA
      replace xX := keepC hs xX
      replace yX := keepC hs yX
      replace xY := keepC hs xY
      replace yY := keepC hs yY
      replace xP := keepC hs xP
      replace yP := keepC hs yP
      replace xQ := keepC hs xQ
      replace yQ := keepC hs yQ
      replace xU := keepC hs xU
      replace yU := keepC hs yU
      replace xV := keepC hs xV
      replace yV := keepC hs yV
      replace xN := keepC hs xN
      replace yN := keepC hs yN
      replace xO := keepC hs xO
      replace yO := keepC hs yO
      replace uA := uA.below hs
      replace uB := uB.below hs
      replace uC := uC.below hs
      replace uAB := uAB.below hs
      replace uBA := uBA.below hs
      replace uX := uX.below hs
      replace uY := uY.below hs
      replace uP := uP.below hs
      replace uQ := uQ.below hs
      replace uU := uU.below hs
      replace uV := uV.below hs
      replace uN := uN.below hs
      replace uO := uO.below hs
      replace hB := from_ hB hs
      clear hb hal hs
      go_wp2_with fail
      refine (wneg_n Na.out Nng.out rfl b_a uA).mono ?_
      rintro e w19 ⟨A19, c19, rfl, uNG, hb⟩
      have hal : Below w19.heap.size w19 (w19.alloc (.cells #[.bool sng, .slice A19 lng.length c19] 52)) := (Below.refl _ _).alloc (Nat.le_refl _) _
      replace uNG := uNG.below hal
      obtain ⟨xNG, yNG, _, _, _⟩ := Box.new w19 (.bool sng) (.slice A19 lng.length c19) 52
      have hs := from_ hb hal
      replace a0 := keepC hs a0
      replace a1 := keepC hs a1
      replace b0 := keepC hs b0
      replace b1 := keepC hs b1
      replace e0 := keepC hs e0
      replace e1 := keepC hs e1
      replace xAB := keepC hs xAB
      replace yAB := keepC hs yAB
      replace xBA := keepC hs xBA
      replace yBA := keepC hs yBA
      replace xX := keepC hs xX
      replace yX := keepC hs yX
      replace xY := keepC hs xY
      replace yY := keepC hs yY
      replace xP := keepC hs xP
      replace yP := keepC hs yP
      replace xQ := keepC hs xQ
      replace yQ := keepC hs yQ
      replace xU := keepC hs xU
      replace yU := keepC hs yU
      replace xV := keepC hs xV
      replace yV := keepC hs yV
      replace xN := keepC hs xN
      replace yN := keepC hs yN
      replace xO := keepC hs xO
      replace yO := keepC hs yO
      replace xBK := keepC hs xBK
      replace yBK := keepC hs yBK
      replace uA := uA.below hs
      replace uB := uB.below hs
      replace uC := uC.below hs
      replace uAB := uAB.below hs
      replace uBA := uBA.below hs
      replace uX := uX.below hs
      replace uY := uY.below hs
      replace uP := uP.below hs
      replace uQ := uQ.below hs
      replace uU := uU.below hs
      replace uV := uV.below hs
      replace uN := uN.below hs
      replace uO := uO.below hs
      replace uBK := uBK.below hs
      replace hB := from_ hB hs
      clear hb hal hs
      go_wp2_with fail
      refine (wadd_n Na.out Nng.out N0.out Z7'.out b_a b_ng uA uNG).mono ?_
      rintro e w20 ⟨A20, c20, rfl, uNO, hb⟩
      have hal : Below w20.heap.size w20 (w20.alloc (.cells #[.bool false, .slice A20 0 c20] 52)) := (Below.refl _ _).alloc (Nat.le_refl _) _
      replace uNO := uNO.below hal
      obtain ⟨xNO, yNO, _, _, _⟩ := Box.new w20 (.bool false) (.slice A20 0 c20) 52
      have hs := from_ hb hal
      replace a0 := keepC hs a0
      replace a1 := keepC hs a1
      replace b0 := keepC hs b0
      replace b1 := keepC hs b1
      replace e0 := keepC hs e0
      replace e1 := keepC hs e1
      replace xAB := keepC hs xAB
      replace yAB := keepC hs yAB
      replace xBA := keepC hs xBA
      replace yBA := keepC hs yBA
      replace xX := keepC hs xX
      replace yX := keepC hs yX
      replace xY := keepC hs xY
      replace yY := keepC hs yY
      replace xP := keepC hs xP
      replace yP := keepC hs yP
      replace xQ := keepC hs xQ
      replace yQ := keepC hs yQ
      replace xU := keepC hs xU
      replace yU := keepC hs yU
      replace xV := keepC hs xV
      replace yV := keepC hs yV
      replace xN := keepC hs xN
      replace yN := keepC hs yN
      replace xO := keepC hs xO
      replace yO := keepC hs yO
      replace xBK := keepC hs xBK
      replace yBK := keepC hs yBK
      replace xNG := keepC hs xNG
      replace yNG := keepC hs yNG
      replace uA := uA.below hs
      replace uB := uB.below hs
      replace uC := uC.below hs
      replace uAB := uAB.below hs
      replace uBA := uBA.below hs
      replace uX := uX.below hs
      replace uY := uY.below hs
      replace uP := uP.below hs
      replace uQ := uQ.below hs
      replace uU := uU.below hs
      replace uV := uV.below hs
      replace uN := uN.below hs
      replace uO := uO.below hs
      replace uBK := uBK.below hs
      replace uNG := uNG.below hs
      replace hB := from_ hB hs
      clear hb hal hs
      clear xNG yNG uNG
      go_wp2_with fail
      refine (same_n uAB uBA).mono ?_
      rintro e w21 ⟨rfl, hb⟩
      replace a0 := keepC hb a0
      replace a1 := keepC hb a1
      replace b0 := keepC hb b0
      replace b1 := keepC hb b1
      replace e0 := keepC hb e0
      replace e1 := keepC hb e1
      replace xAB := keepC hb xAB
      replace yAB := keepC hb yAB
      replace xBA := keepC hb xBA
      replace yBA := keepC hb yBA
      replace xX := keepC hb xX
      replace yX := keepC hb yX
      replace xY := keepC hb xY
      replace yY := keepC hb yY
      replace xP := keepC hb xP
      replace yP := keepC hb yP
      replace xQ := keepC hb xQ
      replace yQ := keepC hb yQ
      replace xU := keepC hb xU
      replace yU := keepC hb yU
      replace xV := keepC hb xV
      replace yV := keepC hb yV
      replace xN := keepC hb xN
      replace yN := keepC hb yN
      replace xO := keepC hb xO
      replace yO := keepC hb yO
      replace xBK := keepC hb xBK
      replace yBK := keepC hb yBK
      replace xNO := keepC hb xNO
      replace yNO := keepC hb yNO
      replace uA := uA.below hb
      replace uB := uB.below hb
      replace uC := uC.below hb
      replace uAB := uAB.below hb
      replace uBA := uBA.below hb
      replace uX := uX.below hb
      replace uY := uY.below hb
      replace uP := uP.below hb
      replace uQ := uQ.below hb
      replace uU := uU.below hb
      replace uV := uV.below hb
      replace uN := uN.below hb
      replace uO := uO.below hb
      replace uBK := uBK.below hb
      replace uNO := uNO.below hb
      replace hB := from_ hB hb
      clear hb
      go_wp2_with fail
      refine (same_n uX uY).mono ?_
      rintro e w22 ⟨rfl, hb⟩
      replace a0 := keepC hb a0
      replace a1 := keepC hb a1
      replace b0 := keepC hb b0
      replace b1 := keepC hb b1
      replace e0 := keepC hb e0
      replace e1 := keepC hb e1
      replace xAB := keepC hb xAB
      replace yAB := keepC hb yAB
      replace xBA := keepC hb xBA
      replace yBA := keepC hb yBA
      replace xX := keepC hb xX
      replace yX := keepC hb yX
      replace xY := keepC hb xY
      replace yY := keepC hb yY
      replace xP := keepC hb xP
      replace yP := keepC hb yP
      replace xQ := keepC hb xQ
      replace yQ := keepC hb yQ
      replace xU := keepC hb xU
      replace yU := keepC hb yU
      replace xV := keepC hb xV
      replace yV := keepC hb yV
      replace xN := keepC hb xN
      replace yN := keepC hb yN
      replace xO := keepC hb xO
      replace yO := keepC hb yO
      replace xBK := keepC hb xBK
      replace yBK := keepC hb yBK
      replace xNO := keepC hb xNO
      replace yNO := keepC hb yNO
      replace uA := uA.below hb
      replace uB := uB.below hb
      replace uC := uC.below hb
      replace uAB := uAB.below hb
      replace uBA := uBA.below hb
      replace uX := uX.below hb
      replace uY := uY.below hb
      replace uP := uP.below hb
      replace uQ := uQ.below hb
      replace uU := uU.below hb
      replace uV := uV.below hb
      replace uN := uN.below hb
      replace uO := uO.below hb
      replace uBK := uBK.below hb
      replace uNO := uNO.below hb
      replace hB := from_ hB hb
      clear hb
      go_wp2_with fail
      refine (same_n uP uQ).mono ?_
      rintro e w23 ⟨rfl, hb⟩
      replace a0 := keepC hb a0
      replace a1 := keepC hb a1
      replace b0 := keepC hb b0
      replace b1 := keepC hb b1
      replace e0 := keepC hb e0
      replace e1 := keepC hb e1
      replace xAB := keepC hb xAB
      replace yAB := keepC hb yAB
      replace xBA := keepC hb xBA
      replace yBA := keepC hb yBA
      replace xX := keepC hb xX
      replace yX := keepC hb yX
      replace xY := keepC hb xY
      replace yY := keepC hb yY
      replace xP := keepC hb xP
      replace yP := keepC hb yP
      replace xQ := keepC hb xQ
      replace yQ := keepC hb yQ
      replace xU := keepC hb xU
      replace yU := keepC hb yU
      replace xV := keepC hb xV
      replace yV := keepC hb yV
      replace xN := keepC hb xN
      replace yN := keepC hb yN
      replace xO := keepC hb xO
      replace yO := keepC hb yO
      replace xBK := keepC hb xBK
      replace yBK := keepC hb yBK
      replace xNO := keepC hb xNO
      replace yNO := keepC hb yNO
      replace uA := uA.below hb
      replace uB := uB.below hb
      replace uC := uC.below hb
      replace uAB := uAB.below hb
      replace uBA := uBA.below hb
      replace uX := uX.below hb
      replace uY := uY.below hb
      replace uP := uP.below hb
      replace uQ := uQ.below hb
      replace uU := uU.below hb
      replace uV := uV.below hb
      replace uN := uN.below hb
      replace uO := uO.below hb
      replace uBK := uBK.below hb
      replace uNO := uNO.below hb
      replace hB := from_ hB hb
      clear hb
      go_wp2_with fail
      refine (same_n uU uV).mono ?_
      rintro e w24 ⟨rfl, hb⟩
      replace a0 := keepC hb a0
      replace a1 := keepC hb a1
      replace b0 := keepC hb b0
      replace b1 := keepC hb b1
      replace e0 := keepC hb e0
      replace e1 := keepC hb e1
      replace xAB := keepC hb xAB
      replace yAB := keepC hb yAB
      replace xBA := keepC hb xBA
      replace yBA := keepC hb yBA
      replace xX := keepC hb xX
      replace yX := keepC hb yX
      replace xY := keepC hb xY
      replace yY := keepC hb yY
      replace xP := keepC hb xP
      replace yP := keepC hb yP
      replace xQ := keepC hb xQ
      replace yQ := keepC hb yQ
      replace xU := keepC hb xU
      replace yU := keepC hb yU
      replace xV := keepC hb xV
      replace yV := keepC hb yV
      replace xN := keepC hb xN
      replace yN := keepC hb yN
      replace xO := keepC hb xO
      replace yO := keepC hb yO
      replace xBK := keepC hb xBK
      replace yBK := keepC hb yBK
      replace xNO := keepC hb xNO
      replace yNO := keepC hb yNO
      replace uA := uA.below hb
      replace uB := uB.below hb
      replace uC := uC.below hb
      replace uAB := uAB.below hb
      replace uBA := uBA.below hb
      replace uX := uX.below hb
      replace uY := uY.below hb
      replace uP := uP.below hb
      replace uQ := uQ.below hb
      replace uU := uU.below hb
      replace uV := uV.below hb
      replace uN := uN.below hb
      replace uO := uO.below hb
      replace uBK := uBK.below hb
      replace uNO := uNO.below hb
      replace hB := from_ hB hb
      clear hb
      go_wp2_with fail
      refine (same_n uN uO).mono ?_
      rintro e w25 ⟨rfl, hb⟩
      replace a0 := keepC hb a0
      replace a1 := keepC hb a1
      replace b0 := keepC hb b0
      replace b1 := keepC hb b1
      replace e0 := keepC hb e0
      replace e1 := keepC hb e1
      replace xAB := keepC hb xAB
      replace yAB := keepC hb yAB
      replace xBA := keepC hb xBA
      replace yBA := keepC hb yBA
      replace xX := keepC hb xX
      replace yX := keepC hb yX
      replace xY := keepC hb xY
      replace yY := keepC hb yY
      replace xP := keepC hb xP
      replace yP := keepC hb yP
      replace xQ := keepC hb xQ
      replace yQ := keepC hb yQ
      replace xU := keepC hb xU
      replace yU := keepC hb yU
      replace xV := keepC hb xV
      replace yV := keepC hb yV
      replace xN := keepC hb xN
      replace yN := keepC hb yN
      replace xO := keepC hb xO
      replace yO := keepC hb yO
      replace xBK := keepC hb xBK
      replace yBK := keepC hb yBK
      replace xNO := keepC hb xNO
      replace yNO := keepC hb yNO
      replace uA := uA.below hb
      replace uB := uB.below hb
      replace uC := uC.below hb
      replace uAB := uAB.below hb
      replace uBA := uBA.below hb
      replace uX := uX.below hb
      replace uY := uY.below hb
      replace uP := uP.below hb
      replace uQ := uQ.below hb
      replace uU := uU.below hb
      replace uV := uV.below hb
      replace uN := uN.below hb
      replace uO := uO.below hb
      replace uBK := uBK.below hb
      replace uNO := uNO.below hb
      replace hB := from_ hB hb
      clear hb
      go_wp2_with fail
      refine (same_n uBK uA).mono ?_
      rintro e w26 ⟨rfl, hb⟩
      replace a0 := keepC hb a0
      replace a1 := keepC hb a1
      replace b0 := keepC hb b0
      replace b1 := keepC hb b1
      replace e0 := keepC hb e0
      replace e1 := keepC hb e1
      replace xAB := keepC hb xAB
      replace yAB := keepC hb yAB
      replace xBA := keepC hb xBA
      replace yBA := keepC hb yBA
      replace xX := keepC hb xX
      replace yX := keepC hb yX
      replace xY := keepC hb xY
      replace yY := keepC hb yY
      replace xP := keepC hb xP
      replace yP := keepC hb yP
      replace xQ := keepC hb xQ
      replace yQ := keepC hb yQ
      replace xU := keepC hb xU
      replace yU := keepC hb yU
      replace xV := keepC hb xV
      replace yV := keepC hb yV
      replace xN := keepC hb xN
      replace yN := keepC hb yN
      replace xO := keepC hb xO
      replace yO := keepC hb yO
      replace xBK := keepC hb xBK
      replace yBK := keepC hb yBK
      replace xNO := keepC hb xNO
      replace yNO := keepC hb yNO
      replace uA := uA.below hb
      replace uB := uB.below hb
      replace uC := uC.below hb
      replace uAB := uAB.below hb
      replace uBA := uBA.below hb
      replace uX := uX.below hb
      replace uY := uY.below hb
      replace uP := uP.below hb
      replace uQ := uQ.below hb
      replace uU := uU.below hb
      replace uV := uV.below hb
      replace uN := uN.below hb
      replace uO := uO.below hb
      replace uBK := uBK.below hb
      replace uNO := uNO.below hb
      replace hB := from_ hB hb
      clear hb
      go_wp2_with fail
      refine (same_n (l := []) uNO (U64s.nil _ old)).mono ?_
      rintro e w27 ⟨rfl, hb⟩
      replace a0 := keepC hb a0
      replace a1 := keepC hb a1
      replace b0 := keepC hb b0
      replace b1 := keepC hb b1
      replace e0 := keepC hb e0
      replace e1 := keepC hb e1
      replace xAB := keepC hb xAB
      replace yAB := keepC hb yAB
      replace xBA := keepC hb xBA
      replace yBA := keepC hb yBA
      replace xX := keepC hb xX
      replace yX := keepC hb yX
      replace xY := keepC hb xY
      replace yY := keepC hb yY
      replace xP := keepC hb xP
      replace yP := keepC hb yP
      replace xQ := keepC hb xQ
      replace yQ := keepC hb yQ
      replace xU := keepC hb xU
      replace yU := keepC hb yU
      replace xV := keepC hb xV
      replace yV := keepC hb yV
      replace xN := keepC hb xN
      replace yN := keepC hb yN
      replace xO := keepC hb xO
      replace yO := keepC hb yO
      replace xBK := keepC hb xBK
      replace yBK := keepC hb yBK
      replace xNO := keepC hb xNO
      replace yNO := keepC hb yNO
      replace uA := uA.below hb
      replace uB := uB.below hb
      replace uC := uC.below hb
      replace uAB := uAB.below hb
      replace uBA := uBA.below hb
      replace uX := uX.below hb
      replace uY := uY.below hb
      replace uP := uP.below hb
      replace uQ := uQ.below hb
      replace uU := uU.below hb
      replace uV := uV.below hb
      replace uN := uN.below hb
      replace uO := uO.below hb
      replace uBK := uBK.below hb
      replace uNO := uNO.below hb
      replace hB := from_ hB hb
      clear hb
      go_wp2_with fail
      refine (check_n Nab.out uAB).mono ?_
      rintro e w28 ⟨rfl, hb⟩
      replace a0 := keepC hb a0
      replace a1 := keepC hb a1
      replace b0 := keepC hb b0
      replace b1 := keepC hb b1
      replace e0 := keepC hb e0
      replace e1 := keepC hb e1
      replace xAB := keepC hb xAB
      replace yAB := keepC hb yAB
      replace xBA := keepC hb xBA
      replace yBA := keepC hb yBA
      replace xX := keepC hb xX
      replace yX := keepC hb yX
      replace xY := keepC hb xY
      replace yY := keepC hb yY
      replace xP := keepC hb xP
      replace yP := keepC hb yP
      replace xQ := keepC hb xQ
      replace yQ := keepC hb yQ
      replace xU := keepC hb xU
      replace yU := keepC hb yU
      replace xV := keepC hb xV
      replace yV := keepC hb yV
      replace xN := keepC hb xN
      replace yN := keepC hb yN
      replace xO := keepC hb xO
      replace yO := keepC hb yO
      replace xBK := keepC hb xBK
      replace yBK := keepC hb yBK
      replace xNO := keepC hb xNO
      replace yNO := keepC hb yNO
      replace uA := uA.below hb
      replace uB := uB.below hb
      replace uC := uC.below hb
      replace uAB := uAB.below hb
      replace uBA := uBA.below hb
      replace uX := uX.below hb
      replace uY := uY.below hb
      replace uP := uP.below hb
      replace uQ := uQ.below hb
      replace uU := uU.below hb
      replace uV := uV.below hb
      replace uN := uN.below hb
      replace uO := uO.below hb
      replace uBK := uBK.below hb
      replace uNO := uNO.below hb
      replace hB := from_ hB hb
      clear hb
      go_wp2_with fail
      refine (check_n Np.out uP).mono ?_
      rintro e w29 ⟨rfl, hb⟩
      replace a0 := keepC hb a0
      replace a1 := keepC hb a1
      replace b0 := keepC hb b0
      replace b1 := keepC hb b1
      replace e0 := keepC hb e0
      replace e1 := keepC hb e1
      replace xAB := keepC hb xAB
      replace yAB := keepC hb yAB
      replace xBA := keepC hb xBA
      replace yBA := keepC hb yBA
      replace xX := keepC hb xX
      replace yX := keepC hb yX
      replace xY := keepC hb xY
      replace yY := keepC hb yY
      replace xP := keepC hb xP
      replace yP := keepC hb yP
      replace xQ := keepC hb xQ
      replace yQ := keepC hb yQ
      replace xU := keepC hb xU
      replace yU := keepC hb yU
      replace xV := keepC hb xV
      replace yV := keepC hb yV
      replace xN := keepC hb xN
      replace yN := keepC hb yN
      replace xO := keepC hb xO
      replace yO := keepC hb yO
      replace xBK := keepC hb xBK
      replace yBK := keepC hb yBK
      replace xNO := keepC hb xNO
      replace yNO := keepC hb yNO
      replace uA := uA.below hb
      replace uB := uB.below hb
      replace uC := uC.below hb
      replace uAB := uAB.below hb
      replace uBA := uBA.below hb
      replace uX := uX.below hb
      replace uY := uY.below hb
      replace uP := uP.below hb
      replace uQ := uQ.below hb
      replace uU := uU.below hb
      replace uV := uV.below hb
      replace uN := uN.below hb
      replace uO := uO.below hb
      replace uBK := uBK.below hb
      replace uNO := uNO.below hb
      replace hB := from_ hB hb
      clear hb
      go_wp2
      go_ret
      exact ⟨rfl, hB⟩
    · have hch : ∀ w1 Z A c s l, U64s w1 Z A c l → okI s l = false → Calls Try.prog 53 #[.agg #[.bool s, .slice A l.length c]] w1 (fun e w' => e = .returned (.int .i64 8) ∧ Below w1.heap.size w1 w') := fun w1 Z A c s l hu h => by
        have h2 := wcheck_any (a := .agg #[.bool s, .slice A l.length c]) ⟨_, rfl, A, c, rfl, hu⟩
        have e1 : errC s l = 8 := by unfold errC; rw [if_neg (by rw [h]; decide)]
        rwa [e1] at h2
      have had : ∀ w1 Z Z' A c B d s l t k, U64s w1 Z A c l → U64s w1 Z' B d k → l.length ≤ 50 → k.length ≤ 50 → ¬ (okI s l = true ∧ okI t k = true) → Calls Try.prog 36 #[.agg #[.bool s, .slice A l.length c], .agg #[.bool t, .slice B k.length d]] w1 (fun e w' => ∃ Av cv, e = .returned (.tuple #[.agg #[.bool false, .slice Av 0 cv], .int .i64 8]) ∧ U64s w' (new w1.heap.size) Av cv [] ∧ Below w1.heap.size w1 w') := fun w1 Z Z' A c B d s l t k hu hv h1 h2 h => by
        have h3 := wadd_all (a := .agg #[.bool s, .slice A l.length c]) (b := .agg #[.bool t, .slice B k.length d]) ⟨_, rfl, A, c, rfl, hu⟩ ⟨_, rfl, B, d, rfl, hv⟩ (by omega) (by omega)
        have e1 : errO s l t k = 8 := by unfold errO; rw [if_neg h]
        have e2 : opP (· + ·) s l t k = (false, []) := by unfold opP; rw [if_neg h]
        rw [e1, e2] at h3
        refine h3.mono ?_
        rintro e w' ⟨_, rfl, ⟨_, rfl, Av, cv, rfl, h4⟩, h5⟩
        exact ⟨Av, cv, rfl, h4, h5⟩
      have Hch := Lib.hid hch
      have Had := Lib.hid had
      clear hch had
      cases o1 : okI s l with
      | false =>
        have O1 := Lib.hid o1
        have On : Hid (¬ (okI s l = true ∧ okI t k = true)) := fun h => by rw [o1] at h; cases h.1
        clear o1 hok hsa hsb hsc
        go_enter Try.func11, Try.ntmps11
        go_wp2_with fail
        refine (alive5 _).mono ?_
        rintro e w1 ⟨rfl, hb⟩
        replace a0 := keepC hb a0
        replace a1 := keepC hb a1
        replace b0 := keepC hb b0
        replace b1 := keepC hb b1
        replace e0 := keepC hb e0
        replace e1 := keepC hb e1
        replace uA := uA.below hb
        replace uB := uB.below hb
        replace uC := uC.below hb
        replace hB := from_ hB hb
        clear hb
        go_wp2_with fail
        refine (Hch.out _ _ _ _ _ _ uA O1.out).mono ?_
        rintro e w2 ⟨rfl, hb⟩
        replace a0 := keepC hb a0
        replace a1 := keepC hb a1
        replace b0 := keepC hb b0
        replace b1 := keepC hb b1
        replace e0 := keepC hb e0
        replace e1 := keepC hb e1
        replace uA := uA.below hb
        replace uB := uB.below hb
        replace uC := uC.below hb
        replace hB := from_ hB hb
        clear hb
        go_wp2_with fail
        refine (Had.out _ _ _ _ _ _ _ _ _ _ _ uA uB g1 g2 On.out).mono ?_
        rintro e w3 ⟨A3, c3, rfl, uE, hb⟩
        have hal : Below w3.heap.size w3 (w3.alloc (.cells #[.bool false, .slice A3 0 c3] 52)) := (Below.refl _ _).alloc (Nat.le_refl _) _
        replace uE := uE.below hal
        obtain ⟨xE, yE, _, _, _⟩ := Box.new w3 (.bool false) (.slice A3 0 c3) 52
        have hs := from_ hb hal
        replace a0 := keepC hs a0
        replace a1 := keepC hs a1
        replace b0 := keepC hs b0
        replace b1 := keepC hs b1
        replace e0 := keepC hs e0
        replace e1 := keepC hs e1
        replace uA := uA.below hs
        replace uB := uB.below hs
        replace uC := uC.below hs
        replace hB := from_ hB hs
        clear hb hal hs
        go_wp2
        go_ret
        exact ⟨rfl, hB⟩
      | true =>
        cases o2 : okI t k with
        | false =>
          have na := Nm.ok o1 hsa
          have Na := Lib.hid na
          have O2 := Lib.hid o2
          have On : Hid (¬ (okI s l = true ∧ okI t k = true)) := fun h => by rw [o2] at h; cases h.2
          clear o1 o2 hok hsa hsb hsc na
          go_enter Try.func11, Try.ntmps11
          go_wp2_with fail
          refine (alive5 _).mono ?_
          rintro e w1 ⟨rfl, hb⟩
          replace a0 := keepC hb a0
          replace a1 := keepC hb a1
          replace b0 := keepC hb b0
          replace b1 := keepC hb b1
          replace e0 := keepC hb e0
          replace e1 := keepC hb e1
          replace uA := uA.below hb
          replace uB := uB.below hb
          replace uC := uC.below hb
          replace hB := from_ hB hb
          clear hb
          go_wp2_with fail
          refine (check_n Na.out uA).mono ?_
          rintro e w2 ⟨rfl, hb⟩
          replace a0 := keepC hb a0
          replace a1 := keepC hb a1
          replace b0 := keepC hb b0
          replace b1 := keepC hb b1
          replace e0 := keepC hb e0
          replace e1 := keepC hb e1
          replace uA := uA.below hb
          replace uB := uB.below hb
          replace uC := uC.below hb
          replace hB := from_ hB hb
          clear hb
          go_wp2_with fail
          refine (Hch.out _ _ _ _ _ _ uB O2.out).mono ?_
          rintro e w3 ⟨rfl, hb⟩
          replace a0 := keepC hb a0
          replace a1 := keepC hb a1
          replace b0 := keepC hb b0
          replace b1 := keepC hb b1
          replace e0 := keepC hb e0
          replace e1 := keepC hb e1
          replace uA := uA.below hb
          replace uB := uB.below hb
          replace uC := uC.below hb
          replace hB := from_ hB hb
          clear hb
          go_wp2_with fail
          refine (Had.out _ _ _ _ _ _ _ _ _ _ _ uA uB g1 g2 On.out).mono ?_
          rintro e w4 ⟨A4, c4, rfl, uE, hb⟩
          have hal : Below w4.heap.size w4 (w4.alloc (.cells #[.bool false, .slice A4 0 c4] 52)) := (Below.refl _ _).alloc (Nat.le_refl _) _
          replace uE := uE.below hal
          obtain ⟨xE, yE, _, _, _⟩ := Box.new w4 (.bool false) (.slice A4 0 c4) 52
          have hs := from_ hb hal
          replace a0 := keepC hs a0
          replace a1 := keepC hs a1
          replace b0 := keepC hs b0
          replace b1 := keepC hs b1
          replace e0 := keepC hs e0
          replace e1 := keepC hs e1
          replace uA := uA.below hs
          replace uB := uB.below hs
          replace uC := uC.below hs
          replace hB := from_ hB hs
          clear hb hal hs
          go_wp2
          go_ret
          exact ⟨rfl, hB⟩
        | true =>
          have o3 : okI r m = false := by
            cases h : okI r m
            · rfl
            · exact absurd ⟨o1, o2, h⟩ hok
          have na := Nm.ok o1 hsa
          have nb := Nm.ok o2 hsb
          generalize zof s l = x at *
          generalize zof t k = y at *
          obtain ⟨sab, lab, nab⟩ : ∃ s l, Nm (x + y) s l := ⟨_, _, Nm.mk' _⟩
          have Na := Lib.hid na
          have Nb := Lib.hid nb
          have Nab := Lib.hid nab
          have O3 := Lib.hid o3
          clear o1 o2 o3 hok hsa hsb hsc na nb nab
          go_enter Try.func11, Try.ntmps11
          go_wp2_with fail
          refine (alive5 _).mono ?_
          rintro e w1 ⟨rfl, hb⟩
          replace a0 := keepC hb a0
          replace a1 := keepC hb a1
          replace b0 := keepC hb b0
          replace b1 := keepC hb b1
          replace e0 := keepC hb e0
          replace e1 := keepC hb e1
          replace uA := uA.below hb
          replace uB := uB.below hb
          replace uC := uC.below hb
          replace hB := from_ hB hb
          clear hb
          go_wp2_with fail
          refine (check_n Na.out uA).mono ?_
          rintro e w2 ⟨rfl, hb⟩
          replace a0 := keepC hb a0
          replace a1 := keepC hb a1
          replace b0 := keepC hb b0
          replace b1 := keepC hb b1
          replace e0 := keepC hb e0
          replace e1 := keepC hb e1
          replace uA := uA.below hb
          replace uB := uB.below hb
          replace uC := uC.below hb
          replace hB := from_ hB hb
          clear hb
          go_wp2_with fail
          refine (check_n Nb.out uB).mono ?_
          rintro e w3 ⟨rfl, hb⟩
          replace a0 := keepC hb a0
          replace a1 := keepC hb a1
          replace b0 := keepC hb b0
          replace b1 := keepC hb b1
          replace e0 := keepC hb e0
          replace e1 := keepC hb e1
          replace uA := uA.below hb
          replace uB := uB.below hb
          replace uC := uC.below hb
          replace hB := from_ hB hb
          clear hb
          go_wp2_with fail
          refine (Hch.out _ _ _ _ _ _ uC O3.out).mono ?_
          rintro e w4 ⟨rfl, hb⟩
          replace a0 := keepC hb a0
          replace a1 := keepC hb a1
          replace b0 := keepC hb b0
          replace b1 := keepC hb b1
          replace e0 := keepC hb e0
          replace e1 := keepC hb e1
          replace uA := uA.below hb
          replace uB := uB.below hb
          replace uC := uC.below hb
          replace hB := from_ hB hb
          clear hb
          go_wp2_with fail
          refine (wadd_n Na.out Nb.out Nab.out rfl (by omega) (by omega) uA uB).mono ?_
          rintro e w5 ⟨A5, c5, rfl, uE, hb⟩
          have hal : Below w5.heap.size w5 (w5.alloc (.cells #[.bool sab, .slice A5 lab.length c5] 52)) := (Below.refl _ _).alloc (Nat.le_refl _) _
          replace uE := uE.below hal
          obtain ⟨xE, yE, _, _, _⟩ := Box.new w5 (.bool sab) (.slice A5 lab.length c5) 52
          have hs := from_ hb hal
          replace a0 := keepC hs a0
          replace a1 := keepC hs a1
          replace b0 := keepC hs b0
          replace b1 := keepC hs b1
          replace e0 := keepC hs e0
          replace e1 := keepC hs e1
          replace uA := uA.below hs
          replace uB := uB.below hs
          replace uC := uC.below hs
          replace hB := from_ hB hs
          clear hb hal hs
          go_wp2
          go_ret
          exact ⟨rfl, hB⟩

end Go.Proofs.Ythdmfggcfkeenaa
