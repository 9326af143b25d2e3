/-
  facetroomlaw07.VecNames, walked. No conditions.
-/
import Derived.Test.YtmeknjfffhblaaaQVecP
import Derived.Test.YtmeknjfffhblaaaQVecO
namespace Go.Proofs.Ytmeknjfffhblaaa
open Go.RowKit
set_option linter.unusedVariables false
set_option linter.unusedSimpArgs false

theorem ints1 (w : World) (x : Int) (t : TypeId) (hx : -9223372036854775808 ≤ x ∧ x ≤ 9223372036854775807) :
    IsInts (w.alloc (.cells #[.int .i64 x] t)) old (.slice (some ⟨w.heap.size, 0, none⟩) 1 1) [x] := by
  refine ⟨_, 1, rfl, by simp, by omega, fun u hu => ?_, fun _ => ⟨w.heap.size, 0, rfl, by simp, fun j hj => ?_⟩⟩
  · simp at hu
    subst hu
    exact hx
  · match j, hj with
    | 0, _ => exact cell_newest rfl rfl

set_option maxRecDepth 100000 in
set_option maxHeartbeats 1000000 in
theorem vcheck_long {w : World} {A : Option Addr} {L c : Nat} (h : 64 < L) (h2 : L ≤ 9223372036854775807) :
    Calls Try.prog 28 #[.slice A L c] w fun e w' => e = .returned (.int .i64 8) ∧ Below w.heap.size w w' := by
  have hd : decide ((64 : Int) < (L : Int)) = true := decide_eq_true (by omega)
  go_enter Try.func28, Try.ntmps28
  go_wp2
  go_ret
  exact ⟨rfl, Below.refl _ _⟩

set_option maxRecDepth 100000 in
set_option maxHeartbeats 4000000 in
theorem lawVecNames (w : World) :
    Calls Try.prog 5 #[] w fun e w' => e = .returned (.bool true) ∧ Below w.heap.size w w' := by
  have hB : Below w.heap.size w w := Below.refl _ _
  obtain ⟨i0, hi, hz0, hz1, hz2⟩ := info_parts infoI
  have e2 : limbs 2 = [2] := limbs_one (by omega) (by omega)
  have e0 : limbs 0 = [] := limbs_eq_nil.2 rfl
  have ea : limbs 4 = [4] := limbs_one (by omega) (by omega)
  have g1 : gcdV [4, -6, 0] = 2 := by decide
  have g2 : gcdV [0, 0] = 0 := by decide
  have g3 : lowV [4, -6, 0] = [2, -3, 0] := by decide
  have g4 : cmpV [1, 2] [1, 3] = -1 := by decide
  obtain ⟨pa, n_a⟩ : ∃ p, NmV [4, -6, 0] p := ⟨_, NmV.mk' _⟩
  have k_a := nmV_small n_a (by simp)
  have l_a := n_a.len
  simp only [List.length_cons, List.length_nil] at l_a
  obtain ⟨pz, n_z⟩ : ∃ p, NmV [0, 0] p := ⟨_, NmV.mk' _⟩
  have k_z := nmV_small n_z (by simp)
  have l_z := n_z.len
  simp only [List.length_cons, List.length_nil] at l_z
  obtain ⟨pc, n_c⟩ : ∃ p, NmV [1, 2] p := ⟨_, NmV.mk' _⟩
  have k_c := nmV_small n_c (by simp)
  have l_c := n_c.len
  simp only [List.length_cons, List.length_nil] at l_c
  obtain ⟨pd, n_d⟩ : ∃ p, NmV [1, 3] p := ⟨_, NmV.mk' _⟩
  have k_d := nmV_small n_d (by simp)
  have l_d := n_d.len
  simp only [List.length_cons, List.length_nil] at l_d
  obtain ⟨pf, n_f⟩ : ∃ p, NmV [1] p := ⟨_, NmV.mk' _⟩
  have k_f := nmV_small n_f (by simp)
  have l_f := n_f.len
  simp only [List.length_cons, List.length_nil] at l_f
  obtain ⟨pr, n_r⟩ : ∃ p, NmV [2, -3, 0] p := ⟨_, NmV.mk' _⟩
  have k_r := nmV_small n_r (by simp)
  have l_r := n_r.len
  simp only [List.length_cons, List.length_nil] at l_r
  have hV : Hid (∀ (w1 : World) (zs : List Int) (ps : List (Bool × List Nat)) (g n : Nat), NmV zs ps → zs.length ≤ 1000 → IsInts w1 old (.slice (some ⟨g, 0, none⟩) n n) zs → Calls Try.prog 27 #[.slice (some ⟨g, 0, none⟩) n n] w1 fun e w' => ∃ A c, e = .returned (.slice A ps.length c) ∧ VecAt w' old A c ps ∧ Below w1.heap.size w1 w') := fun w1 zs ps g n h h1 h2 => vof_n h2 h h1
  have cC : Hid (∀ w1 Z A c, VecAt w1 Z A c pa → Calls Try.prog 21 #[.slice A pa.length c] w1 fun e w' => ∃ Av cv, e = .returned (.tuple #[.slice Av 1 cv, .int .i64 0]) ∧ U64s w' (new w1.heap.size) Av cv [2] ∧ Below w1.heap.size w1 w') := fun w1 Z A c h => by
    have h1 := vcontent_n h n_a (by omega) k_a (by omega)
    rw [g1] at h1
    refine h1.mono ?_
    rintro e w' ⟨_, rfl, ⟨Av, cv, rfl, hu⟩, hb⟩
    rw [e2] at hu ⊢
    exact ⟨Av, cv, rfl, hu, hb⟩
  have cZ : Hid (∀ w1 Z A c, VecAt w1 Z A c pz → Calls Try.prog 21 #[.slice A pz.length c] w1 fun e w' => ∃ Av cv, e = .returned (.tuple #[.slice Av 0 cv, .int .i64 0]) ∧ U64s w' (new w1.heap.size) Av cv [] ∧ Below w1.heap.size w1 w') := fun w1 Z A c h => by
    have h1 := vcontent_n h n_z (by omega) k_z (by omega)
    rw [g2] at h1
    refine h1.mono ?_
    rintro e w' ⟨_, rfl, ⟨Av, cv, rfl, hu⟩, hb⟩
    rw [e0] at hu ⊢
    exact ⟨Av, cv, rfl, hu, hb⟩
  have cP : Hid (∀ w1 Z A c, VecAt w1 Z A c pa → Calls Try.prog 20 #[.slice A pa.length c] w1 fun e w' => ∃ Av cv, e = .returned (.tuple #[.slice Av pr.length cv, .int .i64 0]) ∧ VecAt w' (new w1.heap.size) Av cv pr ∧ Below w1.heap.size w1 w') := fun w1 Z A c h => vprime_n h n_a (by omega) k_a (by omega) (by rw [g3]; exact n_r)
  have cM : Hid (∀ w1 Z Y A c B d, VecAt w1 Z A c pc → VecAt w1 Y B d pd → Calls Try.prog 16 #[.slice A pc.length c, .slice B pd.length d] w1 fun e w' => e = .returned (.tuple #[.int .i64 (-1), .int .i64 0]) ∧ Below w1.heap.size w1 w') := fun w1 Z Y A c B d h1 h2 => vcmp_n h1 h2 n_c n_d (by omega) (by omega) k_c k_d (by omega) g4
  have cA : Hid (∀ w1 Z Y A c B d, VecAt w1 Z A c pf → VecAt w1 Y B d pc → Calls Try.prog 17 #[.slice A pf.length c, .slice B pc.length d] w1 fun e w' => e = .returned (.tuple #[.slice none 0 0, .int .i64 70]) ∧ Below w1.heap.size w1 w') := fun w1 Z Y A c B d h1 h2 => vadd_err h1 h2 (by rw [errVs_two, if_pos ⟨n_f.okV (by omega), n_c.okV (by omega)⟩, if_neg (by omega)]) (.inr rfl)
  have cTwo : Hid (∀ w1 Z Ad cd, U64s w1 Z Ad cd [2] → Calls Try.prog 24 #[.slice Ad 1 cd, .slice (some ⟨w1.heap.size, 0, none⟩) 1 1] (w1.alloc (.cells #[.int .u64 2] 43)) fun e w' => e = .returned (.bool true) ∧ Below (w1.alloc (.cells #[.int .u64 2] 43)).heap.size (w1.alloc (.cells #[.int .u64 2] 43)) w') := fun w1 Z Ad cd h => same_yes (l := [2]) ⟨Ad, cd, rfl, h.below ((Below.refl _ _).alloc (Nat.le_refl _) _)⟩ (isU_one (x := 2) (by omega) (cell_newest rfl rfl))
  have N_a := Lib.hid n_a
  have N_z := Lib.hid n_z
  have N_c := Lib.hid n_c
  have N_d := Lib.hid n_d
  have N_f := Lib.hid n_f
  have N_r := Lib.hid n_r
  clear n_a k_a l_a n_z k_z l_z n_c k_c l_c n_d k_d l_d n_f k_f l_f n_r k_r l_r e2 e0 ea g1 g2 g3 g4
  go_enter Try.func5, Try.ntmps5
  go_wp2_with fail
  refine (hV.out _ _ _ _ _ N_a.out (by simp) (ints3 _ (4) (-6) (0) 3 (by omega) (by omega) (by omega))).mono ?_
  rintro e w1 ⟨A1, c1, rfl, va1, hb0⟩
  have hb := from_ ((Below.refl _ _).alloc (Nat.le_refl _) (.cells #[.int .i64 (4), .int .i64 (-6), .int .i64 (0)] 3)) hb0
  replace hB := from_ hB hb
  clear hb hb0
  go_wp2_with fail
  refine (cC.out _ _ _ _ va1).mono ?_
  rintro e w2 ⟨A2, c2, rfl, vC, hb⟩
  replace va1 := va1.below hb
  replace hB := from_ hB hb
  clear hb
  clear va1
  go_wp2_with fail
  refine (hV.out _ _ _ _ _ N_a.out (by simp) (ints3 _ (4) (-6) (0) 3 (by omega) (by omega) (by omega))).mono ?_
  rintro e w3 ⟨A3, c3, rfl, va2, hb0⟩
  have hb := from_ ((Below.refl _ _).alloc (Nat.le_refl _) (.cells #[.int .i64 (4), .int .i64 (-6), .int .i64 (0)] 3)) hb0
  replace vC := vC.below hb
  replace hB := from_ hB hb
  clear hb hb0
  go_wp2_with fail
  refine (cP.out _ _ _ _ va2).mono ?_
  rintro e w4 ⟨A4, c4, rfl, vP, hb⟩
  replace vC := vC.below hb
  replace va2 := va2.below hb
  replace hB := from_ hB hb
  clear hb
  clear va2
  go_wp2_with fail
  refine (hV.out _ _ _ _ _ N_z.out (by simp) (ints2 _ (0) (0) 3 (by omega) (by omega))).mono ?_
  rintro e w5 ⟨A5, c5, rfl, vz1, hb0⟩
  have hb := from_ ((Below.refl _ _).alloc (Nat.le_refl _) (.cells #[.int .i64 (0), .int .i64 (0)] 3)) hb0
  replace vC := vC.below hb
  replace vP := vP.below hb
  replace hB := from_ hB hb
  clear hb hb0
  go_wp2_with fail
  refine (cZ.out _ _ _ _ vz1).mono ?_
  rintro e w6 ⟨A6, c6, rfl, vZ, hb⟩
  replace vC := vC.below hb
  replace vP := vP.below hb
  replace vz1 := vz1.below hb
  replace hB := from_ hB hb
  clear hb
  clear vz1
  go_wp2_with fail
  refine (hV.out _ _ _ _ _ N_c.out (by simp) (ints2 _ (1) (2) 3 (by omega) (by omega))).mono ?_
  rintro e w7 ⟨A7, c7, rfl, vc1, hb0⟩
  have hb := from_ ((Below.refl _ _).alloc (Nat.le_refl _) (.cells #[.int .i64 (1), .int .i64 (2)] 3)) hb0
  replace vC := vC.below hb
  replace vP := vP.below hb
  replace vZ := vZ.below hb
  replace hB := from_ hB hb
  clear hb hb0
  go_wp2_with fail
  refine (hV.out _ _ _ _ _ N_d.out (by simp) (ints2 _ (1) (3) 3 (by omega) (by omega))).mono ?_
  rintro e w8 ⟨A8, c8, rfl, vd1, hb0⟩
  have hb := from_ ((Below.refl _ _).alloc (Nat.le_refl _) (.cells #[.int .i64 (1), .int .i64 (3)] 3)) hb0
  replace vC := vC.below hb
  replace vP := vP.below hb
  replace vZ := vZ.below hb
  replace vc1 := vc1.below hb
  replace hB := from_ hB hb
  clear hb hb0
  go_wp2_with fail
  refine (cM.out _ _ _ _ _ _ _ vc1 vd1).mono ?_
  rintro e w9 ⟨rfl, hb⟩
  replace vC := vC.below hb
  replace vP := vP.below hb
  replace vZ := vZ.below hb
  replace vc1 := vc1.below hb
  replace vd1 := vd1.below hb
  replace hB := from_ hB hb
  clear hb
  clear vc1
  clear vd1
  go_wp2_with fail
  refine (hV.out _ _ _ _ _ N_f.out (by simp) (ints1 _ (1) 3 (by omega))).mono ?_
  rintro e w10 ⟨A10, c10, rfl, vf1, hb0⟩
  have hb := from_ ((Below.refl _ _).alloc (Nat.le_refl _) (.cells #[.int .i64 (1)] 3)) hb0
  replace vC := vC.below hb
  replace vP := vP.below hb
  replace vZ := vZ.below hb
  replace hB := from_ hB hb
  clear hb hb0
  go_wp2_with fail
  refine (hV.out _ _ _ _ _ N_c.out (by simp) (ints2 _ (1) (2) 3 (by omega) (by omega))).mono ?_
  rintro e w11 ⟨A11, c11, rfl, vc1, hb0⟩
  have hb := from_ ((Below.refl _ _).alloc (Nat.le_refl _) (.cells #[.int .i64 (1), .int .i64 (2)] 3)) hb0
  replace vC := vC.below hb
  replace vP := vP.below hb
  replace vZ := vZ.below hb
  replace vf1 := vf1.below hb
  replace hB := from_ hB hb
  clear hb hb0
  go_wp2_with fail
  refine (cA.out _ _ _ _ _ _ _ vf1 vc1).mono ?_
  rintro e w12 ⟨rfl, hb⟩
  replace vC := vC.below hb
  replace vP := vP.below hb
  replace vZ := vZ.below hb
  replace vf1 := vf1.below hb
  replace vc1 := vc1.below hb
  replace hB := from_ hB hb
  clear hb
  clear vc1
  clear vf1
  go_wp2_with fail
  refine (cTwo.out _ _ _ _ vC).mono ?_
  rintro e w13 ⟨rfl, hb0⟩
  have hb := from_ ((Below.refl _ _).alloc (Nat.le_refl _) (.cells #[.int .u64 2] 43)) hb0
  replace vC := vC.below hb
  replace vP := vP.below hb
  replace vZ := vZ.below hb
  replace hB := from_ hB hb
  clear hb hb0
  go_wp2_with fail
  refine (hV.out _ _ _ _ _ N_r.out (by simp) (ints3 _ (2) (-3) (0) 3 (by omega) (by omega) (by omega))).mono ?_
  rintro e w14 ⟨A14, c14, rfl, vr1, hb0⟩
  have hb := from_ ((Below.refl _ _).alloc (Nat.le_refl _) (.cells #[.int .i64 (2), .int .i64 (-3), .int .i64 (0)] 3)) hb0
  replace vC := vC.below hb
  replace vP := vP.below hb
  replace vZ := vZ.below hb
  replace hB := from_ hB hb
  clear hb hb0
  go_wp2_with fail
  refine (same7_n vP vr1).mono ?_
  rintro e w15 ⟨rfl, hb⟩
  replace vC := vC.below hb
  replace vP := vP.below hb
  replace vZ := vZ.below hb
  replace vr1 := vr1.below hb
  replace hB := from_ hB hb
  clear hb
  go_wp2_with fail
  refine (alive7 _).mono ?_
  rintro e w16 ⟨rfl, hb⟩
  replace vC := vC.below hb
  replace vP := vP.below hb
  replace vZ := vZ.below hb
  replace vr1 := vr1.below hb
  replace hB := from_ hB hb
  clear hb
  go_wp2_with fail
  obtain ⟨wz, hrun, r1, r2⟩ := run_make_full (P := Try.prog) w16 w16.heap.size 23 37 i0 (.agg #[.bool false, .slice none 0 0]) 2 Try.underlying23 hi hz0 hz1 .i64 .i64 65 (by rw [hz2]; omega) (by simp only [maxLen]; omega) (Nat.le_refl _)
  have hBz := hB.grown r2 hB.size (fun k h => by cases h)
  clear r1 r2
  rw [show ((65 : Nat) : Int) = 65 from rfl] at hrun
  rw [hrun]
  clear hrun
  go_wp2_with fail
  refine (vcheck_long (by omega) (by omega)).mono ?_
  rintro e wy ⟨rfl, hb⟩
  go_wp2
  go_ret
  exact ⟨by first | rfl | trivial, from_ hBz hb⟩

end Go.Proofs.Ytmeknjfffhblaaa
