/-
  The walk of RatOrder. The one premise: the table of powers of ten reads as it is laid.
-/
import Derived.Deep.RegionHeld3
import Derived.Deep.DeepCutAuto
import Derived.Test.YtbcplffdoejniaaGreatDoorJRatO
namespace Go.Proofs.YtbcplffdoejniaaGreatDoor
open Go.RowKit
set_option linter.unusedVariables false
set_option linter.unusedSimpArgs false

theorem keep2L {W W' : World} {g : Nat} {x0 x1 : Value} (hs : W.cell? ⟨g, 0, none⟩ = some x0 ∧ W.cell? ⟨g, 1, none⟩ = some x1) (hb : Below W.heap.size W W') : W'.cell? ⟨g, 0, none⟩ = some x0 ∧ W'.cell? ⟨g, 1, none⟩ = some x1 := ⟨keepC hb hs.1, keepC hb hs.2⟩
theorem st2L {W : World} {g r : Nat} {x0 x1 x y z : Value} (hg : r ≠ g) (hs : W.cell? ⟨g, 0, none⟩ = some x0 ∧ W.cell? ⟨g, 1, none⟩ = some x1) :
    let V := ((W.setCell ⟨r, 0, none⟩ x).setCell ⟨r, 1, none⟩ y).setCell ⟨r, 2, none⟩ z
    V.cell? ⟨g, 0, none⟩ = some x0 ∧ V.cell? ⟨g, 1, none⟩ = some x1 := ⟨stQ3 hs.1 hg, stQ3 hs.2 hg⟩

set_option maxRecDepth 100000 in
set_option maxHeartbeats 8000000 in
theorem ratOrder_zero {w : World} {s t r : Bool} {l k l' k' m j : List Nat} {A B C D E F : Option Addr} {ca cb cc cd ce cf : Nat} {P R S : Rat} (hu : (U64s w old A ca l ∧ U64s w old B cb k) ∧ (U64s w old C cc l' ∧ U64s w old D cd k') ∧ (U64s w old E ce m ∧ U64s w old F cf j)) (ht : Tab w) (G0 : Hid (l.length ≤ 8 ∧ k.length ≤ 8)) (G1 : Hid (l'.length ≤ 8 ∧ k'.length ≤ 8)) (G2 : Hid (m.length ≤ 8 ∧ j.length ≤ 8)) (nA : NmQ P s l k) (nB : NmQ R t l' k') (nC : NmQ S r m j) (h0 : sgn (P - R).num = 0) :
    Calls Tryz.prog 5 #[.agg #[.bool s, .slice A l.length ca, .slice B k.length cb], .agg #[.bool t, .slice C l'.length cc, .slice D k'.length cd], .agg #[.bool r, .slice E m.length ce, .slice F j.length cf]] w fun e w' => e = .returned (.bool true) ∧ Below w.heap.size w w' := by
  obtain ⟨⟨ua, va⟩, ⟨ub, vb⟩, uc, vc⟩ := hu
  obtain ⟨bA, bB, bC, hB⟩ := boxes3Q w (.bool s) (.slice A l.length ca) (.slice B k.length cb) (.bool t) (.slice C l'.length cc) (.slice D k'.length cd) (.bool r) (.slice E m.length ce) (.slice F j.length cf)
  obtain ⟨xa, ya, za, _, _, _, _⟩ := bA
  obtain ⟨xb, yb, zb, _, _, _, _⟩ := bB
  obtain ⟨xc, yc, zc, _, _, _, _⟩ := bC
  replace ua := ua.below hB
  replace va := va.below hB
  replace ub := ub.below hB
  replace vb := vb.below hB
  replace uc := uc.below hB
  replace vc := vc.below hB
  have g1 := G0.out
  have g2 := G1.out
  have g3 := G2.out
  obtain ⟨g, hg⟩ : ∃ g, g = sgn (P - R).num := ⟨_, rfl⟩
  obtain ⟨pl1, pl2, ⟨pl3, pl3'⟩, pl4, pl4'⟩ := order_plain P
  obtain ⟨z1, hz1⟩ : ∃ z, z = rq P.num (P.den : Int) true := ⟨_, rfl⟩
  obtain ⟨z2, hz2⟩ : ∃ z, z = rq P.num (P.den : Int) false := ⟨_, rfl⟩
  have lr1 := len_rqQ P.num (P.den : Int) true
  have lr2 := len_rqQ P.num (P.den : Int) false
  rw [← hz1] at pl1 pl3 pl3' lr1
  rw [← hz2] at pl2 pl4 pl4' lr2
  obtain ⟨sL, lL, nL⟩ : ∃ s l, Nm z1 s l := ⟨_, _, Nm.mk' _⟩
  obtain ⟨sH, lH, nH⟩ : ∃ s l, Nm z2 s l := ⟨_, _, Nm.mk' _⟩
  have kL := nL.len
  have kH := nH.len
  have nLr : Nm (rq P.num (P.den : Int) true) sL lL := by rw [← hz1]; exact nL
  have nHr : Nm (rq P.num (P.den : Int) false) sH lH := by rw [← hz2]; exact nH
  clear hz1 hz2
  obtain ⟨sx, lx, kx, n_x⟩ : ∃ s l k, NmQ (P + S) s l k := ⟨_, _, _, NmQ.mk' _⟩
  have L_x := lens_q n_x
  obtain ⟨sy, ly, ky, n_y⟩ : ∃ s l k, NmQ (R + S) s l k := ⟨_, _, _, NmQ.mk' _⟩
  have L_y := lens_q n_y
  obtain ⟨sp, lp, kp, n_p⟩ : ∃ s l k, NmQ (Rat.divInt z1 1) s l k := ⟨_, _, _, NmQ.mk' _⟩
  have L_p := lens_q n_p
  obtain ⟨sq, lq, kq, n_q⟩ : ∃ s l k, NmQ (Rat.divInt z2 1) s l k := ⟨_, _, _, NmQ.mk' _⟩
  have L_q := lens_q n_q
  obtain ⟨sd1, ld1, kd1, n_d1⟩ : ∃ s l k, NmQ (P - Rat.divInt z1 1) s l k := ⟨_, _, _, NmQ.mk' _⟩
  have L_d1 := lens_q n_d1
  obtain ⟨sd2, ld2, kd2, n_d2⟩ : ∃ s l k, NmQ (Rat.divInt z2 1 - P) s l k := ⟨_, _, _, NmQ.mk' _⟩
  have L_d2 := lens_q n_d2
  obtain ⟨so, lo, ko, n_o⟩ : ∃ s l k, NmQ (Rat.divInt 1 1) s l k := ⟨_, _, _, NmQ.mk' _⟩
  have L_o := lens_q n_o
  obtain ⟨se, le, ke, n_e⟩ : ∃ s l k, NmQ (Rat.divInt 0 1) s l k := ⟨_, _, _, NmQ.mk' _⟩
  have L_e := lens_q n_e
  have L_a := lens_q nA
  have L_b := lens_q nB
  have L_c := lens_q nC
  have f1 := add_len P S
  have f2 := add_len R S
  have f3 := divInt_len (x := z1) (y := 1) (by omega)
  have f4 := divInt_len (x := z2) (y := 1) (by omega)
  have f0 : (limbs (1 : Int).natAbs).length = 1 := rfl
  have bp : (lp.length ≤ 20 ∧ kp.length ≤ 20) ∧ (lq.length ≤ 20 ∧ kq.length ≤ 20) := by omega
  have f5 := sub_len (p := P) (q := Rat.divInt z1 1) (K := 20) (by omega) (by omega) (by omega) (by omega)
  have f6 := sub_len (p := Rat.divInt z2 1) (q := P) (K := 20) (by omega) (by omega) (by omega) (by omega)
  have bx : (lx.length ≤ 60 ∧ kx.length ≤ 60) ∧ (ly.length ≤ 60 ∧ ky.length ≤ 60) ∧ (ld1.length ≤ 60 ∧ kd1.length ≤ 60) ∧ (ld2.length ≤ 60 ∧ kd2.length ≤ 60) := by omega
  have bo : (lo.length ≤ 20 ∧ ko.length ≤ 20) ∧ (le.length ≤ 20 ∧ ke.length ≤ 20) ∧ (lL.length ≤ 20 ∧ lH.length ≤ 20) := by
    have h1 := divInt_len (x := 1) (y := 1) (by omega)
    have h2 := divInt_len (x := 0) (y := 1) (by omega)
    have h3 : (limbs (0 : Int).natAbs).length = 0 := rfl
    omega
  have hm : sgn (P + S - (R + S)).num = g := by rw [hg]; congr 2; grind
  have ho : sgn (R - P).num = -g := by rw [hg, ← sgn_neg, ← Rat.neg_num]; congr 2; grind
  have hgb : -1 ≤ g ∧ g ≤ 1 := by rcases sgn_vals (P - R).num with h | h | h <;> omega
  have hO := nmq_eq nA nB
  rw [← hg] at hO
  obtain ⟨gw, hgw⟩ : ∃ x, x = sgn (P - Rat.divInt z1 1 - Rat.divInt 0 1).num := ⟨_, rfl⟩
  obtain ⟨gz, hgz⟩ : ∃ x, x = sgn (Rat.divInt z2 1 - P - Rat.divInt 0 1).num := ⟨_, rfl⟩
  rw [← hgw] at pl3 pl3'
  rw [← hgz] at pl4 pl4'
  have a1 : Nm 1 false [1] := ⟨rfl, rfl⟩
  have W1 : Hid (∀ (W : World), Calls Tryz.prog 20 #[.int .i64 1] W fun e w' => ∃ A c, e = .returned (.agg #[.bool false, .slice A 1 c]) ∧ U64s w' (new W.heap.size) A c [1] ∧ Below W.heap.size W w') := fun W => wof_n6 (w := W) a1 (by omega)
  have CP : Hid (∀ (W : World) (Y1 Y2 : Zone) (A1 A2 : Option Addr) (c1 c2 : Nat), U64s W Y1 A1 c1 lL → U64s W Y2 A2 c2 [1] → Calls Tryz.prog 8 #[.agg #[.bool sL, .slice A1 lL.length c1], .agg #[.bool false, .slice A2 1 c2]] W fun e w' => ∃ An cn Ad cd, e = .returned (.tuple #[.agg #[.bool sp, .slice An lp.length cn, .slice Ad kp.length cd], .int .i64 0]) ∧ U64s w' (new W.heap.size) An cn lp ∧ U64s w' (new W.heap.size) Ad cd kp ∧ Below W.heap.size W w') := fun W Y1 Y2 A1 A2 c1 c2 h1 h2 => by
    have := ratof_q nL a1 (by omega) n_p rfl (by omega) (by simp) h1 h2
    exact this
  have CQ : Hid (∀ (W : World) (Y1 Y2 : Zone) (A1 A2 : Option Addr) (c1 c2 : Nat), U64s W Y1 A1 c1 lH → U64s W Y2 A2 c2 [1] → Calls Tryz.prog 8 #[.agg #[.bool sH, .slice A1 lH.length c1], .agg #[.bool false, .slice A2 1 c2]] W fun e w' => ∃ An cn Ad cd, e = .returned (.tuple #[.agg #[.bool sq, .slice An lq.length cn, .slice Ad kq.length cd], .int .i64 0]) ∧ U64s w' (new W.heap.size) An cn lq ∧ U64s w' (new W.heap.size) Ad cd kq ∧ Below W.heap.size W w') := fun W Y1 Y2 A1 A2 c1 c2 h1 h2 => by
    have := ratof_q nH a1 (by omega) n_q rfl (by omega) (by simp) h1 h2
    exact this
  have F11 := Lib.hid (fun (W : World) => of6_q (w := W) (x := 1) (y := 1) (by omega) (by omega) (by omega) n_o rfl)
  have F01 := Lib.hid (fun (W : World) => of6_q (w := W) (x := 0) (y := 1) (by omega) (by omega) (by omega) n_e rfl)
  have CU := Lib.hid (fun (W : World) (Y1 Y2 Y3 Y4 : Zone) (A1 A2 A3 A4 : Option Addr) (c1 c2 c3 c4 : Nat) (h1 : U64s W Y1 A1 c1 ld1) (h2 : U64s W Y2 A2 c2 kd1) (h3 : U64s W Y3 A3 c3 lo) (h4 : U64s W Y4 A4 c4 ko) => rcmp_q n_d1 n_o pl1 h1 h2 h3 h4 (by omega) (by omega) (by omega) (by omega))
  have CV := Lib.hid (fun (W : World) (Y1 Y2 Y3 Y4 : Zone) (A1 A2 A3 A4 : Option Addr) (c1 c2 c3 c4 : Nat) (h1 : U64s W Y1 A1 c1 ld2) (h2 : U64s W Y2 A2 c2 kd2) (h3 : U64s W Y3 A3 c3 lo) (h4 : U64s W Y4 A4 c4 ko) => rcmp_q n_d2 n_o pl2 h1 h2 h3 h4 (by omega) (by omega) (by omega) (by omega))
  have CW := Lib.hid (fun (W : World) (Y1 Y2 Y3 Y4 : Zone) (A1 A2 A3 A4 : Option Addr) (c1 c2 c3 c4 : Nat) (h1 : U64s W Y1 A1 c1 ld1) (h2 : U64s W Y2 A2 c2 kd1) (h3 : U64s W Y3 A3 c3 le) (h4 : U64s W Y4 A4 c4 ke) => rcmp_q n_d1 n_e hgw.symm h1 h2 h3 h4 (by omega) (by omega) (by omega) (by omega))
  have CX := Lib.hid (fun (W : World) (Y1 Y2 Y3 Y4 : Zone) (A1 A2 A3 A4 : Option Addr) (c1 c2 c3 c4 : Nat) (h1 : U64s W Y1 A1 c1 ld2) (h2 : U64s W Y2 A2 c2 kd2) (h3 : U64s W Y3 A3 c3 le) (h4 : U64s W Y4 A4 c4 ke) => rcmp_q n_d2 n_e hgz.symm h1 h2 h3 h4 (by omega) (by omega) (by omega) (by omega))
  have N_x := Lib.hid n_x
  have N_y := Lib.hid n_y
  have N_p := Lib.hid n_p
  have N_q := Lib.hid n_q
  have N_d1 := Lib.hid n_d1
  have N_d2 := Lib.hid n_d2
  have N_a := Lib.hid nA
  have N_b := Lib.hid nB
  have N_c := Lib.hid nC
  have N_L := Lib.hid nLr
  have N_H := Lib.hid nHr
  have HG := Lib.hid hg.symm
  have HM := Lib.hid hm
  have HOo := Lib.hid ho
  have HD := Lib.hid (show ((1 : Int) ≠ 0) by omega)
  have dw : decide ((0 : Int) ≤ gw) = true := decide_eq_true pl3
  have dz : decide ((0 : Int) ≤ gz) = true := decide_eq_true pl4
  have BD := Lib.hid (And.intro bp (And.intro bx bo))
  clear nA nB nC nL nH nLr nHr a1 hm ho hgw hgz pl1 pl2 pl3 pl3' pl4 pl4' lr1 lr2 kL kH f0 f1 f2 f3 f4 f5 f6 L_a L_b L_c bp bx bo n_x L_x n_y L_y n_p L_p n_q L_q n_d1 L_d1 n_d2 L_d2 n_o L_o n_e L_e
  have hgz0 : g = 0 := by rw [hg]; exact h0
  subst hgz0
  have HO : Hid (decide (s = t ∧ l = l' ∧ k = k') = true) := by rw [hO]; exact decide_eq_true rfl
  clear hO hg h0
  go_enter Tryz.func5, Tryz.ntmps5
  go_wp2_with fail
  refine (alive6 (ht.below hB)).mono ?_
  rintro e w1 ⟨rfl, hb⟩
  replace xa := keepC hb xa
  replace ya := keepC hb ya
  replace za := keepC hb za
  replace xb := keepC hb xb
  replace yb := keepC hb yb
  replace zb := keepC hb zb
  replace xc := keepC hb xc
  replace yc := keepC hb yc
  replace zc := keepC hb zc
  replace ua := ua.below hb
  replace va := va.below hb
  replace ub := ub.below hb
  replace vb := vb.below hb
  replace uc := uc.below hb
  replace vc := vc.below hb
  replace hB := from_ hB hb
  clear hb
  go_wp2_with fail
  refine (great6_no (n := 8) G0.out.1 G0.out.2 (by omega)).mono ?_
  rintro e w2 ⟨rfl, hb⟩
  replace xa := keepC hb xa
  replace ya := keepC hb ya
  replace za := keepC hb za
  replace xb := keepC hb xb
  replace yb := keepC hb yb
  replace zb := keepC hb zb
  replace xc := keepC hb xc
  replace yc := keepC hb yc
  replace zc := keepC hb zc
  replace ua := ua.below hb
  replace va := va.below hb
  replace ub := ub.below hb
  replace vb := vb.below hb
  replace uc := uc.below hb
  replace vc := vc.below hb
  replace hB := from_ hB hb
  clear hb
  go_wp2_with fail
  refine (great6_no (n := 8) G1.out.1 G1.out.2 (by omega)).mono ?_
  rintro e w3 ⟨rfl, hb⟩
  replace xa := keepC hb xa
  replace ya := keepC hb ya
  replace za := keepC hb za
  replace xb := keepC hb xb
  replace yb := keepC hb yb
  replace zb := keepC hb zb
  replace xc := keepC hb xc
  replace yc := keepC hb yc
  replace zc := keepC hb zc
  replace ua := ua.below hb
  replace va := va.below hb
  replace ub := ub.below hb
  replace vb := vb.below hb
  replace uc := uc.below hb
  replace vc := vc.below hb
  replace hB := from_ hB hb
  clear hb
  go_wp2_with fail
  refine (great6_no (n := 8) G2.out.1 G2.out.2 (by omega)).mono ?_
  rintro e w4 ⟨rfl, hb⟩
  replace xa := keepC hb xa
  replace ya := keepC hb ya
  replace za := keepC hb za
  replace xb := keepC hb xb
  replace yb := keepC hb yb
  replace zb := keepC hb zb
  replace xc := keepC hb xc
  replace yc := keepC hb yc
  replace zc := keepC hb zc
  replace ua := ua.below hb
  replace va := va.below hb
  replace ub := ub.below hb
  replace vb := vb.below hb
  replace uc := uc.below hb
  replace vc := vc.below hb
  replace hB := from_ hB hb
  clear hb
  go_wp2_with fail
  refine (rcmp_q N_a.out N_b.out HG.out ua va ub vb (by omega) (by omega) (by omega) (by omega)).mono ?_
  rintro e w5 ⟨rfl, hb⟩
  replace xa := keepC hb xa
  replace ya := keepC hb ya
  replace za := keepC hb za
  replace xb := keepC hb xb
  replace yb := keepC hb yb
  replace zb := keepC hb zb
  replace xc := keepC hb xc
  replace yc := keepC hb yc
  replace zc := keepC hb zc
  replace ua := ua.below hb
  replace va := va.below hb
  replace ub := ub.below hb
  replace vb := vb.below hb
  replace uc := uc.below hb
  replace vc := vc.below hb
  replace hB := from_ hB hb
  clear hb
  go_wp2_with fail
  refine (radd_q N_a.out N_c.out N_x.out rfl ua va uc vc (by omega) (by omega) (by omega) (by omega)).mono ?_
  rintro e w6 ⟨A6, c6, B6, d6, rfl, uX, vX, hb⟩
  have hal : Below w6.heap.size w6 (w6.alloc (.cells #[.bool sx, .slice A6 lx.length c6, .slice B6 kx.length d6] 28)) := (Below.refl _ _).alloc (Nat.le_refl _) _
  replace uX := uX.below hal
  replace vX := vX.below hal
  obtain ⟨xX, yX, zX, _, _, _, _⟩ := Box3.new w6 (.bool sx) (.slice A6 lx.length c6) (.slice B6 kx.length d6) 28
  have hs := from_ hb hal
  replace xa := keepC hs xa
  replace ya := keepC hs ya
  replace za := keepC hs za
  replace xb := keepC hs xb
  replace yb := keepC hs yb
  replace zb := keepC hs zb
  replace xc := keepC hs xc
  replace yc := keepC hs yc
  replace zc := keepC hs zc
  replace ua := ua.below hs
  replace va := va.below hs
  replace ub := ub.below hs
  replace vb := vb.below hs
  replace uc := uc.below hs
  replace vc := vc.below hs
  replace hB := from_ hB hs
  clear hb hal hs
  go_wp2_with fail
  refine (radd_q N_b.out N_c.out N_y.out rfl ub vb uc vc (by omega) (by omega) (by omega) (by omega)).mono ?_
  rintro e w7 ⟨A7, c7, B7, d7, rfl, uY, vY, hb⟩
  have hal : Below w7.heap.size w7 (w7.alloc (.cells #[.bool sy, .slice A7 ly.length c7, .slice B7 ky.length d7] 28)) := (Below.refl _ _).alloc (Nat.le_refl _) _
  replace uY := uY.below hal
  replace vY := vY.below hal
  obtain ⟨xY, yY, zY, _, _, _, _⟩ := Box3.new w7 (.bool sy) (.slice A7 ly.length c7) (.slice B7 ky.length d7) 28
  have hs := from_ hb hal
  replace xa := keepC hs xa
  replace ya := keepC hs ya
  replace za := keepC hs za
  replace xb := keepC hs xb
  replace yb := keepC hs yb
  replace zb := keepC hs zb
  replace xc := keepC hs xc
  replace yc := keepC hs yc
  replace zc := keepC hs zc
  replace xX := keepC hs xX
  replace yX := keepC hs yX
  replace zX := keepC hs zX
  replace ua := ua.below hs
  replace va := va.below hs
  replace ub := ub.below hs
  replace vb := vb.below hs
  replace uc := uc.below hs
  replace vc := vc.below hs
  replace uX := uX.below hs
  replace vX := vX.below hs
  replace hB := from_ hB hs
  clear hb hal hs
  go_wp2_with fail
  refine (rcmp_q N_x.out N_y.out HM.out uX vX uY vY (by have := BD.out; omega) (by have := BD.out; omega) (by have := BD.out; omega) (by have := BD.out; omega)).mono ?_
  rintro e w8 ⟨rfl, hb⟩
  replace xa := keepC hb xa
  replace ya := keepC hb ya
  replace za := keepC hb za
  replace xb := keepC hb xb
  replace yb := keepC hb yb
  replace zb := keepC hb zb
  replace xc := keepC hb xc
  replace yc := keepC hb yc
  replace zc := keepC hb zc
  replace xX := keepC hb xX
  replace yX := keepC hb yX
  replace zX := keepC hb zX
  replace xY := keepC hb xY
  replace yY := keepC hb yY
  replace zY := keepC hb zY
  replace ua := ua.below hb
  replace va := va.below hb
  replace ub := ub.below hb
  replace vb := vb.below hb
  replace uc := uc.below hb
  replace vc := vc.below hb
  replace uX := uX.below hb
  replace vX := vX.below hb
  replace uY := uY.below hb
  replace vY := vY.below hb
  replace hB := from_ hB hb
  clear hb
  clear xX yX zX uX vX
  clear xY yY zY uY vY
  clear xc yc zc uc vc
  go_wp2_with fail
  refine (rcmp_q N_b.out N_a.out HOo.out ub vb ua va (by omega) (by omega) (by omega) (by omega)).mono ?_
  rintro e w9 ⟨rfl, hb⟩
  replace xa := keepC hb xa
  replace ya := keepC hb ya
  replace za := keepC hb za
  replace xb := keepC hb xb
  replace yb := keepC hb yb
  replace zb := keepC hb zb
  replace ua := ua.below hb
  replace va := va.below hb
  replace ub := ub.below hb
  replace vb := vb.below hb
  replace hB := from_ hB hb
  clear hb
  go_wp2_with fail
  refine (rfloor_q N_a.out N_L.out ua va (by omega) (by omega)).mono ?_
  rintro e w10 ⟨A10, c10, rfl, uL, hb⟩
  have hal : Below w10.heap.size w10 (w10.alloc (.cells #[.bool sL, .slice A10 lL.length c10] 25)) := (Below.refl _ _).alloc (Nat.le_refl _) _
  replace uL := uL.below hal
  obtain ⟨xL, yL, _, _, _⟩ := Box.new w10 (.bool sL) (.slice A10 lL.length c10) 25
  have hs := from_ hb hal
  replace xa := keepC hs xa
  replace ya := keepC hs ya
  replace za := keepC hs za
  replace xb := keepC hs xb
  replace yb := keepC hs yb
  replace zb := keepC hs zb
  replace ua := ua.below hs
  replace va := va.below hs
  replace ub := ub.below hs
  replace vb := vb.below hs
  replace hB := from_ hB hs
  clear hb hal hs
  go_wp2_with fail
  refine (rceil_q N_a.out N_H.out ua va (by omega) (by omega)).mono ?_
  rintro e w11 ⟨A11, c11, rfl, uH, hb⟩
  have hal : Below w11.heap.size w11 (w11.alloc (.cells #[.bool sH, .slice A11 lH.length c11] 25)) := (Below.refl _ _).alloc (Nat.le_refl _) _
  replace uH := uH.below hal
  obtain ⟨xH, yH, _, _, _⟩ := Box.new w11 (.bool sH) (.slice A11 lH.length c11) 25
  have hs := from_ hb hal
  replace xa := keepC hs xa
  replace ya := keepC hs ya
  replace za := keepC hs za
  replace xb := keepC hs xb
  replace yb := keepC hs yb
  replace zb := keepC hs zb
  replace xL := keepC hs xL
  replace yL := keepC hs yL
  replace ua := ua.below hs
  replace va := va.below hs
  replace ub := ub.below hs
  replace vb := vb.below hs
  replace uL := uL.below hs
  replace hB := from_ hB hs
  clear hb hal hs
  go_upto_region 13 with fail
  generalize hV13 : (w11.alloc (.cells #[.bool sH, .slice A11 lH.length c11] 25)) = V13 at *
  clear hV13
  go_cut [22, 23] (fun s22 s23 wx => ∃ (g : Nat) (A1 : Option Addr) (c1 : Nat) (B1 : Option Addr) (d1 : Nat), s22 = .pointer (some ⟨g, 0, none⟩) ∧ s23 = .int .i64 0 ∧ wx.cell? ⟨g, 0, none⟩ = some (.bool sp) ∧ wx.cell? ⟨g, 1, none⟩ = some (.slice A1 lp.length c1) ∧ wx.cell? ⟨g, 2, none⟩ = some (.slice B1 kp.length d1) ∧ U64s wx old A1 c1 lp ∧ U64s wx old B1 d1 kp ∧ Below V13.heap.size V13 wx)
  case first =>
    have hlt : w10.heap.size < V13.heap.size := lt_of_cell xL
    have hs := And.intro (keepC (Below.refl _ V13).drew xL) (keepC (Below.refl _ V13).drew yL)
    have Hc := Lib.hid (Below.refl V13.heap.size V13).drew
    have hal := ((Below.refl V13.heap.size V13).alloc (Nat.le_refl _) (.cells #[.bool false, .slice none 0 0, .slice none 0 0] 28))
    have hsA := And.intro (keepC hal.drew xL) (keepC hal.drew yL)
    have HcA := Lib.hid hal.drew
    have HFa := Lib.hid ((Box3.new V13 (.bool false) (.slice none 0 0) (.slice none 0 0) 28).below (Below.refl _ _).drew)
    have UL := Lib.hid uL
    have NE := Lib.hid (show ∀ x, V13.heap.size ≤ x → x ≠ w10.heap.size from fun x h e => by omega)
    clear hal hlt
    clear xa ya za xb yb zb xL yL xH yH ua va ub vb uL uH hB
    go_region_held3 (fun w' => w'.cell? ⟨w10.heap.size, 0, none⟩ = some (.bool sL) ∧ w'.cell? ⟨w10.heap.size, 1, none⟩ = some (.slice A10 lL.length c10))
      (first
        | with_reducible exact hs2
        | with_reducible exact hs1
        | with_reducible exact hs
        | with_reducible exact hsA
        | with_reducible exact st2L (NE.out _ GE2.out) hs2
        | exact keep2L hs2 ((Below.refl _ _).alloc (Nat.le_refl _) _)
        | exact keep2L hs1 ((Below.refl _ _).alloc (Nat.le_refl _) _))
      (first
        | (go_at_call 20; with_reducible refine (W1.out _).mono ?_; rintro e wp ⟨Ap, cp, rfl, up, hc⟩; (first | (have hs1 := keep2L hs hc; have Hc1 := Lib.hid (from_ Hc.out hc)) | (have hs1 := keep2L hsA hc; have Hc1 := Lib.hid (from_ HcA.out hc); have HF1 := Lib.hid (HFa.out.below hc))); have uL1 := UL.out.below Hc1.out)
        | (go_at_call 8; with_reducible refine (CP.out _ _ _ _ _ _ _ (by first | exact uL1 | exact uL1.below ((Below.refl _ wp).alloc (Nat.le_refl _) _)) (by first | exact up | exact up.below ((Below.refl _ wp).alloc (Nat.le_refl _) _))).mono ?_; rintro e wq ⟨An, cn, Ad, cd, rfl, v3, v4, hc⟩; (first
          | (have hs2 := keep2L hs1 hc; have Hc2 := Lib.hid (from_ Hc1.out hc); have HF2 := Lib.hid (HF1.out.below hc); have GE2 := Lib.hid (Nat.le_refl V13.heap.size); have LT2 := Lib.hid HF1.out.lt; obtain ⟨qq0, qq1, qq2, ff0, ff1, ff2, _⟩ := id HF2.out)
          | (have hs2 := keep2L hs1 hc; have Hc2 := Lib.hid (from_ Hc1.out hc))
          | (have hal2 := ((Below.refl _ wp).alloc (Nat.le_refl _) (.cells #[.bool false, .slice none 0 0, .slice none 0 0] 28)); have hs2 := keep2L (keep2L hs1 hal2) hc; have Hc2 := Lib.hid (from_ (from_ Hc1.out hal2) hc); have HF2 := Lib.hid ((Box3.new wp (.bool false) (.slice none 0 0) (.slice none 0 0) 28).below hc); have GE2 := Lib.hid Hc1.out.size; have LT2 := Lib.hid (Box3.new wp (.bool false) (.slice none 0 0) (.slice none 0 0) 28).lt; clear hal2; obtain ⟨qq0, qq1, qq2, ff0, ff1, ff2, _⟩ := id HF2.out))))
    all_goals
      go_wp2_with fail
      go_meet
      first
        | (have HP := HF2.out.put Hc2.out GE2.out (.bool sp) (.slice An lp.length cn) (.slice Ad kp.length cd)
           exact ⟨_, _, _, _, _, rfl, rfl, HP.c0, HP.c1, HP.c2, (HP.keep (fun (h : _ ≤ _) => by have := LT2.out; omega) v3).mono (le_old _), (HP.keep (fun (h : _ ≤ _) => by have := LT2.out; omega) v4).mono (le_old _), HP.bel⟩)
        | exact ⟨_, _, _, _, _, rfl, rfl, cell_newest rfl rfl, cell_newest rfl rfl, cell_newest rfl rfl, (v3.below ((Below.refl _ wq).alloc (Nat.le_refl _) _)).mono (le_old _), (v4.below ((Below.refl _ wq).alloc (Nat.le_refl _) _)).mono (le_old _), Hc2.out.alloc Hc2.out.size _⟩
  case rest =>
    obtain ⟨g13, A13, c13, B13, d13, rfl, rfl, x13, y13, z13, u13, v13, hb⟩ := hcut
    replace xa := keepC hb xa
    replace ya := keepC hb ya
    replace za := keepC hb za
    replace xb := keepC hb xb
    replace yb := keepC hb yb
    replace zb := keepC hb zb
    replace xL := keepC hb xL
    replace yL := keepC hb yL
    replace xH := keepC hb xH
    replace yH := keepC hb yH
    replace ua := ua.below hb
    replace va := va.below hb
    replace ub := ub.below hb
    replace vb := vb.below hb
    replace uL := uL.below hb
    replace uH := uH.below hb
    replace hB := from_ hB hb
    clear hb
    go_upto_region 14 with fail
    rename World => V14
    go_cut [24, 25] (fun s24 s25 wx => ∃ (g : Nat) (A1 : Option Addr) (c1 : Nat) (B1 : Option Addr) (d1 : Nat), s24 = .pointer (some ⟨g, 0, none⟩) ∧ s25 = .int .i64 0 ∧ wx.cell? ⟨g, 0, none⟩ = some (.bool sq) ∧ wx.cell? ⟨g, 1, none⟩ = some (.slice A1 lq.length c1) ∧ wx.cell? ⟨g, 2, none⟩ = some (.slice B1 kq.length d1) ∧ U64s wx old A1 c1 lq ∧ U64s wx old B1 d1 kq ∧ Below V14.heap.size V14 wx)
    case first =>
      have hlt : w11.heap.size < V14.heap.size := lt_of_cell xH
      have hs := And.intro (keepC (Below.refl _ V14).drew xH) (keepC (Below.refl _ V14).drew yH)
      have Hc := Lib.hid (Below.refl V14.heap.size V14).drew
      have hal := ((Below.refl V14.heap.size V14).alloc (Nat.le_refl _) (.cells #[.bool false, .slice none 0 0, .slice none 0 0] 28))
      have hsA := And.intro (keepC hal.drew xH) (keepC hal.drew yH)
      have HcA := Lib.hid hal.drew
      have HFa := Lib.hid ((Box3.new V14 (.bool false) (.slice none 0 0) (.slice none 0 0) 28).below (Below.refl _ _).drew)
      have UL := Lib.hid uH
      have NE := Lib.hid (show ∀ x, V14.heap.size ≤ x → x ≠ w11.heap.size from fun x h e => by omega)
      clear hal hlt
      clear xa ya za xb yb zb xL yL xH yH x13 y13 z13 ua va ub vb uL uH u13 v13 hB
      go_region_held3 (fun w' => w'.cell? ⟨w11.heap.size, 0, none⟩ = some (.bool sH) ∧ w'.cell? ⟨w11.heap.size, 1, none⟩ = some (.slice A11 lH.length c11))
        (first
          | with_reducible exact hs2
          | with_reducible exact hs1
          | with_reducible exact hs
          | with_reducible exact hsA
          | with_reducible exact st2L (NE.out _ GE2.out) hs2
          | exact keep2L hs2 ((Below.refl _ _).alloc (Nat.le_refl _) _)
          | exact keep2L hs1 ((Below.refl _ _).alloc (Nat.le_refl _) _))
        (first
          | (go_at_call 20; with_reducible refine (W1.out _).mono ?_; rintro e wp ⟨Ap, cp, rfl, up, hc⟩; (first | (have hs1 := keep2L hs hc; have Hc1 := Lib.hid (from_ Hc.out hc)) | (have hs1 := keep2L hsA hc; have Hc1 := Lib.hid (from_ HcA.out hc); have HF1 := Lib.hid (HFa.out.below hc))); have uL1 := UL.out.below Hc1.out)
          | (go_at_call 8; with_reducible refine (CQ.out _ _ _ _ _ _ _ (by first | exact uL1 | exact uL1.below ((Below.refl _ wp).alloc (Nat.le_refl _) _)) (by first | exact up | exact up.below ((Below.refl _ wp).alloc (Nat.le_refl _) _))).mono ?_; rintro e wq ⟨An, cn, Ad, cd, rfl, v3, v4, hc⟩; (first
            | (have hs2 := keep2L hs1 hc; have Hc2 := Lib.hid (from_ Hc1.out hc); have HF2 := Lib.hid (HF1.out.below hc); have GE2 := Lib.hid (Nat.le_refl V14.heap.size); have LT2 := Lib.hid HF1.out.lt; obtain ⟨qq0, qq1, qq2, ff0, ff1, ff2, _⟩ := id HF2.out)
            | (have hs2 := keep2L hs1 hc; have Hc2 := Lib.hid (from_ Hc1.out hc))
            | (have hal2 := ((Below.refl _ wp).alloc (Nat.le_refl _) (.cells #[.bool false, .slice none 0 0, .slice none 0 0] 28)); have hs2 := keep2L (keep2L hs1 hal2) hc; have Hc2 := Lib.hid (from_ (from_ Hc1.out hal2) hc); have HF2 := Lib.hid ((Box3.new wp (.bool false) (.slice none 0 0) (.slice none 0 0) 28).below hc); have GE2 := Lib.hid Hc1.out.size; have LT2 := Lib.hid (Box3.new wp (.bool false) (.slice none 0 0) (.slice none 0 0) 28).lt; clear hal2; obtain ⟨qq0, qq1, qq2, ff0, ff1, ff2, _⟩ := id HF2.out))))
      all_goals
        go_wp2_with fail
        go_meet
        first
          | (have HP := HF2.out.put Hc2.out GE2.out (.bool sq) (.slice An lq.length cn) (.slice Ad kq.length cd)
             exact ⟨_, _, _, _, _, rfl, rfl, HP.c0, HP.c1, HP.c2, (HP.keep (fun (h : _ ≤ _) => by have := LT2.out; omega) v3).mono (le_old _), (HP.keep (fun (h : _ ≤ _) => by have := LT2.out; omega) v4).mono (le_old _), HP.bel⟩)
          | exact ⟨_, _, _, _, _, rfl, rfl, cell_newest rfl rfl, cell_newest rfl rfl, cell_newest rfl rfl, (v3.below ((Below.refl _ wq).alloc (Nat.le_refl _) _)).mono (le_old _), (v4.below ((Below.refl _ wq).alloc (Nat.le_refl _) _)).mono (le_old _), Hc2.out.alloc Hc2.out.size _⟩
    case rest =>
      obtain ⟨g14, A14, c14, B14, d14, rfl, rfl, x14, y14, z14, u14, v14, hb⟩ := hcut
      replace xa := keepC hb xa
      replace ya := keepC hb ya
      replace za := keepC hb za
      replace xb := keepC hb xb
      replace yb := keepC hb yb
      replace zb := keepC hb zb
      replace xL := keepC hb xL
      replace yL := keepC hb yL
      replace xH := keepC hb xH
      replace yH := keepC hb yH
      replace x13 := keepC hb x13
      replace y13 := keepC hb y13
      replace z13 := keepC hb z13
      replace ua := ua.below hb
      replace va := va.below hb
      replace ub := ub.below hb
      replace vb := vb.below hb
      replace uL := uL.below hb
      replace uH := uH.below hb
      replace u13 := u13.below hb
      replace v13 := v13.below hb
      replace hB := from_ hB hb
      clear hb
      go_wp2_with fail
      refine (same6_dec HO.out ua va ub vb).mono ?_
      rintro e w14 ⟨rfl, hb⟩
      replace xa := keepC hb xa
      replace ya := keepC hb ya
      replace za := keepC hb za
      replace xb := keepC hb xb
      replace yb := keepC hb yb
      replace zb := keepC hb zb
      replace xL := keepC hb xL
      replace yL := keepC hb yL
      replace xH := keepC hb xH
      replace yH := keepC hb yH
      replace x13 := keepC hb x13
      replace y13 := keepC hb y13
      replace z13 := keepC hb z13
      replace x14 := keepC hb x14
      replace y14 := keepC hb y14
      replace z14 := keepC hb z14
      replace ua := ua.below hb
      replace va := va.below hb
      replace ub := ub.below hb
      replace vb := vb.below hb
      replace uL := uL.below hb
      replace uH := uH.below hb
      replace u13 := u13.below hb
      replace v13 := v13.below hb
      replace u14 := u14.below hb
      replace v14 := v14.below hb
      replace hB := from_ hB hb
      clear hb
      clear xL yL uL
      clear xH yH uH
      clear xb yb zb ub vb
      go_wp2_with fail
      refine (rsub_q N_a.out N_p.out N_d1.out rfl ua va u13 v13 (by omega) (by omega) (by have := BD.out; omega) (by have := BD.out; omega)).mono ?_
      rintro e w15 ⟨A15, c15, B15, d15, rfl, uS, vS, hb⟩
      have hal : Below w15.heap.size w15 (w15.alloc (.cells #[.bool sd1, .slice A15 ld1.length c15, .slice B15 kd1.length d15] 28)) := (Below.refl _ _).alloc (Nat.le_refl _) _
      replace uS := uS.below hal
      replace vS := vS.below hal
      obtain ⟨xS, yS, zS, _, _, _, _⟩ := Box3.new w15 (.bool sd1) (.slice A15 ld1.length c15) (.slice B15 kd1.length d15) 28
      have hs := from_ hb hal
      replace xa := keepC hs xa
      replace ya := keepC hs ya
      replace za := keepC hs za
      replace x13 := keepC hs x13
      replace y13 := keepC hs y13
      replace z13 := keepC hs z13
      replace x14 := keepC hs x14
      replace y14 := keepC hs y14
      replace z14 := keepC hs z14
      replace ua := ua.below hs
      replace va := va.below hs
      replace u13 := u13.below hs
      replace v13 := v13.below hs
      replace u14 := u14.below hs
      replace v14 := v14.below hs
      replace hB := from_ hB hs
      clear hb hal hs
      go_wp2_with fail
      refine (rsub_q N_q.out N_a.out N_d2.out rfl u14 v14 ua va (by have := BD.out; omega) (by have := BD.out; omega) (by omega) (by omega)).mono ?_
      rintro e w16 ⟨A16, c16, B16, d16, rfl, uT, vT, hb⟩
      have hal : Below w16.heap.size w16 (w16.alloc (.cells #[.bool sd2, .slice A16 ld2.length c16, .slice B16 kd2.length d16] 28)) := (Below.refl _ _).alloc (Nat.le_refl _) _
      replace uT := uT.below hal
      replace vT := vT.below hal
      obtain ⟨xT, yT, zT, _, _, _, _⟩ := Box3.new w16 (.bool sd2) (.slice A16 ld2.length c16) (.slice B16 kd2.length d16) 28
      have hs := from_ hb hal
      replace xa := keepC hs xa
      replace ya := keepC hs ya
      replace za := keepC hs za
      replace x13 := keepC hs x13
      replace y13 := keepC hs y13
      replace z13 := keepC hs z13
      replace x14 := keepC hs x14
      replace y14 := keepC hs y14
      replace z14 := keepC hs z14
      replace xS := keepC hs xS
      replace yS := keepC hs yS
      replace zS := keepC hs zS
      replace ua := ua.below hs
      replace va := va.below hs
      replace u13 := u13.below hs
      replace v13 := v13.below hs
      replace u14 := u14.below hs
      replace v14 := v14.below hs
      replace uS := uS.below hs
      replace vS := vS.below hs
      replace hB := from_ hB hs
      clear hb hal hs
      clear xa ya za ua va
      clear x13 y13 z13 u13 v13
      clear x14 y14 z14 u14 v14
      go_upto_region 19 with fail
      generalize hV19 : (w16.alloc (.cells #[.bool sd2, .slice A16 ld2.length c16, .slice B16 kd2.length d16] 28)) = V19 at *
      clear hV19
      have hs := And.intro (keepC (Below.refl _ V19).drew xS) (And.intro (keepC (Below.refl _ V19).drew yS) (keepC (Below.refl _ V19).drew zS))
      have Hc := Lib.hid (Below.refl V19.heap.size V19).drew
      have US := Lib.hid uS
      have VS := Lib.hid vS
      go_upto_region 19 with fail
      go_region_held3 (fun w' => w'.cell? ⟨w15.heap.size, 0, none⟩ = some (.bool sd1) ∧ w'.cell? ⟨w15.heap.size, 1, none⟩ = some (.slice A15 ld1.length c15) ∧ w'.cell? ⟨w15.heap.size, 2, none⟩ = some (.slice B15 kd1.length d15))
        (first
          | with_reducible exact hs)
        (first
          | (go_at_call 21; with_reducible refine (F11.out _).mono ?_; rintro e wp ⟨Ap, cp, Bp, dp, rfl, up, vp, hc⟩; replace hs := keep3 hs hc; replace Hc := Lib.hid (from_ Hc.out hc))
          | (go_at_call 17; with_reducible refine (CU.out _ _ _ _ _ _ _ _ _ _ _ _ _ (US.out.below Hc.out) (VS.out.below Hc.out) up vp).mono ?_; rintro e w19 ⟨rfl, hc⟩; replace hs := keep3 hs hc; replace Hc := Lib.hid (from_ Hc.out hc)))
      have hb := Hc.out
      replace xS := keepC hb xS
      replace yS := keepC hb yS
      replace zS := keepC hb zS
      replace xT := keepC hb xT
      replace yT := keepC hb yT
      replace zT := keepC hb zT
      replace uS := uS.below hb
      replace vS := vS.below hb
      replace uT := uT.below hb
      replace vT := vT.below hb
      replace hB := from_ hB hb
      clear hb hs Hc US VS
      have hs := And.intro (keepC (Below.refl _ w19).drew xT) (And.intro (keepC (Below.refl _ w19).drew yT) (keepC (Below.refl _ w19).drew zT))
      have Hc := Lib.hid (Below.refl w19.heap.size w19).drew
      have US := Lib.hid uT
      have VS := Lib.hid vT
      go_upto_region 20 with fail
      go_region_held3 (fun w' => w'.cell? ⟨w16.heap.size, 0, none⟩ = some (.bool sd2) ∧ w'.cell? ⟨w16.heap.size, 1, none⟩ = some (.slice A16 ld2.length c16) ∧ w'.cell? ⟨w16.heap.size, 2, none⟩ = some (.slice B16 kd2.length d16))
        (first
          | with_reducible exact hs)
        (first
          | (go_at_call 21; with_reducible refine (F11.out _).mono ?_; rintro e wp ⟨Ap, cp, Bp, dp, rfl, up, vp, hc⟩; replace hs := keep3 hs hc; replace Hc := Lib.hid (from_ Hc.out hc))
          | (go_at_call 17; with_reducible refine (CV.out _ _ _ _ _ _ _ _ _ _ _ _ _ (US.out.below Hc.out) (VS.out.below Hc.out) up vp).mono ?_; rintro e w20 ⟨rfl, hc⟩; replace hs := keep3 hs hc; replace Hc := Lib.hid (from_ Hc.out hc)))
      have hb := Hc.out
      replace xS := keepC hb xS
      replace yS := keepC hb yS
      replace zS := keepC hb zS
      replace xT := keepC hb xT
      replace yT := keepC hb yT
      replace zT := keepC hb zT
      replace uS := uS.below hb
      replace vS := vS.below hb
      replace uT := uT.below hb
      replace vT := vT.below hb
      replace hB := from_ hB hb
      clear hb hs Hc US VS
      have hs := And.intro (keepC (Below.refl _ w20).drew xS) (And.intro (keepC (Below.refl _ w20).drew yS) (keepC (Below.refl _ w20).drew zS))
      have Hc := Lib.hid (Below.refl w20.heap.size w20).drew
      have US := Lib.hid uS
      have VS := Lib.hid vS
      go_upto_region 21 with fail
      go_region_held3 (fun w' => w'.cell? ⟨w15.heap.size, 0, none⟩ = some (.bool sd1) ∧ w'.cell? ⟨w15.heap.size, 1, none⟩ = some (.slice A15 ld1.length c15) ∧ w'.cell? ⟨w15.heap.size, 2, none⟩ = some (.slice B15 kd1.length d15))
        (first
          | with_reducible exact hs)
        (first
          | (go_at_call 21; with_reducible refine (F01.out _).mono ?_; rintro e wp ⟨Ap, cp, Bp, dp, rfl, up, vp, hc⟩; replace hs := keep3 hs hc; replace Hc := Lib.hid (from_ Hc.out hc))
          | (go_at_call 17; with_reducible refine (CW.out _ _ _ _ _ _ _ _ _ _ _ _ _ (US.out.below Hc.out) (VS.out.below Hc.out) up vp).mono ?_; rintro e w21 ⟨rfl, hc⟩; replace hs := keep3 hs hc; replace Hc := Lib.hid (from_ Hc.out hc)))
      have hb := Hc.out
      replace xS := keepC hb xS
      replace yS := keepC hb yS
      replace zS := keepC hb zS
      replace xT := keepC hb xT
      replace yT := keepC hb yT
      replace zT := keepC hb zT
      replace uS := uS.below hb
      replace vS := vS.below hb
      replace uT := uT.below hb
      replace vT := vT.below hb
      replace hB := from_ hB hb
      clear hb hs Hc US VS
      have hs := And.intro (keepC (Below.refl _ w21).drew xT) (And.intro (keepC (Below.refl _ w21).drew yT) (keepC (Below.refl _ w21).drew zT))
      have Hc := Lib.hid (Below.refl w21.heap.size w21).drew
      have US := Lib.hid uT
      have VS := Lib.hid vT
      go_upto_region 22 with fail
      go_region_held3 (fun w' => w'.cell? ⟨w16.heap.size, 0, none⟩ = some (.bool sd2) ∧ w'.cell? ⟨w16.heap.size, 1, none⟩ = some (.slice A16 ld2.length c16) ∧ w'.cell? ⟨w16.heap.size, 2, none⟩ = some (.slice B16 kd2.length d16))
        (first
          | with_reducible exact hs)
        (first
          | (go_at_call 21; with_reducible refine (F01.out _).mono ?_; rintro e wp ⟨Ap, cp, Bp, dp, rfl, up, vp, hc⟩; replace hs := keep3 hs hc; replace Hc := Lib.hid (from_ Hc.out hc))
          | (go_at_call 17; with_reducible refine (CX.out _ _ _ _ _ _ _ _ _ _ _ _ _ (US.out.below Hc.out) (VS.out.below Hc.out) up vp).mono ?_; rintro e w22 ⟨rfl, hc⟩; replace hs := keep3 hs hc; replace Hc := Lib.hid (from_ Hc.out hc)))
      have hb := Hc.out
      replace xS := keepC hb xS
      replace yS := keepC hb yS
      replace zS := keepC hb zS
      replace xT := keepC hb xT
      replace yT := keepC hb yT
      replace zT := keepC hb zT
      replace uS := uS.below hb
      replace vS := vS.below hb
      replace uT := uT.below hb
      replace vT := vT.below hb
      replace hB := from_ hB hb
      clear hb hs Hc US VS
      go_wp2
      go_ret
      exact ⟨by first | rfl | trivial, hB⟩

set_option maxRecDepth 100000 in
set_option maxHeartbeats 8000000 in
theorem ratOrder_more {w : World} {s t r : Bool} {l k l' k' m j : List Nat} {A B C D E F : Option Addr} {ca cb cc cd ce cf : Nat} {P R S : Rat} (hu : (U64s w old A ca l ∧ U64s w old B cb k) ∧ (U64s w old C cc l' ∧ U64s w old D cd k') ∧ (U64s w old E ce m ∧ U64s w old F cf j)) (ht : Tab w) (G0 : Hid (l.length ≤ 8 ∧ k.length ≤ 8)) (G1 : Hid (l'.length ≤ 8 ∧ k'.length ≤ 8)) (G2 : Hid (m.length ≤ 8 ∧ j.length ≤ 8)) (nA : NmQ P s l k) (nB : NmQ R t l' k') (nC : NmQ S r m j) (h0 : sgn (P - R).num ≠ 0) :
    Calls Tryz.prog 5 #[.agg #[.bool s, .slice A l.length ca, .slice B k.length cb], .agg #[.bool t, .slice C l'.length cc, .slice D k'.length cd], .agg #[.bool r, .slice E m.length ce, .slice F j.length cf]] w fun e w' => e = .returned (.bool true) ∧ Below w.heap.size w w' := by
  obtain ⟨⟨ua, va⟩, ⟨ub, vb⟩, uc, vc⟩ := hu
  obtain ⟨bA, bB, bC, hB⟩ := boxes3Q w (.bool s) (.slice A l.length ca) (.slice B k.length cb) (.bool t) (.slice C l'.length cc) (.slice D k'.length cd) (.bool r) (.slice E m.length ce) (.slice F j.length cf)
  obtain ⟨xa, ya, za, _, _, _, _⟩ := bA
  obtain ⟨xb, yb, zb, _, _, _, _⟩ := bB
  obtain ⟨xc, yc, zc, _, _, _, _⟩ := bC
  replace ua := ua.below hB
  replace va := va.below hB
  replace ub := ub.below hB
  replace vb := vb.below hB
  replace uc := uc.below hB
  replace vc := vc.below hB
  have g1 := G0.out
  have g2 := G1.out
  have g3 := G2.out
  obtain ⟨g, hg⟩ : ∃ g, g = sgn (P - R).num := ⟨_, rfl⟩
  obtain ⟨pl1, pl2, ⟨pl3, pl3'⟩, pl4, pl4'⟩ := order_plain P
  obtain ⟨z1, hz1⟩ : ∃ z, z = rq P.num (P.den : Int) true := ⟨_, rfl⟩
  obtain ⟨z2, hz2⟩ : ∃ z, z = rq P.num (P.den : Int) false := ⟨_, rfl⟩
  have lr1 := len_rqQ P.num (P.den : Int) true
  have lr2 := len_rqQ P.num (P.den : Int) false
  rw [← hz1] at pl1 pl3 pl3' lr1
  rw [← hz2] at pl2 pl4 pl4' lr2
  obtain ⟨sL, lL, nL⟩ : ∃ s l, Nm z1 s l := ⟨_, _, Nm.mk' _⟩
  obtain ⟨sH, lH, nH⟩ : ∃ s l, Nm z2 s l := ⟨_, _, Nm.mk' _⟩
  have kL := nL.len
  have kH := nH.len
  have nLr : Nm (rq P.num (P.den : Int) true) sL lL := by rw [← hz1]; exact nL
  have nHr : Nm (rq P.num (P.den : Int) false) sH lH := by rw [← hz2]; exact nH
  clear hz1 hz2
  obtain ⟨sx, lx, kx, n_x⟩ : ∃ s l k, NmQ (P + S) s l k := ⟨_, _, _, NmQ.mk' _⟩
  have L_x := lens_q n_x
  obtain ⟨sy, ly, ky, n_y⟩ : ∃ s l k, NmQ (R + S) s l k := ⟨_, _, _, NmQ.mk' _⟩
  have L_y := lens_q n_y
  obtain ⟨sp, lp, kp, n_p⟩ : ∃ s l k, NmQ (Rat.divInt z1 1) s l k := ⟨_, _, _, NmQ.mk' _⟩
  have L_p := lens_q n_p
  obtain ⟨sq, lq, kq, n_q⟩ : ∃ s l k, NmQ (Rat.divInt z2 1) s l k := ⟨_, _, _, NmQ.mk' _⟩
  have L_q := lens_q n_q
  obtain ⟨sd1, ld1, kd1, n_d1⟩ : ∃ s l k, NmQ (P - Rat.divInt z1 1) s l k := ⟨_, _, _, NmQ.mk' _⟩
  have L_d1 := lens_q n_d1
  obtain ⟨sd2, ld2, kd2, n_d2⟩ : ∃ s l k, NmQ (Rat.divInt z2 1 - P) s l k := ⟨_, _, _, NmQ.mk' _⟩
  have L_d2 := lens_q n_d2
  obtain ⟨so, lo, ko, n_o⟩ : ∃ s l k, NmQ (Rat.divInt 1 1) s l k := ⟨_, _, _, NmQ.mk' _⟩
  have L_o := lens_q n_o
  obtain ⟨se, le, ke, n_e⟩ : ∃ s l k, NmQ (Rat.divInt 0 1) s l k := ⟨_, _, _, NmQ.mk' _⟩
  have L_e := lens_q n_e
  have L_a := lens_q nA
  have L_b := lens_q nB
  have L_c := lens_q nC
  have f1 := add_len P S
  have f2 := add_len R S
  have f3 := divInt_len (x := z1) (y := 1) (by omega)
  have f4 := divInt_len (x := z2) (y := 1) (by omega)
  have f0 : (limbs (1 : Int).natAbs).length = 1 := rfl
  have bp : (lp.length ≤ 20 ∧ kp.length ≤ 20) ∧ (lq.length ≤ 20 ∧ kq.length ≤ 20) := by omega
  have f5 := sub_len (p := P) (q := Rat.divInt z1 1) (K := 20) (by omega) (by omega) (by omega) (by omega)
  have f6 := sub_len (p := Rat.divInt z2 1) (q := P) (K := 20) (by omega) (by omega) (by omega) (by omega)
  have bx : (lx.length ≤ 60 ∧ kx.length ≤ 60) ∧ (ly.length ≤ 60 ∧ ky.length ≤ 60) ∧ (ld1.length ≤ 60 ∧ kd1.length ≤ 60) ∧ (ld2.length ≤ 60 ∧ kd2.length ≤ 60) := by omega
  have bo : (lo.length ≤ 20 ∧ ko.length ≤ 20) ∧ (le.length ≤ 20 ∧ ke.length ≤ 20) ∧ (lL.length ≤ 20 ∧ lH.length ≤ 20) := by
    have h1 := divInt_len (x := 1) (y := 1) (by omega)
    have h2 := divInt_len (x := 0) (y := 1) (by omega)
    have h3 : (limbs (0 : Int).natAbs).length = 0 := rfl
    omega
  have hm : sgn (P + S - (R + S)).num = g := by rw [hg]; congr 2; grind
  have ho : sgn (R - P).num = -g := by rw [hg, ← sgn_neg, ← Rat.neg_num]; congr 2; grind
  have hgb : -1 ≤ g ∧ g ≤ 1 := by rcases sgn_vals (P - R).num with h | h | h <;> omega
  have hO := nmq_eq nA nB
  rw [← hg] at hO
  obtain ⟨gw, hgw⟩ : ∃ x, x = sgn (P - Rat.divInt z1 1 - Rat.divInt 0 1).num := ⟨_, rfl⟩
  obtain ⟨gz, hgz⟩ : ∃ x, x = sgn (Rat.divInt z2 1 - P - Rat.divInt 0 1).num := ⟨_, rfl⟩
  rw [← hgw] at pl3 pl3'
  rw [← hgz] at pl4 pl4'
  have a1 : Nm 1 false [1] := ⟨rfl, rfl⟩
  have W1 : Hid (∀ (W : World), Calls Tryz.prog 20 #[.int .i64 1] W fun e w' => ∃ A c, e = .returned (.agg #[.bool false, .slice A 1 c]) ∧ U64s w' (new W.heap.size) A c [1] ∧ Below W.heap.size W w') := fun W => wof_n6 (w := W) a1 (by omega)
  have CP : Hid (∀ (W : World) (Y1 Y2 : Zone) (A1 A2 : Option Addr) (c1 c2 : Nat), U64s W Y1 A1 c1 lL → U64s W Y2 A2 c2 [1] → Calls Tryz.prog 8 #[.agg #[.bool sL, .slice A1 lL.length c1], .agg #[.bool false, .slice A2 1 c2]] W fun e w' => ∃ An cn Ad cd, e = .returned (.tuple #[.agg #[.bool sp, .slice An lp.length cn, .slice Ad kp.length cd], .int .i64 0]) ∧ U64s w' (new W.heap.size) An cn lp ∧ U64s w' (new W.heap.size) Ad cd kp ∧ Below W.heap.size W w') := fun W Y1 Y2 A1 A2 c1 c2 h1 h2 => by
    have := ratof_q nL a1 (by omega) n_p rfl (by omega) (by simp) h1 h2
    exact this
  have CQ : Hid (∀ (W : World) (Y1 Y2 : Zone) (A1 A2 : Option Addr) (c1 c2 : Nat), U64s W Y1 A1 c1 lH → U64s W Y2 A2 c2 [1] → Calls Tryz.prog 8 #[.agg #[.bool sH, .slice A1 lH.length c1], .agg #[.bool false, .slice A2 1 c2]] W fun e w' => ∃ An cn Ad cd, e = .returned (.tuple #[.agg #[.bool sq, .slice An lq.length cn, .slice Ad kq.length cd], .int .i64 0]) ∧ U64s w' (new W.heap.size) An cn lq ∧ U64s w' (new W.heap.size) Ad cd kq ∧ Below W.heap.size W w') := fun W Y1 Y2 A1 A2 c1 c2 h1 h2 => by
    have := ratof_q nH a1 (by omega) n_q rfl (by omega) (by simp) h1 h2
    exact this
  have F11 := Lib.hid (fun (W : World) => of6_q (w := W) (x := 1) (y := 1) (by omega) (by omega) (by omega) n_o rfl)
  have F01 := Lib.hid (fun (W : World) => of6_q (w := W) (x := 0) (y := 1) (by omega) (by omega) (by omega) n_e rfl)
  have CU := Lib.hid (fun (W : World) (Y1 Y2 Y3 Y4 : Zone) (A1 A2 A3 A4 : Option Addr) (c1 c2 c3 c4 : Nat) (h1 : U64s W Y1 A1 c1 ld1) (h2 : U64s W Y2 A2 c2 kd1) (h3 : U64s W Y3 A3 c3 lo) (h4 : U64s W Y4 A4 c4 ko) => rcmp_q n_d1 n_o pl1 h1 h2 h3 h4 (by omega) (by omega) (by omega) (by omega))
  have CV := Lib.hid (fun (W : World) (Y1 Y2 Y3 Y4 : Zone) (A1 A2 A3 A4 : Option Addr) (c1 c2 c3 c4 : Nat) (h1 : U64s W Y1 A1 c1 ld2) (h2 : U64s W Y2 A2 c2 kd2) (h3 : U64s W Y3 A3 c3 lo) (h4 : U64s W Y4 A4 c4 ko) => rcmp_q n_d2 n_o pl2 h1 h2 h3 h4 (by omega) (by omega) (by omega) (by omega))
  have CW := Lib.hid (fun (W : World) (Y1 Y2 Y3 Y4 : Zone) (A1 A2 A3 A4 : Option Addr) (c1 c2 c3 c4 : Nat) (h1 : U64s W Y1 A1 c1 ld1) (h2 : U64s W Y2 A2 c2 kd1) (h3 : U64s W Y3 A3 c3 le) (h4 : U64s W Y4 A4 c4 ke) => rcmp_q n_d1 n_e hgw.symm h1 h2 h3 h4 (by omega) (by omega) (by omega) (by omega))
  have CX := Lib.hid (fun (W : World) (Y1 Y2 Y3 Y4 : Zone) (A1 A2 A3 A4 : Option Addr) (c1 c2 c3 c4 : Nat) (h1 : U64s W Y1 A1 c1 ld2) (h2 : U64s W Y2 A2 c2 kd2) (h3 : U64s W Y3 A3 c3 le) (h4 : U64s W Y4 A4 c4 ke) => rcmp_q n_d2 n_e hgz.symm h1 h2 h3 h4 (by omega) (by omega) (by omega) (by omega))
  have N_x := Lib.hid n_x
  have N_y := Lib.hid n_y
  have N_p := Lib.hid n_p
  have N_q := Lib.hid n_q
  have N_d1 := Lib.hid n_d1
  have N_d2 := Lib.hid n_d2
  have N_a := Lib.hid nA
  have N_b := Lib.hid nB
  have N_c := Lib.hid nC
  have N_L := Lib.hid nLr
  have N_H := Lib.hid nHr
  have HG := Lib.hid hg.symm
  have HM := Lib.hid hm
  have HOo := Lib.hid ho
  have HD := Lib.hid (show ((1 : Int) ≠ 0) by omega)
  have dw : decide ((0 : Int) ≤ gw) = true := decide_eq_true pl3
  have dz : decide ((0 : Int) ≤ gz) = true := decide_eq_true pl4
  have BD := Lib.hid (And.intro bp (And.intro bx bo))
  clear nA nB nC nL nH nLr nHr a1 hm ho hgw hgz pl1 pl2 pl3 pl3' pl4 pl4' lr1 lr2 kL kH f0 f1 f2 f3 f4 f5 f6 L_a L_b L_c bp bx bo n_x L_x n_y L_y n_p L_p n_q L_q n_d1 L_d1 n_d2 L_d2 n_o L_o n_e L_e
  have hg1 : g ≠ 0 := fun e => h0 (by rw [← hg]; exact e)
  have hg0 : (g == 0) = false := beq_eq_false_iff_ne.2 hg1
  have HO : Hid (decide (s = t ∧ l = l' ∧ k = k') = false) := by rw [hO]; exact decide_eq_false hg1
  clear hO hg h0
  go_enter Tryz.func5, Tryz.ntmps5
  go_wp2_with fail
  refine (alive6 (ht.below hB)).mono ?_
  rintro e w1 ⟨rfl, hb⟩
  replace xa := keepC hb xa
  replace ya := keepC hb ya
  replace za := keepC hb za
  replace xb := keepC hb xb
  replace yb := keepC hb yb
  replace zb := keepC hb zb
  replace xc := keepC hb xc
  replace yc := keepC hb yc
  replace zc := keepC hb zc
  replace ua := ua.below hb
  replace va := va.below hb
  replace ub := ub.below hb
  replace vb := vb.below hb
  replace uc := uc.below hb
  replace vc := vc.below hb
  replace hB := from_ hB hb
  clear hb
  go_wp2_with fail
  refine (great6_no (n := 8) G0.out.1 G0.out.2 (by omega)).mono ?_
  rintro e w2 ⟨rfl, hb⟩
  replace xa := keepC hb xa
  replace ya := keepC hb ya
  replace za := keepC hb za
  replace xb := keepC hb xb
  replace yb := keepC hb yb
  replace zb := keepC hb zb
  replace xc := keepC hb xc
  replace yc := keepC hb yc
  replace zc := keepC hb zc
  replace ua := ua.below hb
  replace va := va.below hb
  replace ub := ub.below hb
  replace vb := vb.below hb
  replace uc := uc.below hb
  replace vc := vc.below hb
  replace hB := from_ hB hb
  clear hb
  go_wp2_with fail
  refine (great6_no (n := 8) G1.out.1 G1.out.2 (by omega)).mono ?_
  rintro e w3 ⟨rfl, hb⟩
  replace xa := keepC hb xa
  replace ya := keepC hb ya
  replace za := keepC hb za
  replace xb := keepC hb xb
  replace yb := keepC hb yb
  replace zb := keepC hb zb
  replace xc := keepC hb xc
  replace yc := keepC hb yc
  replace zc := keepC hb zc
  replace ua := ua.below hb
  replace va := va.below hb
  replace ub := ub.below hb
  replace vb := vb.below hb
  replace uc := uc.below hb
  replace vc := vc.below hb
  replace hB := from_ hB hb
  clear hb
  go_wp2_with fail
  refine (great6_no (n := 8) G2.out.1 G2.out.2 (by omega)).mono ?_
  rintro e w4 ⟨rfl, hb⟩
  replace xa := keepC hb xa
  replace ya := keepC hb ya
  replace za := keepC hb za
  replace xb := keepC hb xb
  replace yb := keepC hb yb
  replace zb := keepC hb zb
  replace xc := keepC hb xc
  replace yc := keepC hb yc
  replace zc := keepC hb zc
  replace ua := ua.below hb
  replace va := va.below hb
  replace ub := ub.below hb
  replace vb := vb.below hb
  replace uc := uc.below hb
  replace vc := vc.below hb
  replace hB := from_ hB hb
  clear hb
  go_wp2_with fail
  refine (rcmp_q N_a.out N_b.out HG.out ua va ub vb (by omega) (by omega) (by omega) (by omega)).mono ?_
  rintro e w5 ⟨rfl, hb⟩
  replace xa := keepC hb xa
  replace ya := keepC hb ya
  replace za := keepC hb za
  replace xb := keepC hb xb
  replace yb := keepC hb yb
  replace zb := keepC hb zb
  replace xc := keepC hb xc
  replace yc := keepC hb yc
  replace zc := keepC hb zc
  replace ua := ua.below hb
  replace va := va.below hb
  replace ub := ub.below hb
  replace vb := vb.below hb
  replace uc := uc.below hb
  replace vc := vc.below hb
  replace hB := from_ hB hb
  clear hb
  go_wp2_with fail
  refine (radd_q N_a.out N_c.out N_x.out rfl ua va uc vc (by omega) (by omega) (by omega) (by omega)).mono ?_
  rintro e w6 ⟨A6, c6, B6, d6, rfl, uX, vX, hb⟩
  have hal : Below w6.heap.size w6 (w6.alloc (.cells #[.bool sx, .slice A6 lx.length c6, .slice B6 kx.length d6] 28)) := (Below.refl _ _).alloc (Nat.le_refl _) _
  replace uX := uX.below hal
  replace vX := vX.below hal
  obtain ⟨xX, yX, zX, _, _, _, _⟩ := Box3.new w6 (.bool sx) (.slice A6 lx.length c6) (.slice B6 kx.length d6) 28
  have hs := from_ hb hal
  replace xa := keepC hs xa
  replace ya := keepC hs ya
  replace za := keepC hs za
  replace xb := keepC hs xb
  replace yb := keepC hs yb
  replace zb := keepC hs zb
  replace xc := keepC hs xc
  replace yc := keepC hs yc
  replace zc := keepC hs zc
  replace ua := ua.below hs
  replace va := va.below hs
  replace ub := ub.below hs
  replace vb := vb.below hs
  replace uc := uc.below hs
  replace vc := vc.below hs
  replace hB := from_ hB hs
  clear hb hal hs
  go_wp2_with fail
  refine (radd_q N_b.out N_c.out N_y.out rfl ub vb uc vc (by omega) (by omega) (by omega) (by omega)).mono ?_
  rintro e w7 ⟨A7, c7, B7, d7, rfl, uY, vY, hb⟩
  have hal : Below w7.heap.size w7 (w7.alloc (.cells #[.bool sy, .slice A7 ly.length c7, .slice B7 ky.length d7] 28)) := (Below.refl _ _).alloc (Nat.le_refl _) _
  replace uY := uY.below hal
  replace vY := vY.below hal
  obtain ⟨xY, yY, zY, _, _, _, _⟩ := Box3.new w7 (.bool sy) (.slice A7 ly.length c7) (.slice B7 ky.length d7) 28
  have hs := from_ hb hal
  replace xa := keepC hs xa
  replace ya := keepC hs ya
  replace za := keepC hs za
  replace xb := keepC hs xb
  replace yb := keepC hs yb
  replace zb := keepC hs zb
  replace xc := keepC hs xc
  replace yc := keepC hs yc
  replace zc := keepC hs zc
  replace xX := keepC hs xX
  replace yX := keepC hs yX
  replace zX := keepC hs zX
  replace ua := ua.below hs
  replace va := va.below hs
  replace ub := ub.below hs
  replace vb := vb.below hs
  replace uc := uc.below hs
  replace vc := vc.below hs
  replace uX := uX.below hs
  replace vX := vX.below hs
  replace hB := from_ hB hs
  clear hb hal hs
  go_wp2_with fail
  refine (rcmp_q N_x.out N_y.out HM.out uX vX uY vY (by have := BD.out; omega) (by have := BD.out; omega) (by have := BD.out; omega) (by have := BD.out; omega)).mono ?_
  rintro e w8 ⟨rfl, hb⟩
  replace xa := keepC hb xa
  replace ya := keepC hb ya
  replace za := keepC hb za
  replace xb := keepC hb xb
  replace yb := keepC hb yb
  replace zb := keepC hb zb
  replace xc := keepC hb xc
  replace yc := keepC hb yc
  replace zc := keepC hb zc
  replace xX := keepC hb xX
  replace yX := keepC hb yX
  replace zX := keepC hb zX
  replace xY := keepC hb xY
  replace yY := keepC hb yY
  replace zY := keepC hb zY
  replace ua := ua.below hb
  replace va := va.below hb
  replace ub := ub.below hb
  replace vb := vb.below hb
  replace uc := uc.below hb
  replace vc := vc.below hb
  replace uX := uX.below hb
  replace vX := vX.below hb
  replace uY := uY.below hb
  replace vY := vY.below hb
  replace hB := from_ hB hb
  clear hb
  clear xX yX zX uX vX
  clear xY yY zY uY vY
  clear xc yc zc uc vc
  go_wp2_with fail
  refine (rcmp_q N_b.out N_a.out HOo.out ub vb ua va (by omega) (by omega) (by omega) (by omega)).mono ?_
  rintro e w9 ⟨rfl, hb⟩
  replace xa := keepC hb xa
  replace ya := keepC hb ya
  replace za := keepC hb za
  replace xb := keepC hb xb
  replace yb := keepC hb yb
  replace zb := keepC hb zb
  replace ua := ua.below hb
  replace va := va.below hb
  replace ub := ub.below hb
  replace vb := vb.below hb
  replace hB := from_ hB hb
  clear hb
  go_wp2_with fail
  refine (rfloor_q N_a.out N_L.out ua va (by omega) (by omega)).mono ?_
  rintro e w10 ⟨A10, c10, rfl, uL, hb⟩
  have hal : Below w10.heap.size w10 (w10.alloc (.cells #[.bool sL, .slice A10 lL.length c10] 25)) := (Below.refl _ _).alloc (Nat.le_refl _) _
  replace uL := uL.below hal
  obtain ⟨xL, yL, _, _, _⟩ := Box.new w10 (.bool sL) (.slice A10 lL.length c10) 25
  have hs := from_ hb hal
  replace xa := keepC hs xa
  replace ya := keepC hs ya
  replace za := keepC hs za
  replace xb := keepC hs xb
  replace yb := keepC hs yb
  replace zb := keepC hs zb
  replace ua := ua.below hs
  replace va := va.below hs
  replace ub := ub.below hs
  replace vb := vb.below hs
  replace hB := from_ hB hs
  clear hb hal hs
  go_wp2_with fail
  refine (rceil_q N_a.out N_H.out ua va (by omega) (by omega)).mono ?_
  rintro e w11 ⟨A11, c11, rfl, uH, hb⟩
  have hal : Below w11.heap.size w11 (w11.alloc (.cells #[.bool sH, .slice A11 lH.length c11] 25)) := (Below.refl _ _).alloc (Nat.le_refl _) _
  replace uH := uH.below hal
  obtain ⟨xH, yH, _, _, _⟩ := Box.new w11 (.bool sH) (.slice A11 lH.length c11) 25
  have hs := from_ hb hal
  replace xa := keepC hs xa
  replace ya := keepC hs ya
  replace za := keepC hs za
  replace xb := keepC hs xb
  replace yb := keepC hs yb
  replace zb := keepC hs zb
  replace xL := keepC hs xL
  replace yL := keepC hs yL
  replace ua := ua.below hs
  replace va := va.below hs
  replace ub := ub.below hs
  replace vb := vb.below hs
  replace uL := uL.below hs
  replace hB := from_ hB hs
  clear hb hal hs
  go_upto_region 13 with fail
  generalize hV13 : (w11.alloc (.cells #[.bool sH, .slice A11 lH.length c11] 25)) = V13 at *
  clear hV13
  go_cut [22, 23] (fun s22 s23 wx => ∃ (g : Nat) (A1 : Option Addr) (c1 : Nat) (B1 : Option Addr) (d1 : Nat), s22 = .pointer (some ⟨g, 0, none⟩) ∧ s23 = .int .i64 0 ∧ wx.cell? ⟨g, 0, none⟩ = some (.bool sp) ∧ wx.cell? ⟨g, 1, none⟩ = some (.slice A1 lp.length c1) ∧ wx.cell? ⟨g, 2, none⟩ = some (.slice B1 kp.length d1) ∧ U64s wx old A1 c1 lp ∧ U64s wx old B1 d1 kp ∧ Below V13.heap.size V13 wx)
  case first =>
    have hlt : w10.heap.size < V13.heap.size := lt_of_cell xL
    have hs := And.intro (keepC (Below.refl _ V13).drew xL) (keepC (Below.refl _ V13).drew yL)
    have Hc := Lib.hid (Below.refl V13.heap.size V13).drew
    have hal := ((Below.refl V13.heap.size V13).alloc (Nat.le_refl _) (.cells #[.bool false, .slice none 0 0, .slice none 0 0] 28))
    have hsA := And.intro (keepC hal.drew xL) (keepC hal.drew yL)
    have HcA := Lib.hid hal.drew
    have HFa := Lib.hid ((Box3.new V13 (.bool false) (.slice none 0 0) (.slice none 0 0) 28).below (Below.refl _ _).drew)
    have UL := Lib.hid uL
    have NE := Lib.hid (show ∀ x, V13.heap.size ≤ x → x ≠ w10.heap.size from fun x h e => by omega)
    clear hal hlt
    clear xa ya za xb yb zb xL yL xH yH ua va ub vb uL uH hB
    go_region_held3 (fun w' => w'.cell? ⟨w10.heap.size, 0, none⟩ = some (.bool sL) ∧ w'.cell? ⟨w10.heap.size, 1, none⟩ = some (.slice A10 lL.length c10))
      (first
        | with_reducible exact hs2
        | with_reducible exact hs1
        | with_reducible exact hs
        | with_reducible exact hsA
        | with_reducible exact st2L (NE.out _ GE2.out) hs2
        | exact keep2L hs2 ((Below.refl _ _).alloc (Nat.le_refl _) _)
        | exact keep2L hs1 ((Below.refl _ _).alloc (Nat.le_refl _) _))
      (first
        | (go_at_call 20; with_reducible refine (W1.out _).mono ?_; rintro e wp ⟨Ap, cp, rfl, up, hc⟩; (first | (have hs1 := keep2L hs hc; have Hc1 := Lib.hid (from_ Hc.out hc)) | (have hs1 := keep2L hsA hc; have Hc1 := Lib.hid (from_ HcA.out hc); have HF1 := Lib.hid (HFa.out.below hc))); have uL1 := UL.out.below Hc1.out)
        | (go_at_call 8; with_reducible refine (CP.out _ _ _ _ _ _ _ (by first | exact uL1 | exact uL1.below ((Below.refl _ wp).alloc (Nat.le_refl _) _)) (by first | exact up | exact up.below ((Below.refl _ wp).alloc (Nat.le_refl _) _))).mono ?_; rintro e wq ⟨An, cn, Ad, cd, rfl, v3, v4, hc⟩; (first
          | (have hs2 := keep2L hs1 hc; have Hc2 := Lib.hid (from_ Hc1.out hc); have HF2 := Lib.hid (HF1.out.below hc); have GE2 := Lib.hid (Nat.le_refl V13.heap.size); have LT2 := Lib.hid HF1.out.lt; obtain ⟨qq0, qq1, qq2, ff0, ff1, ff2, _⟩ := id HF2.out)
          | (have hs2 := keep2L hs1 hc; have Hc2 := Lib.hid (from_ Hc1.out hc))
          | (have hal2 := ((Below.refl _ wp).alloc (Nat.le_refl _) (.cells #[.bool false, .slice none 0 0, .slice none 0 0] 28)); have hs2 := keep2L (keep2L hs1 hal2) hc; have Hc2 := Lib.hid (from_ (from_ Hc1.out hal2) hc); have HF2 := Lib.hid ((Box3.new wp (.bool false) (.slice none 0 0) (.slice none 0 0) 28).below hc); have GE2 := Lib.hid Hc1.out.size; have LT2 := Lib.hid (Box3.new wp (.bool false) (.slice none 0 0) (.slice none 0 0) 28).lt; clear hal2; obtain ⟨qq0, qq1, qq2, ff0, ff1, ff2, _⟩ := id HF2.out))))
    all_goals
      go_wp2_with fail
      go_meet
      first
        | (have HP := HF2.out.put Hc2.out GE2.out (.bool sp) (.slice An lp.length cn) (.slice Ad kp.length cd)
           exact ⟨_, _, _, _, _, rfl, rfl, HP.c0, HP.c1, HP.c2, (HP.keep (fun (h : _ ≤ _) => by have := LT2.out; omega) v3).mono (le_old _), (HP.keep (fun (h : _ ≤ _) => by have := LT2.out; omega) v4).mono (le_old _), HP.bel⟩)
        | exact ⟨_, _, _, _, _, rfl, rfl, cell_newest rfl rfl, cell_newest rfl rfl, cell_newest rfl rfl, (v3.below ((Below.refl _ wq).alloc (Nat.le_refl _) _)).mono (le_old _), (v4.below ((Below.refl _ wq).alloc (Nat.le_refl _) _)).mono (le_old _), Hc2.out.alloc Hc2.out.size _⟩
  case rest =>
    obtain ⟨g13, A13, c13, B13, d13, rfl, rfl, x13, y13, z13, u13, v13, hb⟩ := hcut
    replace xa := keepC hb xa
    replace ya := keepC hb ya
    replace za := keepC hb za
    replace xb := keepC hb xb
    replace yb := keepC hb yb
    replace zb := keepC hb zb
    replace xL := keepC hb xL
    replace yL := keepC hb yL
    replace xH := keepC hb xH
    replace yH := keepC hb yH
    replace ua := ua.below hb
    replace va := va.below hb
    replace ub := ub.below hb
    replace vb := vb.below hb
    replace uL := uL.below hb
    replace uH := uH.below hb
    replace hB := from_ hB hb
    clear hb
    go_upto_region 14 with fail
    rename World => V14
    go_cut [24, 25] (fun s24 s25 wx => ∃ (g : Nat) (A1 : Option Addr) (c1 : Nat) (B1 : Option Addr) (d1 : Nat), s24 = .pointer (some ⟨g, 0, none⟩) ∧ s25 = .int .i64 0 ∧ wx.cell? ⟨g, 0, none⟩ = some (.bool sq) ∧ wx.cell? ⟨g, 1, none⟩ = some (.slice A1 lq.length c1) ∧ wx.cell? ⟨g, 2, none⟩ = some (.slice B1 kq.length d1) ∧ U64s wx old A1 c1 lq ∧ U64s wx old B1 d1 kq ∧ Below V14.heap.size V14 wx)
    case first =>
      have hlt : w11.heap.size < V14.heap.size := lt_of_cell xH
      have hs := And.intro (keepC (Below.refl _ V14).drew xH) (keepC (Below.refl _ V14).drew yH)
      have Hc := Lib.hid (Below.refl V14.heap.size V14).drew
      have hal := ((Below.refl V14.heap.size V14).alloc (Nat.le_refl _) (.cells #[.bool false, .slice none 0 0, .slice none 0 0] 28))
      have hsA := And.intro (keepC hal.drew xH) (keepC hal.drew yH)
      have HcA := Lib.hid hal.drew
      have HFa := Lib.hid ((Box3.new V14 (.bool false) (.slice none 0 0) (.slice none 0 0) 28).below (Below.refl _ _).drew)
      have UL := Lib.hid uH
      have NE := Lib.hid (show ∀ x, V14.heap.size ≤ x → x ≠ w11.heap.size from fun x h e => by omega)
      clear hal hlt
      clear xa ya za xb yb zb xL yL xH yH x13 y13 z13 ua va ub vb uL uH u13 v13 hB
      go_region_held3 (fun w' => w'.cell? ⟨w11.heap.size, 0, none⟩ = some (.bool sH) ∧ w'.cell? ⟨w11.heap.size, 1, none⟩ = some (.slice A11 lH.length c11))
        (first
          | with_reducible exact hs2
          | with_reducible exact hs1
          | with_reducible exact hs
          | with_reducible exact hsA
          | with_reducible exact st2L (NE.out _ GE2.out) hs2
          | exact keep2L hs2 ((Below.refl _ _).alloc (Nat.le_refl _) _)
          | exact keep2L hs1 ((Below.refl _ _).alloc (Nat.le_refl _) _))
        (first
          | (go_at_call 20; with_reducible refine (W1.out _).mono ?_; rintro e wp ⟨Ap, cp, rfl, up, hc⟩; (first | (have hs1 := keep2L hs hc; have Hc1 := Lib.hid (from_ Hc.out hc)) | (have hs1 := keep2L hsA hc; have Hc1 := Lib.hid (from_ HcA.out hc); have HF1 := Lib.hid (HFa.out.below hc))); have uL1 := UL.out.below Hc1.out)
          | (go_at_call 8; with_reducible refine (CQ.out _ _ _ _ _ _ _ (by first | exact uL1 | exact uL1.below ((Below.refl _ wp).alloc (Nat.le_refl _) _)) (by first | exact up | exact up.below ((Below.refl _ wp).alloc (Nat.le_refl _) _))).mono ?_; rintro e wq ⟨An, cn, Ad, cd, rfl, v3, v4, hc⟩; (first
            | (have hs2 := keep2L hs1 hc; have Hc2 := Lib.hid (from_ Hc1.out hc); have HF2 := Lib.hid (HF1.out.below hc); have GE2 := Lib.hid (Nat.le_refl V14.heap.size); have LT2 := Lib.hid HF1.out.lt; obtain ⟨qq0, qq1, qq2, ff0, ff1, ff2, _⟩ := id HF2.out)
            | (have hs2 := keep2L hs1 hc; have Hc2 := Lib.hid (from_ Hc1.out hc))
            | (have hal2 := ((Below.refl _ wp).alloc (Nat.le_refl _) (.cells #[.bool false, .slice none 0 0, .slice none 0 0] 28)); have hs2 := keep2L (keep2L hs1 hal2) hc; have Hc2 := Lib.hid (from_ (from_ Hc1.out hal2) hc); have HF2 := Lib.hid ((Box3.new wp (.bool false) (.slice none 0 0) (.slice none 0 0) 28).below hc); have GE2 := Lib.hid Hc1.out.size; have LT2 := Lib.hid (Box3.new wp (.bool false) (.slice none 0 0) (.slice none 0 0) 28).lt; clear hal2; obtain ⟨qq0, qq1, qq2, ff0, ff1, ff2, _⟩ := id HF2.out))))
      all_goals
        go_wp2_with fail
        go_meet
        first
          | (have HP := HF2.out.put Hc2.out GE2.out (.bool sq) (.slice An lq.length cn) (.slice Ad kq.length cd)
             exact ⟨_, _, _, _, _, rfl, rfl, HP.c0, HP.c1, HP.c2, (HP.keep (fun (h : _ ≤ _) => by have := LT2.out; omega) v3).mono (le_old _), (HP.keep (fun (h : _ ≤ _) => by have := LT2.out; omega) v4).mono (le_old _), HP.bel⟩)
          | exact ⟨_, _, _, _, _, rfl, rfl, cell_newest rfl rfl, cell_newest rfl rfl, cell_newest rfl rfl, (v3.below ((Below.refl _ wq).alloc (Nat.le_refl _) _)).mono (le_old _), (v4.below ((Below.refl _ wq).alloc (Nat.le_refl _) _)).mono (le_old _), Hc2.out.alloc Hc2.out.size _⟩
    case rest =>
      obtain ⟨g14, A14, c14, B14, d14, rfl, rfl, x14, y14, z14, u14, v14, hb⟩ := hcut
      replace xa := keepC hb xa
      replace ya := keepC hb ya
      replace za := keepC hb za
      replace xb := keepC hb xb
      replace yb := keepC hb yb
      replace zb := keepC hb zb
      replace xL := keepC hb xL
      replace yL := keepC hb yL
      replace xH := keepC hb xH
      replace yH := keepC hb yH
      replace x13 := keepC hb x13
      replace y13 := keepC hb y13
      replace z13 := keepC hb z13
      replace ua := ua.below hb
      replace va := va.below hb
      replace ub := ub.below hb
      replace vb := vb.below hb
      replace uL := uL.below hb
      replace uH := uH.below hb
      replace u13 := u13.below hb
      replace v13 := v13.below hb
      replace hB := from_ hB hb
      clear hb
      go_wp2_with fail
      refine (same6_dec HO.out ua va ub vb).mono ?_
      rintro e w14 ⟨rfl, hb⟩
      replace xa := keepC hb xa
      replace ya := keepC hb ya
      replace za := keepC hb za
      replace xb := keepC hb xb
      replace yb := keepC hb yb
      replace zb := keepC hb zb
      replace xL := keepC hb xL
      replace yL := keepC hb yL
      replace xH := keepC hb xH
      replace yH := keepC hb yH
      replace x13 := keepC hb x13
      replace y13 := keepC hb y13
      replace z13 := keepC hb z13
      replace x14 := keepC hb x14
      replace y14 := keepC hb y14
      replace z14 := keepC hb z14
      replace ua := ua.below hb
      replace va := va.below hb
      replace ub := ub.below hb
      replace vb := vb.below hb
      replace uL := uL.below hb
      replace uH := uH.below hb
      replace u13 := u13.below hb
      replace v13 := v13.below hb
      replace u14 := u14.below hb
      replace v14 := v14.below hb
      replace hB := from_ hB hb
      clear hb
      clear xL yL uL
      clear xH yH uH
      clear xb yb zb ub vb
      go_wp2_with fail
      refine (rsub_q N_a.out N_p.out N_d1.out rfl ua va u13 v13 (by omega) (by omega) (by have := BD.out; omega) (by have := BD.out; omega)).mono ?_
      rintro e w15 ⟨A15, c15, B15, d15, rfl, uS, vS, hb⟩
      have hal : Below w15.heap.size w15 (w15.alloc (.cells #[.bool sd1, .slice A15 ld1.length c15, .slice B15 kd1.length d15] 28)) := (Below.refl _ _).alloc (Nat.le_refl _) _
      replace uS := uS.below hal
      replace vS := vS.below hal
      obtain ⟨xS, yS, zS, _, _, _, _⟩ := Box3.new w15 (.bool sd1) (.slice A15 ld1.length c15) (.slice B15 kd1.length d15) 28
      have hs := from_ hb hal
      replace xa := keepC hs xa
      replace ya := keepC hs ya
      replace za := keepC hs za
      replace x13 := keepC hs x13
      replace y13 := keepC hs y13
      replace z13 := keepC hs z13
      replace x14 := keepC hs x14
      replace y14 := keepC hs y14
      replace z14 := keepC hs z14
      replace ua := ua.below hs
      replace va := va.below hs
      replace u13 := u13.below hs
      replace v13 := v13.below hs
      replace u14 := u14.below hs
      replace v14 := v14.below hs
      replace hB := from_ hB hs
      clear hb hal hs
      go_wp2_with fail
      refine (rsub_q N_q.out N_a.out N_d2.out rfl u14 v14 ua va (by have := BD.out; omega) (by have := BD.out; omega) (by omega) (by omega)).mono ?_
      rintro e w16 ⟨A16, c16, B16, d16, rfl, uT, vT, hb⟩
      have hal : Below w16.heap.size w16 (w16.alloc (.cells #[.bool sd2, .slice A16 ld2.length c16, .slice B16 kd2.length d16] 28)) := (Below.refl _ _).alloc (Nat.le_refl _) _
      replace uT := uT.below hal
      replace vT := vT.below hal
      obtain ⟨xT, yT, zT, _, _, _, _⟩ := Box3.new w16 (.bool sd2) (.slice A16 ld2.length c16) (.slice B16 kd2.length d16) 28
      have hs := from_ hb hal
      replace xa := keepC hs xa
      replace ya := keepC hs ya
      replace za := keepC hs za
      replace x13 := keepC hs x13
      replace y13 := keepC hs y13
      replace z13 := keepC hs z13
      replace x14 := keepC hs x14
      replace y14 := keepC hs y14
      replace z14 := keepC hs z14
      replace xS := keepC hs xS
      replace yS := keepC hs yS
      replace zS := keepC hs zS
      replace ua := ua.below hs
      replace va := va.below hs
      replace u13 := u13.below hs
      replace v13 := v13.below hs
      replace u14 := u14.below hs
      replace v14 := v14.below hs
      replace uS := uS.below hs
      replace vS := vS.below hs
      replace hB := from_ hB hs
      clear hb hal hs
      clear xa ya za ua va
      clear x13 y13 z13 u13 v13
      clear x14 y14 z14 u14 v14
      go_upto_region 19 with fail
      generalize hV19 : (w16.alloc (.cells #[.bool sd2, .slice A16 ld2.length c16, .slice B16 kd2.length d16] 28)) = V19 at *
      clear hV19
      have hs := And.intro (keepC (Below.refl _ V19).drew xS) (And.intro (keepC (Below.refl _ V19).drew yS) (keepC (Below.refl _ V19).drew zS))
      have Hc := Lib.hid (Below.refl V19.heap.size V19).drew
      have US := Lib.hid uS
      have VS := Lib.hid vS
      go_upto_region 19 with fail
      go_region_held3 (fun w' => w'.cell? ⟨w15.heap.size, 0, none⟩ = some (.bool sd1) ∧ w'.cell? ⟨w15.heap.size, 1, none⟩ = some (.slice A15 ld1.length c15) ∧ w'.cell? ⟨w15.heap.size, 2, none⟩ = some (.slice B15 kd1.length d15))
        (first
          | with_reducible exact hs)
        (first
          | (go_at_call 21; with_reducible refine (F11.out _).mono ?_; rintro e wp ⟨Ap, cp, Bp, dp, rfl, up, vp, hc⟩; replace hs := keep3 hs hc; replace Hc := Lib.hid (from_ Hc.out hc))
          | (go_at_call 17; with_reducible refine (CU.out _ _ _ _ _ _ _ _ _ _ _ _ _ (US.out.below Hc.out) (VS.out.below Hc.out) up vp).mono ?_; rintro e w19 ⟨rfl, hc⟩; replace hs := keep3 hs hc; replace Hc := Lib.hid (from_ Hc.out hc)))
      have hb := Hc.out
      replace xS := keepC hb xS
      replace yS := keepC hb yS
      replace zS := keepC hb zS
      replace xT := keepC hb xT
      replace yT := keepC hb yT
      replace zT := keepC hb zT
      replace uS := uS.below hb
      replace vS := vS.below hb
      replace uT := uT.below hb
      replace vT := vT.below hb
      replace hB := from_ hB hb
      clear hb hs Hc US VS
      have hs := And.intro (keepC (Below.refl _ w19).drew xT) (And.intro (keepC (Below.refl _ w19).drew yT) (keepC (Below.refl _ w19).drew zT))
      have Hc := Lib.hid (Below.refl w19.heap.size w19).drew
      have US := Lib.hid uT
      have VS := Lib.hid vT
      go_upto_region 20 with fail
      go_region_held3 (fun w' => w'.cell? ⟨w16.heap.size, 0, none⟩ = some (.bool sd2) ∧ w'.cell? ⟨w16.heap.size, 1, none⟩ = some (.slice A16 ld2.length c16) ∧ w'.cell? ⟨w16.heap.size, 2, none⟩ = some (.slice B16 kd2.length d16))
        (first
          | with_reducible exact hs)
        (first
          | (go_at_call 21; with_reducible refine (F11.out _).mono ?_; rintro e wp ⟨Ap, cp, Bp, dp, rfl, up, vp, hc⟩; replace hs := keep3 hs hc; replace Hc := Lib.hid (from_ Hc.out hc))
          | (go_at_call 17; with_reducible refine (CV.out _ _ _ _ _ _ _ _ _ _ _ _ _ (US.out.below Hc.out) (VS.out.below Hc.out) up vp).mono ?_; rintro e w20 ⟨rfl, hc⟩; replace hs := keep3 hs hc; replace Hc := Lib.hid (from_ Hc.out hc)))
      have hb := Hc.out
      replace xS := keepC hb xS
      replace yS := keepC hb yS
      replace zS := keepC hb zS
      replace xT := keepC hb xT
      replace yT := keepC hb yT
      replace zT := keepC hb zT
      replace uS := uS.below hb
      replace vS := vS.below hb
      replace uT := uT.below hb
      replace vT := vT.below hb
      replace hB := from_ hB hb
      clear hb hs Hc US VS
      have hs := And.intro (keepC (Below.refl _ w20).drew xS) (And.intro (keepC (Below.refl _ w20).drew yS) (keepC (Below.refl _ w20).drew zS))
      have Hc := Lib.hid (Below.refl w20.heap.size w20).drew
      have US := Lib.hid uS
      have VS := Lib.hid vS
      go_upto_region 21 with fail
      go_region_held3 (fun w' => w'.cell? ⟨w15.heap.size, 0, none⟩ = some (.bool sd1) ∧ w'.cell? ⟨w15.heap.size, 1, none⟩ = some (.slice A15 ld1.length c15) ∧ w'.cell? ⟨w15.heap.size, 2, none⟩ = some (.slice B15 kd1.length d15))
        (first
          | with_reducible exact hs)
        (first
          | (go_at_call 21; with_reducible refine (F01.out _).mono ?_; rintro e wp ⟨Ap, cp, Bp, dp, rfl, up, vp, hc⟩; replace hs := keep3 hs hc; replace Hc := Lib.hid (from_ Hc.out hc))
          | (go_at_call 17; with_reducible refine (CW.out _ _ _ _ _ _ _ _ _ _ _ _ _ (US.out.below Hc.out) (VS.out.below Hc.out) up vp).mono ?_; rintro e w21 ⟨rfl, hc⟩; replace hs := keep3 hs hc; replace Hc := Lib.hid (from_ Hc.out hc)))
      have hb := Hc.out
      replace xS := keepC hb xS
      replace yS := keepC hb yS
      replace zS := keepC hb zS
      replace xT := keepC hb xT
      replace yT := keepC hb yT
      replace zT := keepC hb zT
      replace uS := uS.below hb
      replace vS := vS.below hb
      replace uT := uT.below hb
      replace vT := vT.below hb
      replace hB := from_ hB hb
      clear hb hs Hc US VS
      have hs := And.intro (keepC (Below.refl _ w21).drew xT) (And.intro (keepC (Below.refl _ w21).drew yT) (keepC (Below.refl _ w21).drew zT))
      have Hc := Lib.hid (Below.refl w21.heap.size w21).drew
      have US := Lib.hid uT
      have VS := Lib.hid vT
      go_upto_region 22 with fail
      go_region_held3 (fun w' => w'.cell? ⟨w16.heap.size, 0, none⟩ = some (.bool sd2) ∧ w'.cell? ⟨w16.heap.size, 1, none⟩ = some (.slice A16 ld2.length c16) ∧ w'.cell? ⟨w16.heap.size, 2, none⟩ = some (.slice B16 kd2.length d16))
        (first
          | with_reducible exact hs)
        (first
          | (go_at_call 21; with_reducible refine (F01.out _).mono ?_; rintro e wp ⟨Ap, cp, Bp, dp, rfl, up, vp, hc⟩; replace hs := keep3 hs hc; replace Hc := Lib.hid (from_ Hc.out hc))
          | (go_at_call 17; with_reducible refine (CX.out _ _ _ _ _ _ _ _ _ _ _ _ _ (US.out.below Hc.out) (VS.out.below Hc.out) up vp).mono ?_; rintro e w22 ⟨rfl, hc⟩; replace hs := keep3 hs hc; replace Hc := Lib.hid (from_ Hc.out hc)))
      have hb := Hc.out
      replace xS := keepC hb xS
      replace yS := keepC hb yS
      replace zS := keepC hb zS
      replace xT := keepC hb xT
      replace yT := keepC hb yT
      replace zT := keepC hb zT
      replace uS := uS.below hb
      replace vS := vS.below hb
      replace uT := uT.below hb
      replace vT := vT.below hb
      replace hB := from_ hB hb
      clear hb hs Hc US VS
      go_wp2
      go_ret
      exact ⟨by first | rfl | trivial, hB⟩

set_option maxRecDepth 100000 in
set_option maxHeartbeats 8000000 in
theorem lawRatOrder {w : World} {a b c : Value} {s t r : Bool} {l k l' k' m j : List Nat} (ha : IsR w old a s l k) (hb : IsR w old b t l' k') (hc : IsR w old c r m j) (ht : Tab w) :
    Calls Tryz.prog 5 #[a, b, c] w fun e w' => e = .returned (.bool true) ∧ Below w.heap.size w w' := by
  obtain ⟨A, ca, B, cb, rfl, ua, va⟩ := ha
  obtain ⟨C, cc, D, cd, rfl, ub, vb⟩ := hb
  obtain ⟨E, ce, F, cf, rfl, uc, vc⟩ := hc
  have va0 := And.intro (And.intro ua va) (And.intro (And.intro ub vb) (And.intro uc vc))
  obtain ⟨bA, bB, bC, hB⟩ := boxes3Q w (.bool s) (.slice A l.length ca) (.slice B k.length cb) (.bool t) (.slice C l'.length cc) (.slice D k'.length cd) (.bool r) (.slice E m.length ce) (.slice F j.length cf)
  obtain ⟨xa, ya, za, _, _, _, _⟩ := bA
  obtain ⟨xb, yb, zb, _, _, _, _⟩ := bB
  obtain ⟨xc, yc, zc, _, _, _, _⟩ := bC
  replace ua := ua.below hB
  replace va := va.below hB
  replace ub := ub.below hB
  replace vb := vb.below hB
  replace uc := uc.below hB
  replace vc := vc.below hB
  have sa := ua.small
  have ta := va.small
  have sb := ub.small
  have tb := vb.small
  have sc := uc.small
  have tc := vc.small
  rcases (show ((8 < l.length ∨ (l.length ≤ 8 ∧ 8 < k.length))) ∨ ((l.length ≤ 8 ∧ k.length ≤ 8) ∧ (8 < l'.length ∨ (l'.length ≤ 8 ∧ 8 < k'.length))) ∨ ((l.length ≤ 8 ∧ k.length ≤ 8) ∧ (l'.length ≤ 8 ∧ k'.length ≤ 8) ∧ (8 < m.length ∨ (m.length ≤ 8 ∧ 8 < j.length))) ∨ ((l.length ≤ 8 ∧ k.length ≤ 8) ∧ (l'.length ≤ 8 ∧ k'.length ≤ 8) ∧ (m.length ≤ 8 ∧ j.length ≤ 8)) by omega) with g1 | ⟨g1, g2⟩ | ⟨g1, g2, g3⟩ | ⟨g1, g2, g3⟩
  · clear ua va ub vb uc vc sa ta sb tb sc tc
    have G0 := Lib.hid g1
    clear g1
    go_enter Tryz.func5, Tryz.ntmps5
    go_wp2_with fail
    refine (alive6 (ht.below hB)).mono ?_
    rintro e w1 ⟨rfl, hb⟩
    replace xa := keepC hb xa
    replace ya := keepC hb ya
    replace za := keepC hb za
    replace xb := keepC hb xb
    replace yb := keepC hb yb
    replace zb := keepC hb zb
    replace xc := keepC hb xc
    replace yc := keepC hb yc
    replace zc := keepC hb zc
    replace hB := from_ hB hb
    clear hb
    go_wp2_with fail
    refine (great6_yes (n := 8) G0.out (by omega)).mono ?_
    rintro e w2 ⟨rfl, hb⟩
    replace xa := keepC hb xa
    replace ya := keepC hb ya
    replace za := keepC hb za
    replace xb := keepC hb xb
    replace yb := keepC hb yb
    replace zb := keepC hb zb
    replace xc := keepC hb xc
    replace yc := keepC hb yc
    replace zc := keepC hb zc
    replace hB := from_ hB hb
    clear hb
    go_wp2
    go_ret
    exact ⟨by first | rfl | trivial, hB⟩
  · clear ua va ub vb uc vc sa ta sb tb sc tc
    have G0 := Lib.hid g1
    clear g1
    have G1 := Lib.hid g2
    clear g2
    go_enter Tryz.func5, Tryz.ntmps5
    go_wp2_with fail
    refine (alive6 (ht.below hB)).mono ?_
    rintro e w1 ⟨rfl, hb⟩
    replace xa := keepC hb xa
    replace ya := keepC hb ya
    replace za := keepC hb za
    replace xb := keepC hb xb
    replace yb := keepC hb yb
    replace zb := keepC hb zb
    replace xc := keepC hb xc
    replace yc := keepC hb yc
    replace zc := keepC hb zc
    replace hB := from_ hB hb
    clear hb
    go_wp2_with fail
    refine (great6_no (n := 8) G0.out.1 G0.out.2 (by omega)).mono ?_
    rintro e w2 ⟨rfl, hb⟩
    replace xa := keepC hb xa
    replace ya := keepC hb ya
    replace za := keepC hb za
    replace xb := keepC hb xb
    replace yb := keepC hb yb
    replace zb := keepC hb zb
    replace xc := keepC hb xc
    replace yc := keepC hb yc
    replace zc := keepC hb zc
    replace hB := from_ hB hb
    clear hb
    go_wp2_with fail
    refine (great6_yes (n := 8) G1.out (by omega)).mono ?_
    rintro e w3 ⟨rfl, hb⟩
    replace xa := keepC hb xa
    replace ya := keepC hb ya
    replace za := keepC hb za
    replace xb := keepC hb xb
    replace yb := keepC hb yb
    replace zb := keepC hb zb
    replace xc := keepC hb xc
    replace yc := keepC hb yc
    replace zc := keepC hb zc
    replace hB := from_ hB hb
    clear hb
    go_wp2
    go_ret
    exact ⟨by first | rfl | trivial, hB⟩
  · clear ua va ub vb uc vc sa ta sb tb sc tc
    have G0 := Lib.hid g1
    clear g1
    have G1 := Lib.hid g2
    clear g2
    have G2 := Lib.hid g3
    clear g3
    go_enter Tryz.func5, Tryz.ntmps5
    go_wp2_with fail
    refine (alive6 (ht.below hB)).mono ?_
    rintro e w1 ⟨rfl, hb⟩
    replace xa := keepC hb xa
    replace ya := keepC hb ya
    replace za := keepC hb za
    replace xb := keepC hb xb
    replace yb := keepC hb yb
    replace zb := keepC hb zb
    replace xc := keepC hb xc
    replace yc := keepC hb yc
    replace zc := keepC hb zc
    replace hB := from_ hB hb
    clear hb
    go_wp2_with fail
    refine (great6_no (n := 8) G0.out.1 G0.out.2 (by omega)).mono ?_
    rintro e w2 ⟨rfl, hb⟩
    replace xa := keepC hb xa
    replace ya := keepC hb ya
    replace za := keepC hb za
    replace xb := keepC hb xb
    replace yb := keepC hb yb
    replace zb := keepC hb zb
    replace xc := keepC hb xc
    replace yc := keepC hb yc
    replace zc := keepC hb zc
    replace hB := from_ hB hb
    clear hb
    go_wp2_with fail
    refine (great6_no (n := 8) G1.out.1 G1.out.2 (by omega)).mono ?_
    rintro e w3 ⟨rfl, hb⟩
    replace xa := keepC hb xa
    replace ya := keepC hb ya
    replace za := keepC hb za
    replace xb := keepC hb xb
    replace yb := keepC hb yb
    replace zb := keepC hb zb
    replace xc := keepC hb xc
    replace yc := keepC hb yc
    replace zc := keepC hb zc
    replace hB := from_ hB hb
    clear hb
    go_wp2_with fail
    refine (great6_yes (n := 8) G2.out (by omega)).mono ?_
    rintro e w4 ⟨rfl, hb⟩
    replace xa := keepC hb xa
    replace ya := keepC hb ya
    replace za := keepC hb za
    replace xb := keepC hb xb
    replace yb := keepC hb yb
    replace zb := keepC hb zb
    replace xc := keepC hb xc
    replace yc := keepC hb yc
    replace zc := keepC hb zc
    replace hB := from_ hB hb
    clear hb
    go_wp2
    go_ret
    exact ⟨by first | rfl | trivial, hB⟩
  · have G0 := Lib.hid g1
    have G1 := Lib.hid g2
    have G2 := Lib.hid g3
    by_cases o12 : okQ s l k = true ∧ okQ t l' k' = true
    · obtain ⟨o1, o2⟩ := o12
      obtain ⟨P, nA⟩ := okQ_nm o1 sa ta
      obtain ⟨R, nB⟩ := okQ_nm o2 sb tb
      obtain ⟨g, hg⟩ : ∃ g, g = sgn (P - R).num := ⟨_, rfl⟩
      cases o3 : okQ r m j with
      | false =>
        have O13 := Lib.hid (show ¬ (okQ s l k = true ∧ okQ r m j = true) from fun h => by rw [o3] at h; cases h.2)
        have O23 := Lib.hid (show ¬ (okQ t l' k' = true ∧ okQ r m j = true) from fun h => by rw [o3] at h; cases h.2)
        have N_a := Lib.hid nA
        have N_b := Lib.hid nB
        have HG := Lib.hid hg.symm
        clear o1 o2 o3 nA nB hg sa ta sb tb sc tc
        go_enter Tryz.func5, Tryz.ntmps5
        go_wp2_with fail
        refine (alive6 (ht.below hB)).mono ?_
        rintro e w1 ⟨rfl, hb⟩
        replace xa := keepC hb xa
        replace ya := keepC hb ya
        replace za := keepC hb za
        replace xb := keepC hb xb
        replace yb := keepC hb yb
        replace zb := keepC hb zb
        replace xc := keepC hb xc
        replace yc := keepC hb yc
        replace zc := keepC hb zc
        replace ua := ua.below hb
        replace va := va.below hb
        replace ub := ub.below hb
        replace vb := vb.below hb
        replace uc := uc.below hb
        replace vc := vc.below hb
        replace hB := from_ hB hb
        clear hb
        go_wp2_with fail
        refine (great6_no (n := 8) G0.out.1 G0.out.2 (by omega)).mono ?_
        rintro e w2 ⟨rfl, hb⟩
        replace xa := keepC hb xa
        replace ya := keepC hb ya
        replace za := keepC hb za
        replace xb := keepC hb xb
        replace yb := keepC hb yb
        replace zb := keepC hb zb
        replace xc := keepC hb xc
        replace yc := keepC hb yc
        replace zc := keepC hb zc
        replace ua := ua.below hb
        replace va := va.below hb
        replace ub := ub.below hb
        replace vb := vb.below hb
        replace uc := uc.below hb
        replace vc := vc.below hb
        replace hB := from_ hB hb
        clear hb
        go_wp2_with fail
        refine (great6_no (n := 8) G1.out.1 G1.out.2 (by omega)).mono ?_
        rintro e w3 ⟨rfl, hb⟩
        replace xa := keepC hb xa
        replace ya := keepC hb ya
        replace za := keepC hb za
        replace xb := keepC hb xb
        replace yb := keepC hb yb
        replace zb := keepC hb zb
        replace xc := keepC hb xc
        replace yc := keepC hb yc
        replace zc := keepC hb zc
        replace ua := ua.below hb
        replace va := va.below hb
        replace ub := ub.below hb
        replace vb := vb.below hb
        replace uc := uc.below hb
        replace vc := vc.below hb
        replace hB := from_ hB hb
        clear hb
        go_wp2_with fail
        refine (great6_no (n := 8) G2.out.1 G2.out.2 (by omega)).mono ?_
        rintro e w4 ⟨rfl, hb⟩
        replace xa := keepC hb xa
        replace ya := keepC hb ya
        replace za := keepC hb za
        replace xb := keepC hb xb
        replace yb := keepC hb yb
        replace zb := keepC hb zb
        replace xc := keepC hb xc
        replace yc := keepC hb yc
        replace zc := keepC hb zc
        replace ua := ua.below hb
        replace va := va.below hb
        replace ub := ub.below hb
        replace vb := vb.below hb
        replace uc := uc.below hb
        replace vc := vc.below hb
        replace hB := from_ hB hb
        clear hb
        go_wp2_with fail
        refine (rcmp_q N_a.out N_b.out HG.out ua va ub vb (by omega) (by omega) (by omega) (by omega)).mono ?_
        rintro e w5 ⟨rfl, hb⟩
        replace xa := keepC hb xa
        replace ya := keepC hb ya
        replace za := keepC hb za
        replace xb := keepC hb xb
        replace yb := keepC hb yb
        replace zb := keepC hb zb
        replace xc := keepC hb xc
        replace yc := keepC hb yc
        replace zc := keepC hb zc
        replace ua := ua.below hb
        replace va := va.below hb
        replace ub := ub.below hb
        replace vb := vb.below hb
        replace uc := uc.below hb
        replace vc := vc.below hb
        replace hB := from_ hB hb
        clear hb
        go_wp2_with fail
        refine (radd_err ua va uc vc (by omega) (by omega) (by omega) (by omega) O13.out).mono ?_
        rintro e w6 ⟨rfl, hb⟩
        have hal : Below w6.heap.size w6 (w6.alloc (.cells #[.bool false, .slice none 0 0, .slice none 0 0] 28)) := (Below.refl _ _).alloc (Nat.le_refl _) _
        obtain ⟨xX, yX, zX, _, _, _, _⟩ := Box3.new w6 (.bool false) (.slice none 0 0) (.slice none 0 0) 28
        have hs := from_ hb hal
        replace xa := keepC hs xa
        replace ya := keepC hs ya
        replace za := keepC hs za
        replace xb := keepC hs xb
        replace yb := keepC hs yb
        replace zb := keepC hs zb
        replace xc := keepC hs xc
        replace yc := keepC hs yc
        replace zc := keepC hs zc
        replace ua := ua.below hs
        replace va := va.below hs
        replace ub := ub.below hs
        replace vb := vb.below hs
        replace uc := uc.below hs
        replace vc := vc.below hs
        replace hB := from_ hB hs
        clear hb hal hs
        go_wp2_with fail
        refine (radd_err ub vb uc vc (by omega) (by omega) (by omega) (by omega) O23.out).mono ?_
        rintro e w7 ⟨rfl, hb⟩
        have hal : Below w7.heap.size w7 (w7.alloc (.cells #[.bool false, .slice none 0 0, .slice none 0 0] 28)) := (Below.refl _ _).alloc (Nat.le_refl _) _
        obtain ⟨xY, yY, zY, _, _, _, _⟩ := Box3.new w7 (.bool false) (.slice none 0 0) (.slice none 0 0) 28
        have hs := from_ hb hal
        replace xa := keepC hs xa
        replace ya := keepC hs ya
        replace za := keepC hs za
        replace xb := keepC hs xb
        replace yb := keepC hs yb
        replace zb := keepC hs zb
        replace xc := keepC hs xc
        replace yc := keepC hs yc
        replace zc := keepC hs zc
        replace xX := keepC hs xX
        replace yX := keepC hs yX
        replace zX := keepC hs zX
        replace ua := ua.below hs
        replace va := va.below hs
        replace ub := ub.below hs
        replace vb := vb.below hs
        replace uc := uc.below hs
        replace vc := vc.below hs
        replace hB := from_ hB hs
        clear hb hal hs
        go_wp2
        go_ret
        exact ⟨by first | rfl | trivial, hB⟩
      | true =>
        obtain ⟨S, nC⟩ := okQ_nm o3 sc tc
        by_cases h0 : sgn (P - R).num = 0
        · exact ratOrder_zero va0 ht G0 G1 G2 nA nB nC h0
        · exact ratOrder_more va0 ht G0 G1 G2 nA nB nC h0
    · have On := Lib.hid o12
      obtain ⟨r1, m1, j1, E1, R1⟩ := radd_some s r l k m j
      obtain ⟨r2, m2, j2, E2, R2⟩ := radd_some t r l' k' m j
      have RR1 := Lib.hid R1
      have RR2 := Lib.hid R2
      clear o12 R1 R2 sa ta sb tb sc tc
      go_enter Tryz.func5, Tryz.ntmps5
      go_wp2_with fail
      refine (alive6 (ht.below hB)).mono ?_
      rintro e w1 ⟨rfl, hb⟩
      replace xa := keepC hb xa
      replace ya := keepC hb ya
      replace za := keepC hb za
      replace xb := keepC hb xb
      replace yb := keepC hb yb
      replace zb := keepC hb zb
      replace xc := keepC hb xc
      replace yc := keepC hb yc
      replace zc := keepC hb zc
      replace ua := ua.below hb
      replace va := va.below hb
      replace ub := ub.below hb
      replace vb := vb.below hb
      replace uc := uc.below hb
      replace vc := vc.below hb
      replace hB := from_ hB hb
      clear hb
      go_wp2_with fail
      refine (great6_no (n := 8) G0.out.1 G0.out.2 (by omega)).mono ?_
      rintro e w2 ⟨rfl, hb⟩
      replace xa := keepC hb xa
      replace ya := keepC hb ya
      replace za := keepC hb za
      replace xb := keepC hb xb
      replace yb := keepC hb yb
      replace zb := keepC hb zb
      replace xc := keepC hb xc
      replace yc := keepC hb yc
      replace zc := keepC hb zc
      replace ua := ua.below hb
      replace va := va.below hb
      replace ub := ub.below hb
      replace vb := vb.below hb
      replace uc := uc.below hb
      replace vc := vc.below hb
      replace hB := from_ hB hb
      clear hb
      go_wp2_with fail
      refine (great6_no (n := 8) G1.out.1 G1.out.2 (by omega)).mono ?_
      rintro e w3 ⟨rfl, hb⟩
      replace xa := keepC hb xa
      replace ya := keepC hb ya
      replace za := keepC hb za
      replace xb := keepC hb xb
      replace yb := keepC hb yb
      replace zb := keepC hb zb
      replace xc := keepC hb xc
      replace yc := keepC hb yc
      replace zc := keepC hb zc
      replace ua := ua.below hb
      replace va := va.below hb
      replace ub := ub.below hb
      replace vb := vb.below hb
      replace uc := uc.below hb
      replace vc := vc.below hb
      replace hB := from_ hB hb
      clear hb
      go_wp2_with fail
      refine (great6_no (n := 8) G2.out.1 G2.out.2 (by omega)).mono ?_
      rintro e w4 ⟨rfl, hb⟩
      replace xa := keepC hb xa
      replace ya := keepC hb ya
      replace za := keepC hb za
      replace xb := keepC hb xb
      replace yb := keepC hb yb
      replace zb := keepC hb zb
      replace xc := keepC hb xc
      replace yc := keepC hb yc
      replace zc := keepC hb zc
      replace ua := ua.below hb
      replace va := va.below hb
      replace ub := ub.below hb
      replace vb := vb.below hb
      replace uc := uc.below hb
      replace vc := vc.below hb
      replace hB := from_ hB hb
      clear hb
      go_wp2_with fail
      refine (rcmp_err ua va ub vb (by omega) (by omega) (by omega) (by omega) On.out).mono ?_
      rintro e w5 ⟨rfl, hb⟩
      replace xa := keepC hb xa
      replace ya := keepC hb ya
      replace za := keepC hb za
      replace xb := keepC hb xb
      replace yb := keepC hb yb
      replace zb := keepC hb zb
      replace xc := keepC hb xc
      replace yc := keepC hb yc
      replace zc := keepC hb zc
      replace ua := ua.below hb
      replace va := va.below hb
      replace ub := ub.below hb
      replace vb := vb.below hb
      replace uc := uc.below hb
      replace vc := vc.below hb
      replace hB := from_ hB hb
      clear hb
      go_wp2_with fail
      refine (RR1.out _ _ _ _ _ _ _ _ _ _ _ _ _ ua va uc vc (by omega) (by omega) (by omega) (by omega)).mono ?_
      rintro e w6 ⟨A6, c6, B6, d6, rfl, uX, vX, hb⟩
      have hal : Below w6.heap.size w6 (w6.alloc (.cells #[.bool r1, .slice A6 m1.length c6, .slice B6 j1.length d6] 28)) := (Below.refl _ _).alloc (Nat.le_refl _) _
      replace uX := uX.below hal
      replace vX := vX.below hal
      obtain ⟨xX, yX, zX, _, _, _, _⟩ := Box3.new w6 (.bool r1) (.slice A6 m1.length c6) (.slice B6 j1.length d6) 28
      have hs := from_ hb hal
      replace xa := keepC hs xa
      replace ya := keepC hs ya
      replace za := keepC hs za
      replace xb := keepC hs xb
      replace yb := keepC hs yb
      replace zb := keepC hs zb
      replace xc := keepC hs xc
      replace yc := keepC hs yc
      replace zc := keepC hs zc
      replace ua := ua.below hs
      replace va := va.below hs
      replace ub := ub.below hs
      replace vb := vb.below hs
      replace uc := uc.below hs
      replace vc := vc.below hs
      replace hB := from_ hB hs
      clear hb hal hs
      go_wp2_with fail
      refine (RR2.out _ _ _ _ _ _ _ _ _ _ _ _ _ ub vb uc vc (by omega) (by omega) (by omega) (by omega)).mono ?_
      rintro e w7 ⟨A7, c7, B7, d7, rfl, uY, vY, hb⟩
      have hal : Below w7.heap.size w7 (w7.alloc (.cells #[.bool r2, .slice A7 m2.length c7, .slice B7 j2.length d7] 28)) := (Below.refl _ _).alloc (Nat.le_refl _) _
      replace uY := uY.below hal
      replace vY := vY.below hal
      obtain ⟨xY, yY, zY, _, _, _, _⟩ := Box3.new w7 (.bool r2) (.slice A7 m2.length c7) (.slice B7 j2.length d7) 28
      have hs := from_ hb hal
      replace xa := keepC hs xa
      replace ya := keepC hs ya
      replace za := keepC hs za
      replace xb := keepC hs xb
      replace yb := keepC hs yb
      replace zb := keepC hs zb
      replace xc := keepC hs xc
      replace yc := keepC hs yc
      replace zc := keepC hs zc
      replace xX := keepC hs xX
      replace yX := keepC hs yX
      replace zX := keepC hs zX
      replace ua := ua.below hs
      replace va := va.below hs
      replace ub := ub.below hs
      replace vb := vb.below hs
      replace uc := uc.below hs
      replace vc := vc.below hs
      replace uX := uX.below hs
      replace vX := vX.below hs
      replace hB := from_ hB hs
      clear hb hal hs
      go_wp2
      go_ret
      exact ⟨by first | rfl | trivial, hB⟩

end Go.Proofs.YtbcplffdoejniaaGreatDoor
