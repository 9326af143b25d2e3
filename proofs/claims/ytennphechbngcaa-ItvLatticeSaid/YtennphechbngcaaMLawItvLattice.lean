/-
  facetroomlaw16.ItvLattice, walked. No conditions.
-/
import Derived.Test.YtennphechbngcaaMLlaA
import Derived.Test.YtennphechbngcaaMItwW
import Derived.Test.YtennphechbngcaaMWhV
namespace Go.Proofs.Ytennphechbngcaa
open Go.RowKit
set_option linter.unusedVariables false
set_option linter.unusedSimpArgs false

set_option maxRecDepth 100000 in
set_option maxHeartbeats 8000000 in
theorem lla_none {w : World} {a b c : Value} {p q r : Iv} (ha : IsItv w old a p) (hb : IsItv w old b q) (hc : IsItv w old c r) (k1 : gtI p 4 = false) (k2 : gtI q 4 = false) (k3 : gtI r 4 = false) (op : p.ok = true) (oq : q.ok = true) (orr : r.ok = true) (hle : ¬ max p.lo q.lo ≤ min p.hi q.hi) : Calls Try.prog 3 #[a, b, c] w fun e w' => e = .returned (.bool true) ∧ Below w.heap.size w w' := by
  obtain ⟨A0, a0, B0, b0, rfl, u0, u1⟩ := ha
  obtain ⟨A1, a1, B1, b1, rfl, u2, u3⟩ := hb
  obtain ⟨A2, a2, B2, b2, rfl, u4, u5⟩ := hc
  have AL := Lib.hid alive16
  obtain ⟨m0, m1⟩ := gtI_no k1
  obtain ⟨m2, m3⟩ := gtI_no k2
  obtain ⟨m4, m5⟩ := gtI_no k3
  have G1 := Lib.hid (fun (W : World) (h : Below w.heap.size w W) => g16_w (u0.below h) (u1.below h))
  rw [k1] at G1
  have G2 := Lib.hid (fun (W : World) (h : Below w.heap.size w W) => g16_w (u2.below h) (u3.below h))
  rw [k2] at G2
  have G3 := Lib.hid (fun (W : World) (h : Below w.heap.size w W) => g16_w (u4.below h) (u5.below h))
  rw [k3] at G3
  obtain ⟨wp, gp⟩ := itw_of op u0.small u1.small m0 m1 (by omega)
  obtain ⟨wq, gq⟩ := itw_of oq u2.small u3.small m2 m3 (by omega)
  obtain ⟨k, hk⟩ : ∃ k, IvW (ivJ (p.lo, p.hi) (q.lo, q.hi)) k := ⟨_, IvW.mk _⟩
  have gk : IvN 4 (ivJ (p.lo, p.hi) (q.lo, q.hi)).1 (ivJ (p.lo, p.hi) (q.lo, q.hi)).2 := ivJ_ok (p := (p.lo, p.hi)) (q := (q.lo, q.hi)) gp gq
  have JN := Lib.hid (fun (W : World) (h : Below w.heap.size w W) => ijoinG_w wp (gp.up (by omega)) wq (gq.up (by omega)) hk (u0.below h) (u1.below h) (u2.below h) (u3.below h))
  obtain ⟨wr, gr⟩ := itw_of orr u4.small u5.small m4 m5 (by omega)
  have CK := Lib.hid (fun (W : World) (h : Below w.heap.size w W) => icheck_any (n0 := r.n0) (s0 := r.s0) (n1 := r.n1) (s1 := r.s1) (u4.below h) (u5.below h) (by omega) (by omega))
  have h0 : errA r.n0 r.s0 r.l0 r.n1 r.s1 r.l1 = 0 := if_pos orr
  rw [h0] at CK
  have gP := gp.up (M := 60) (by omega)
  have gQ := gq.up (M := 60) (by omega)
  have gR := gr.up (M := 60) (by omega)
  have gK := gk.up (M := 60) (by omega)
  obtain ⟨ob1, hb1⟩ : ∃ b, decide (r.lo ≤ p.lo ∧ p.hi ≤ r.hi) = b := ⟨_, rfl⟩
  obtain ⟨ob2, hb2⟩ : ∃ b, decide (r.lo ≤ q.lo ∧ q.hi ≤ r.hi) = b := ⟨_, rfl⟩
  obtain ⟨ob4, hb4⟩ : ∃ b, decide (p.lo ≤ r.lo ∧ r.hi ≤ p.hi) = b := ⟨_, rfl⟩
  obtain ⟨ob5, hb5⟩ : ∃ b, decide (q.lo ≤ r.lo ∧ r.hi ≤ q.hi) = b := ⟨_, rfl⟩
  have e1 : InI p k true := inI_w wp gP hk gK (decide_eq_true ⟨by unfold ivJ; dsimp only; omega, by unfold ivJ; dsimp only; omega⟩)
  have e2 : InI q k true := inI_w wq gQ hk gK (decide_eq_true ⟨by unfold ivJ; dsimp only; omega, by unfold ivJ; dsimp only; omega⟩)
  have e3 : InI p r ob1 := inI_w wp gP wr gR hb1
  have e4 : InI q r ob2 := inI_w wq gQ wr gR hb2
  have e5 : InI k r (ob1 && ob2) := inI_w hk gK wr gR (by rw [← hb1, ← hb2]; exact in_join (P := (p.lo, p.hi)) (Q := (q.lo, q.hi)) (R := (r.lo, r.hi)))
  have e6 : InI r p ob4 := inI_w wr gR wp gP hb4
  have e7 : InI r q ob5 := inI_w wr gR wq gQ hb5
  have I1 := Lib.hid (fun (W : World) (h : Below w.heap.size w W) => fun (Z1 Z2 : Zone) (A B : Option Addr) (a b : Nat) (v1 : U64s W Z1 A a k.l0) (v2 : U64s W Z2 B b k.l1) => e1 W _ _ _ _ _ _ _ _ _ _ _ _ (u0.below h) (u1.below h) v1 v2)
  have I2 := Lib.hid (fun (W : World) (h : Below w.heap.size w W) => fun (Z1 Z2 : Zone) (A B : Option Addr) (a b : Nat) (v1 : U64s W Z1 A a k.l0) (v2 : U64s W Z2 B b k.l1) => e2 W _ _ _ _ _ _ _ _ _ _ _ _ (u2.below h) (u3.below h) v1 v2)
  have I3 := Lib.hid (fun (W : World) (h : Below w.heap.size w W) => e3 W _ _ _ _ _ _ _ _ _ _ _ _ (u0.below h) (u1.below h) (u4.below h) (u5.below h))
  have I4 := Lib.hid (fun (W : World) (h : Below w.heap.size w W) => e4 W _ _ _ _ _ _ _ _ _ _ _ _ (u2.below h) (u3.below h) (u4.below h) (u5.below h))
  have I5 := Lib.hid (fun (W : World) (h : Below w.heap.size w W) => fun (Z1 Z2 : Zone) (A B : Option Addr) (a b : Nat) (v1 : U64s W Z1 A a k.l0) (v2 : U64s W Z2 B b k.l1) => e5 W _ _ _ _ _ _ _ _ _ _ _ _ v1 v2 (u4.below h) (u5.below h))
  have I6 := Lib.hid (fun (W : World) (h : Below w.heap.size w W) => e6 W _ _ _ _ _ _ _ _ _ _ _ _ (u4.below h) (u5.below h) (u0.below h) (u1.below h))
  have I7 := Lib.hid (fun (W : World) (h : Below w.heap.size w W) => e7 W _ _ _ _ _ _ _ _ _ _ _ _ (u4.below h) (u5.below h) (u2.below h) (u3.below h))
  obtain ⟨m, hm⟩ : ∃ k, IvW (max p.lo q.lo, min p.hi q.hi) k := ⟨_, IvW.mk _⟩
  have t0 : (ob4 && ob5) = false := by rw [← hb4, ← hb5]; exact in_none (P := (p.lo, p.hi)) (Q := (q.lo, q.hi)) (R := (r.lo, r.hi)) gr.le hle
  have T0 := Lib.hid t0
  have MT := Lib.hid (fun (W : World) (h : Below w.heap.size w W) => iMeet_none (n0 := p.n0) (s0 := p.s0) (n1 := p.n1) (s1 := p.s1) (m0 := q.n0) (t0 := q.s0) (m1 := q.n1) (t1 := q.s1) (u0.below h) (u1.below h) (u2.below h) (u3.below h) op oq (by omega) (by omega) (by omega) (by omega) (z0 := max p.lo q.lo) (z1 := min p.hi q.hi) rfl rfl hm.1 hm.2 (by omega))
  obtain ⟨hq, hb0⟩ := Q3.new w (.bool p.n0) (.bool p.s0) (.slice A0 p.l0.length a0) (.bool p.n1) (.bool p.s1) (.slice B0 p.l1.length b0) (.bool q.n0) (.bool q.s0) (.slice A1 q.l0.length a1) (.bool q.n1) (.bool q.s1) (.slice B1 q.l1.length b1) (.bool r.n0) (.bool r.s0) (.slice A2 r.l0.length a2) (.bool r.n1) (.bool r.s1) (.slice B2 r.l1.length b2) 29
  have bxs := Lib.hid hq
  have HB := Lib.hid hb0
  clear hq hb0
  clear u0 u1 u2 u3 u4 u5 k1 k2 k3 m0 m1 m2 m3 m4 m5 op oq orr hle wp gp wq gq hk gk wr gr gP gQ gR gK hb1 hb2 hb4 hb5 e1 e2 e3 e4 e5 e6 e7 h0 hm t0
  go_enter Try.func3, Try.ntmps3
  go_wp2_with fail
  refine (AL.out _).mono ?_
  rintro e w1 ⟨rfl, hc⟩
  replace bxs := Lib.hid (bxs.out.below hc)
  replace HB := Lib.hid (from_ HB.out hc)
  clear hc
  clear AL
  obtain ⟨y1_0, y1_1, y1_2, y1_3, y1_4, y1_5, _, _, _, _, _, _, _⟩ := id bxs.out.1
  go_wp2_with fail
  refine (G1.out _ HB.out).mono ?_
  rintro e w2 ⟨rfl, hc⟩
  clear y1_0 y1_1 y1_2 y1_3 y1_4 y1_5
  replace bxs := Lib.hid (bxs.out.below hc)
  replace HB := Lib.hid (from_ HB.out hc)
  clear hc
  clear G1
  obtain ⟨y3_0, y3_1, y3_2, y3_3, y3_4, y3_5, _, _, _, _, _, _, _⟩ := id bxs.out.2.1
  go_wp2_with fail
  refine (G2.out _ HB.out).mono ?_
  rintro e w4 ⟨rfl, hc⟩
  clear y3_0 y3_1 y3_2 y3_3 y3_4 y3_5
  replace bxs := Lib.hid (bxs.out.below hc)
  replace HB := Lib.hid (from_ HB.out hc)
  clear hc
  clear G2
  obtain ⟨y5_0, y5_1, y5_2, y5_3, y5_4, y5_5, _, _, _, _, _, _, _⟩ := id bxs.out.2.2
  go_wp2_with fail
  refine (G3.out _ HB.out).mono ?_
  rintro e w6 ⟨rfl, hc⟩
  clear y5_0 y5_1 y5_2 y5_3 y5_4 y5_5
  replace bxs := Lib.hid (bxs.out.below hc)
  replace HB := Lib.hid (from_ HB.out hc)
  clear hc
  clear G3
  obtain ⟨y7_0, y7_1, y7_2, y7_3, y7_4, y7_5, _, _, _, _, _, _, _⟩ := id bxs.out.1
  obtain ⟨y8_0, y8_1, y8_2, y8_3, y8_4, y8_5, _, _, _, _, _, _, _⟩ := id bxs.out.2.1
  go_wp2_with fail
  refine (JN.out _ HB.out).mono ?_
  rintro e w9 ⟨Xk, xk, Yk, zk, rfl, vk, tk, hc⟩
  clear y7_0 y7_1 y7_2 y7_3 y7_4 y7_5 y8_0 y8_1 y8_2 y8_3 y8_4 y8_5
  go_upto_region 5 with fail
  have hax : Below w9.heap.size w9 (w9.alloc (.cells #[.bool k.n0, .bool k.s0, .slice Xk k.l0.length xk, .bool k.n1, .bool k.s1, .slice Yk k.l1.length zk] 29)) := (Below.refl _ _).alloc (Nat.le_refl _) _
  have bJ := Lib.hid (Box6.new w9 (.bool k.n0) (.bool k.s0) (.slice Xk k.l0.length xk) (.bool k.n1) (.bool k.s1) (.slice Yk k.l1.length zk) 29)
  obtain ⟨gbJ, hgbJ⟩ : ∃ g, g = w9.heap.size := ⟨_, rfl⟩
  rw [← hgbJ] at bJ
  have hc8 := from_ hc hax
  have Vk := Lib.hid (vk.below hax)
  have Tk := Lib.hid (tk.below hax)
  replace bxs := Lib.hid (bxs.out.below hc8)
  replace HB := Lib.hid (from_ HB.out hc8)
  clear hc hax hc8 vk tk
  generalize hWx : w9.alloc (.cells #[.bool k.n0, .bool k.s0, .slice Xk k.l0.length xk, .bool k.n1, .bool k.s1, .slice Yk k.l1.length zk] 29) = W10 at *
  try simp only [← hgbJ]
  clear hWx hgbJ
  clear JN
  obtain ⟨y11_0, y11_1, y11_2, y11_3, y11_4, y11_5, _, _, _, _, _, _, _⟩ := id bxs.out.2.2
  go_wp2_with fail
  refine (CK.out _ HB.out).mono ?_
  rintro e w12 ⟨rfl, hc⟩
  clear y11_0 y11_1 y11_2 y11_3 y11_4 y11_5
  replace bxs := Lib.hid (bxs.out.below hc)
  replace bJ := Lib.hid (bJ.out.below hc)
  replace Vk := Lib.hid (Vk.out.below hc)
  replace Tk := Lib.hid (Tk.out.below hc)
  replace HB := Lib.hid (from_ HB.out hc)
  clear hc
  clear CK
  obtain ⟨y13_0, y13_1, y13_2, y13_3, y13_4, y13_5, _, _, _, _, _, _, _⟩ := id bxs.out.1
  obtain ⟨y14_0, y14_1, y14_2, y14_3, y14_4, y14_5, _, _, _, _, _, _, _⟩ := id bJ.out
  go_wp2_with fail
  refine (I1.out _ HB.out _ _ _ _ _ _ Vk.out Tk.out).mono ?_
  rintro e w15 ⟨rfl, hc⟩
  clear y13_0 y13_1 y13_2 y13_3 y13_4 y13_5 y14_0 y14_1 y14_2 y14_3 y14_4 y14_5
  replace bxs := Lib.hid (bxs.out.below hc)
  replace bJ := Lib.hid (bJ.out.below hc)
  replace Vk := Lib.hid (Vk.out.below hc)
  replace Tk := Lib.hid (Tk.out.below hc)
  replace HB := Lib.hid (from_ HB.out hc)
  clear hc
  clear I1
  obtain ⟨y16_0, y16_1, y16_2, y16_3, y16_4, y16_5, _, _, _, _, _, _, _⟩ := id bxs.out.2.1
  obtain ⟨y17_0, y17_1, y17_2, y17_3, y17_4, y17_5, _, _, _, _, _, _, _⟩ := id bJ.out
  go_wp2_with fail
  refine (I2.out _ HB.out _ _ _ _ _ _ Vk.out Tk.out).mono ?_
  rintro e w18 ⟨rfl, hc⟩
  clear y16_0 y16_1 y16_2 y16_3 y16_4 y16_5 y17_0 y17_1 y17_2 y17_3 y17_4 y17_5
  replace bxs := Lib.hid (bxs.out.below hc)
  replace bJ := Lib.hid (bJ.out.below hc)
  replace Vk := Lib.hid (Vk.out.below hc)
  replace Tk := Lib.hid (Tk.out.below hc)
  replace HB := Lib.hid (from_ HB.out hc)
  clear hc
  clear I2
  obtain ⟨y19_0, y19_1, y19_2, y19_3, y19_4, y19_5, _, _, _, _, _, _, _⟩ := id bxs.out.1
  obtain ⟨y20_0, y20_1, y20_2, y20_3, y20_4, y20_5, _, _, _, _, _, _, _⟩ := id bxs.out.2.2
  go_wp2_with fail
  refine (I3.out _ HB.out).mono ?_
  rintro e w21 ⟨rfl, hc⟩
  clear y19_0 y19_1 y19_2 y19_3 y19_4 y19_5 y20_0 y20_1 y20_2 y20_3 y20_4 y20_5
  replace bxs := Lib.hid (bxs.out.below hc)
  replace bJ := Lib.hid (bJ.out.below hc)
  replace Vk := Lib.hid (Vk.out.below hc)
  replace Tk := Lib.hid (Tk.out.below hc)
  replace HB := Lib.hid (from_ HB.out hc)
  clear hc
  clear I3
  obtain ⟨y22_0, y22_1, y22_2, y22_3, y22_4, y22_5, _, _, _, _, _, _, _⟩ := id bxs.out.2.1
  obtain ⟨y23_0, y23_1, y23_2, y23_3, y23_4, y23_5, _, _, _, _, _, _, _⟩ := id bxs.out.2.2
  go_wp2_with fail
  refine (I4.out _ HB.out).mono ?_
  rintro e w24 ⟨rfl, hc⟩
  clear y22_0 y22_1 y22_2 y22_3 y22_4 y22_5 y23_0 y23_1 y23_2 y23_3 y23_4 y23_5
  replace bxs := Lib.hid (bxs.out.below hc)
  replace bJ := Lib.hid (bJ.out.below hc)
  replace Vk := Lib.hid (Vk.out.below hc)
  replace Tk := Lib.hid (Tk.out.below hc)
  replace HB := Lib.hid (from_ HB.out hc)
  clear hc
  clear I4
  obtain ⟨y25_0, y25_1, y25_2, y25_3, y25_4, y25_5, _, _, _, _, _, _, _⟩ := id bJ.out
  obtain ⟨y26_0, y26_1, y26_2, y26_3, y26_4, y26_5, _, _, _, _, _, _, _⟩ := id bxs.out.2.2
  go_wp2_with fail
  refine (I5.out _ HB.out _ _ _ _ _ _ Vk.out Tk.out).mono ?_
  rintro e w27 ⟨rfl, hc⟩
  clear y25_0 y25_1 y25_2 y25_3 y25_4 y25_5 y26_0 y26_1 y26_2 y26_3 y26_4 y26_5
  clear bJ Vk Tk
  replace bxs := Lib.hid (bxs.out.below hc)
  replace HB := Lib.hid (from_ HB.out hc)
  clear hc
  clear I5
  have hbb : ob1 = false ∨ ob1 = true := by cases ob1 <;> simp
  have hcc : ob2 = false ∨ ob2 = true := by cases ob2 <;> simp
  rcases hbb with rfl | rfl <;> rcases hcc with rfl | rfl
  all_goals
    obtain ⟨y28_0, y28_1, y28_2, y28_3, y28_4, y28_5, _, _, _, _, _, _, _⟩ := id bxs.out.1
    obtain ⟨y29_0, y29_1, y29_2, y29_3, y29_4, y29_5, _, _, _, _, _, _, _⟩ := id bxs.out.2.1
    go_wp2_with fail
    refine (MT.out _ HB.out).mono ?_
    rintro e w30 ⟨rfl, hc⟩
    clear y28_0 y28_1 y28_2 y28_3 y28_4 y28_5 y29_0 y29_1 y29_2 y29_3 y29_4 y29_5
    go_upto_region 15 with fail
    have hax : Below w30.heap.size w30 (w30.alloc (.cells #[.bool false, .bool false, .slice none 0 0, .bool false, .bool false, .slice none 0 0] 29)) := (Below.refl _ _).alloc (Nat.le_refl _) _
    have bM := Lib.hid (Box6.new w30 (.bool false) (.bool false) (.slice none 0 0) (.bool false) (.bool false) (.slice none 0 0) 29)
    obtain ⟨gbM, hgbM⟩ : ∃ g, g = w30.heap.size := ⟨_, rfl⟩
    rw [← hgbM] at bM
    have hc8 := from_ hc hax
    replace bxs := Lib.hid (bxs.out.below hc8)
    replace HB := Lib.hid (from_ HB.out hc8)
    clear hc hax hc8 
    generalize hWx : w30.alloc (.cells #[.bool false, .bool false, .slice none 0 0, .bool false, .bool false, .slice none 0 0] 29) = W31 at *
    try simp only [← hgbM]
    clear hWx hgbM
    clear MT
    obtain ⟨y32_0, y32_1, y32_2, y32_3, y32_4, y32_5, _, _, _, _, _, _, _⟩ := id bxs.out.2.2
    obtain ⟨y33_0, y33_1, y33_2, y33_3, y33_4, y33_5, _, _, _, _, _, _, _⟩ := id bxs.out.1
    go_wp2_with fail
    refine (I6.out _ HB.out).mono ?_
    rintro e w34 ⟨rfl, hc⟩
    clear y32_0 y32_1 y32_2 y32_3 y32_4 y32_5 y33_0 y33_1 y33_2 y33_3 y33_4 y33_5
    replace bxs := Lib.hid (bxs.out.below hc)
    replace bM := Lib.hid (bM.out.below hc)
    replace HB := Lib.hid (from_ HB.out hc)
    clear hc
    clear I6
    obtain ⟨y35_0, y35_1, y35_2, y35_3, y35_4, y35_5, _, _, _, _, _, _, _⟩ := id bxs.out.2.2
    obtain ⟨y36_0, y36_1, y36_2, y36_3, y36_4, y36_5, _, _, _, _, _, _, _⟩ := id bxs.out.2.1
    go_wp2_with fail
    refine (I7.out _ HB.out).mono ?_
    rintro e w37 ⟨rfl, hc⟩
    clear y35_0 y35_1 y35_2 y35_3 y35_4 y35_5 y36_0 y36_1 y36_2 y36_3 y36_4 y36_5
    replace bxs := Lib.hid (bxs.out.below hc)
    replace bM := Lib.hid (bM.out.below hc)
    replace HB := Lib.hid (from_ HB.out hc)
    clear hc
    clear I7
    have hbb : ob4 = false ∨ ob4 = true := by cases ob4 <;> simp
    have hcc : ob5 = false ∨ ob5 = true := by cases ob5 <;> simp
    rcases hbb with rfl | rfl <;> rcases hcc with rfl | rfl
    all_goals
      first | (exfalso; have := T0.out; cases this; done) | skip
    all_goals
      clear T0
      go_wp2
      go_ret
      exact ⟨by first | rfl | trivial, HB.out⟩
set_option maxRecDepth 100000 in
set_option maxHeartbeats 8000000 in
theorem lla_good {w : World} {a b c : Value} {p q r : Iv} (ha : IsItv w old a p) (hb : IsItv w old b q) (hc : IsItv w old c r) (k1 : gtI p 4 = false) (k2 : gtI q 4 = false) (k3 : gtI r 4 = false) (op : p.ok = true) (oq : q.ok = true) (orr : r.ok = true) (hle : max p.lo q.lo ≤ min p.hi q.hi) : Calls Try.prog 3 #[a, b, c] w fun e w' => e = .returned (.bool true) ∧ Below w.heap.size w w' := by
  obtain ⟨A0, a0, B0, b0, rfl, u0, u1⟩ := ha
  obtain ⟨A1, a1, B1, b1, rfl, u2, u3⟩ := hb
  obtain ⟨A2, a2, B2, b2, rfl, u4, u5⟩ := hc
  have AL := Lib.hid alive16
  obtain ⟨m0, m1⟩ := gtI_no k1
  obtain ⟨m2, m3⟩ := gtI_no k2
  obtain ⟨m4, m5⟩ := gtI_no k3
  have G1 := Lib.hid (fun (W : World) (h : Below w.heap.size w W) => g16_w (u0.below h) (u1.below h))
  rw [k1] at G1
  have G2 := Lib.hid (fun (W : World) (h : Below w.heap.size w W) => g16_w (u2.below h) (u3.below h))
  rw [k2] at G2
  have G3 := Lib.hid (fun (W : World) (h : Below w.heap.size w W) => g16_w (u4.below h) (u5.below h))
  rw [k3] at G3
  obtain ⟨wp, gp⟩ := itw_of op u0.small u1.small m0 m1 (by omega)
  obtain ⟨wq, gq⟩ := itw_of oq u2.small u3.small m2 m3 (by omega)
  obtain ⟨k, hk⟩ : ∃ k, IvW (ivJ (p.lo, p.hi) (q.lo, q.hi)) k := ⟨_, IvW.mk _⟩
  have gk : IvN 4 (ivJ (p.lo, p.hi) (q.lo, q.hi)).1 (ivJ (p.lo, p.hi) (q.lo, q.hi)).2 := ivJ_ok (p := (p.lo, p.hi)) (q := (q.lo, q.hi)) gp gq
  have JN := Lib.hid (fun (W : World) (h : Below w.heap.size w W) => ijoinG_w wp (gp.up (by omega)) wq (gq.up (by omega)) hk (u0.below h) (u1.below h) (u2.below h) (u3.below h))
  obtain ⟨wr, gr⟩ := itw_of orr u4.small u5.small m4 m5 (by omega)
  have CK := Lib.hid (fun (W : World) (h : Below w.heap.size w W) => icheck_any (n0 := r.n0) (s0 := r.s0) (n1 := r.n1) (s1 := r.s1) (u4.below h) (u5.below h) (by omega) (by omega))
  have h0 : errA r.n0 r.s0 r.l0 r.n1 r.s1 r.l1 = 0 := if_pos orr
  rw [h0] at CK
  have gP := gp.up (M := 60) (by omega)
  have gQ := gq.up (M := 60) (by omega)
  have gR := gr.up (M := 60) (by omega)
  have gK := gk.up (M := 60) (by omega)
  obtain ⟨ob1, hb1⟩ : ∃ b, decide (r.lo ≤ p.lo ∧ p.hi ≤ r.hi) = b := ⟨_, rfl⟩
  obtain ⟨ob2, hb2⟩ : ∃ b, decide (r.lo ≤ q.lo ∧ q.hi ≤ r.hi) = b := ⟨_, rfl⟩
  obtain ⟨ob4, hb4⟩ : ∃ b, decide (p.lo ≤ r.lo ∧ r.hi ≤ p.hi) = b := ⟨_, rfl⟩
  obtain ⟨ob5, hb5⟩ : ∃ b, decide (q.lo ≤ r.lo ∧ r.hi ≤ q.hi) = b := ⟨_, rfl⟩
  have e1 : InI p k true := inI_w wp gP hk gK (decide_eq_true ⟨by unfold ivJ; dsimp only; omega, by unfold ivJ; dsimp only; omega⟩)
  have e2 : InI q k true := inI_w wq gQ hk gK (decide_eq_true ⟨by unfold ivJ; dsimp only; omega, by unfold ivJ; dsimp only; omega⟩)
  have e3 : InI p r ob1 := inI_w wp gP wr gR hb1
  have e4 : InI q r ob2 := inI_w wq gQ wr gR hb2
  have e5 : InI k r (ob1 && ob2) := inI_w hk gK wr gR (by rw [← hb1, ← hb2]; exact in_join (P := (p.lo, p.hi)) (Q := (q.lo, q.hi)) (R := (r.lo, r.hi)))
  have e6 : InI r p ob4 := inI_w wr gR wp gP hb4
  have e7 : InI r q ob5 := inI_w wr gR wq gQ hb5
  have I1 := Lib.hid (fun (W : World) (h : Below w.heap.size w W) => fun (Z1 Z2 : Zone) (A B : Option Addr) (a b : Nat) (v1 : U64s W Z1 A a k.l0) (v2 : U64s W Z2 B b k.l1) => e1 W _ _ _ _ _ _ _ _ _ _ _ _ (u0.below h) (u1.below h) v1 v2)
  have I2 := Lib.hid (fun (W : World) (h : Below w.heap.size w W) => fun (Z1 Z2 : Zone) (A B : Option Addr) (a b : Nat) (v1 : U64s W Z1 A a k.l0) (v2 : U64s W Z2 B b k.l1) => e2 W _ _ _ _ _ _ _ _ _ _ _ _ (u2.below h) (u3.below h) v1 v2)
  have I3 := Lib.hid (fun (W : World) (h : Below w.heap.size w W) => e3 W _ _ _ _ _ _ _ _ _ _ _ _ (u0.below h) (u1.below h) (u4.below h) (u5.below h))
  have I4 := Lib.hid (fun (W : World) (h : Below w.heap.size w W) => e4 W _ _ _ _ _ _ _ _ _ _ _ _ (u2.below h) (u3.below h) (u4.below h) (u5.below h))
  have I5 := Lib.hid (fun (W : World) (h : Below w.heap.size w W) => fun (Z1 Z2 : Zone) (A B : Option Addr) (a b : Nat) (v1 : U64s W Z1 A a k.l0) (v2 : U64s W Z2 B b k.l1) => e5 W _ _ _ _ _ _ _ _ _ _ _ _ v1 v2 (u4.below h) (u5.below h))
  have I6 := Lib.hid (fun (W : World) (h : Below w.heap.size w W) => e6 W _ _ _ _ _ _ _ _ _ _ _ _ (u4.below h) (u5.below h) (u0.below h) (u1.below h))
  have I7 := Lib.hid (fun (W : World) (h : Below w.heap.size w W) => e7 W _ _ _ _ _ _ _ _ _ _ _ _ (u4.below h) (u5.below h) (u2.below h) (u3.below h))
  obtain ⟨m, hm⟩ : ∃ k, IvW (max p.lo q.lo, min p.hi q.hi) k := ⟨_, IvW.mk _⟩
  have gm : IvN 4 (max p.lo q.lo) (min p.hi q.hi) := ivn_meet (P := (p.lo, p.hi)) (Q := (q.lo, q.hi)) gp gq hle
  have gM := gm.up (M := 60) (by omega)
  have e8 : InI r m (ob4 && ob5) := inI_w wr gR hm gM (by rw [← hb4, ← hb5]; exact in_meet (P := (p.lo, p.hi)) (Q := (q.lo, q.hi)) (R := (r.lo, r.hi)))
  have e9 : InI m p true := inI_w hm gM wp gP (decide_eq_true ⟨by dsimp only; omega, by dsimp only; omega⟩)
  have MT := Lib.hid (fun (W : World) (h : Below w.heap.size w W) => imeetG_w wp gP wq gQ (u0.below h) (u1.below h) (u2.below h) (u3.below h) hm hle)
  have I8 := Lib.hid (fun (W : World) (h : Below w.heap.size w W) => fun (Z1 Z2 : Zone) (A B : Option Addr) (a b : Nat) (v1 : U64s W Z1 A a m.l0) (v2 : U64s W Z2 B b m.l1) => e8 W _ _ _ _ _ _ _ _ _ _ _ _ (u4.below h) (u5.below h) v1 v2)
  have I9 := Lib.hid (fun (W : World) (h : Below w.heap.size w W) => fun (Z1 Z2 : Zone) (A B : Option Addr) (a b : Nat) (v1 : U64s W Z1 A a m.l0) (v2 : U64s W Z2 B b m.l1) => e9 W _ _ _ _ _ _ _ _ _ _ _ _ v1 v2 (u0.below h) (u1.below h))
  obtain ⟨hq, hb0⟩ := Q3.new w (.bool p.n0) (.bool p.s0) (.slice A0 p.l0.length a0) (.bool p.n1) (.bool p.s1) (.slice B0 p.l1.length b0) (.bool q.n0) (.bool q.s0) (.slice A1 q.l0.length a1) (.bool q.n1) (.bool q.s1) (.slice B1 q.l1.length b1) (.bool r.n0) (.bool r.s0) (.slice A2 r.l0.length a2) (.bool r.n1) (.bool r.s1) (.slice B2 r.l1.length b2) 29
  have bxs := Lib.hid hq
  have HB := Lib.hid hb0
  clear hq hb0
  clear u0 u1 u2 u3 u4 u5 k1 k2 k3 m0 m1 m2 m3 m4 m5 op oq orr hle wp gp wq gq hk gk wr gr gP gQ gR gK hb1 hb2 hb4 hb5 e1 e2 e3 e4 e5 e6 e7 h0 hm gm gM e8 e9
  go_enter Try.func3, Try.ntmps3
  go_wp2_with fail
  refine (AL.out _).mono ?_
  rintro e w1 ⟨rfl, hc⟩
  replace bxs := Lib.hid (bxs.out.below hc)
  replace HB := Lib.hid (from_ HB.out hc)
  clear hc
  clear AL
  obtain ⟨y1_0, y1_1, y1_2, y1_3, y1_4, y1_5, _, _, _, _, _, _, _⟩ := id bxs.out.1
  go_wp2_with fail
  refine (G1.out _ HB.out).mono ?_
  rintro e w2 ⟨rfl, hc⟩
  clear y1_0 y1_1 y1_2 y1_3 y1_4 y1_5
  replace bxs := Lib.hid (bxs.out.below hc)
  replace HB := Lib.hid (from_ HB.out hc)
  clear hc
  clear G1
  obtain ⟨y3_0, y3_1, y3_2, y3_3, y3_4, y3_5, _, _, _, _, _, _, _⟩ := id bxs.out.2.1
  go_wp2_with fail
  refine (G2.out _ HB.out).mono ?_
  rintro e w4 ⟨rfl, hc⟩
  clear y3_0 y3_1 y3_2 y3_3 y3_4 y3_5
  replace bxs := Lib.hid (bxs.out.below hc)
  replace HB := Lib.hid (from_ HB.out hc)
  clear hc
  clear G2
  obtain ⟨y5_0, y5_1, y5_2, y5_3, y5_4, y5_5, _, _, _, _, _, _, _⟩ := id bxs.out.2.2
  go_wp2_with fail
  refine (G3.out _ HB.out).mono ?_
  rintro e w6 ⟨rfl, hc⟩
  clear y5_0 y5_1 y5_2 y5_3 y5_4 y5_5
  replace bxs := Lib.hid (bxs.out.below hc)
  replace HB := Lib.hid (from_ HB.out hc)
  clear hc
  clear G3
  obtain ⟨y7_0, y7_1, y7_2, y7_3, y7_4, y7_5, _, _, _, _, _, _, _⟩ := id bxs.out.1
  obtain ⟨y8_0, y8_1, y8_2, y8_3, y8_4, y8_5, _, _, _, _, _, _, _⟩ := id bxs.out.2.1
  go_wp2_with fail
  refine (JN.out _ HB.out).mono ?_
  rintro e w9 ⟨Xk, xk, Yk, zk, rfl, vk, tk, hc⟩
  clear y7_0 y7_1 y7_2 y7_3 y7_4 y7_5 y8_0 y8_1 y8_2 y8_3 y8_4 y8_5
  go_upto_region 5 with fail
  have hax : Below w9.heap.size w9 (w9.alloc (.cells #[.bool k.n0, .bool k.s0, .slice Xk k.l0.length xk, .bool k.n1, .bool k.s1, .slice Yk k.l1.length zk] 29)) := (Below.refl _ _).alloc (Nat.le_refl _) _
  have bJ := Lib.hid (Box6.new w9 (.bool k.n0) (.bool k.s0) (.slice Xk k.l0.length xk) (.bool k.n1) (.bool k.s1) (.slice Yk k.l1.length zk) 29)
  obtain ⟨gbJ, hgbJ⟩ : ∃ g, g = w9.heap.size := ⟨_, rfl⟩
  rw [← hgbJ] at bJ
  have hc8 := from_ hc hax
  have Vk := Lib.hid (vk.below hax)
  have Tk := Lib.hid (tk.below hax)
  replace bxs := Lib.hid (bxs.out.below hc8)
  replace HB := Lib.hid (from_ HB.out hc8)
  clear hc hax hc8 vk tk
  generalize hWx : w9.alloc (.cells #[.bool k.n0, .bool k.s0, .slice Xk k.l0.length xk, .bool k.n1, .bool k.s1, .slice Yk k.l1.length zk] 29) = W10 at *
  try simp only [← hgbJ]
  clear hWx hgbJ
  clear JN
  obtain ⟨y11_0, y11_1, y11_2, y11_3, y11_4, y11_5, _, _, _, _, _, _, _⟩ := id bxs.out.2.2
  go_wp2_with fail
  refine (CK.out _ HB.out).mono ?_
  rintro e w12 ⟨rfl, hc⟩
  clear y11_0 y11_1 y11_2 y11_3 y11_4 y11_5
  replace bxs := Lib.hid (bxs.out.below hc)
  replace bJ := Lib.hid (bJ.out.below hc)
  replace Vk := Lib.hid (Vk.out.below hc)
  replace Tk := Lib.hid (Tk.out.below hc)
  replace HB := Lib.hid (from_ HB.out hc)
  clear hc
  clear CK
  obtain ⟨y13_0, y13_1, y13_2, y13_3, y13_4, y13_5, _, _, _, _, _, _, _⟩ := id bxs.out.1
  obtain ⟨y14_0, y14_1, y14_2, y14_3, y14_4, y14_5, _, _, _, _, _, _, _⟩ := id bJ.out
  go_wp2_with fail
  refine (I1.out _ HB.out _ _ _ _ _ _ Vk.out Tk.out).mono ?_
  rintro e w15 ⟨rfl, hc⟩
  clear y13_0 y13_1 y13_2 y13_3 y13_4 y13_5 y14_0 y14_1 y14_2 y14_3 y14_4 y14_5
  replace bxs := Lib.hid (bxs.out.below hc)
  replace bJ := Lib.hid (bJ.out.below hc)
  replace Vk := Lib.hid (Vk.out.below hc)
  replace Tk := Lib.hid (Tk.out.below hc)
  replace HB := Lib.hid (from_ HB.out hc)
  clear hc
  clear I1
  obtain ⟨y16_0, y16_1, y16_2, y16_3, y16_4, y16_5, _, _, _, _, _, _, _⟩ := id bxs.out.2.1
  obtain ⟨y17_0, y17_1, y17_2, y17_3, y17_4, y17_5, _, _, _, _, _, _, _⟩ := id bJ.out
  go_wp2_with fail
  refine (I2.out _ HB.out _ _ _ _ _ _ Vk.out Tk.out).mono ?_
  rintro e w18 ⟨rfl, hc⟩
  clear y16_0 y16_1 y16_2 y16_3 y16_4 y16_5 y17_0 y17_1 y17_2 y17_3 y17_4 y17_5
  replace bxs := Lib.hid (bxs.out.below hc)
  replace bJ := Lib.hid (bJ.out.below hc)
  replace Vk := Lib.hid (Vk.out.below hc)
  replace Tk := Lib.hid (Tk.out.below hc)
  replace HB := Lib.hid (from_ HB.out hc)
  clear hc
  clear I2
  obtain ⟨y19_0, y19_1, y19_2, y19_3, y19_4, y19_5, _, _, _, _, _, _, _⟩ := id bxs.out.1
  obtain ⟨y20_0, y20_1, y20_2, y20_3, y20_4, y20_5, _, _, _, _, _, _, _⟩ := id bxs.out.2.2
  go_wp2_with fail
  refine (I3.out _ HB.out).mono ?_
  rintro e w21 ⟨rfl, hc⟩
  clear y19_0 y19_1 y19_2 y19_3 y19_4 y19_5 y20_0 y20_1 y20_2 y20_3 y20_4 y20_5
  replace bxs := Lib.hid (bxs.out.below hc)
  replace bJ := Lib.hid (bJ.out.below hc)
  replace Vk := Lib.hid (Vk.out.below hc)
  replace Tk := Lib.hid (Tk.out.below hc)
  replace HB := Lib.hid (from_ HB.out hc)
  clear hc
  clear I3
  obtain ⟨y22_0, y22_1, y22_2, y22_3, y22_4, y22_5, _, _, _, _, _, _, _⟩ := id bxs.out.2.1
  obtain ⟨y23_0, y23_1, y23_2, y23_3, y23_4, y23_5, _, _, _, _, _, _, _⟩ := id bxs.out.2.2
  go_wp2_with fail
  refine (I4.out _ HB.out).mono ?_
  rintro e w24 ⟨rfl, hc⟩
  clear y22_0 y22_1 y22_2 y22_3 y22_4 y22_5 y23_0 y23_1 y23_2 y23_3 y23_4 y23_5
  replace bxs := Lib.hid (bxs.out.below hc)
  replace bJ := Lib.hid (bJ.out.below hc)
  replace Vk := Lib.hid (Vk.out.below hc)
  replace Tk := Lib.hid (Tk.out.below hc)
  replace HB := Lib.hid (from_ HB.out hc)
  clear hc
  clear I4
  obtain ⟨y25_0, y25_1, y25_2, y25_3, y25_4, y25_5, _, _, _, _, _, _, _⟩ := id bJ.out
  obtain ⟨y26_0, y26_1, y26_2, y26_3, y26_4, y26_5, _, _, _, _, _, _, _⟩ := id bxs.out.2.2
  go_wp2_with fail
  refine (I5.out _ HB.out _ _ _ _ _ _ Vk.out Tk.out).mono ?_
  rintro e w27 ⟨rfl, hc⟩
  clear y25_0 y25_1 y25_2 y25_3 y25_4 y25_5 y26_0 y26_1 y26_2 y26_3 y26_4 y26_5
  clear bJ Vk Tk
  replace bxs := Lib.hid (bxs.out.below hc)
  replace HB := Lib.hid (from_ HB.out hc)
  clear hc
  clear I5
  have hbb : ob1 = false ∨ ob1 = true := by cases ob1 <;> simp
  have hcc : ob2 = false ∨ ob2 = true := by cases ob2 <;> simp
  rcases hbb with rfl | rfl <;> rcases hcc with rfl | rfl
  all_goals
    obtain ⟨y28_0, y28_1, y28_2, y28_3, y28_4, y28_5, _, _, _, _, _, _, _⟩ := id bxs.out.1
    obtain ⟨y29_0, y29_1, y29_2, y29_3, y29_4, y29_5, _, _, _, _, _, _, _⟩ := id bxs.out.2.1
    go_wp2_with fail
    refine (MT.out _ HB.out).mono ?_
    rintro e w30 ⟨Xm, xm, Ym, zm, rfl, vm, tm, hc⟩
    clear y28_0 y28_1 y28_2 y28_3 y28_4 y28_5 y29_0 y29_1 y29_2 y29_3 y29_4 y29_5
    go_upto_region 15 with fail
    have hax : Below w30.heap.size w30 (w30.alloc (.cells #[.bool m.n0, .bool m.s0, .slice Xm m.l0.length xm, .bool m.n1, .bool m.s1, .slice Ym m.l1.length zm] 29)) := (Below.refl _ _).alloc (Nat.le_refl _) _
    have bM := Lib.hid (Box6.new w30 (.bool m.n0) (.bool m.s0) (.slice Xm m.l0.length xm) (.bool m.n1) (.bool m.s1) (.slice Ym m.l1.length zm) 29)
    obtain ⟨gbM, hgbM⟩ : ∃ g, g = w30.heap.size := ⟨_, rfl⟩
    rw [← hgbM] at bM
    have hc8 := from_ hc hax
    have Vm := Lib.hid (vm.below hax)
    have Tm := Lib.hid (tm.below hax)
    replace bxs := Lib.hid (bxs.out.below hc8)
    replace HB := Lib.hid (from_ HB.out hc8)
    clear hc hax hc8 vm tm
    generalize hWx : w30.alloc (.cells #[.bool m.n0, .bool m.s0, .slice Xm m.l0.length xm, .bool m.n1, .bool m.s1, .slice Ym m.l1.length zm] 29) = W31 at *
    try simp only [← hgbM]
    clear hWx hgbM
    clear MT
    obtain ⟨y32_0, y32_1, y32_2, y32_3, y32_4, y32_5, _, _, _, _, _, _, _⟩ := id bxs.out.2.2
    obtain ⟨y33_0, y33_1, y33_2, y33_3, y33_4, y33_5, _, _, _, _, _, _, _⟩ := id bxs.out.1
    go_wp2_with fail
    refine (I6.out _ HB.out).mono ?_
    rintro e w34 ⟨rfl, hc⟩
    clear y32_0 y32_1 y32_2 y32_3 y32_4 y32_5 y33_0 y33_1 y33_2 y33_3 y33_4 y33_5
    replace bxs := Lib.hid (bxs.out.below hc)
    replace bM := Lib.hid (bM.out.below hc)
    replace Vm := Lib.hid (Vm.out.below hc)
    replace Tm := Lib.hid (Tm.out.below hc)
    replace HB := Lib.hid (from_ HB.out hc)
    clear hc
    clear I6
    obtain ⟨y35_0, y35_1, y35_2, y35_3, y35_4, y35_5, _, _, _, _, _, _, _⟩ := id bxs.out.2.2
    obtain ⟨y36_0, y36_1, y36_2, y36_3, y36_4, y36_5, _, _, _, _, _, _, _⟩ := id bxs.out.2.1
    go_wp2_with fail
    refine (I7.out _ HB.out).mono ?_
    rintro e w37 ⟨rfl, hc⟩
    clear y35_0 y35_1 y35_2 y35_3 y35_4 y35_5 y36_0 y36_1 y36_2 y36_3 y36_4 y36_5
    replace bxs := Lib.hid (bxs.out.below hc)
    replace bM := Lib.hid (bM.out.below hc)
    replace Vm := Lib.hid (Vm.out.below hc)
    replace Tm := Lib.hid (Tm.out.below hc)
    replace HB := Lib.hid (from_ HB.out hc)
    clear hc
    clear I7
    obtain ⟨y38_0, y38_1, y38_2, y38_3, y38_4, y38_5, _, _, _, _, _, _, _⟩ := id bxs.out.2.2
    obtain ⟨y39_0, y39_1, y39_2, y39_3, y39_4, y39_5, _, _, _, _, _, _, _⟩ := id bM.out
    go_wp2_with fail
    refine (I8.out _ HB.out _ _ _ _ _ _ Vm.out Tm.out).mono ?_
    rintro e w40 ⟨rfl, hc⟩
    clear y38_0 y38_1 y38_2 y38_3 y38_4 y38_5 y39_0 y39_1 y39_2 y39_3 y39_4 y39_5
    replace bxs := Lib.hid (bxs.out.below hc)
    replace bM := Lib.hid (bM.out.below hc)
    replace Vm := Lib.hid (Vm.out.below hc)
    replace Tm := Lib.hid (Tm.out.below hc)
    replace HB := Lib.hid (from_ HB.out hc)
    clear hc
    clear I8
    obtain ⟨y41_0, y41_1, y41_2, y41_3, y41_4, y41_5, _, _, _, _, _, _, _⟩ := id bM.out
    obtain ⟨y42_0, y42_1, y42_2, y42_3, y42_4, y42_5, _, _, _, _, _, _, _⟩ := id bxs.out.1
    go_wp2_with fail
    refine (I9.out _ HB.out _ _ _ _ _ _ Vm.out Tm.out).mono ?_
    rintro e w43 ⟨rfl, hc⟩
    clear y41_0 y41_1 y41_2 y41_3 y41_4 y41_5 y42_0 y42_1 y42_2 y42_3 y42_4 y42_5
    replace bxs := Lib.hid (bxs.out.below hc)
    replace bM := Lib.hid (bM.out.below hc)
    replace Vm := Lib.hid (Vm.out.below hc)
    replace Tm := Lib.hid (Tm.out.below hc)
    replace HB := Lib.hid (from_ HB.out hc)
    clear hc
    clear I9
    have hbb : ob4 = false ∨ ob4 = true := by cases ob4 <;> simp
    have hcc : ob5 = false ∨ ob5 = true := by cases ob5 <;> simp
    rcases hbb with rfl | rfl <;> rcases hcc with rfl | rfl
    all_goals
      go_wp2
      go_ret
      exact ⟨by first | rfl | trivial, HB.out⟩
theorem lawItvLattice {w : World} {a b c : Value} {p q r : Iv} (ha : IsItv w old a p) (hb : IsItv w old b q) (hc : IsItv w old c r) : Calls Try.prog 3 #[a, b, c] w fun e w' => e = .returned (.bool true) ∧ Below w.heap.size w w' := by
  by_cases k1 : gtI p 4 = true
  · exact lla_g1 ha hb hc k1
  · replace k1 := Bool.eq_false_iff.2 k1
    by_cases k2 : gtI q 4 = true
    · exact lla_g2 ha hb hc k1 k2
    · replace k2 := Bool.eq_false_iff.2 k2
      by_cases k3 : gtI r 4 = true
      · exact lla_g3 ha hb hc k1 k2 k3
      · replace k3 := Bool.eq_false_iff.2 k3
        by_cases h1 : p.ok = true
        · by_cases h2 : q.ok = true
          · by_cases h3 : r.ok = true
            · by_cases h4 : max p.lo q.lo ≤ min p.hi q.hi
              · exact lla_good ha hb hc k1 k2 k3 h1 h2 h3 h4
              · exact lla_none ha hb hc k1 k2 k3 h1 h2 h3 h4
            · exact lla_c ha hb hc k1 k2 k3 h1 h2 h3
          · exact lla_e ha hb hc k1 k2 k3 (fun _ h => h2 h)
        · exact lla_e ha hb hc k1 k2 k3 (fun h _ => h1 h)

end Go.Proofs.Ytennphechbngcaa
