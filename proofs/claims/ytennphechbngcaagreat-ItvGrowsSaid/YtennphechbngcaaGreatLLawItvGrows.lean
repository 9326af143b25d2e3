/-
  facetroomlaw16.ItvGrows, walked. No conditions.
-/
import Derived.Test.YtennphechbngcaaGreatLLgrA
import Derived.Test.YtennphechbngcaaGreatLItwU
import Derived.Test.YtennphechbngcaaGreatLLsdB
import Derived.Test.YtennphechbngcaaGreatLFrameI
namespace Go.Proofs.YtennphechbngcaaGreat
open Go.RowKit
set_option linter.unusedVariables false
set_option linter.unusedSimpArgs false

set_option maxRecDepth 100000 in
set_option maxHeartbeats 8000000 in
theorem lgr_good {w : World} {a b c : Value} {p q r : Iv} (ha : IsItv w old a p) (hb : IsItv w old b q) (hc : IsItv w old c r) (k1 : gtI p 4 = false) (k2 : gtI q 4 = false) (k3 : gtI r 4 = false) (op : p.ok = true) (oq : q.ok = true) (hle : max p.lo q.lo ≤ min p.hi q.hi) (orr : r.ok = true) : Calls Tryz.prog 4 #[a, b, c] w fun e w' => e = .returned (.bool true) ∧ Below w.heap.size w w' := by
  obtain ⟨A0, a0, B0, b0, rfl, u0, u1⟩ := ha
  obtain ⟨A1, a1, B1, b1, rfl, u2, u3⟩ := hb
  obtain ⟨A2, a2, B2, b2, rfl, u4, u5⟩ := hc
  have AL := Lib.hid alive16
  obtain ⟨m0, m1⟩ := gtI_no k1
  obtain ⟨m2, m3⟩ := gtI_no k2
  obtain ⟨m4, m5⟩ := gtI_no k3
  have G1 := Lib.hid (fun (W : World) (h : Below w.heap.size w W) => g16_w (u0.below h) (u1.below h))
  rw [k1] at G1
  have G2 := Lib.hid (fun (W : World) (h : Below w.heap.size w W) => g16_w (u2.below h) (u3.below h))
  rw [k2] at G2
  have G3 := Lib.hid (fun (W : World) (h : Below w.heap.size w W) => g16_w (u4.below h) (u5.below h))
  rw [k3] at G3
  obtain ⟨wp, gp⟩ := itw_of op u0.small u1.small m0 m1 (by omega)
  obtain ⟨wq, gq⟩ := itw_of oq u2.small u3.small m2 m3 (by omega)
  obtain ⟨k, hk⟩ : ∃ k, IvW (max p.lo q.lo, min p.hi q.hi) k := ⟨_, IvW.mk _⟩
  have gk : IvN 4 (max p.lo q.lo) (min p.hi q.hi) := ivn_meet (P := (p.lo, p.hi)) (Q := (q.lo, q.hi)) gp gq hle
  have MT := Lib.hid (fun (W : World) (h : Below w.heap.size w W) => imeetG_w wp (gp.up (by omega)) wq (gq.up (by omega)) (u0.below h) (u1.below h) (u2.below h) (u3.below h) hk hle)
  obtain ⟨wr, gr⟩ := itw_of orr u4.small u5.small m4 m5 (by omega)
  have hs : subI (max p.lo q.lo, min p.hi q.hi) (p.lo, p.hi) := meet_sub (P := (p.lo, p.hi)) (Q := (q.lo, q.hi))
  obtain ⟨i1, j1, c1, d1, e1⟩ := mul_pair hk gk wp gp wr gr hs
  obtain ⟨i2, j2, c2, d2, e2⟩ := add_pair hk gk wp gp wr gr hs
  obtain ⟨E, i3, j3, i4, j4, hE, c3, d3, e3, c4, d4, e4⟩ := div_pair hk gk wp gp wr gr hs
  obtain ⟨E1, E2, i5, j5, x, hX, c5, d5, e5⟩ := shr_pair hk gk wp gp wr gr hs
  have HE := Lib.hid hE
  have HX := Lib.hid hX
  have MUL := Lib.hid (fun (W : World) (h : Below w.heap.size w W) => fun (Z1 Z2 : Zone) (A B : Option Addr) (a b : Nat) (v1 : U64s W Z1 A a k.l0) (v2 : U64s W Z2 B b k.l1) => c1 W _ _ _ _ _ _ _ _ _ _ _ _ v1 v2 (u4.below h) (u5.below h))
  have MUP := Lib.hid (fun (W : World) (h : Below w.heap.size w W) => d1 W _ _ _ _ _ _ _ _ _ _ _ _ (u0.below h) (u1.below h) (u4.below h) (u5.below h))
  have ADL := Lib.hid (fun (W : World) (h : Below w.heap.size w W) => fun (Z1 Z2 : Zone) (A B : Option Addr) (a b : Nat) (v1 : U64s W Z1 A a k.l0) (v2 : U64s W Z2 B b k.l1) => c2 W _ _ _ _ _ _ _ _ _ _ _ _ v1 v2 (u4.below h) (u5.below h))
  have ADP := Lib.hid (fun (W : World) (h : Below w.heap.size w W) => d2 W _ _ _ _ _ _ _ _ _ _ _ _ (u0.below h) (u1.below h) (u4.below h) (u5.below h))
  have DVL := Lib.hid (fun (W : World) (h : Below w.heap.size w W) => fun (Z1 Z2 : Zone) (A B : Option Addr) (a b : Nat) (v1 : U64s W Z1 A a k.l0) (v2 : U64s W Z2 B b k.l1) => c3 W _ _ _ _ _ _ _ _ _ _ _ _ v1 v2 (u4.below h) (u5.below h))
  have DVP := Lib.hid (fun (W : World) (h : Below w.heap.size w W) => d3 W _ _ _ _ _ _ _ _ _ _ _ _ (u0.below h) (u1.below h) (u4.below h) (u5.below h))
  have MOL := Lib.hid (fun (W : World) (h : Below w.heap.size w W) => fun (Z1 Z2 : Zone) (A B : Option Addr) (a b : Nat) (v1 : U64s W Z1 A a k.l0) (v2 : U64s W Z2 B b k.l1) => c4 W _ _ _ _ _ _ _ _ _ _ _ _ v1 v2 (u4.below h) (u5.below h))
  have MOP := Lib.hid (fun (W : World) (h : Below w.heap.size w W) => d4 W _ _ _ _ _ _ _ _ _ _ _ _ (u0.below h) (u1.below h) (u4.below h) (u5.below h))
  have SHL := Lib.hid (fun (W : World) (h : Below w.heap.size w W) => fun (Z1 Z2 : Zone) (A B : Option Addr) (a b : Nat) (v1 : U64s W Z1 A a k.l0) (v2 : U64s W Z2 B b k.l1) => c5 W _ _ _ _ _ _ _ _ _ _ _ _ (u4.below h) (u5.below h) v1 v2)
  have SHP := Lib.hid (fun (W : World) (h : Below w.heap.size w W) => d5 W _ _ _ _ _ _ _ _ _ _ _ _ (u4.below h) (u5.below h) (u0.below h) (u1.below h))
  have I1 := Lib.hid (fun (W : World) (Z1 Z2 Z3 Z4 : Zone) (A B C D : Option Addr) (a b c d : Nat) (u1 : U64s W Z1 A a i1.l0) (u2 : U64s W Z2 B b i1.l1) (u3 : U64s W Z3 C c j1.l0) (u4 : U64s W Z4 D d j1.l1) => e1 W _ _ _ _ _ _ _ _ _ _ _ _ u1 u2 u3 u4)
  have I2 := Lib.hid (fun (W : World) (Z1 Z2 Z3 Z4 : Zone) (A B C D : Option Addr) (a b c d : Nat) (u1 : U64s W Z1 A a i2.l0) (u2 : U64s W Z2 B b i2.l1) (u3 : U64s W Z3 C c j2.l0) (u4 : U64s W Z4 D d j2.l1) => e2 W _ _ _ _ _ _ _ _ _ _ _ _ u1 u2 u3 u4)
  have I3 := Lib.hid (fun (W : World) (Z1 Z2 Z3 Z4 : Zone) (A B C D : Option Addr) (a b c d : Nat) (u1 : U64s W Z1 A a i3.l0) (u2 : U64s W Z2 B b i3.l1) (u3 : U64s W Z3 C c j3.l0) (u4 : U64s W Z4 D d j3.l1) => e3 W _ _ _ _ _ _ _ _ _ _ _ _ u1 u2 u3 u4)
  have I4 := Lib.hid (fun (W : World) (Z1 Z2 Z3 Z4 : Zone) (A B C D : Option Addr) (a b c d : Nat) (u1 : U64s W Z1 A a i4.l0) (u2 : U64s W Z2 B b i4.l1) (u3 : U64s W Z3 C c j4.l0) (u4 : U64s W Z4 D d j4.l1) => e4 W _ _ _ _ _ _ _ _ _ _ _ _ u1 u2 u3 u4)
  have I5 := Lib.hid (fun (W : World) (Z1 Z2 Z3 Z4 : Zone) (A B C D : Option Addr) (a b c d : Nat) (u1 : U64s W Z1 A a i5.l0) (u2 : U64s W Z2 B b i5.l1) (u3 : U64s W Z3 C c j5.l0) (u4 : U64s W Z4 D d j5.l1) => e5 W _ _ _ _ _ _ _ _ _ _ _ _ u1 u2 u3 u4)
  obtain ⟨hq, hb0⟩ := Q3.new w (.bool p.n0) (.bool p.s0) (.slice A0 p.l0.length a0) (.bool p.n1) (.bool p.s1) (.slice B0 p.l1.length b0) (.bool q.n0) (.bool q.s0) (.slice A1 q.l0.length a1) (.bool q.n1) (.bool q.s1) (.slice B1 q.l1.length b1) (.bool r.n0) (.bool r.s0) (.slice A2 r.l0.length a2) (.bool r.n1) (.bool r.s1) (.slice B2 r.l1.length b2) 29
  have bxs := Lib.hid hq
  have HB := Lib.hid hb0
  clear hq hb0
  clear u0 u1 u2 u3 u4 u5 k1 k2 k3 m0 m1 m2 m3 m4 m5 op oq hle wp gp wq gq hk gk orr wr gr hs hE hX c1 d1 e1 c2 d2 e2 c3 d3 e3 c4 d4 e4 c5 d5 e5
  go_enter Tryz.func4, Tryz.ntmps4
  go_wp2_with fail
  refine (AL.out _).mono ?_
  rintro e w1 ⟨rfl, hc⟩
  replace bxs := Lib.hid (bxs.out.below hc)
  replace HB := Lib.hid (from_ HB.out hc)
  clear hc
  clear AL
  obtain ⟨y1_0, y1_1, y1_2, y1_3, y1_4, y1_5, _, _, _, _, _, _, _⟩ := id bxs.out.1
  go_wp2_with fail
  refine (G1.out _ HB.out).mono ?_
  rintro e w2 ⟨rfl, hc⟩
  clear y1_0 y1_1 y1_2 y1_3 y1_4 y1_5
  replace bxs := Lib.hid (bxs.out.below hc)
  replace HB := Lib.hid (from_ HB.out hc)
  clear hc
  clear G1
  obtain ⟨y3_0, y3_1, y3_2, y3_3, y3_4, y3_5, _, _, _, _, _, _, _⟩ := id bxs.out.2.1
  go_wp2_with fail
  refine (G2.out _ HB.out).mono ?_
  rintro e w4 ⟨rfl, hc⟩
  clear y3_0 y3_1 y3_2 y3_3 y3_4 y3_5
  replace bxs := Lib.hid (bxs.out.below hc)
  replace HB := Lib.hid (from_ HB.out hc)
  clear hc
  clear G2
  obtain ⟨y5_0, y5_1, y5_2, y5_3, y5_4, y5_5, _, _, _, _, _, _, _⟩ := id bxs.out.2.2
  go_wp2_with fail
  refine (G3.out _ HB.out).mono ?_
  rintro e w6 ⟨rfl, hc⟩
  clear y5_0 y5_1 y5_2 y5_3 y5_4 y5_5
  replace bxs := Lib.hid (bxs.out.below hc)
  replace HB := Lib.hid (from_ HB.out hc)
  clear hc
  clear G3
  obtain ⟨y7_0, y7_1, y7_2, y7_3, y7_4, y7_5, _, _, _, _, _, _, _⟩ := id bxs.out.1
  obtain ⟨y8_0, y8_1, y8_2, y8_3, y8_4, y8_5, _, _, _, _, _, _, _⟩ := id bxs.out.2.1
  go_wp2_with fail
  refine (MT.out _ HB.out).mono ?_
  rintro e w9 ⟨Xk, xk, Yk, zk, rfl, vk, tk, hc⟩
  clear y7_0 y7_1 y7_2 y7_3 y7_4 y7_5 y8_0 y8_1 y8_2 y8_3 y8_4 y8_5
  go_upto_region 5 with fail
  have hax : Below w9.heap.size w9 (w9.alloc (.cells #[.bool k.n0, .bool k.s0, .slice Xk k.l0.length xk, .bool k.n1, .bool k.s1, .slice Yk k.l1.length zk] 29)) := (Below.refl _ _).alloc (Nat.le_refl _) _
  have bL := Lib.hid (Box6.new w9 (.bool k.n0) (.bool k.s0) (.slice Xk k.l0.length xk) (.bool k.n1) (.bool k.s1) (.slice Yk k.l1.length zk) 29)
  obtain ⟨gbL, hgbL⟩ : ∃ g, g = w9.heap.size := ⟨_, rfl⟩
  rw [← hgbL] at bL
  have hc8 := from_ hc hax
  have Vk := Lib.hid (vk.below hax)
  have Tk := Lib.hid (tk.below hax)
  replace bxs := Lib.hid (bxs.out.below hc8)
  replace HB := Lib.hid (from_ HB.out hc8)
  clear hc hax hc8 vk tk
  generalize hWx : w9.alloc (.cells #[.bool k.n0, .bool k.s0, .slice Xk k.l0.length xk, .bool k.n1, .bool k.s1, .slice Yk k.l1.length zk] 29) = W10 at *
  try simp only [← hgbL]
  clear hWx hgbL
  clear MT
  obtain ⟨y11_0, y11_1, y11_2, y11_3, y11_4, y11_5, _, _, _, _, _, _, _⟩ := id bxs.out.2.2
  obtain ⟨y12_0, y12_1, y12_2, y12_3, y12_4, y12_5, _, _, _, _, _, _, _⟩ := id bL.out
  go_wp2_with fail
  refine (MUL.out _ HB.out _ _ _ _ _ _ Vk.out Tk.out).mono ?_
  rintro e w13 ⟨Xi, xi, Yi, zi, rfl, vi, ti, hc⟩
  clear y11_0 y11_1 y11_2 y11_3 y11_4 y11_5 y12_0 y12_1 y12_2 y12_3 y12_4 y12_5
  go_upto_region 8 with fail
  have hax : Below w13.heap.size w13 (w13.alloc (.cells #[.bool i1.n0, .bool i1.s0, .slice Xi i1.l0.length xi, .bool i1.n1, .bool i1.s1, .slice Yi i1.l1.length zi] 29)) := (Below.refl _ _).alloc (Nat.le_refl _) _
  have bP := Lib.hid (Box6.new w13 (.bool i1.n0) (.bool i1.s0) (.slice Xi i1.l0.length xi) (.bool i1.n1) (.bool i1.s1) (.slice Yi i1.l1.length zi) 29)
  obtain ⟨gbP, hgbP⟩ : ∃ g, g = w13.heap.size := ⟨_, rfl⟩
  rw [← hgbP] at bP
  have hc8 := from_ hc hax
  have hcz := hc.size
  have HbP := Lib.hid (show w.heap.size + 3 ≤ gbP by have h1 := bxs.out.2.2.lt; omega)
  have NbP_bL := Lib.hid (show gbP ≠ gbL by have h1 := bL.out.lt; omega)
  clear hcz
  have hcz := hc.size
  obtain ⟨YVk, hYVk, hZVk⟩ := Vk.out.away
  replace Vk := Lib.hid hYVk
  have GZVk := Lib.hid (fun (g : Nat) (hg : gbP ≤ g) => hZVk g (by omega))
  have ZVk_bP := Lib.hid (GZVk.out gbP (Nat.le_refl _))
  clear hYVk hZVk hcz
  have hcz := hc.size
  obtain ⟨YTk, hYTk, hZTk⟩ := Tk.out.away
  replace Tk := Lib.hid hYTk
  have GZTk := Lib.hid (fun (g : Nat) (hg : gbP ≤ g) => hZTk g (by omega))
  have ZTk_bP := Lib.hid (GZTk.out gbP (Nat.le_refl _))
  clear hYTk hZTk hcz
  have Vi := Lib.hid (vi.below hax)
  have Ti := Lib.hid (ti.below hax)
  replace bxs := Lib.hid (bxs.out.below hc8)
  replace bL := Lib.hid (bL.out.below hc8)
  replace Vk := Lib.hid (Vk.out.below hc8)
  replace Tk := Lib.hid (Tk.out.below hc8)
  replace HB := Lib.hid (from_ HB.out hc8)
  clear hc hax hc8 vi ti
  generalize hWx : w13.alloc (.cells #[.bool i1.n0, .bool i1.s0, .slice Xi i1.l0.length xi, .bool i1.n1, .bool i1.s1, .slice Yi i1.l1.length zi] 29) = W14 at *
  try simp only [← hgbP]
  clear hWx hgbP
  clear MUL
  obtain ⟨y15_0, y15_1, y15_2, y15_3, y15_4, y15_5, _, _, _, _, _, _, _⟩ := id bxs.out.1
  obtain ⟨y16_0, y16_1, y16_2, y16_3, y16_4, y16_5, _, _, _, _, _, _, _⟩ := id bxs.out.2.2
  go_wp2_with fail
  refine (MUP.out _ HB.out).mono ?_
  rintro e w17 ⟨Xj, xj, Yj, zj, rfl, vj, tj, hc⟩
  clear y15_0 y15_1 y15_2 y15_3 y15_4 y15_5 y16_0 y16_1 y16_2 y16_3 y16_4 y16_5
  go_upto_region 9 with fail
  have hax : Below w17.heap.size w17 (w17.alloc (.cells #[.bool j1.n0, .bool j1.s0, .slice Xj j1.l0.length xj, .bool j1.n1, .bool j1.s1, .slice Yj j1.l1.length zj] 29)) := (Below.refl _ _).alloc (Nat.le_refl _) _
  have bQ := Lib.hid (Box6.new w17 (.bool j1.n0) (.bool j1.s0) (.slice Xj j1.l0.length xj) (.bool j1.n1) (.bool j1.s1) (.slice Yj j1.l1.length zj) 29)
  obtain ⟨gbQ, hgbQ⟩ : ∃ g, g = w17.heap.size := ⟨_, rfl⟩
  rw [← hgbQ] at bQ
  have hc8 := from_ hc hax
  have hcz := hc.size
  have HbQ := Lib.hid (show w.heap.size + 3 ≤ gbQ by have h1 := bxs.out.2.2.lt; omega)
  have NbQ_bL := Lib.hid (show gbQ ≠ gbL by have h1 := bL.out.lt; omega)
  have NbQ_bP := Lib.hid (show gbQ ≠ gbP by have h1 := bP.out.lt; omega)
  clear hcz
  have ZVk_bQ := Lib.hid (GZVk.out gbQ (by have h1 := bP.out.lt; have h2 := hc.size; omega))
  have ZTk_bQ := Lib.hid (GZTk.out gbQ (by have h1 := bP.out.lt; have h2 := hc.size; omega))
  have NbP_bQ := Lib.hid (show gbP ≠ gbQ by have h1 := bP.out.lt; have h2 := hc.size; omega)
  have Vj := Lib.hid (vj.below hax)
  have Tj := Lib.hid (tj.below hax)
  replace bxs := Lib.hid (bxs.out.below hc8)
  replace bL := Lib.hid (bL.out.below hc8)
  replace bP := Lib.hid (bP.out.below hc8)
  replace Vk := Lib.hid (Vk.out.below hc8)
  replace Tk := Lib.hid (Tk.out.below hc8)
  replace Vi := Lib.hid (Vi.out.below hc8)
  replace Ti := Lib.hid (Ti.out.below hc8)
  replace HB := Lib.hid (from_ HB.out hc8)
  clear hc hax hc8 vj tj
  generalize hWx : w17.alloc (.cells #[.bool j1.n0, .bool j1.s0, .slice Xj j1.l0.length xj, .bool j1.n1, .bool j1.s1, .slice Yj j1.l1.length zj] 29) = W18 at *
  try simp only [← hgbQ]
  clear hWx hgbQ
  clear MUP
  obtain ⟨y19_0, y19_1, y19_2, y19_3, y19_4, y19_5, _, _, _, _, _, _, _⟩ := id bP.out
  obtain ⟨y20_0, y20_1, y20_2, y20_3, y20_4, y20_5, _, _, _, _, _, _, _⟩ := id bQ.out
  go_wp2_with fail
  refine (I1.out _ _ _ _ _ _ _ _ _ _ _ _ _ Vi.out Ti.out Vj.out Tj.out).mono ?_
  rintro e w21 ⟨rfl, hc⟩
  clear y19_0 y19_1 y19_2 y19_3 y19_4 y19_5 y20_0 y20_1 y20_2 y20_3 y20_4 y20_5
  clear Vi Ti Vj Tj
  replace bxs := Lib.hid (bxs.out.below hc)
  replace bL := Lib.hid (bL.out.below hc)
  replace bP := Lib.hid (bP.out.below hc)
  replace bQ := Lib.hid (bQ.out.below hc)
  replace Vk := Lib.hid (Vk.out.below hc)
  replace Tk := Lib.hid (Tk.out.below hc)
  replace HB := Lib.hid (from_ HB.out hc)
  clear hc
  clear I1
  obtain ⟨y23_0, y23_1, y23_2, y23_3, y23_4, y23_5, _, _, _, _, _, _, _⟩ := id bxs.out.2.2
  obtain ⟨y24_0, y24_1, y24_2, y24_3, y24_4, y24_5, _, _, _, _, _, _, _⟩ := id bL.out
  go_wp2_with fail
  refine (ADL.out _ HB.out _ _ _ _ _ _ Vk.out Tk.out).mono ?_
  rintro e w25 ⟨Xi, xi, Yi, zi, rfl, vi, ti, hc⟩
  clear y23_0 y23_1 y23_2 y23_3 y23_4 y23_5 y24_0 y24_1 y24_2 y24_3 y24_4 y24_5
  have hltg := bP.out.lt
  have hcz := hc.size
  have hltbQ := bQ.out.lt
  replace bxs := Lib.hid (bxs.out.below hc)
  replace bL := Lib.hid (bL.out.below hc)
  replace bP := Lib.hid (bP.out.below hc)
  replace bQ := Lib.hid (bQ.out.below hc)
  replace Vk := Lib.hid (Vk.out.below hc)
  replace Tk := Lib.hid (Tk.out.below hc)
  replace HB := Lib.hid (from_ HB.out hc)
  have hP := bP.out.put (w := w) HB.out (show w.heap.size ≤ gbP by have h1 := HbP.out; omega) (.bool i2.n0) (.bool i2.s0) (.slice Xi i2.l0.length xi) (.bool i2.n1) (.bool i2.s1) (.slice Yi i2.l1.length zi)
  have Sbxs := Lib.hid (bxs.out.st6 HbP.out (.bool i2.n0) (.bool i2.s0) (.slice Xi i2.l0.length xi) (.bool i2.n1) (.bool i2.s1) (.slice Yi i2.l1.length zi))
  have SbL := Lib.hid (bL.out.st6 (h := gbP) NbP_bL.out (.bool i2.n0) (.bool i2.s0) (.slice Xi i2.l0.length xi) (.bool i2.n1) (.bool i2.s1) (.slice Yi i2.l1.length zi))
  have SbQ := Lib.hid (bQ.out.st6 (h := gbP) NbP_bQ.out (.bool i2.n0) (.bool i2.s0) (.slice Xi i2.l0.length xi) (.bool i2.n1) (.bool i2.s1) (.slice Yi i2.l1.length zi))
  have SVi := Lib.hid (vi.set6 (g := gbP) (fun (h : _ ≤ gbP) => by omega) (.bool i2.n0) (.bool i2.s0) (.slice Xi i2.l0.length xi) (.bool i2.n1) (.bool i2.s1) (.slice Yi i2.l1.length zi))
  have STi := Lib.hid (ti.set6 (g := gbP) (fun (h : _ ≤ gbP) => by omega) (.bool i2.n0) (.bool i2.s0) (.slice Xi i2.l0.length xi) (.bool i2.n1) (.bool i2.s1) (.slice Yi i2.l1.length zi))
  have ZVi_bQ := Lib.hid (fun (h : (new w21.heap.size).blk gbQ) => (by have h' : w21.heap.size ≤ gbQ := h; omega : False))
  have ZTi_bQ := Lib.hid (fun (h : (new w21.heap.size).blk gbQ) => (by have h' : w21.heap.size ≤ gbQ := h; omega : False))
  have SVk := Lib.hid (Vk.out.set6 (g := gbP) ZVk_bP.out (.bool i2.n0) (.bool i2.s0) (.slice Xi i2.l0.length xi) (.bool i2.n1) (.bool i2.s1) (.slice Yi i2.l1.length zi))
  have STk := Lib.hid (Tk.out.set6 (g := gbP) ZTk_bP.out (.bool i2.n0) (.bool i2.s0) (.slice Xi i2.l0.length xi) (.bool i2.n1) (.bool i2.s1) (.slice Yi i2.l1.length zi))
  obtain ⟨q0, q1, q2, q3, q4, q5, f0, f1, f2, f3, f4, f5, _⟩ := id bP.out
  have SbP := Lib.hid hP.box
  have SHB := Lib.hid hP.bel
  clear hP hltg hcz hc vi ti
  go_upto_region 13 with fail
  clear q0 q1 q2 q3 q4 q5 f0 f1 f2 f3 f4 f5
  replace bxs := Sbxs
  clear Sbxs
  replace bL := SbL
  clear SbL
  replace bP := SbP
  clear SbP
  replace bQ := SbQ
  clear SbQ
  replace Vk := SVk
  clear SVk
  replace Tk := STk
  clear STk
  replace HB := SHB
  clear SHB
  have Vi := SVi
  clear SVi
  have Ti := STi
  clear STi
  generalize ((((((w25.setCell ⟨gbP, 0, none⟩ (.bool i2.n0)).setCell ⟨gbP, 1, none⟩ (.bool i2.s0)).setCell ⟨gbP, 2, none⟩ (.slice Xi i2.l0.length xi)).setCell ⟨gbP, 3, none⟩ (.bool i2.n1)).setCell ⟨gbP, 4, none⟩ (.bool i2.s1)).setCell ⟨gbP, 5, none⟩ (.slice Yi i2.l1.length zi)) = W22 at *
  clear ADL
  obtain ⟨y27_0, y27_1, y27_2, y27_3, y27_4, y27_5, _, _, _, _, _, _, _⟩ := id bxs.out.1
  obtain ⟨y28_0, y28_1, y28_2, y28_3, y28_4, y28_5, _, _, _, _, _, _, _⟩ := id bxs.out.2.2
  go_wp2_with fail
  refine (ADP.out _ HB.out).mono ?_
  rintro e w29 ⟨Xj, xj, Yj, zj, rfl, vj, tj, hc⟩
  clear y27_0 y27_1 y27_2 y27_3 y27_4 y27_5 y28_0 y28_1 y28_2 y28_3 y28_4 y28_5
  have hltg := bQ.out.lt
  have hcz := hc.size
  have hltbP := bP.out.lt
  replace bxs := Lib.hid (bxs.out.below hc)
  replace bL := Lib.hid (bL.out.below hc)
  replace bP := Lib.hid (bP.out.below hc)
  replace bQ := Lib.hid (bQ.out.below hc)
  replace Vk := Lib.hid (Vk.out.below hc)
  replace Tk := Lib.hid (Tk.out.below hc)
  replace Vi := Lib.hid (Vi.out.below hc)
  replace Ti := Lib.hid (Ti.out.below hc)
  replace HB := Lib.hid (from_ HB.out hc)
  have hP := bQ.out.put (w := w) HB.out (show w.heap.size ≤ gbQ by have h1 := HbQ.out; omega) (.bool j2.n0) (.bool j2.s0) (.slice Xj j2.l0.length xj) (.bool j2.n1) (.bool j2.s1) (.slice Yj j2.l1.length zj)
  have Sbxs := Lib.hid (bxs.out.st6 HbQ.out (.bool j2.n0) (.bool j2.s0) (.slice Xj j2.l0.length xj) (.bool j2.n1) (.bool j2.s1) (.slice Yj j2.l1.length zj))
  have SbL := Lib.hid (bL.out.st6 (h := gbQ) NbQ_bL.out (.bool j2.n0) (.bool j2.s0) (.slice Xj j2.l0.length xj) (.bool j2.n1) (.bool j2.s1) (.slice Yj j2.l1.length zj))
  have SbP := Lib.hid (bP.out.st6 (h := gbQ) NbQ_bP.out (.bool j2.n0) (.bool j2.s0) (.slice Xj j2.l0.length xj) (.bool j2.n1) (.bool j2.s1) (.slice Yj j2.l1.length zj))
  have SVj := Lib.hid (vj.set6 (g := gbQ) (fun (h : _ ≤ gbQ) => by omega) (.bool j2.n0) (.bool j2.s0) (.slice Xj j2.l0.length xj) (.bool j2.n1) (.bool j2.s1) (.slice Yj j2.l1.length zj))
  have STj := Lib.hid (tj.set6 (g := gbQ) (fun (h : _ ≤ gbQ) => by omega) (.bool j2.n0) (.bool j2.s0) (.slice Xj j2.l0.length xj) (.bool j2.n1) (.bool j2.s1) (.slice Yj j2.l1.length zj))
  have ZVj_bP := Lib.hid (fun (h : (new W22.heap.size).blk gbP) => (by have h' : W22.heap.size ≤ gbP := h; omega : False))
  have ZTj_bP := Lib.hid (fun (h : (new W22.heap.size).blk gbP) => (by have h' : W22.heap.size ≤ gbP := h; omega : False))
  have SVk := Lib.hid (Vk.out.set6 (g := gbQ) ZVk_bQ.out (.bool j2.n0) (.bool j2.s0) (.slice Xj j2.l0.length xj) (.bool j2.n1) (.bool j2.s1) (.slice Yj j2.l1.length zj))
  have STk := Lib.hid (Tk.out.set6 (g := gbQ) ZTk_bQ.out (.bool j2.n0) (.bool j2.s0) (.slice Xj j2.l0.length xj) (.bool j2.n1) (.bool j2.s1) (.slice Yj j2.l1.length zj))
  have SVi := Lib.hid (Vi.out.set6 (g := gbQ) ZVi_bQ.out (.bool j2.n0) (.bool j2.s0) (.slice Xj j2.l0.length xj) (.bool j2.n1) (.bool j2.s1) (.slice Yj j2.l1.length zj))
  have STi := Lib.hid (Ti.out.set6 (g := gbQ) ZTi_bQ.out (.bool j2.n0) (.bool j2.s0) (.slice Xj j2.l0.length xj) (.bool j2.n1) (.bool j2.s1) (.slice Yj j2.l1.length zj))
  obtain ⟨q0, q1, q2, q3, q4, q5, f0, f1, f2, f3, f4, f5, _⟩ := id bQ.out
  have SbQ := Lib.hid hP.box
  have SHB := Lib.hid hP.bel
  clear hP hltg hcz hc vj tj
  go_upto_region 14 with fail
  clear q0 q1 q2 q3 q4 q5 f0 f1 f2 f3 f4 f5
  replace bxs := Sbxs
  clear Sbxs
  replace bL := SbL
  clear SbL
  replace bP := SbP
  clear SbP
  replace bQ := SbQ
  clear SbQ
  replace Vk := SVk
  clear SVk
  replace Tk := STk
  clear STk
  replace Vi := SVi
  clear SVi
  replace Ti := STi
  clear STi
  replace HB := SHB
  clear SHB
  have Vj := SVj
  clear SVj
  have Tj := STj
  clear STj
  generalize ((((((w29.setCell ⟨gbQ, 0, none⟩ (.bool j2.n0)).setCell ⟨gbQ, 1, none⟩ (.bool j2.s0)).setCell ⟨gbQ, 2, none⟩ (.slice Xj j2.l0.length xj)).setCell ⟨gbQ, 3, none⟩ (.bool j2.n1)).setCell ⟨gbQ, 4, none⟩ (.bool j2.s1)).setCell ⟨gbQ, 5, none⟩ (.slice Yj j2.l1.length zj)) = W26 at *
  clear ADP
  obtain ⟨y30_0, y30_1, y30_2, y30_3, y30_4, y30_5, _, _, _, _, _, _, _⟩ := id bP.out
  obtain ⟨y31_0, y31_1, y31_2, y31_3, y31_4, y31_5, _, _, _, _, _, _, _⟩ := id bQ.out
  go_wp2_with fail
  refine (I2.out _ _ _ _ _ _ _ _ _ _ _ _ _ Vi.out Ti.out Vj.out Tj.out).mono ?_
  rintro e w32 ⟨rfl, hc⟩
  clear y30_0 y30_1 y30_2 y30_3 y30_4 y30_5 y31_0 y31_1 y31_2 y31_3 y31_4 y31_5
  clear Vi Ti Vj Tj
  replace bxs := Lib.hid (bxs.out.below hc)
  replace bL := Lib.hid (bL.out.below hc)
  replace bP := Lib.hid (bP.out.below hc)
  replace bQ := Lib.hid (bQ.out.below hc)
  replace Vk := Lib.hid (Vk.out.below hc)
  replace Tk := Lib.hid (Tk.out.below hc)
  replace HB := Lib.hid (from_ HB.out hc)
  clear hc
  clear I2
  obtain ⟨y34_0, y34_1, y34_2, y34_3, y34_4, y34_5, _, _, _, _, _, _, _⟩ := id bxs.out.2.2
  obtain ⟨y35_0, y35_1, y35_2, y35_3, y35_4, y35_5, _, _, _, _, _, _, _⟩ := id bL.out
  go_wp2_with fail
  refine (DVL.out _ HB.out _ _ _ _ _ _ Vk.out Tk.out).mono ?_
  rintro e w36 ⟨Xi, xi, Yi, zi, rfl, vi, ti, hc⟩
  clear y34_0 y34_1 y34_2 y34_3 y34_4 y34_5 y35_0 y35_1 y35_2 y35_3 y35_4 y35_5
  have hltg := bP.out.lt
  have hcz := hc.size
  have hltbQ := bQ.out.lt
  replace bxs := Lib.hid (bxs.out.below hc)
  replace bL := Lib.hid (bL.out.below hc)
  replace bP := Lib.hid (bP.out.below hc)
  replace bQ := Lib.hid (bQ.out.below hc)
  replace Vk := Lib.hid (Vk.out.below hc)
  replace Tk := Lib.hid (Tk.out.below hc)
  replace HB := Lib.hid (from_ HB.out hc)
  have hP := bP.out.put (w := w) HB.out (show w.heap.size ≤ gbP by have h1 := HbP.out; omega) (.bool i3.n0) (.bool i3.s0) (.slice Xi i3.l0.length xi) (.bool i3.n1) (.bool i3.s1) (.slice Yi i3.l1.length zi)
  have Sbxs := Lib.hid (bxs.out.st6 HbP.out (.bool i3.n0) (.bool i3.s0) (.slice Xi i3.l0.length xi) (.bool i3.n1) (.bool i3.s1) (.slice Yi i3.l1.length zi))
  have SbL := Lib.hid (bL.out.st6 (h := gbP) NbP_bL.out (.bool i3.n0) (.bool i3.s0) (.slice Xi i3.l0.length xi) (.bool i3.n1) (.bool i3.s1) (.slice Yi i3.l1.length zi))
  have SbQ := Lib.hid (bQ.out.st6 (h := gbP) NbP_bQ.out (.bool i3.n0) (.bool i3.s0) (.slice Xi i3.l0.length xi) (.bool i3.n1) (.bool i3.s1) (.slice Yi i3.l1.length zi))
  have SVi := Lib.hid (vi.set6 (g := gbP) (fun (h : _ ≤ gbP) => by omega) (.bool i3.n0) (.bool i3.s0) (.slice Xi i3.l0.length xi) (.bool i3.n1) (.bool i3.s1) (.slice Yi i3.l1.length zi))
  have STi := Lib.hid (ti.set6 (g := gbP) (fun (h : _ ≤ gbP) => by omega) (.bool i3.n0) (.bool i3.s0) (.slice Xi i3.l0.length xi) (.bool i3.n1) (.bool i3.s1) (.slice Yi i3.l1.length zi))
  have ZVi_bQ := Lib.hid (fun (h : (new w32.heap.size).blk gbQ) => (by have h' : w32.heap.size ≤ gbQ := h; omega : False))
  have ZTi_bQ := Lib.hid (fun (h : (new w32.heap.size).blk gbQ) => (by have h' : w32.heap.size ≤ gbQ := h; omega : False))
  have SVk := Lib.hid (Vk.out.set6 (g := gbP) ZVk_bP.out (.bool i3.n0) (.bool i3.s0) (.slice Xi i3.l0.length xi) (.bool i3.n1) (.bool i3.s1) (.slice Yi i3.l1.length zi))
  have STk := Lib.hid (Tk.out.set6 (g := gbP) ZTk_bP.out (.bool i3.n0) (.bool i3.s0) (.slice Xi i3.l0.length xi) (.bool i3.n1) (.bool i3.s1) (.slice Yi i3.l1.length zi))
  obtain ⟨q0, q1, q2, q3, q4, q5, f0, f1, f2, f3, f4, f5, _⟩ := id bP.out
  have SbP := Lib.hid hP.box
  have SHB := Lib.hid hP.bel
  clear hP hltg hcz hc vi ti
  go_upto_region 18 with fail
  clear q0 q1 q2 q3 q4 q5 f0 f1 f2 f3 f4 f5
  replace bxs := Sbxs
  clear Sbxs
  replace bL := SbL
  clear SbL
  replace bP := SbP
  clear SbP
  replace bQ := SbQ
  clear SbQ
  replace Vk := SVk
  clear SVk
  replace Tk := STk
  clear STk
  replace HB := SHB
  clear SHB
  have Vi := SVi
  clear SVi
  have Ti := STi
  clear STi
  generalize ((((((w36.setCell ⟨gbP, 0, none⟩ (.bool i3.n0)).setCell ⟨gbP, 1, none⟩ (.bool i3.s0)).setCell ⟨gbP, 2, none⟩ (.slice Xi i3.l0.length xi)).setCell ⟨gbP, 3, none⟩ (.bool i3.n1)).setCell ⟨gbP, 4, none⟩ (.bool i3.s1)).setCell ⟨gbP, 5, none⟩ (.slice Yi i3.l1.length zi)) = W33 at *
  clear DVL
  obtain ⟨y38_0, y38_1, y38_2, y38_3, y38_4, y38_5, _, _, _, _, _, _, _⟩ := id bxs.out.1
  obtain ⟨y39_0, y39_1, y39_2, y39_3, y39_4, y39_5, _, _, _, _, _, _, _⟩ := id bxs.out.2.2
  go_wp2_with fail
  refine (DVP.out _ HB.out).mono ?_
  rintro e w40 ⟨Xj, xj, Yj, zj, rfl, vj, tj, hc⟩
  clear y38_0 y38_1 y38_2 y38_3 y38_4 y38_5 y39_0 y39_1 y39_2 y39_3 y39_4 y39_5
  have hltg := bQ.out.lt
  have hcz := hc.size
  have hltbP := bP.out.lt
  replace bxs := Lib.hid (bxs.out.below hc)
  replace bL := Lib.hid (bL.out.below hc)
  replace bP := Lib.hid (bP.out.below hc)
  replace bQ := Lib.hid (bQ.out.below hc)
  replace Vk := Lib.hid (Vk.out.below hc)
  replace Tk := Lib.hid (Tk.out.below hc)
  replace Vi := Lib.hid (Vi.out.below hc)
  replace Ti := Lib.hid (Ti.out.below hc)
  replace HB := Lib.hid (from_ HB.out hc)
  have hP := bQ.out.put (w := w) HB.out (show w.heap.size ≤ gbQ by have h1 := HbQ.out; omega) (.bool j3.n0) (.bool j3.s0) (.slice Xj j3.l0.length xj) (.bool j3.n1) (.bool j3.s1) (.slice Yj j3.l1.length zj)
  have Sbxs := Lib.hid (bxs.out.st6 HbQ.out (.bool j3.n0) (.bool j3.s0) (.slice Xj j3.l0.length xj) (.bool j3.n1) (.bool j3.s1) (.slice Yj j3.l1.length zj))
  have SbL := Lib.hid (bL.out.st6 (h := gbQ) NbQ_bL.out (.bool j3.n0) (.bool j3.s0) (.slice Xj j3.l0.length xj) (.bool j3.n1) (.bool j3.s1) (.slice Yj j3.l1.length zj))
  have SbP := Lib.hid (bP.out.st6 (h := gbQ) NbQ_bP.out (.bool j3.n0) (.bool j3.s0) (.slice Xj j3.l0.length xj) (.bool j3.n1) (.bool j3.s1) (.slice Yj j3.l1.length zj))
  have SVj := Lib.hid (vj.set6 (g := gbQ) (fun (h : _ ≤ gbQ) => by omega) (.bool j3.n0) (.bool j3.s0) (.slice Xj j3.l0.length xj) (.bool j3.n1) (.bool j3.s1) (.slice Yj j3.l1.length zj))
  have STj := Lib.hid (tj.set6 (g := gbQ) (fun (h : _ ≤ gbQ) => by omega) (.bool j3.n0) (.bool j3.s0) (.slice Xj j3.l0.length xj) (.bool j3.n1) (.bool j3.s1) (.slice Yj j3.l1.length zj))
  have ZVj_bP := Lib.hid (fun (h : (new W33.heap.size).blk gbP) => (by have h' : W33.heap.size ≤ gbP := h; omega : False))
  have ZTj_bP := Lib.hid (fun (h : (new W33.heap.size).blk gbP) => (by have h' : W33.heap.size ≤ gbP := h; omega : False))
  have SVk := Lib.hid (Vk.out.set6 (g := gbQ) ZVk_bQ.out (.bool j3.n0) (.bool j3.s0) (.slice Xj j3.l0.length xj) (.bool j3.n1) (.bool j3.s1) (.slice Yj j3.l1.length zj))
  have STk := Lib.hid (Tk.out.set6 (g := gbQ) ZTk_bQ.out (.bool j3.n0) (.bool j3.s0) (.slice Xj j3.l0.length xj) (.bool j3.n1) (.bool j3.s1) (.slice Yj j3.l1.length zj))
  have SVi := Lib.hid (Vi.out.set6 (g := gbQ) ZVi_bQ.out (.bool j3.n0) (.bool j3.s0) (.slice Xj j3.l0.length xj) (.bool j3.n1) (.bool j3.s1) (.slice Yj j3.l1.length zj))
  have STi := Lib.hid (Ti.out.set6 (g := gbQ) ZTi_bQ.out (.bool j3.n0) (.bool j3.s0) (.slice Xj j3.l0.length xj) (.bool j3.n1) (.bool j3.s1) (.slice Yj j3.l1.length zj))
  obtain ⟨q0, q1, q2, q3, q4, q5, f0, f1, f2, f3, f4, f5, _⟩ := id bQ.out
  have SbQ := Lib.hid hP.box
  have SHB := Lib.hid hP.bel
  clear hP hltg hcz hc vj tj
  go_upto_region 19 with fail
  clear q0 q1 q2 q3 q4 q5 f0 f1 f2 f3 f4 f5
  replace bxs := Sbxs
  clear Sbxs
  replace bL := SbL
  clear SbL
  replace bP := SbP
  clear SbP
  replace bQ := SbQ
  clear SbQ
  replace Vk := SVk
  clear SVk
  replace Tk := STk
  clear STk
  replace Vi := SVi
  clear SVi
  replace Ti := STi
  clear STi
  replace HB := SHB
  clear SHB
  have Vj := SVj
  clear SVj
  have Tj := STj
  clear STj
  generalize ((((((w40.setCell ⟨gbQ, 0, none⟩ (.bool j3.n0)).setCell ⟨gbQ, 1, none⟩ (.bool j3.s0)).setCell ⟨gbQ, 2, none⟩ (.slice Xj j3.l0.length xj)).setCell ⟨gbQ, 3, none⟩ (.bool j3.n1)).setCell ⟨gbQ, 4, none⟩ (.bool j3.s1)).setCell ⟨gbQ, 5, none⟩ (.slice Yj j3.l1.length zj)) = W37 at *
  clear DVP
  obtain ⟨y41_0, y41_1, y41_2, y41_3, y41_4, y41_5, _, _, _, _, _, _, _⟩ := id bP.out
  obtain ⟨y42_0, y42_1, y42_2, y42_3, y42_4, y42_5, _, _, _, _, _, _, _⟩ := id bQ.out
  go_wp2_with fail
  refine (I3.out _ _ _ _ _ _ _ _ _ _ _ _ _ Vi.out Ti.out Vj.out Tj.out).mono ?_
  rintro e w43 ⟨rfl, hc⟩
  clear y41_0 y41_1 y41_2 y41_3 y41_4 y41_5 y42_0 y42_1 y42_2 y42_3 y42_4 y42_5
  clear Vi Ti Vj Tj
  replace bxs := Lib.hid (bxs.out.below hc)
  replace bL := Lib.hid (bL.out.below hc)
  replace bP := Lib.hid (bP.out.below hc)
  replace bQ := Lib.hid (bQ.out.below hc)
  replace Vk := Lib.hid (Vk.out.below hc)
  replace Tk := Lib.hid (Tk.out.below hc)
  replace HB := Lib.hid (from_ HB.out hc)
  clear hc
  clear I3
  rcases HE.out with rfl | rfl
  all_goals
    clear HE
    obtain ⟨y45_0, y45_1, y45_2, y45_3, y45_4, y45_5, _, _, _, _, _, _, _⟩ := id bxs.out.2.2
    obtain ⟨y46_0, y46_1, y46_2, y46_3, y46_4, y46_5, _, _, _, _, _, _, _⟩ := id bL.out
    go_wp2_with fail
    refine (MOL.out _ HB.out _ _ _ _ _ _ Vk.out Tk.out).mono ?_
    rintro e w47 ⟨Xi, xi, Yi, zi, rfl, vi, ti, hc⟩
    clear y45_0 y45_1 y45_2 y45_3 y45_4 y45_5 y46_0 y46_1 y46_2 y46_3 y46_4 y46_5
    have hltg := bP.out.lt
    have hcz := hc.size
    have hltbQ := bQ.out.lt
    replace bxs := Lib.hid (bxs.out.below hc)
    replace bL := Lib.hid (bL.out.below hc)
    replace bP := Lib.hid (bP.out.below hc)
    replace bQ := Lib.hid (bQ.out.below hc)
    replace Vk := Lib.hid (Vk.out.below hc)
    replace Tk := Lib.hid (Tk.out.below hc)
    replace HB := Lib.hid (from_ HB.out hc)
    have hP := bP.out.put (w := w) HB.out (show w.heap.size ≤ gbP by have h1 := HbP.out; omega) (.bool i4.n0) (.bool i4.s0) (.slice Xi i4.l0.length xi) (.bool i4.n1) (.bool i4.s1) (.slice Yi i4.l1.length zi)
    have Sbxs := Lib.hid (bxs.out.st6 HbP.out (.bool i4.n0) (.bool i4.s0) (.slice Xi i4.l0.length xi) (.bool i4.n1) (.bool i4.s1) (.slice Yi i4.l1.length zi))
    have SbL := Lib.hid (bL.out.st6 (h := gbP) NbP_bL.out (.bool i4.n0) (.bool i4.s0) (.slice Xi i4.l0.length xi) (.bool i4.n1) (.bool i4.s1) (.slice Yi i4.l1.length zi))
    have SbQ := Lib.hid (bQ.out.st6 (h := gbP) NbP_bQ.out (.bool i4.n0) (.bool i4.s0) (.slice Xi i4.l0.length xi) (.bool i4.n1) (.bool i4.s1) (.slice Yi i4.l1.length zi))
    have SVi := Lib.hid (vi.set6 (g := gbP) (fun (h : _ ≤ gbP) => by omega) (.bool i4.n0) (.bool i4.s0) (.slice Xi i4.l0.length xi) (.bool i4.n1) (.bool i4.s1) (.slice Yi i4.l1.length zi))
    have STi := Lib.hid (ti.set6 (g := gbP) (fun (h : _ ≤ gbP) => by omega) (.bool i4.n0) (.bool i4.s0) (.slice Xi i4.l0.length xi) (.bool i4.n1) (.bool i4.s1) (.slice Yi i4.l1.length zi))
    have ZVi_bQ := Lib.hid (fun (h : (new w43.heap.size).blk gbQ) => (by have h' : w43.heap.size ≤ gbQ := h; omega : False))
    have ZTi_bQ := Lib.hid (fun (h : (new w43.heap.size).blk gbQ) => (by have h' : w43.heap.size ≤ gbQ := h; omega : False))
    have SVk := Lib.hid (Vk.out.set6 (g := gbP) ZVk_bP.out (.bool i4.n0) (.bool i4.s0) (.slice Xi i4.l0.length xi) (.bool i4.n1) (.bool i4.s1) (.slice Yi i4.l1.length zi))
    have STk := Lib.hid (Tk.out.set6 (g := gbP) ZTk_bP.out (.bool i4.n0) (.bool i4.s0) (.slice Xi i4.l0.length xi) (.bool i4.n1) (.bool i4.s1) (.slice Yi i4.l1.length zi))
    obtain ⟨q0, q1, q2, q3, q4, q5, f0, f1, f2, f3, f4, f5, _⟩ := id bP.out
    have SbP := Lib.hid hP.box
    have SHB := Lib.hid hP.bel
    clear hP hltg hcz hc vi ti
    go_upto_region 23 with fail
    clear q0 q1 q2 q3 q4 q5 f0 f1 f2 f3 f4 f5
    replace bxs := Sbxs
    clear Sbxs
    replace bL := SbL
    clear SbL
    replace bP := SbP
    clear SbP
    replace bQ := SbQ
    clear SbQ
    replace Vk := SVk
    clear SVk
    replace Tk := STk
    clear STk
    replace HB := SHB
    clear SHB
    have Vi := SVi
    clear SVi
    have Ti := STi
    clear STi
    generalize ((((((w47.setCell ⟨gbP, 0, none⟩ (.bool i4.n0)).setCell ⟨gbP, 1, none⟩ (.bool i4.s0)).setCell ⟨gbP, 2, none⟩ (.slice Xi i4.l0.length xi)).setCell ⟨gbP, 3, none⟩ (.bool i4.n1)).setCell ⟨gbP, 4, none⟩ (.bool i4.s1)).setCell ⟨gbP, 5, none⟩ (.slice Yi i4.l1.length zi)) = W44 at *
    clear MOL
    obtain ⟨y49_0, y49_1, y49_2, y49_3, y49_4, y49_5, _, _, _, _, _, _, _⟩ := id bxs.out.1
    obtain ⟨y50_0, y50_1, y50_2, y50_3, y50_4, y50_5, _, _, _, _, _, _, _⟩ := id bxs.out.2.2
    go_wp2_with fail
    refine (MOP.out _ HB.out).mono ?_
    rintro e w51 ⟨Xj, xj, Yj, zj, rfl, vj, tj, hc⟩
    clear y49_0 y49_1 y49_2 y49_3 y49_4 y49_5 y50_0 y50_1 y50_2 y50_3 y50_4 y50_5
    have hltg := bQ.out.lt
    have hcz := hc.size
    have hltbP := bP.out.lt
    replace bxs := Lib.hid (bxs.out.below hc)
    replace bL := Lib.hid (bL.out.below hc)
    replace bP := Lib.hid (bP.out.below hc)
    replace bQ := Lib.hid (bQ.out.below hc)
    replace Vk := Lib.hid (Vk.out.below hc)
    replace Tk := Lib.hid (Tk.out.below hc)
    replace Vi := Lib.hid (Vi.out.below hc)
    replace Ti := Lib.hid (Ti.out.below hc)
    replace HB := Lib.hid (from_ HB.out hc)
    have hP := bQ.out.put (w := w) HB.out (show w.heap.size ≤ gbQ by have h1 := HbQ.out; omega) (.bool j4.n0) (.bool j4.s0) (.slice Xj j4.l0.length xj) (.bool j4.n1) (.bool j4.s1) (.slice Yj j4.l1.length zj)
    have Sbxs := Lib.hid (bxs.out.st6 HbQ.out (.bool j4.n0) (.bool j4.s0) (.slice Xj j4.l0.length xj) (.bool j4.n1) (.bool j4.s1) (.slice Yj j4.l1.length zj))
    have SbL := Lib.hid (bL.out.st6 (h := gbQ) NbQ_bL.out (.bool j4.n0) (.bool j4.s0) (.slice Xj j4.l0.length xj) (.bool j4.n1) (.bool j4.s1) (.slice Yj j4.l1.length zj))
    have SbP := Lib.hid (bP.out.st6 (h := gbQ) NbQ_bP.out (.bool j4.n0) (.bool j4.s0) (.slice Xj j4.l0.length xj) (.bool j4.n1) (.bool j4.s1) (.slice Yj j4.l1.length zj))
    have SVj := Lib.hid (vj.set6 (g := gbQ) (fun (h : _ ≤ gbQ) => by omega) (.bool j4.n0) (.bool j4.s0) (.slice Xj j4.l0.length xj) (.bool j4.n1) (.bool j4.s1) (.slice Yj j4.l1.length zj))
    have STj := Lib.hid (tj.set6 (g := gbQ) (fun (h : _ ≤ gbQ) => by omega) (.bool j4.n0) (.bool j4.s0) (.slice Xj j4.l0.length xj) (.bool j4.n1) (.bool j4.s1) (.slice Yj j4.l1.length zj))
    have ZVj_bP := Lib.hid (fun (h : (new W44.heap.size).blk gbP) => (by have h' : W44.heap.size ≤ gbP := h; omega : False))
    have ZTj_bP := Lib.hid (fun (h : (new W44.heap.size).blk gbP) => (by have h' : W44.heap.size ≤ gbP := h; omega : False))
    have SVk := Lib.hid (Vk.out.set6 (g := gbQ) ZVk_bQ.out (.bool j4.n0) (.bool j4.s0) (.slice Xj j4.l0.length xj) (.bool j4.n1) (.bool j4.s1) (.slice Yj j4.l1.length zj))
    have STk := Lib.hid (Tk.out.set6 (g := gbQ) ZTk_bQ.out (.bool j4.n0) (.bool j4.s0) (.slice Xj j4.l0.length xj) (.bool j4.n1) (.bool j4.s1) (.slice Yj j4.l1.length zj))
    have SVi := Lib.hid (Vi.out.set6 (g := gbQ) ZVi_bQ.out (.bool j4.n0) (.bool j4.s0) (.slice Xj j4.l0.length xj) (.bool j4.n1) (.bool j4.s1) (.slice Yj j4.l1.length zj))
    have STi := Lib.hid (Ti.out.set6 (g := gbQ) ZTi_bQ.out (.bool j4.n0) (.bool j4.s0) (.slice Xj j4.l0.length xj) (.bool j4.n1) (.bool j4.s1) (.slice Yj j4.l1.length zj))
    obtain ⟨q0, q1, q2, q3, q4, q5, f0, f1, f2, f3, f4, f5, _⟩ := id bQ.out
    have SbQ := Lib.hid hP.box
    have SHB := Lib.hid hP.bel
    clear hP hltg hcz hc vj tj
    go_upto_region 24 with fail
    clear q0 q1 q2 q3 q4 q5 f0 f1 f2 f3 f4 f5
    replace bxs := Sbxs
    clear Sbxs
    replace bL := SbL
    clear SbL
    replace bP := SbP
    clear SbP
    replace bQ := SbQ
    clear SbQ
    replace Vk := SVk
    clear SVk
    replace Tk := STk
    clear STk
    replace Vi := SVi
    clear SVi
    replace Ti := STi
    clear STi
    replace HB := SHB
    clear SHB
    have Vj := SVj
    clear SVj
    have Tj := STj
    clear STj
    generalize ((((((w51.setCell ⟨gbQ, 0, none⟩ (.bool j4.n0)).setCell ⟨gbQ, 1, none⟩ (.bool j4.s0)).setCell ⟨gbQ, 2, none⟩ (.slice Xj j4.l0.length xj)).setCell ⟨gbQ, 3, none⟩ (.bool j4.n1)).setCell ⟨gbQ, 4, none⟩ (.bool j4.s1)).setCell ⟨gbQ, 5, none⟩ (.slice Yj j4.l1.length zj)) = W48 at *
    clear MOP
    obtain ⟨y52_0, y52_1, y52_2, y52_3, y52_4, y52_5, _, _, _, _, _, _, _⟩ := id bP.out
    obtain ⟨y53_0, y53_1, y53_2, y53_3, y53_4, y53_5, _, _, _, _, _, _, _⟩ := id bQ.out
    go_wp2_with fail
    refine (I4.out _ _ _ _ _ _ _ _ _ _ _ _ _ Vi.out Ti.out Vj.out Tj.out).mono ?_
    rintro e w54 ⟨rfl, hc⟩
    clear y52_0 y52_1 y52_2 y52_3 y52_4 y52_5 y53_0 y53_1 y53_2 y53_3 y53_4 y53_5
    clear Vi Ti Vj Tj
    replace bxs := Lib.hid (bxs.out.below hc)
    replace bL := Lib.hid (bL.out.below hc)
    replace bP := Lib.hid (bP.out.below hc)
    replace bQ := Lib.hid (bQ.out.below hc)
    replace Vk := Lib.hid (Vk.out.below hc)
    replace Tk := Lib.hid (Tk.out.below hc)
    replace HB := Lib.hid (from_ HB.out hc)
    clear hc
    clear I4
    obtain ⟨y56_0, y56_1, y56_2, y56_3, y56_4, y56_5, _, _, _, _, _, _, _⟩ := id bxs.out.2.2
    obtain ⟨y57_0, y57_1, y57_2, y57_3, y57_4, y57_5, _, _, _, _, _, _, _⟩ := id bL.out
    go_wp2_with fail
    refine (SHL.out _ HB.out _ _ _ _ _ _ Vk.out Tk.out).mono ?_
    rintro e w58 ⟨Xi, xi, Yi, zi, rfl, vi, ti, hc⟩
    clear y56_0 y56_1 y56_2 y56_3 y56_4 y56_5 y57_0 y57_1 y57_2 y57_3 y57_4 y57_5
    have hltg := bP.out.lt
    have hcz := hc.size
    have hltbQ := bQ.out.lt
    replace bxs := Lib.hid (bxs.out.below hc)
    replace bL := Lib.hid (bL.out.below hc)
    replace bP := Lib.hid (bP.out.below hc)
    replace bQ := Lib.hid (bQ.out.below hc)
    replace Vk := Lib.hid (Vk.out.below hc)
    replace Tk := Lib.hid (Tk.out.below hc)
    replace HB := Lib.hid (from_ HB.out hc)
    have hP := bP.out.put (w := w) HB.out (show w.heap.size ≤ gbP by have h1 := HbP.out; omega) (.bool i5.n0) (.bool i5.s0) (.slice Xi i5.l0.length xi) (.bool i5.n1) (.bool i5.s1) (.slice Yi i5.l1.length zi)
    have Sbxs := Lib.hid (bxs.out.st6 HbP.out (.bool i5.n0) (.bool i5.s0) (.slice Xi i5.l0.length xi) (.bool i5.n1) (.bool i5.s1) (.slice Yi i5.l1.length zi))
    have SbL := Lib.hid (bL.out.st6 (h := gbP) NbP_bL.out (.bool i5.n0) (.bool i5.s0) (.slice Xi i5.l0.length xi) (.bool i5.n1) (.bool i5.s1) (.slice Yi i5.l1.length zi))
    have SbQ := Lib.hid (bQ.out.st6 (h := gbP) NbP_bQ.out (.bool i5.n0) (.bool i5.s0) (.slice Xi i5.l0.length xi) (.bool i5.n1) (.bool i5.s1) (.slice Yi i5.l1.length zi))
    have SVi := Lib.hid (vi.set6 (g := gbP) (fun (h : _ ≤ gbP) => by omega) (.bool i5.n0) (.bool i5.s0) (.slice Xi i5.l0.length xi) (.bool i5.n1) (.bool i5.s1) (.slice Yi i5.l1.length zi))
    have STi := Lib.hid (ti.set6 (g := gbP) (fun (h : _ ≤ gbP) => by omega) (.bool i5.n0) (.bool i5.s0) (.slice Xi i5.l0.length xi) (.bool i5.n1) (.bool i5.s1) (.slice Yi i5.l1.length zi))
    have ZVi_bQ := Lib.hid (fun (h : (new w54.heap.size).blk gbQ) => (by have h' : w54.heap.size ≤ gbQ := h; omega : False))
    have ZTi_bQ := Lib.hid (fun (h : (new w54.heap.size).blk gbQ) => (by have h' : w54.heap.size ≤ gbQ := h; omega : False))
    have SVk := Lib.hid (Vk.out.set6 (g := gbP) ZVk_bP.out (.bool i5.n0) (.bool i5.s0) (.slice Xi i5.l0.length xi) (.bool i5.n1) (.bool i5.s1) (.slice Yi i5.l1.length zi))
    have STk := Lib.hid (Tk.out.set6 (g := gbP) ZTk_bP.out (.bool i5.n0) (.bool i5.s0) (.slice Xi i5.l0.length xi) (.bool i5.n1) (.bool i5.s1) (.slice Yi i5.l1.length zi))
    obtain ⟨q0, q1, q2, q3, q4, q5, f0, f1, f2, f3, f4, f5, _⟩ := id bP.out
    have SbP := Lib.hid hP.box
    have SHB := Lib.hid hP.bel
    clear hP hltg hcz hc vi ti
    go_upto_region 28 with fail
    clear q0 q1 q2 q3 q4 q5 f0 f1 f2 f3 f4 f5
    replace bxs := Sbxs
    clear Sbxs
    replace bL := SbL
    clear SbL
    replace bP := SbP
    clear SbP
    replace bQ := SbQ
    clear SbQ
    replace Vk := SVk
    clear SVk
    replace Tk := STk
    clear STk
    replace HB := SHB
    clear SHB
    have Vi := SVi
    clear SVi
    have Ti := STi
    clear STi
    generalize ((((((w58.setCell ⟨gbP, 0, none⟩ (.bool i5.n0)).setCell ⟨gbP, 1, none⟩ (.bool i5.s0)).setCell ⟨gbP, 2, none⟩ (.slice Xi i5.l0.length xi)).setCell ⟨gbP, 3, none⟩ (.bool i5.n1)).setCell ⟨gbP, 4, none⟩ (.bool i5.s1)).setCell ⟨gbP, 5, none⟩ (.slice Yi i5.l1.length zi)) = W55 at *
    clear SHL
    obtain ⟨y60_0, y60_1, y60_2, y60_3, y60_4, y60_5, _, _, _, _, _, _, _⟩ := id bxs.out.2.2
    obtain ⟨y61_0, y61_1, y61_2, y61_3, y61_4, y61_5, _, _, _, _, _, _, _⟩ := id bxs.out.1
    go_wp2_with fail
    refine (SHP.out _ HB.out).mono ?_
    rintro e w62 ⟨Xj, xj, Yj, zj, rfl, vj, tj, hc⟩
    clear y60_0 y60_1 y60_2 y60_3 y60_4 y60_5 y61_0 y61_1 y61_2 y61_3 y61_4 y61_5
    have hltg := bQ.out.lt
    have hcz := hc.size
    have hltbP := bP.out.lt
    replace bxs := Lib.hid (bxs.out.below hc)
    replace bL := Lib.hid (bL.out.below hc)
    replace bP := Lib.hid (bP.out.below hc)
    replace bQ := Lib.hid (bQ.out.below hc)
    replace Vk := Lib.hid (Vk.out.below hc)
    replace Tk := Lib.hid (Tk.out.below hc)
    replace Vi := Lib.hid (Vi.out.below hc)
    replace Ti := Lib.hid (Ti.out.below hc)
    replace HB := Lib.hid (from_ HB.out hc)
    have hP := bQ.out.put (w := w) HB.out (show w.heap.size ≤ gbQ by have h1 := HbQ.out; omega) (.bool j5.n0) (.bool j5.s0) (.slice Xj j5.l0.length xj) (.bool j5.n1) (.bool j5.s1) (.slice Yj j5.l1.length zj)
    have Sbxs := Lib.hid (bxs.out.st6 HbQ.out (.bool j5.n0) (.bool j5.s0) (.slice Xj j5.l0.length xj) (.bool j5.n1) (.bool j5.s1) (.slice Yj j5.l1.length zj))
    have SbL := Lib.hid (bL.out.st6 (h := gbQ) NbQ_bL.out (.bool j5.n0) (.bool j5.s0) (.slice Xj j5.l0.length xj) (.bool j5.n1) (.bool j5.s1) (.slice Yj j5.l1.length zj))
    have SbP := Lib.hid (bP.out.st6 (h := gbQ) NbQ_bP.out (.bool j5.n0) (.bool j5.s0) (.slice Xj j5.l0.length xj) (.bool j5.n1) (.bool j5.s1) (.slice Yj j5.l1.length zj))
    have SVj := Lib.hid (vj.set6 (g := gbQ) (fun (h : _ ≤ gbQ) => by omega) (.bool j5.n0) (.bool j5.s0) (.slice Xj j5.l0.length xj) (.bool j5.n1) (.bool j5.s1) (.slice Yj j5.l1.length zj))
    have STj := Lib.hid (tj.set6 (g := gbQ) (fun (h : _ ≤ gbQ) => by omega) (.bool j5.n0) (.bool j5.s0) (.slice Xj j5.l0.length xj) (.bool j5.n1) (.bool j5.s1) (.slice Yj j5.l1.length zj))
    have ZVj_bP := Lib.hid (fun (h : (new W55.heap.size).blk gbP) => (by have h' : W55.heap.size ≤ gbP := h; omega : False))
    have ZTj_bP := Lib.hid (fun (h : (new W55.heap.size).blk gbP) => (by have h' : W55.heap.size ≤ gbP := h; omega : False))
    have SVk := Lib.hid (Vk.out.set6 (g := gbQ) ZVk_bQ.out (.bool j5.n0) (.bool j5.s0) (.slice Xj j5.l0.length xj) (.bool j5.n1) (.bool j5.s1) (.slice Yj j5.l1.length zj))
    have STk := Lib.hid (Tk.out.set6 (g := gbQ) ZTk_bQ.out (.bool j5.n0) (.bool j5.s0) (.slice Xj j5.l0.length xj) (.bool j5.n1) (.bool j5.s1) (.slice Yj j5.l1.length zj))
    have SVi := Lib.hid (Vi.out.set6 (g := gbQ) ZVi_bQ.out (.bool j5.n0) (.bool j5.s0) (.slice Xj j5.l0.length xj) (.bool j5.n1) (.bool j5.s1) (.slice Yj j5.l1.length zj))
    have STi := Lib.hid (Ti.out.set6 (g := gbQ) ZTi_bQ.out (.bool j5.n0) (.bool j5.s0) (.slice Xj j5.l0.length xj) (.bool j5.n1) (.bool j5.s1) (.slice Yj j5.l1.length zj))
    obtain ⟨q0, q1, q2, q3, q4, q5, f0, f1, f2, f3, f4, f5, _⟩ := id bQ.out
    have SbQ := Lib.hid hP.box
    have SHB := Lib.hid hP.bel
    clear hP hltg hcz hc vj tj
    go_upto_region 29 with fail
    clear q0 q1 q2 q3 q4 q5 f0 f1 f2 f3 f4 f5
    replace bxs := Sbxs
    clear Sbxs
    replace bL := SbL
    clear SbL
    replace bP := SbP
    clear SbP
    replace bQ := SbQ
    clear SbQ
    replace Vk := SVk
    clear SVk
    replace Tk := STk
    clear STk
    replace Vi := SVi
    clear SVi
    replace Ti := STi
    clear STi
    replace HB := SHB
    clear SHB
    have Vj := SVj
    clear SVj
    have Tj := STj
    clear STj
    generalize ((((((w62.setCell ⟨gbQ, 0, none⟩ (.bool j5.n0)).setCell ⟨gbQ, 1, none⟩ (.bool j5.s0)).setCell ⟨gbQ, 2, none⟩ (.slice Xj j5.l0.length xj)).setCell ⟨gbQ, 3, none⟩ (.bool j5.n1)).setCell ⟨gbQ, 4, none⟩ (.bool j5.s1)).setCell ⟨gbQ, 5, none⟩ (.slice Yj j5.l1.length zj)) = W59 at *
    clear SHP
    obtain ⟨y63_0, y63_1, y63_2, y63_3, y63_4, y63_5, _, _, _, _, _, _, _⟩ := id bP.out
    obtain ⟨y64_0, y64_1, y64_2, y64_3, y64_4, y64_5, _, _, _, _, _, _, _⟩ := id bQ.out
    go_wp2_with fail
    refine (I5.out _ _ _ _ _ _ _ _ _ _ _ _ _ Vi.out Ti.out Vj.out Tj.out).mono ?_
    rintro e w65 ⟨rfl, hc⟩
    clear y63_0 y63_1 y63_2 y63_3 y63_4 y63_5 y64_0 y64_1 y64_2 y64_3 y64_4 y64_5
    clear Vi Ti Vj Tj
    replace bxs := Lib.hid (bxs.out.below hc)
    replace bL := Lib.hid (bL.out.below hc)
    replace bP := Lib.hid (bP.out.below hc)
    replace bQ := Lib.hid (bQ.out.below hc)
    replace Vk := Lib.hid (Vk.out.below hc)
    replace Tk := Lib.hid (Tk.out.below hc)
    replace HB := Lib.hid (from_ HB.out hc)
    clear hc
    clear I5
    rcases HX.out with t1 | ⟨t1, t2, rfl⟩
    all_goals
      clear HX
      go_wp2
      go_ret
      exact ⟨by first | rfl | trivial, HB.out⟩
theorem lawItvGrows {w : World} {a b c : Value} {p q r : Iv} (ha : IsItv w old a p) (hb : IsItv w old b q) (hc : IsItv w old c r) : Calls Tryz.prog 4 #[a, b, c] w fun e w' => e = .returned (.bool true) ∧ Below w.heap.size w w' := by
  by_cases k1 : gtI p 4 = true
  · exact lgr_g1 ha hb hc k1
  · replace k1 := Bool.eq_false_iff.2 k1
    by_cases k2 : gtI q 4 = true
    · exact lgr_g2 ha hb hc k1 k2
    · replace k2 := Bool.eq_false_iff.2 k2
      by_cases k3 : gtI r 4 = true
      · exact lgr_g3 ha hb hc k1 k2 k3
      · replace k3 := Bool.eq_false_iff.2 k3
        have sp : Small p.l0 ∧ Small p.l1 := by obtain ⟨_, _, _, _, _, u, v⟩ := ha; exact ⟨u.small, v.small⟩
        have sq : Small q.l0 ∧ Small q.l1 := by obtain ⟨_, _, _, _, _, u, v⟩ := hb; exact ⟨u.small, v.small⟩
        rcases imeetE_any (gtI_no k1) (gtI_no k2) sp sq with he | ⟨h1, h2, h3⟩
        · exact lgr_e ha hb hc k1 k2 k3 he
        · by_cases h4 : r.ok = true
          · exact lgr_good ha hb hc k1 k2 k3 h1 h2 h3 h4
          · exact lgr_c ha hb hc k1 k2 k3 h1 h2 h3 h4

end Go.Proofs.YtennphechbngcaaGreat
