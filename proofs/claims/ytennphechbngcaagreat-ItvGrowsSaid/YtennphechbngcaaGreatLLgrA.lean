/-
  facetroomlaw16.ItvGrows, walked. No conditions.
-/
import Derived.Test.YtennphechbngcaaGreatLItwU
import Derived.Test.YtennphechbngcaaGreatLLsdB
import Derived.Test.YtennphechbngcaaGreatLFrameI
namespace Go.Proofs.YtennphechbngcaaGreat
open Go.RowKit
set_option linter.unusedVariables false
set_option linter.unusedSimpArgs false

set_option maxRecDepth 100000 in
set_option maxHeartbeats 8000000 in
theorem lgr_g1 {w : World} {a b c : Value} {p q r : Iv} (ha : IsItv w old a p) (hb : IsItv w old b q) (hc : IsItv w old c r) (k1 : gtI p 4 = true) : Calls Tryz.prog 4 #[a, b, c] w fun e w' => e = .returned (.bool true) ∧ Below w.heap.size w w' := by
  obtain ⟨A0, a0, B0, b0, rfl, u0, u1⟩ := ha
  obtain ⟨A1, a1, B1, b1, rfl, u2, u3⟩ := hb
  obtain ⟨A2, a2, B2, b2, rfl, u4, u5⟩ := hc
  have AL := Lib.hid alive16
  have G1 := Lib.hid (fun (W : World) (h : Below w.heap.size w W) => g16_w (u0.below h) (u1.below h))
  rw [k1] at G1
  obtain ⟨hq, hb0⟩ := Q3.new w (.bool p.n0) (.bool p.s0) (.slice A0 p.l0.length a0) (.bool p.n1) (.bool p.s1) (.slice B0 p.l1.length b0) (.bool q.n0) (.bool q.s0) (.slice A1 q.l0.length a1) (.bool q.n1) (.bool q.s1) (.slice B1 q.l1.length b1) (.bool r.n0) (.bool r.s0) (.slice A2 r.l0.length a2) (.bool r.n1) (.bool r.s1) (.slice B2 r.l1.length b2) 29
  have bxs := Lib.hid hq
  have HB := Lib.hid hb0
  clear hq hb0
  clear u0 u1 u2 u3 u4 u5 k1
  go_enter Tryz.func4, Tryz.ntmps4
  go_wp2_with fail
  refine (AL.out _).mono ?_
  rintro e w1 ⟨rfl, hc⟩
  replace bxs := Lib.hid (bxs.out.below hc)
  replace HB := Lib.hid (from_ HB.out hc)
  clear hc
  clear AL
  obtain ⟨y1_0, y1_1, y1_2, y1_3, y1_4, y1_5, _, _, _, _, _, _, _⟩ := id bxs.out.1
  go_wp2_with fail
  refine (G1.out _ HB.out).mono ?_
  rintro e w2 ⟨rfl, hc⟩
  clear y1_0 y1_1 y1_2 y1_3 y1_4 y1_5
  replace bxs := Lib.hid (bxs.out.below hc)
  replace HB := Lib.hid (from_ HB.out hc)
  clear hc
  clear G1
  go_wp2
  go_ret
  exact ⟨by first | rfl | trivial, HB.out⟩
set_option maxRecDepth 100000 in
set_option maxHeartbeats 8000000 in
theorem lgr_g2 {w : World} {a b c : Value} {p q r : Iv} (ha : IsItv w old a p) (hb : IsItv w old b q) (hc : IsItv w old c r) (k1 : gtI p 4 = false) (k2 : gtI q 4 = true) : Calls Tryz.prog 4 #[a, b, c] w fun e w' => e = .returned (.bool true) ∧ Below w.heap.size w w' := by
  obtain ⟨A0, a0, B0, b0, rfl, u0, u1⟩ := ha
  obtain ⟨A1, a1, B1, b1, rfl, u2, u3⟩ := hb
  obtain ⟨A2, a2, B2, b2, rfl, u4, u5⟩ := hc
  have AL := Lib.hid alive16
  have G1 := Lib.hid (fun (W : World) (h : Below w.heap.size w W) => g16_w (u0.below h) (u1.below h))
  rw [k1] at G1
  have G2 := Lib.hid (fun (W : World) (h : Below w.heap.size w W) => g16_w (u2.below h) (u3.below h))
  rw [k2] at G2
  obtain ⟨hq, hb0⟩ := Q3.new w (.bool p.n0) (.bool p.s0) (.slice A0 p.l0.length a0) (.bool p.n1) (.bool p.s1) (.slice B0 p.l1.length b0) (.bool q.n0) (.bool q.s0) (.slice A1 q.l0.length a1) (.bool q.n1) (.bool q.s1) (.slice B1 q.l1.length b1) (.bool r.n0) (.bool r.s0) (.slice A2 r.l0.length a2) (.bool r.n1) (.bool r.s1) (.slice B2 r.l1.length b2) 29
  have bxs := Lib.hid hq
  have HB := Lib.hid hb0
  clear hq hb0
  clear u0 u1 u2 u3 u4 u5 k1 k2
  go_enter Tryz.func4, Tryz.ntmps4
  go_wp2_with fail
  refine (AL.out _).mono ?_
  rintro e w1 ⟨rfl, hc⟩
  replace bxs := Lib.hid (bxs.out.below hc)
  replace HB := Lib.hid (from_ HB.out hc)
  clear hc
  clear AL
  obtain ⟨y1_0, y1_1, y1_2, y1_3, y1_4, y1_5, _, _, _, _, _, _, _⟩ := id bxs.out.1
  go_wp2_with fail
  refine (G1.out _ HB.out).mono ?_
  rintro e w2 ⟨rfl, hc⟩
  clear y1_0 y1_1 y1_2 y1_3 y1_4 y1_5
  replace bxs := Lib.hid (bxs.out.below hc)
  replace HB := Lib.hid (from_ HB.out hc)
  clear hc
  clear G1
  obtain ⟨y3_0, y3_1, y3_2, y3_3, y3_4, y3_5, _, _, _, _, _, _, _⟩ := id bxs.out.2.1
  go_wp2_with fail
  refine (G2.out _ HB.out).mono ?_
  rintro e w4 ⟨rfl, hc⟩
  clear y3_0 y3_1 y3_2 y3_3 y3_4 y3_5
  replace bxs := Lib.hid (bxs.out.below hc)
  replace HB := Lib.hid (from_ HB.out hc)
  clear hc
  clear G2
  go_wp2
  go_ret
  exact ⟨by first | rfl | trivial, HB.out⟩
set_option maxRecDepth 100000 in
set_option maxHeartbeats 8000000 in
theorem lgr_g3 {w : World} {a b c : Value} {p q r : Iv} (ha : IsItv w old a p) (hb : IsItv w old b q) (hc : IsItv w old c r) (k1 : gtI p 4 = false) (k2 : gtI q 4 = false) (k3 : gtI r 4 = true) : Calls Tryz.prog 4 #[a, b, c] w fun e w' => e = .returned (.bool true) ∧ Below w.heap.size w w' := by
  obtain ⟨A0, a0, B0, b0, rfl, u0, u1⟩ := ha
  obtain ⟨A1, a1, B1, b1, rfl, u2, u3⟩ := hb
  obtain ⟨A2, a2, B2, b2, rfl, u4, u5⟩ := hc
  have AL := Lib.hid alive16
  have G1 := Lib.hid (fun (W : World) (h : Below w.heap.size w W) => g16_w (u0.below h) (u1.below h))
  rw [k1] at G1
  have G2 := Lib.hid (fun (W : World) (h : Below w.heap.size w W) => g16_w (u2.below h) (u3.below h))
  rw [k2] at G2
  have G3 := Lib.hid (fun (W : World) (h : Below w.heap.size w W) => g16_w (u4.below h) (u5.below h))
  rw [k3] at G3
  obtain ⟨hq, hb0⟩ := Q3.new w (.bool p.n0) (.bool p.s0) (.slice A0 p.l0.length a0) (.bool p.n1) (.bool p.s1) (.slice B0 p.l1.length b0) (.bool q.n0) (.bool q.s0) (.slice A1 q.l0.length a1) (.bool q.n1) (.bool q.s1) (.slice B1 q.l1.length b1) (.bool r.n0) (.bool r.s0) (.slice A2 r.l0.length a2) (.bool r.n1) (.bool r.s1) (.slice B2 r.l1.length b2) 29
  have bxs := Lib.hid hq
  have HB := Lib.hid hb0
  clear hq hb0
  clear u0 u1 u2 u3 u4 u5 k1 k2 k3
  go_enter Tryz.func4, Tryz.ntmps4
  go_wp2_with fail
  refine (AL.out _).mono ?_
  rintro e w1 ⟨rfl, hc⟩
  replace bxs := Lib.hid (bxs.out.below hc)
  replace HB := Lib.hid (from_ HB.out hc)
  clear hc
  clear AL
  obtain ⟨y1_0, y1_1, y1_2, y1_3, y1_4, y1_5, _, _, _, _, _, _, _⟩ := id bxs.out.1
  go_wp2_with fail
  refine (G1.out _ HB.out).mono ?_
  rintro e w2 ⟨rfl, hc⟩
  clear y1_0 y1_1 y1_2 y1_3 y1_4 y1_5
  replace bxs := Lib.hid (bxs.out.below hc)
  replace HB := Lib.hid (from_ HB.out hc)
  clear hc
  clear G1
  obtain ⟨y3_0, y3_1, y3_2, y3_3, y3_4, y3_5, _, _, _, _, _, _, _⟩ := id bxs.out.2.1
  go_wp2_with fail
  refine (G2.out _ HB.out).mono ?_
  rintro e w4 ⟨rfl, hc⟩
  clear y3_0 y3_1 y3_2 y3_3 y3_4 y3_5
  replace bxs := Lib.hid (bxs.out.below hc)
  replace HB := Lib.hid (from_ HB.out hc)
  clear hc
  clear G2
  obtain ⟨y5_0, y5_1, y5_2, y5_3, y5_4, y5_5, _, _, _, _, _, _, _⟩ := id bxs.out.2.2
  go_wp2_with fail
  refine (G3.out _ HB.out).mono ?_
  rintro e w6 ⟨rfl, hc⟩
  clear y5_0 y5_1 y5_2 y5_3 y5_4 y5_5
  replace bxs := Lib.hid (bxs.out.below hc)
  replace HB := Lib.hid (from_ HB.out hc)
  clear hc
  clear G3
  go_wp2
  go_ret
  exact ⟨by first | rfl | trivial, HB.out⟩
set_option maxRecDepth 100000 in
set_option maxHeartbeats 8000000 in
theorem lgr_e {w : World} {a b c : Value} {p q r : Iv} (ha : IsItv w old a p) (hb : IsItv w old b q) (hc : IsItv w old c r) (k1 : gtI p 4 = false) (k2 : gtI q 4 = false) (k3 : gtI r 4 = false) (he : ∃ E : Int, E ≠ 0 ∧ ∀ (w : World) (Z1 Z2 Z3 Z4 : Zone) (A B C D : Option Addr) (a b c d : Nat), U64s w Z1 A a p.l0 → U64s w Z2 B b p.l1 → U64s w Z3 C c q.l0 → U64s w Z4 D d q.l1 → Calls Tryz.prog 25 #[.agg #[.bool p.n0, .bool p.s0, .slice A p.l0.length a, .bool p.n1, .bool p.s1, .slice B p.l1.length b], .agg #[.bool q.n0, .bool q.s0, .slice C q.l0.length c, .bool q.n1, .bool q.s1, .slice D q.l1.length d]] w fun e w' => e = .returned (.tuple #[.agg #[.bool false, .bool false, .slice none 0 0, .bool false, .bool false, .slice none 0 0], .int .i64 E]) ∧ Below w.heap.size w w') : Calls Tryz.prog 4 #[a, b, c] w fun e w' => e = .returned (.bool true) ∧ Below w.heap.size w w' := by
  obtain ⟨A0, a0, B0, b0, rfl, u0, u1⟩ := ha
  obtain ⟨A1, a1, B1, b1, rfl, u2, u3⟩ := hb
  obtain ⟨A2, a2, B2, b2, rfl, u4, u5⟩ := hc
  have AL := Lib.hid alive16
  obtain ⟨m0, m1⟩ := gtI_no k1
  obtain ⟨m2, m3⟩ := gtI_no k2
  obtain ⟨m4, m5⟩ := gtI_no k3
  have G1 := Lib.hid (fun (W : World) (h : Below w.heap.size w W) => g16_w (u0.below h) (u1.below h))
  rw [k1] at G1
  have G2 := Lib.hid (fun (W : World) (h : Below w.heap.size w W) => g16_w (u2.below h) (u3.below h))
  rw [k2] at G2
  have G3 := Lib.hid (fun (W : World) (h : Below w.heap.size w W) => g16_w (u4.below h) (u5.below h))
  rw [k3] at G3
  obtain ⟨E, hE, hM⟩ := he
  have MT := Lib.hid (fun (W : World) (h : Below w.heap.size w W) => hM W _ _ _ _ _ _ _ _ _ _ _ _ (u0.below h) (u1.below h) (u2.below h) (u3.below h))
  have t1 : (E != 0) = true := bne_iff_ne.2 hE
  obtain ⟨hq, hb0⟩ := Q3.new w (.bool p.n0) (.bool p.s0) (.slice A0 p.l0.length a0) (.bool p.n1) (.bool p.s1) (.slice B0 p.l1.length b0) (.bool q.n0) (.bool q.s0) (.slice A1 q.l0.length a1) (.bool q.n1) (.bool q.s1) (.slice B1 q.l1.length b1) (.bool r.n0) (.bool r.s0) (.slice A2 r.l0.length a2) (.bool r.n1) (.bool r.s1) (.slice B2 r.l1.length b2) 29
  have bxs := Lib.hid hq
  have HB := Lib.hid hb0
  clear hq hb0
  clear u0 u1 u2 u3 u4 u5 k1 k2 k3 m0 m1 m2 m3 m4 m5 hE hM
  go_enter Tryz.func4, Tryz.ntmps4
  go_wp2_with fail
  refine (AL.out _).mono ?_
  rintro e w1 ⟨rfl, hc⟩
  replace bxs := Lib.hid (bxs.out.below hc)
  replace HB := Lib.hid (from_ HB.out hc)
  clear hc
  clear AL
  obtain ⟨y1_0, y1_1, y1_2, y1_3, y1_4, y1_5, _, _, _, _, _, _, _⟩ := id bxs.out.1
  go_wp2_with fail
  refine (G1.out _ HB.out).mono ?_
  rintro e w2 ⟨rfl, hc⟩
  clear y1_0 y1_1 y1_2 y1_3 y1_4 y1_5
  replace bxs := Lib.hid (bxs.out.below hc)
  replace HB := Lib.hid (from_ HB.out hc)
  clear hc
  clear G1
  obtain ⟨y3_0, y3_1, y3_2, y3_3, y3_4, y3_5, _, _, _, _, _, _, _⟩ := id bxs.out.2.1
  go_wp2_with fail
  refine (G2.out _ HB.out).mono ?_
  rintro e w4 ⟨rfl, hc⟩
  clear y3_0 y3_1 y3_2 y3_3 y3_4 y3_5
  replace bxs := Lib.hid (bxs.out.below hc)
  replace HB := Lib.hid (from_ HB.out hc)
  clear hc
  clear G2
  obtain ⟨y5_0, y5_1, y5_2, y5_3, y5_4, y5_5, _, _, _, _, _, _, _⟩ := id bxs.out.2.2
  go_wp2_with fail
  refine (G3.out _ HB.out).mono ?_
  rintro e w6 ⟨rfl, hc⟩
  clear y5_0 y5_1 y5_2 y5_3 y5_4 y5_5
  replace bxs := Lib.hid (bxs.out.below hc)
  replace HB := Lib.hid (from_ HB.out hc)
  clear hc
  clear G3
  obtain ⟨y7_0, y7_1, y7_2, y7_3, y7_4, y7_5, _, _, _, _, _, _, _⟩ := id bxs.out.1
  obtain ⟨y8_0, y8_1, y8_2, y8_3, y8_4, y8_5, _, _, _, _, _, _, _⟩ := id bxs.out.2.1
  go_wp2_with fail
  refine (MT.out _ HB.out).mono ?_
  rintro e w9 ⟨rfl, hc⟩
  clear y7_0 y7_1 y7_2 y7_3 y7_4 y7_5 y8_0 y8_1 y8_2 y8_3 y8_4 y8_5
  go_upto_region 5 with fail
  have hax : Below w9.heap.size w9 (w9.alloc (.cells #[.bool false, .bool false, .slice none 0 0, .bool false, .bool false, .slice none 0 0] 29)) := (Below.refl _ _).alloc (Nat.le_refl _) _
  have bL := Lib.hid (Box6.new w9 (.bool false) (.bool false) (.slice none 0 0) (.bool false) (.bool false) (.slice none 0 0) 29)
  obtain ⟨gbL, hgbL⟩ : ∃ g, g = w9.heap.size := ⟨_, rfl⟩
  rw [← hgbL] at bL
  have hc8 := from_ hc hax
  replace bxs := Lib.hid (bxs.out.below hc8)
  replace HB := Lib.hid (from_ HB.out hc8)
  clear hc hax hc8 
  generalize hWx : w9.alloc (.cells #[.bool false, .bool false, .slice none 0 0, .bool false, .bool false, .slice none 0 0] 29) = W10 at *
  try simp only [← hgbL]
  clear hWx hgbL
  clear MT
  go_wp2
  go_ret
  exact ⟨by first | rfl | trivial, HB.out⟩
set_option maxRecDepth 100000 in
set_option maxHeartbeats 8000000 in
theorem lgr_c {w : World} {a b c : Value} {p q r : Iv} (ha : IsItv w old a p) (hb : IsItv w old b q) (hc : IsItv w old c r) (k1 : gtI p 4 = false) (k2 : gtI q 4 = false) (k3 : gtI r 4 = false) (op : p.ok = true) (oq : q.ok = true) (hle : max p.lo q.lo ≤ min p.hi q.hi) (hbad : r.ok = true → False) : Calls Tryz.prog 4 #[a, b, c] w fun e w' => e = .returned (.bool true) ∧ Below w.heap.size w w' := by
  obtain ⟨A0, a0, B0, b0, rfl, u0, u1⟩ := ha
  obtain ⟨A1, a1, B1, b1, rfl, u2, u3⟩ := hb
  obtain ⟨A2, a2, B2, b2, rfl, u4, u5⟩ := hc
  have AL := Lib.hid alive16
  obtain ⟨m0, m1⟩ := gtI_no k1
  obtain ⟨m2, m3⟩ := gtI_no k2
  obtain ⟨m4, m5⟩ := gtI_no k3
  have G1 := Lib.hid (fun (W : World) (h : Below w.heap.size w W) => g16_w (u0.below h) (u1.below h))
  rw [k1] at G1
  have G2 := Lib.hid (fun (W : World) (h : Below w.heap.size w W) => g16_w (u2.below h) (u3.below h))
  rw [k2] at G2
  have G3 := Lib.hid (fun (W : World) (h : Below w.heap.size w W) => g16_w (u4.below h) (u5.below h))
  rw [k3] at G3
  obtain ⟨wp, gp⟩ := itw_of op u0.small u1.small m0 m1 (by omega)
  obtain ⟨wq, gq⟩ := itw_of oq u2.small u3.small m2 m3 (by omega)
  obtain ⟨k, hk⟩ : ∃ k, IvW (max p.lo q.lo, min p.hi q.hi) k := ⟨_, IvW.mk _⟩
  have gk : IvN 4 (max p.lo q.lo) (min p.hi q.hi) := ivn_meet (P := (p.lo, p.hi)) (Q := (q.lo, q.hi)) gp gq hle
  have MT := Lib.hid (fun (W : World) (h : Below w.heap.size w W) => imeetG_w wp (gp.up (by omega)) wq (gq.up (by omega)) (u0.below h) (u1.below h) (u2.below h) (u3.below h) hk hle)
  have kk := hk.k gk (by omega)
  have ML := Lib.hid (fun (W : World) (h : Below w.heap.size w W) (Z1 Z2 : Zone) (A B : Option Addr) (a b : Nat) (v1 : U64s W Z1 A a k.l0) (v2 : U64s W Z2 B b k.l1) => iMul_bad (n0 := k.n0) (s0 := k.s0) (n1 := k.n1) (s1 := k.s1) (m0 := r.n0) (t0 := r.s0) (m1 := r.n1) (t1 := r.s1) v1 v2 (u4.below h) (u5.below h) (fun _ hr => hbad hr) (by have := kk.q0; omega) (by have := kk.q1; omega) (by omega) (by omega))
  have MP := Lib.hid (fun (W : World) (h : Below w.heap.size w W) => iMul_bad (n0 := p.n0) (s0 := p.s0) (n1 := p.n1) (s1 := p.s1) (m0 := r.n0) (t0 := r.s0) (m1 := r.n1) (t1 := r.s1) (u0.below h) (u1.below h) (u4.below h) (u5.below h) (fun _ hr => hbad hr) (by omega) (by omega) (by omega) (by omega))
  obtain ⟨hq, hb0⟩ := Q3.new w (.bool p.n0) (.bool p.s0) (.slice A0 p.l0.length a0) (.bool p.n1) (.bool p.s1) (.slice B0 p.l1.length b0) (.bool q.n0) (.bool q.s0) (.slice A1 q.l0.length a1) (.bool q.n1) (.bool q.s1) (.slice B1 q.l1.length b1) (.bool r.n0) (.bool r.s0) (.slice A2 r.l0.length a2) (.bool r.n1) (.bool r.s1) (.slice B2 r.l1.length b2) 29
  have bxs := Lib.hid hq
  have HB := Lib.hid hb0
  clear hq hb0
  clear u0 u1 u2 u3 u4 u5 k1 k2 k3 m0 m1 m2 m3 m4 m5 op oq hle wp gp wq gq hk gk kk hbad
  go_enter Tryz.func4, Tryz.ntmps4
  go_wp2_with fail
  refine (AL.out _).mono ?_
  rintro e w1 ⟨rfl, hc⟩
  replace bxs := Lib.hid (bxs.out.below hc)
  replace HB := Lib.hid (from_ HB.out hc)
  clear hc
  clear AL
  obtain ⟨y1_0, y1_1, y1_2, y1_3, y1_4, y1_5, _, _, _, _, _, _, _⟩ := id bxs.out.1
  go_wp2_with fail
  refine (G1.out _ HB.out).mono ?_
  rintro e w2 ⟨rfl, hc⟩
  clear y1_0 y1_1 y1_2 y1_3 y1_4 y1_5
  replace bxs := Lib.hid (bxs.out.below hc)
  replace HB := Lib.hid (from_ HB.out hc)
  clear hc
  clear G1
  obtain ⟨y3_0, y3_1, y3_2, y3_3, y3_4, y3_5, _, _, _, _, _, _, _⟩ := id bxs.out.2.1
  go_wp2_with fail
  refine (G2.out _ HB.out).mono ?_
  rintro e w4 ⟨rfl, hc⟩
  clear y3_0 y3_1 y3_2 y3_3 y3_4 y3_5
  replace bxs := Lib.hid (bxs.out.below hc)
  replace HB := Lib.hid (from_ HB.out hc)
  clear hc
  clear G2
  obtain ⟨y5_0, y5_1, y5_2, y5_3, y5_4, y5_5, _, _, _, _, _, _, _⟩ := id bxs.out.2.2
  go_wp2_with fail
  refine (G3.out _ HB.out).mono ?_
  rintro e w6 ⟨rfl, hc⟩
  clear y5_0 y5_1 y5_2 y5_3 y5_4 y5_5
  replace bxs := Lib.hid (bxs.out.below hc)
  replace HB := Lib.hid (from_ HB.out hc)
  clear hc
  clear G3
  obtain ⟨y7_0, y7_1, y7_2, y7_3, y7_4, y7_5, _, _, _, _, _, _, _⟩ := id bxs.out.1
  obtain ⟨y8_0, y8_1, y8_2, y8_3, y8_4, y8_5, _, _, _, _, _, _, _⟩ := id bxs.out.2.1
  go_wp2_with fail
  refine (MT.out _ HB.out).mono ?_
  rintro e w9 ⟨Xk, xk, Yk, zk, rfl, vk, tk, hc⟩
  clear y7_0 y7_1 y7_2 y7_3 y7_4 y7_5 y8_0 y8_1 y8_2 y8_3 y8_4 y8_5
  go_upto_region 5 with fail
  have hax : Below w9.heap.size w9 (w9.alloc (.cells #[.bool k.n0, .bool k.s0, .slice Xk k.l0.length xk, .bool k.n1, .bool k.s1, .slice Yk k.l1.length zk] 29)) := (Below.refl _ _).alloc (Nat.le_refl _) _
  have bL := Lib.hid (Box6.new w9 (.bool k.n0) (.bool k.s0) (.slice Xk k.l0.length xk) (.bool k.n1) (.bool k.s1) (.slice Yk k.l1.length zk) 29)
  obtain ⟨gbL, hgbL⟩ : ∃ g, g = w9.heap.size := ⟨_, rfl⟩
  rw [← hgbL] at bL
  have hc8 := from_ hc hax
  have Vk := Lib.hid (vk.below hax)
  have Tk := Lib.hid (tk.below hax)
  replace bxs := Lib.hid (bxs.out.below hc8)
  replace HB := Lib.hid (from_ HB.out hc8)
  clear hc hax hc8 vk tk
  generalize hWx : w9.alloc (.cells #[.bool k.n0, .bool k.s0, .slice Xk k.l0.length xk, .bool k.n1, .bool k.s1, .slice Yk k.l1.length zk] 29) = W10 at *
  try simp only [← hgbL]
  clear hWx hgbL
  clear MT
  obtain ⟨y11_0, y11_1, y11_2, y11_3, y11_4, y11_5, _, _, _, _, _, _, _⟩ := id bxs.out.2.2
  obtain ⟨y12_0, y12_1, y12_2, y12_3, y12_4, y12_5, _, _, _, _, _, _, _⟩ := id bL.out
  go_wp2_with fail
  refine (ML.out _ HB.out _ _ _ _ _ _ Vk.out Tk.out).mono ?_
  rintro e w13 ⟨rfl, hc⟩
  clear y11_0 y11_1 y11_2 y11_3 y11_4 y11_5 y12_0 y12_1 y12_2 y12_3 y12_4 y12_5
  clear bL Vk Tk
  go_upto_region 8 with fail
  have hax : Below w13.heap.size w13 (w13.alloc (.cells #[.bool false, .bool false, .slice none 0 0, .bool false, .bool false, .slice none 0 0] 29)) := (Below.refl _ _).alloc (Nat.le_refl _) _
  have bP := Lib.hid (Box6.new w13 (.bool false) (.bool false) (.slice none 0 0) (.bool false) (.bool false) (.slice none 0 0) 29)
  obtain ⟨gbP, hgbP⟩ : ∃ g, g = w13.heap.size := ⟨_, rfl⟩
  rw [← hgbP] at bP
  have hc8 := from_ hc hax
  replace bxs := Lib.hid (bxs.out.below hc8)
  replace HB := Lib.hid (from_ HB.out hc8)
  clear hc hax hc8 
  generalize hWx : w13.alloc (.cells #[.bool false, .bool false, .slice none 0 0, .bool false, .bool false, .slice none 0 0] 29) = W14 at *
  try simp only [← hgbP]
  clear hWx hgbP
  clear ML
  obtain ⟨y15_0, y15_1, y15_2, y15_3, y15_4, y15_5, _, _, _, _, _, _, _⟩ := id bxs.out.1
  obtain ⟨y16_0, y16_1, y16_2, y16_3, y16_4, y16_5, _, _, _, _, _, _, _⟩ := id bxs.out.2.2
  go_wp2_with fail
  refine (MP.out _ HB.out).mono ?_
  rintro e w17 ⟨rfl, hc⟩
  clear y15_0 y15_1 y15_2 y15_3 y15_4 y15_5 y16_0 y16_1 y16_2 y16_3 y16_4 y16_5
  go_upto_region 9 with fail
  have hax : Below w17.heap.size w17 (w17.alloc (.cells #[.bool false, .bool false, .slice none 0 0, .bool false, .bool false, .slice none 0 0] 29)) := (Below.refl _ _).alloc (Nat.le_refl _) _
  have bQ := Lib.hid (Box6.new w17 (.bool false) (.bool false) (.slice none 0 0) (.bool false) (.bool false) (.slice none 0 0) 29)
  obtain ⟨gbQ, hgbQ⟩ : ∃ g, g = w17.heap.size := ⟨_, rfl⟩
  rw [← hgbQ] at bQ
  have hc8 := from_ hc hax
  replace bxs := Lib.hid (bxs.out.below hc8)
  replace bP := Lib.hid (bP.out.below hc8)
  replace HB := Lib.hid (from_ HB.out hc8)
  clear hc hax hc8 
  generalize hWx : w17.alloc (.cells #[.bool false, .bool false, .slice none 0 0, .bool false, .bool false, .slice none 0 0] 29) = W18 at *
  try simp only [← hgbQ]
  clear hWx hgbQ
  clear MP
  go_wp2
  go_ret
  exact ⟨by first | rfl | trivial, HB.out⟩

end Go.Proofs.YtennphechbngcaaGreat
