/-
  Intervals, the document's: Both and Either. No conditions but bounds on lengths.
-/
import Derived.Deep.DeepCutAuto
import Derived.Test.YtennphechbngcaaMLinB
namespace Go.Proofs.Ytennphechbngcaa
open Go.RowKit
set_option linter.unusedVariables false
set_option linter.unusedSimpArgs false


set_option maxRecDepth 100000 in
set_option maxHeartbeats 16000000 in
theorem r16either_w {w : World} {Z1 Z2 Z3 Z4 : Zone} {n0 s0 n1 s1 m0 t0 m1 t1 : Bool} {l0 l1 k0 k1 : List Nat} {A B C D : Option Addr} {a b c d : Nat}
    (u1 : U64s w Z1 A a l0) (u2 : U64s w Z2 B b l1) (u3 : U64s w Z3 C c k0) (u4 : U64s w Z4 D d k1) (h1 : okE n0 s0 l0 = true) (h2 : okE n1 s1 l1 = true) (h3 : okE m0 t0 k0 = true) (h4 : okE m1 t1 k1 = true)
    (q1 : l0.length ≤ 60) (q2 : l1.length ≤ 60) (q3 : k0.length ≤ 60) (q4 : k1.length ≤ 60) {z0 z1 : Int} {rn0 rs0 rn1 rs1 : Bool} {rl0 rl1 : List Nat} (hz0 : z0 = min (loV n0 s0 l0) (loV m0 t0 k0)) (hz1 : z1 = max (hiV n1 s1 l1) (hiV m1 t1 k1)) (e0 : EndL z0 rn0 rs0 rl0) (e1 : EndH z1 rn1 rs1 rl1) :
    Calls Try.prog 42 #[.agg #[.bool n0, .bool s0, .slice A l0.length a, .bool n1, .bool s1, .slice B l1.length b], .agg #[.bool m0, .bool t0, .slice C k0.length c, .bool m1, .bool t1, .slice D k1.length d]] w fun e w' => ∃ rA ra rB rb, e = .returned (.agg #[.bool rn0, .bool rs0, .slice rA rl0.length ra, .bool rn1, .bool rs1, .slice rB rl1.length rb]) ∧ U64s w' old rA ra rl0 ∧ U64s w' old rB rb rl1 ∧ Below w.heap.size w w' := by
  have x0 := okE_lo h1 u1.small q1
  have x1 := okE_hi h2 u2.small q2
  have y0 := okE_lo h3 u3.small q3
  have y1 := okE_hi h4 u4.small q4
  have i0 := lo_range (n := n0) (s := s0) u1.small q1
  have i1 := hi_range (n := n1) (s := s1) u2.small q2
  have j0 := lo_range (n := m0) (s := t0) u3.small q3
  have j1 := hi_range (n := m1) (s := t1) u4.small q4
  obtain ⟨bA, bB, bR, bO, hB0⟩ := boxW w (.bool n0) (.bool s0) (.slice A l0.length a) (.bool n1) (.bool s1) (.slice B l1.length b) (.bool m0) (.bool t0) (.slice C k0.length c) (.bool m1) (.bool t1) (.slice D k1.length d) (.bool false) (.bool false) (.slice none 0 0) (.bool false) (.bool false) (.slice none 0 0) (.bool n0) (.bool s0) (.slice A l0.length a) (.bool n1) (.bool s1) (.slice B l1.length b) 29
  have U1 := Lib.hid u1
  have U2 := Lib.hid u2
  have U3 := Lib.hid u3
  have U4 := Lib.hid u4
  obtain ⟨g1, hg1⟩ : ∃ g, sgn (zof t0 k0 - zof s0 l0) = g := ⟨_, rfl⟩
  obtain ⟨g2, hg2⟩ : ∃ g, sgn (zof t1 k1 - zof s1 l1) = g := ⟨_, rfl⟩
  have o1 : (g1 ≤ 0 ↔ zof t0 k0 ≤ zof s0 l0) ∧ (0 ≤ g1 ↔ zof s0 l0 ≤ zof t0 k0) := by rw [← hg1]; unfold sgn; constructor <;> (split <;> (try split) <;> omega)
  have o2 : (g2 ≤ 0 ↔ zof t1 k1 ≤ zof s1 l1) ∧ (0 ≤ g2 ↔ zof s1 l1 ≤ zof t1 k1) := by rw [← hg2]; unfold sgn; constructor <;> (split <;> (try split) <;> omega)
  have C1 := Lib.hid (fun (W : World) (h : Below w.heap.size w W) (hn : n0 = false) (hm : m0 = false) => cmp5_w (U3.out.below h) (U1.out.below h) (by rw [hm] at h3; exact h3) (by rw [hn] at h1; exact h1) q3 q1 hg1)
  have C2 := Lib.hid (fun (W : World) (h : Below w.heap.size w W) (hn : n1 = false) (hm : m1 = false) => cmp5_w (U4.out.below h) (U2.out.below h) (by rw [hm] at h4; exact h4) (by rw [hn] at h2; exact h2) q4 q2 hg2)
  clear u1 u2 u3 u4 hg1 hg2 h1 h2 h3 h4 q1 q2 q3 q4
  have HL : (m0 = true) ∨ (m0 = false ∧ n0 = true) ∨ (m0 = false ∧ n0 = false ∧ g1 < 0) ∨ (m0 = false ∧ n0 = false ∧ ¬ g1 < 0) := by
    cases m0 <;> cases n0 <;> by_cases h : g1 < 0 <;> simp [h]
  have HH : (m1 = true) ∨ (m1 = false ∧ n1 = true) ∨ (m1 = false ∧ n1 = false ∧ 0 < g2) ∨ (m1 = false ∧ n1 = false ∧ ¬ 0 < g2) := by
    cases m1 <;> cases n1 <;> by_cases h : 0 < g2 <;> simp [h]
  rcases HL with rfl | ⟨rfl, rfl⟩ | ⟨rfl, rfl, hc1⟩ | ⟨rfl, rfl, hc1⟩ <;> rcases HH with rfl | ⟨rfl, rfl⟩ | ⟨rfl, rfl, hc2⟩ | ⟨rfl, rfl, hc2⟩
  · have ez : z0 = loV true t0 k0 := by rw [hz0]; have r0 := i0; have r1 := j0; simp only [loV, cond_true, cond_false] at r0 r1 ⊢; omega
    obtain ⟨rfl, rfl, rfl⟩ := e0.same y0 ez
    have ey : z1 = hiV true t1 k1 := by rw [hz1]; have r0 := i1; have r1 := j1; simp only [hiV, cond_true, cond_false] at r0 r1 ⊢; omega
    obtain ⟨rfl, rfl, rfl⟩ := e1.same y1 ey
    clear ez ey e0 e1 hz0 hz1 x0 x1 y0 y1 i0 i1 j0 j1 o1 o2
    go_enter Try.func42, Try.ntmps42
    go_upto_region 2 with fail
    generalize ((((w.alloc (.cells #[.bool n0, .bool s0, .slice A l0.length a, .bool n1, .bool s1, .slice B l1.length b] 29)).alloc (.cells #[.bool true, .bool t0, .slice C k0.length c, .bool true, .bool t1, .slice D k1.length d] 29)).alloc (.cells #[.bool false, .bool false, .slice none 0 0, .bool false, .bool false, .slice none 0 0] 29)).alloc (.cells #[.bool n0, .bool s0, .slice A l0.length a, .bool n1, .bool s1, .slice B l1.length b] 29)) = W at *
    have HB := Lib.hid hB0
    clear hB0
    have KA := Lib.hid bA; have KB := Lib.hid bB; have KR := Lib.hid bR; have KO := Lib.hid bO
    obtain ⟨a0, a1, a2, a3, a4, a5, _, _, _, _, _, _, _⟩ := bA
    obtain ⟨b0, b1, b2, b3, b4, b5, _, _, _, _, _, _, _⟩ := bB
    obtain ⟨p0, p1, p2, p3, p4, p5, pf0, pf1, pf2, pf3, pf4, pf5, _⟩ := bO
    go_upto_region 4 with fail
    clear a0 a1 a2 a3 a4 a5 b0 b1 b2 b3 b4 b5 p0 p1 p2 p3 p4 p5 pf0 pf1 pf2 pf3 pf4 pf5
    have bA := KA.out; have bB := KB.out; have bR := KR.out; have bO := KO.out
    clear KA KB KR KO
    replace bA := bA.oth3 (w.heap.size + 3) 0 1 2 (by omega) (.bool true) (.bool t0) (.slice C k0.length c); replace bB := bB.oth3 (w.heap.size + 3) 0 1 2 (by omega) (.bool true) (.bool t0) (.slice C k0.length c); replace bR := bR.oth3 (w.heap.size + 3) 0 1 2 (by omega) (.bool true) (.bool t0) (.slice C k0.length c); replace bO := bO.lo3 (.bool true) (.bool t0) (.slice C k0.length c)
    have hB1 := Below.set3 HB.out (w.heap.size + 3) 0 1 2 (by omega) (.bool true) (.bool t0) (.slice C k0.length c)
    generalize (((W.setCell ⟨w.heap.size + 3, 0, none⟩ (.bool true)).setCell ⟨w.heap.size + 3, 1, none⟩ (.bool t0)).setCell ⟨w.heap.size + 3, 2, none⟩ (.slice C k0.length c)) = V1 at *
    have HB := Lib.hid hB1
    clear hB1
    have KA := Lib.hid bA; have KB := Lib.hid bB; have KR := Lib.hid bR; have KO := Lib.hid bO
    obtain ⟨a0, a1, a2, a3, a4, a5, _, _, _, _, _, _, _⟩ := bA
    obtain ⟨b0, b1, b2, b3, b4, b5, _, _, _, _, _, _, _⟩ := bB
    obtain ⟨p0, p1, p2, p3, p4, p5, pf0, pf1, pf2, pf3, pf4, pf5, _⟩ := bO
    go_upto_region 6 with fail
    clear a0 a1 a2 a3 a4 a5 b0 b1 b2 b3 b4 b5 p0 p1 p2 p3 p4 p5 pf0 pf1 pf2 pf3 pf4 pf5
    have bA := KA.out; have bB := KB.out; have bR := KR.out; have bO := KO.out
    clear KA KB KR KO
    replace bA := bA.oth3 (w.heap.size + 3) 3 4 5 (by omega) (.bool true) (.bool t1) (.slice D k1.length d); replace bB := bB.oth3 (w.heap.size + 3) 3 4 5 (by omega) (.bool true) (.bool t1) (.slice D k1.length d); replace bR := bR.oth3 (w.heap.size + 3) 3 4 5 (by omega) (.bool true) (.bool t1) (.slice D k1.length d); replace bO := bO.hi3 (.bool true) (.bool t1) (.slice D k1.length d)
    have hB1 := Below.set3 HB.out (w.heap.size + 3) 3 4 5 (by omega) (.bool true) (.bool t1) (.slice D k1.length d)
    generalize (((V1.setCell ⟨w.heap.size + 3, 3, none⟩ (.bool true)).setCell ⟨w.heap.size + 3, 4, none⟩ (.bool t1)).setCell ⟨w.heap.size + 3, 5, none⟩ (.slice D k1.length d)) = V2 at *
    have HB := Lib.hid hB1
    clear hB1
    have KA := Lib.hid bA; have KB := Lib.hid bB; have KR := Lib.hid bR; have KO := Lib.hid bO
    obtain ⟨a0, a1, a2, a3, a4, a5, _, _, _, _, _, _, _⟩ := bA
    obtain ⟨b0, b1, b2, b3, b4, b5, _, _, _, _, _, _, _⟩ := bB
    obtain ⟨p0, p1, p2, p3, p4, p5, pf0, pf1, pf2, pf3, pf4, pf5, _⟩ := bO
    have HP := Lib.hid (KR.out.put HB.out (by omega) (.bool true) (.bool t0) (.slice C k0.length c) (.bool true) (.bool t1) (.slice D k1.length d))
    obtain ⟨r0, r1, r2, r3, r4, r5, f0, f1, f2, f3, f4, f5, _⟩ := KR.out
    go_wp2
    refine bodyPost_ret (res_itv rfl _ (w.heap.size + 2) rfl HP.out.box) rfl ?_
    exact ⟨C, c, D, d, by first | rfl | trivial, (U3.out.below HP.out.bel).mono (le_old _), (U4.out.below HP.out.bel).mono (le_old _), HP.out.bel⟩
  · have ez : z0 = loV true t0 k0 := by rw [hz0]; have r0 := i0; have r1 := j0; simp only [loV, cond_true, cond_false] at r0 r1 ⊢; omega
    obtain ⟨rfl, rfl, rfl⟩ := e0.same y0 ez
    have ey : z1 = hiV true s1 l1 := by rw [hz1]; have r0 := i1; have r1 := j1; simp only [hiV, cond_true, cond_false] at r0 r1 ⊢; omega
    obtain ⟨rfl, rfl, rfl⟩ := e1.same x1 ey
    clear ez ey e0 e1 hz0 hz1 x0 x1 y0 y1 i0 i1 j0 j1 o1 o2
    go_enter Try.func42, Try.ntmps42
    go_upto_region 2 with fail
    generalize ((((w.alloc (.cells #[.bool n0, .bool s0, .slice A l0.length a, .bool true, .bool s1, .slice B l1.length b] 29)).alloc (.cells #[.bool true, .bool t0, .slice C k0.length c, .bool false, .bool t1, .slice D k1.length d] 29)).alloc (.cells #[.bool false, .bool false, .slice none 0 0, .bool false, .bool false, .slice none 0 0] 29)).alloc (.cells #[.bool n0, .bool s0, .slice A l0.length a, .bool true, .bool s1, .slice B l1.length b] 29)) = W at *
    have HB := Lib.hid hB0
    clear hB0
    have KA := Lib.hid bA; have KB := Lib.hid bB; have KR := Lib.hid bR; have KO := Lib.hid bO
    obtain ⟨a0, a1, a2, a3, a4, a5, _, _, _, _, _, _, _⟩ := bA
    obtain ⟨b0, b1, b2, b3, b4, b5, _, _, _, _, _, _, _⟩ := bB
    obtain ⟨p0, p1, p2, p3, p4, p5, pf0, pf1, pf2, pf3, pf4, pf5, _⟩ := bO
    go_upto_region 4 with fail
    clear a0 a1 a2 a3 a4 a5 b0 b1 b2 b3 b4 b5 p0 p1 p2 p3 p4 p5 pf0 pf1 pf2 pf3 pf4 pf5
    have bA := KA.out; have bB := KB.out; have bR := KR.out; have bO := KO.out
    clear KA KB KR KO
    replace bA := bA.oth3 (w.heap.size + 3) 0 1 2 (by omega) (.bool true) (.bool t0) (.slice C k0.length c); replace bB := bB.oth3 (w.heap.size + 3) 0 1 2 (by omega) (.bool true) (.bool t0) (.slice C k0.length c); replace bR := bR.oth3 (w.heap.size + 3) 0 1 2 (by omega) (.bool true) (.bool t0) (.slice C k0.length c); replace bO := bO.lo3 (.bool true) (.bool t0) (.slice C k0.length c)
    have hB1 := Below.set3 HB.out (w.heap.size + 3) 0 1 2 (by omega) (.bool true) (.bool t0) (.slice C k0.length c)
    generalize (((W.setCell ⟨w.heap.size + 3, 0, none⟩ (.bool true)).setCell ⟨w.heap.size + 3, 1, none⟩ (.bool t0)).setCell ⟨w.heap.size + 3, 2, none⟩ (.slice C k0.length c)) = V1 at *
    have HB := Lib.hid hB1
    clear hB1
    have KA := Lib.hid bA; have KB := Lib.hid bB; have KR := Lib.hid bR; have KO := Lib.hid bO
    obtain ⟨a0, a1, a2, a3, a4, a5, _, _, _, _, _, _, _⟩ := bA
    obtain ⟨b0, b1, b2, b3, b4, b5, _, _, _, _, _, _, _⟩ := bB
    obtain ⟨p0, p1, p2, p3, p4, p5, pf0, pf1, pf2, pf3, pf4, pf5, _⟩ := bO
    go_upto_region 6 with fail
    clear a0 a1 a2 a3 a4 a5 b0 b1 b2 b3 b4 b5 p0 p1 p2 p3 p4 p5 pf0 pf1 pf2 pf3 pf4 pf5
    have bA := KA.out; have bB := KB.out; have bR := KR.out; have bO := KO.out
    clear KA KB KR KO
    have KA := Lib.hid bA; have KB := Lib.hid bB; have KR := Lib.hid bR; have KO := Lib.hid bO
    obtain ⟨a0, a1, a2, a3, a4, a5, _, _, _, _, _, _, _⟩ := bA
    obtain ⟨b0, b1, b2, b3, b4, b5, _, _, _, _, _, _, _⟩ := bB
    obtain ⟨p0, p1, p2, p3, p4, p5, pf0, pf1, pf2, pf3, pf4, pf5, _⟩ := bO
    have HP := Lib.hid (KR.out.put HB.out (by omega) (.bool true) (.bool t0) (.slice C k0.length c) (.bool true) (.bool s1) (.slice B l1.length b))
    obtain ⟨r0, r1, r2, r3, r4, r5, f0, f1, f2, f3, f4, f5, _⟩ := KR.out
    go_wp2
    refine bodyPost_ret (res_itv rfl _ (w.heap.size + 2) rfl HP.out.box) rfl ?_
    exact ⟨C, c, B, b, by first | rfl | trivial, (U3.out.below HP.out.bel).mono (le_old _), (U2.out.below HP.out.bel).mono (le_old _), HP.out.bel⟩
  · have ez : z0 = loV true t0 k0 := by rw [hz0]; have r0 := i0; have r1 := j0; simp only [loV, cond_true, cond_false] at r0 r1 ⊢; omega
    obtain ⟨rfl, rfl, rfl⟩ := e0.same y0 ez
    have ey : z1 = hiV false t1 k1 := by rw [hz1]; have r0 := i1; have r1 := j1; simp only [hiV, cond_true, cond_false] at r0 r1 ⊢; omega
    obtain ⟨rfl, rfl, rfl⟩ := e1.same y1 ey
    have d2 : decide (0 < g2) = true := decide_eq_true hc2
    clear ez ey e0 e1 hz0 hz1 x0 x1 y0 y1 i0 i1 j0 j1 o1 o2 hc2
    go_enter Try.func42, Try.ntmps42
    go_upto_region 2 with fail
    generalize ((((w.alloc (.cells #[.bool n0, .bool s0, .slice A l0.length a, .bool false, .bool s1, .slice B l1.length b] 29)).alloc (.cells #[.bool true, .bool t0, .slice C k0.length c, .bool false, .bool t1, .slice D k1.length d] 29)).alloc (.cells #[.bool false, .bool false, .slice none 0 0, .bool false, .bool false, .slice none 0 0] 29)).alloc (.cells #[.bool n0, .bool s0, .slice A l0.length a, .bool false, .bool s1, .slice B l1.length b] 29)) = W at *
    have HB := Lib.hid hB0
    clear hB0
    have KA := Lib.hid bA; have KB := Lib.hid bB; have KR := Lib.hid bR; have KO := Lib.hid bO
    obtain ⟨a0, a1, a2, a3, a4, a5, _, _, _, _, _, _, _⟩ := bA
    obtain ⟨b0, b1, b2, b3, b4, b5, _, _, _, _, _, _, _⟩ := bB
    obtain ⟨p0, p1, p2, p3, p4, p5, pf0, pf1, pf2, pf3, pf4, pf5, _⟩ := bO
    go_upto_region 4 with fail
    clear a0 a1 a2 a3 a4 a5 b0 b1 b2 b3 b4 b5 p0 p1 p2 p3 p4 p5 pf0 pf1 pf2 pf3 pf4 pf5
    have bA := KA.out; have bB := KB.out; have bR := KR.out; have bO := KO.out
    clear KA KB KR KO
    replace bA := bA.oth3 (w.heap.size + 3) 0 1 2 (by omega) (.bool true) (.bool t0) (.slice C k0.length c); replace bB := bB.oth3 (w.heap.size + 3) 0 1 2 (by omega) (.bool true) (.bool t0) (.slice C k0.length c); replace bR := bR.oth3 (w.heap.size + 3) 0 1 2 (by omega) (.bool true) (.bool t0) (.slice C k0.length c); replace bO := bO.lo3 (.bool true) (.bool t0) (.slice C k0.length c)
    have hB1 := Below.set3 HB.out (w.heap.size + 3) 0 1 2 (by omega) (.bool true) (.bool t0) (.slice C k0.length c)
    generalize (((W.setCell ⟨w.heap.size + 3, 0, none⟩ (.bool true)).setCell ⟨w.heap.size + 3, 1, none⟩ (.bool t0)).setCell ⟨w.heap.size + 3, 2, none⟩ (.slice C k0.length c)) = V1 at *
    have HB := Lib.hid hB1
    clear hB1
    have KA := Lib.hid bA; have KB := Lib.hid bB; have KR := Lib.hid bR; have KO := Lib.hid bO
    obtain ⟨a0, a1, a2, a3, a4, a5, _, _, _, _, _, _, _⟩ := bA
    obtain ⟨b0, b1, b2, b3, b4, b5, _, _, _, _, _, _, _⟩ := bB
    obtain ⟨p0, p1, p2, p3, p4, p5, pf0, pf1, pf2, pf3, pf4, pf5, _⟩ := bO
    go_wp2_with fail
    refine (C2.out _ HB.out (by first | rfl | trivial) (by first | rfl | trivial)).mono ?_
    rintro e v1 ⟨rfl, hc⟩
    clear a0 a1 a2 a3 a4 a5 b0 b1 b2 b3 b4 b5 p0 p1 p2 p3 p4 p5 pf0 pf1 pf2 pf3 pf4 pf5
    have bA := KA.out; have bB := KB.out; have bR := KR.out; have bO := KO.out
    clear KA KB KR KO
    replace bA := bA.below hc; replace bB := bB.below hc; replace bR := bR.below hc; replace bO := bO.below hc; have HB := Lib.hid (from_ HB.out hc)
    clear hc
    have KA := Lib.hid bA; have KB := Lib.hid bB; have KR := Lib.hid bR; have KO := Lib.hid bO
    obtain ⟨a0, a1, a2, a3, a4, a5, _, _, _, _, _, _, _⟩ := bA
    obtain ⟨b0, b1, b2, b3, b4, b5, _, _, _, _, _, _, _⟩ := bB
    obtain ⟨p0, p1, p2, p3, p4, p5, pf0, pf1, pf2, pf3, pf4, pf5, _⟩ := bO
    go_upto_region 6 with fail
    clear a0 a1 a2 a3 a4 a5 b0 b1 b2 b3 b4 b5 p0 p1 p2 p3 p4 p5 pf0 pf1 pf2 pf3 pf4 pf5
    have bA := KA.out; have bB := KB.out; have bR := KR.out; have bO := KO.out
    clear KA KB KR KO
    replace bA := bA.oth3 (w.heap.size + 3) 3 4 5 (by omega) (.bool false) (.bool t1) (.slice D k1.length d); replace bB := bB.oth3 (w.heap.size + 3) 3 4 5 (by omega) (.bool false) (.bool t1) (.slice D k1.length d); replace bR := bR.oth3 (w.heap.size + 3) 3 4 5 (by omega) (.bool false) (.bool t1) (.slice D k1.length d); replace bO := bO.hi3 (.bool false) (.bool t1) (.slice D k1.length d)
    have hB1 := Below.set3 HB.out (w.heap.size + 3) 3 4 5 (by omega) (.bool false) (.bool t1) (.slice D k1.length d)
    generalize (((v1.setCell ⟨w.heap.size + 3, 3, none⟩ (.bool false)).setCell ⟨w.heap.size + 3, 4, none⟩ (.bool t1)).setCell ⟨w.heap.size + 3, 5, none⟩ (.slice D k1.length d)) = V2 at *
    have HB := Lib.hid hB1
    clear hB1
    have KA := Lib.hid bA; have KB := Lib.hid bB; have KR := Lib.hid bR; have KO := Lib.hid bO
    obtain ⟨a0, a1, a2, a3, a4, a5, _, _, _, _, _, _, _⟩ := bA
    obtain ⟨b0, b1, b2, b3, b4, b5, _, _, _, _, _, _, _⟩ := bB
    obtain ⟨p0, p1, p2, p3, p4, p5, pf0, pf1, pf2, pf3, pf4, pf5, _⟩ := bO
    have HP := Lib.hid (KR.out.put HB.out (by omega) (.bool true) (.bool t0) (.slice C k0.length c) (.bool false) (.bool t1) (.slice D k1.length d))
    obtain ⟨r0, r1, r2, r3, r4, r5, f0, f1, f2, f3, f4, f5, _⟩ := KR.out
    go_wp2
    refine bodyPost_ret (res_itv rfl _ (w.heap.size + 2) rfl HP.out.box) rfl ?_
    exact ⟨C, c, D, d, by first | rfl | trivial, (U3.out.below HP.out.bel).mono (le_old _), (U4.out.below HP.out.bel).mono (le_old _), HP.out.bel⟩
  · have ez : z0 = loV true t0 k0 := by rw [hz0]; have r0 := i0; have r1 := j0; simp only [loV, cond_true, cond_false] at r0 r1 ⊢; omega
    obtain ⟨rfl, rfl, rfl⟩ := e0.same y0 ez
    have ey : z1 = hiV false s1 l1 := by rw [hz1]; have r0 := i1; have r1 := j1; simp only [hiV, cond_true, cond_false] at r0 r1 ⊢; omega
    obtain ⟨rfl, rfl, rfl⟩ := e1.same x1 ey
    have d2 : decide (0 < g2) = false := decide_eq_false hc2
    clear ez ey e0 e1 hz0 hz1 x0 x1 y0 y1 i0 i1 j0 j1 o1 o2 hc2
    go_enter Try.func42, Try.ntmps42
    go_upto_region 2 with fail
    generalize ((((w.alloc (.cells #[.bool n0, .bool s0, .slice A l0.length a, .bool false, .bool s1, .slice B l1.length b] 29)).alloc (.cells #[.bool true, .bool t0, .slice C k0.length c, .bool false, .bool t1, .slice D k1.length d] 29)).alloc (.cells #[.bool false, .bool false, .slice none 0 0, .bool false, .bool false, .slice none 0 0] 29)).alloc (.cells #[.bool n0, .bool s0, .slice A l0.length a, .bool false, .bool s1, .slice B l1.length b] 29)) = W at *
    have HB := Lib.hid hB0
    clear hB0
    have KA := Lib.hid bA; have KB := Lib.hid bB; have KR := Lib.hid bR; have KO := Lib.hid bO
    obtain ⟨a0, a1, a2, a3, a4, a5, _, _, _, _, _, _, _⟩ := bA
    obtain ⟨b0, b1, b2, b3, b4, b5, _, _, _, _, _, _, _⟩ := bB
    obtain ⟨p0, p1, p2, p3, p4, p5, pf0, pf1, pf2, pf3, pf4, pf5, _⟩ := bO
    go_upto_region 4 with fail
    clear a0 a1 a2 a3 a4 a5 b0 b1 b2 b3 b4 b5 p0 p1 p2 p3 p4 p5 pf0 pf1 pf2 pf3 pf4 pf5
    have bA := KA.out; have bB := KB.out; have bR := KR.out; have bO := KO.out
    clear KA KB KR KO
    replace bA := bA.oth3 (w.heap.size + 3) 0 1 2 (by omega) (.bool true) (.bool t0) (.slice C k0.length c); replace bB := bB.oth3 (w.heap.size + 3) 0 1 2 (by omega) (.bool true) (.bool t0) (.slice C k0.length c); replace bR := bR.oth3 (w.heap.size + 3) 0 1 2 (by omega) (.bool true) (.bool t0) (.slice C k0.length c); replace bO := bO.lo3 (.bool true) (.bool t0) (.slice C k0.length c)
    have hB1 := Below.set3 HB.out (w.heap.size + 3) 0 1 2 (by omega) (.bool true) (.bool t0) (.slice C k0.length c)
    generalize (((W.setCell ⟨w.heap.size + 3, 0, none⟩ (.bool true)).setCell ⟨w.heap.size + 3, 1, none⟩ (.bool t0)).setCell ⟨w.heap.size + 3, 2, none⟩ (.slice C k0.length c)) = V1 at *
    have HB := Lib.hid hB1
    clear hB1
    have KA := Lib.hid bA; have KB := Lib.hid bB; have KR := Lib.hid bR; have KO := Lib.hid bO
    obtain ⟨a0, a1, a2, a3, a4, a5, _, _, _, _, _, _, _⟩ := bA
    obtain ⟨b0, b1, b2, b3, b4, b5, _, _, _, _, _, _, _⟩ := bB
    obtain ⟨p0, p1, p2, p3, p4, p5, pf0, pf1, pf2, pf3, pf4, pf5, _⟩ := bO
    go_wp2_with fail
    refine (C2.out _ HB.out (by first | rfl | trivial) (by first | rfl | trivial)).mono ?_
    rintro e v1 ⟨rfl, hc⟩
    clear a0 a1 a2 a3 a4 a5 b0 b1 b2 b3 b4 b5 p0 p1 p2 p3 p4 p5 pf0 pf1 pf2 pf3 pf4 pf5
    have bA := KA.out; have bB := KB.out; have bR := KR.out; have bO := KO.out
    clear KA KB KR KO
    replace bA := bA.below hc; replace bB := bB.below hc; replace bR := bR.below hc; replace bO := bO.below hc; have HB := Lib.hid (from_ HB.out hc)
    clear hc
    have KA := Lib.hid bA; have KB := Lib.hid bB; have KR := Lib.hid bR; have KO := Lib.hid bO
    obtain ⟨a0, a1, a2, a3, a4, a5, _, _, _, _, _, _, _⟩ := bA
    obtain ⟨b0, b1, b2, b3, b4, b5, _, _, _, _, _, _, _⟩ := bB
    obtain ⟨p0, p1, p2, p3, p4, p5, pf0, pf1, pf2, pf3, pf4, pf5, _⟩ := bO
    go_upto_region 6 with fail
    clear a0 a1 a2 a3 a4 a5 b0 b1 b2 b3 b4 b5 p0 p1 p2 p3 p4 p5 pf0 pf1 pf2 pf3 pf4 pf5
    have bA := KA.out; have bB := KB.out; have bR := KR.out; have bO := KO.out
    clear KA KB KR KO
    have KA := Lib.hid bA; have KB := Lib.hid bB; have KR := Lib.hid bR; have KO := Lib.hid bO
    obtain ⟨a0, a1, a2, a3, a4, a5, _, _, _, _, _, _, _⟩ := bA
    obtain ⟨b0, b1, b2, b3, b4, b5, _, _, _, _, _, _, _⟩ := bB
    obtain ⟨p0, p1, p2, p3, p4, p5, pf0, pf1, pf2, pf3, pf4, pf5, _⟩ := bO
    have HP := Lib.hid (KR.out.put HB.out (by omega) (.bool true) (.bool t0) (.slice C k0.length c) (.bool false) (.bool s1) (.slice B l1.length b))
    obtain ⟨r0, r1, r2, r3, r4, r5, f0, f1, f2, f3, f4, f5, _⟩ := KR.out
    go_wp2
    refine bodyPost_ret (res_itv rfl _ (w.heap.size + 2) rfl HP.out.box) rfl ?_
    exact ⟨C, c, B, b, by first | rfl | trivial, (U3.out.below HP.out.bel).mono (le_old _), (U2.out.below HP.out.bel).mono (le_old _), HP.out.bel⟩
  · have ez : z0 = loV true s0 l0 := by rw [hz0]; have r0 := i0; have r1 := j0; simp only [loV, cond_true, cond_false] at r0 r1 ⊢; omega
    obtain ⟨rfl, rfl, rfl⟩ := e0.same x0 ez
    have ey : z1 = hiV true t1 k1 := by rw [hz1]; have r0 := i1; have r1 := j1; simp only [hiV, cond_true, cond_false] at r0 r1 ⊢; omega
    obtain ⟨rfl, rfl, rfl⟩ := e1.same y1 ey
    clear ez ey e0 e1 hz0 hz1 x0 x1 y0 y1 i0 i1 j0 j1 o1 o2
    go_enter Try.func42, Try.ntmps42
    go_upto_region 2 with fail
    generalize ((((w.alloc (.cells #[.bool true, .bool s0, .slice A l0.length a, .bool n1, .bool s1, .slice B l1.length b] 29)).alloc (.cells #[.bool false, .bool t0, .slice C k0.length c, .bool true, .bool t1, .slice D k1.length d] 29)).alloc (.cells #[.bool false, .bool false, .slice none 0 0, .bool false, .bool false, .slice none 0 0] 29)).alloc (.cells #[.bool true, .bool s0, .slice A l0.length a, .bool n1, .bool s1, .slice B l1.length b] 29)) = W at *
    have HB := Lib.hid hB0
    clear hB0
    have KA := Lib.hid bA; have KB := Lib.hid bB; have KR := Lib.hid bR; have KO := Lib.hid bO
    obtain ⟨a0, a1, a2, a3, a4, a5, _, _, _, _, _, _, _⟩ := bA
    obtain ⟨b0, b1, b2, b3, b4, b5, _, _, _, _, _, _, _⟩ := bB
    obtain ⟨p0, p1, p2, p3, p4, p5, pf0, pf1, pf2, pf3, pf4, pf5, _⟩ := bO
    go_upto_region 4 with fail
    clear a0 a1 a2 a3 a4 a5 b0 b1 b2 b3 b4 b5 p0 p1 p2 p3 p4 p5 pf0 pf1 pf2 pf3 pf4 pf5
    have bA := KA.out; have bB := KB.out; have bR := KR.out; have bO := KO.out
    clear KA KB KR KO
    have KA := Lib.hid bA; have KB := Lib.hid bB; have KR := Lib.hid bR; have KO := Lib.hid bO
    obtain ⟨a0, a1, a2, a3, a4, a5, _, _, _, _, _, _, _⟩ := bA
    obtain ⟨b0, b1, b2, b3, b4, b5, _, _, _, _, _, _, _⟩ := bB
    obtain ⟨p0, p1, p2, p3, p4, p5, pf0, pf1, pf2, pf3, pf4, pf5, _⟩ := bO
    go_upto_region 6 with fail
    clear a0 a1 a2 a3 a4 a5 b0 b1 b2 b3 b4 b5 p0 p1 p2 p3 p4 p5 pf0 pf1 pf2 pf3 pf4 pf5
    have bA := KA.out; have bB := KB.out; have bR := KR.out; have bO := KO.out
    clear KA KB KR KO
    replace bA := bA.oth3 (w.heap.size + 3) 3 4 5 (by omega) (.bool true) (.bool t1) (.slice D k1.length d); replace bB := bB.oth3 (w.heap.size + 3) 3 4 5 (by omega) (.bool true) (.bool t1) (.slice D k1.length d); replace bR := bR.oth3 (w.heap.size + 3) 3 4 5 (by omega) (.bool true) (.bool t1) (.slice D k1.length d); replace bO := bO.hi3 (.bool true) (.bool t1) (.slice D k1.length d)
    have hB1 := Below.set3 HB.out (w.heap.size + 3) 3 4 5 (by omega) (.bool true) (.bool t1) (.slice D k1.length d)
    generalize (((W.setCell ⟨w.heap.size + 3, 3, none⟩ (.bool true)).setCell ⟨w.heap.size + 3, 4, none⟩ (.bool t1)).setCell ⟨w.heap.size + 3, 5, none⟩ (.slice D k1.length d)) = V2 at *
    have HB := Lib.hid hB1
    clear hB1
    have KA := Lib.hid bA; have KB := Lib.hid bB; have KR := Lib.hid bR; have KO := Lib.hid bO
    obtain ⟨a0, a1, a2, a3, a4, a5, _, _, _, _, _, _, _⟩ := bA
    obtain ⟨b0, b1, b2, b3, b4, b5, _, _, _, _, _, _, _⟩ := bB
    obtain ⟨p0, p1, p2, p3, p4, p5, pf0, pf1, pf2, pf3, pf4, pf5, _⟩ := bO
    have HP := Lib.hid (KR.out.put HB.out (by omega) (.bool true) (.bool s0) (.slice A l0.length a) (.bool true) (.bool t1) (.slice D k1.length d))
    obtain ⟨r0, r1, r2, r3, r4, r5, f0, f1, f2, f3, f4, f5, _⟩ := KR.out
    go_wp2
    refine bodyPost_ret (res_itv rfl _ (w.heap.size + 2) rfl HP.out.box) rfl ?_
    exact ⟨A, a, D, d, by first | rfl | trivial, (U1.out.below HP.out.bel).mono (le_old _), (U4.out.below HP.out.bel).mono (le_old _), HP.out.bel⟩
  · have ez : z0 = loV true s0 l0 := by rw [hz0]; have r0 := i0; have r1 := j0; simp only [loV, cond_true, cond_false] at r0 r1 ⊢; omega
    obtain ⟨rfl, rfl, rfl⟩ := e0.same x0 ez
    have ey : z1 = hiV true s1 l1 := by rw [hz1]; have r0 := i1; have r1 := j1; simp only [hiV, cond_true, cond_false] at r0 r1 ⊢; omega
    obtain ⟨rfl, rfl, rfl⟩ := e1.same x1 ey
    clear ez ey e0 e1 hz0 hz1 x0 x1 y0 y1 i0 i1 j0 j1 o1 o2
    go_enter Try.func42, Try.ntmps42
    go_upto_region 2 with fail
    generalize ((((w.alloc (.cells #[.bool true, .bool s0, .slice A l0.length a, .bool true, .bool s1, .slice B l1.length b] 29)).alloc (.cells #[.bool false, .bool t0, .slice C k0.length c, .bool false, .bool t1, .slice D k1.length d] 29)).alloc (.cells #[.bool false, .bool false, .slice none 0 0, .bool false, .bool false, .slice none 0 0] 29)).alloc (.cells #[.bool true, .bool s0, .slice A l0.length a, .bool true, .bool s1, .slice B l1.length b] 29)) = W at *
    have HB := Lib.hid hB0
    clear hB0
    have KA := Lib.hid bA; have KB := Lib.hid bB; have KR := Lib.hid bR; have KO := Lib.hid bO
    obtain ⟨a0, a1, a2, a3, a4, a5, _, _, _, _, _, _, _⟩ := bA
    obtain ⟨b0, b1, b2, b3, b4, b5, _, _, _, _, _, _, _⟩ := bB
    obtain ⟨p0, p1, p2, p3, p4, p5, pf0, pf1, pf2, pf3, pf4, pf5, _⟩ := bO
    go_upto_region 4 with fail
    clear a0 a1 a2 a3 a4 a5 b0 b1 b2 b3 b4 b5 p0 p1 p2 p3 p4 p5 pf0 pf1 pf2 pf3 pf4 pf5
    have bA := KA.out; have bB := KB.out; have bR := KR.out; have bO := KO.out
    clear KA KB KR KO
    have KA := Lib.hid bA; have KB := Lib.hid bB; have KR := Lib.hid bR; have KO := Lib.hid bO
    obtain ⟨a0, a1, a2, a3, a4, a5, _, _, _, _, _, _, _⟩ := bA
    obtain ⟨b0, b1, b2, b3, b4, b5, _, _, _, _, _, _, _⟩ := bB
    obtain ⟨p0, p1, p2, p3, p4, p5, pf0, pf1, pf2, pf3, pf4, pf5, _⟩ := bO
    go_upto_region 6 with fail
    clear a0 a1 a2 a3 a4 a5 b0 b1 b2 b3 b4 b5 p0 p1 p2 p3 p4 p5 pf0 pf1 pf2 pf3 pf4 pf5
    have bA := KA.out; have bB := KB.out; have bR := KR.out; have bO := KO.out
    clear KA KB KR KO
    have KA := Lib.hid bA; have KB := Lib.hid bB; have KR := Lib.hid bR; have KO := Lib.hid bO
    obtain ⟨a0, a1, a2, a3, a4, a5, _, _, _, _, _, _, _⟩ := bA
    obtain ⟨b0, b1, b2, b3, b4, b5, _, _, _, _, _, _, _⟩ := bB
    obtain ⟨p0, p1, p2, p3, p4, p5, pf0, pf1, pf2, pf3, pf4, pf5, _⟩ := bO
    have HP := Lib.hid (KR.out.put HB.out (by omega) (.bool true) (.bool s0) (.slice A l0.length a) (.bool true) (.bool s1) (.slice B l1.length b))
    obtain ⟨r0, r1, r2, r3, r4, r5, f0, f1, f2, f3, f4, f5, _⟩ := KR.out
    go_wp2
    refine bodyPost_ret (res_itv rfl _ (w.heap.size + 2) rfl HP.out.box) rfl ?_
    exact ⟨A, a, B, b, by first | rfl | trivial, (U1.out.below HP.out.bel).mono (le_old _), (U2.out.below HP.out.bel).mono (le_old _), HP.out.bel⟩
  · have ez : z0 = loV true s0 l0 := by rw [hz0]; have r0 := i0; have r1 := j0; simp only [loV, cond_true, cond_false] at r0 r1 ⊢; omega
    obtain ⟨rfl, rfl, rfl⟩ := e0.same x0 ez
    have ey : z1 = hiV false t1 k1 := by rw [hz1]; have r0 := i1; have r1 := j1; simp only [hiV, cond_true, cond_false] at r0 r1 ⊢; omega
    obtain ⟨rfl, rfl, rfl⟩ := e1.same y1 ey
    have d2 : decide (0 < g2) = true := decide_eq_true hc2
    clear ez ey e0 e1 hz0 hz1 x0 x1 y0 y1 i0 i1 j0 j1 o1 o2 hc2
    go_enter Try.func42, Try.ntmps42
    go_upto_region 2 with fail
    generalize ((((w.alloc (.cells #[.bool true, .bool s0, .slice A l0.length a, .bool false, .bool s1, .slice B l1.length b] 29)).alloc (.cells #[.bool false, .bool t0, .slice C k0.length c, .bool false, .bool t1, .slice D k1.length d] 29)).alloc (.cells #[.bool false, .bool false, .slice none 0 0, .bool false, .bool false, .slice none 0 0] 29)).alloc (.cells #[.bool true, .bool s0, .slice A l0.length a, .bool false, .bool s1, .slice B l1.length b] 29)) = W at *
    have HB := Lib.hid hB0
    clear hB0
    have KA := Lib.hid bA; have KB := Lib.hid bB; have KR := Lib.hid bR; have KO := Lib.hid bO
    obtain ⟨a0, a1, a2, a3, a4, a5, _, _, _, _, _, _, _⟩ := bA
    obtain ⟨b0, b1, b2, b3, b4, b5, _, _, _, _, _, _, _⟩ := bB
    obtain ⟨p0, p1, p2, p3, p4, p5, pf0, pf1, pf2, pf3, pf4, pf5, _⟩ := bO
    go_upto_region 4 with fail
    clear a0 a1 a2 a3 a4 a5 b0 b1 b2 b3 b4 b5 p0 p1 p2 p3 p4 p5 pf0 pf1 pf2 pf3 pf4 pf5
    have bA := KA.out; have bB := KB.out; have bR := KR.out; have bO := KO.out
    clear KA KB KR KO
    have KA := Lib.hid bA; have KB := Lib.hid bB; have KR := Lib.hid bR; have KO := Lib.hid bO
    obtain ⟨a0, a1, a2, a3, a4, a5, _, _, _, _, _, _, _⟩ := bA
    obtain ⟨b0, b1, b2, b3, b4, b5, _, _, _, _, _, _, _⟩ := bB
    obtain ⟨p0, p1, p2, p3, p4, p5, pf0, pf1, pf2, pf3, pf4, pf5, _⟩ := bO
    go_wp2_with fail
    refine (C2.out _ HB.out (by first | rfl | trivial) (by first | rfl | trivial)).mono ?_
    rintro e v1 ⟨rfl, hc⟩
    clear a0 a1 a2 a3 a4 a5 b0 b1 b2 b3 b4 b5 p0 p1 p2 p3 p4 p5 pf0 pf1 pf2 pf3 pf4 pf5
    have bA := KA.out; have bB := KB.out; have bR := KR.out; have bO := KO.out
    clear KA KB KR KO
    replace bA := bA.below hc; replace bB := bB.below hc; replace bR := bR.below hc; replace bO := bO.below hc; have HB := Lib.hid (from_ HB.out hc)
    clear hc
    have KA := Lib.hid bA; have KB := Lib.hid bB; have KR := Lib.hid bR; have KO := Lib.hid bO
    obtain ⟨a0, a1, a2, a3, a4, a5, _, _, _, _, _, _, _⟩ := bA
    obtain ⟨b0, b1, b2, b3, b4, b5, _, _, _, _, _, _, _⟩ := bB
    obtain ⟨p0, p1, p2, p3, p4, p5, pf0, pf1, pf2, pf3, pf4, pf5, _⟩ := bO
    go_upto_region 6 with fail
    clear a0 a1 a2 a3 a4 a5 b0 b1 b2 b3 b4 b5 p0 p1 p2 p3 p4 p5 pf0 pf1 pf2 pf3 pf4 pf5
    have bA := KA.out; have bB := KB.out; have bR := KR.out; have bO := KO.out
    clear KA KB KR KO
    replace bA := bA.oth3 (w.heap.size + 3) 3 4 5 (by omega) (.bool false) (.bool t1) (.slice D k1.length d); replace bB := bB.oth3 (w.heap.size + 3) 3 4 5 (by omega) (.bool false) (.bool t1) (.slice D k1.length d); replace bR := bR.oth3 (w.heap.size + 3) 3 4 5 (by omega) (.bool false) (.bool t1) (.slice D k1.length d); replace bO := bO.hi3 (.bool false) (.bool t1) (.slice D k1.length d)
    have hB1 := Below.set3 HB.out (w.heap.size + 3) 3 4 5 (by omega) (.bool false) (.bool t1) (.slice D k1.length d)
    generalize (((v1.setCell ⟨w.heap.size + 3, 3, none⟩ (.bool false)).setCell ⟨w.heap.size + 3, 4, none⟩ (.bool t1)).setCell ⟨w.heap.size + 3, 5, none⟩ (.slice D k1.length d)) = V2 at *
    have HB := Lib.hid hB1
    clear hB1
    have KA := Lib.hid bA; have KB := Lib.hid bB; have KR := Lib.hid bR; have KO := Lib.hid bO
    obtain ⟨a0, a1, a2, a3, a4, a5, _, _, _, _, _, _, _⟩ := bA
    obtain ⟨b0, b1, b2, b3, b4, b5, _, _, _, _, _, _, _⟩ := bB
    obtain ⟨p0, p1, p2, p3, p4, p5, pf0, pf1, pf2, pf3, pf4, pf5, _⟩ := bO
    have HP := Lib.hid (KR.out.put HB.out (by omega) (.bool true) (.bool s0) (.slice A l0.length a) (.bool false) (.bool t1) (.slice D k1.length d))
    obtain ⟨r0, r1, r2, r3, r4, r5, f0, f1, f2, f3, f4, f5, _⟩ := KR.out
    go_wp2
    refine bodyPost_ret (res_itv rfl _ (w.heap.size + 2) rfl HP.out.box) rfl ?_
    exact ⟨A, a, D, d, by first | rfl | trivial, (U1.out.below HP.out.bel).mono (le_old _), (U4.out.below HP.out.bel).mono (le_old _), HP.out.bel⟩
  · have ez : z0 = loV true s0 l0 := by rw [hz0]; have r0 := i0; have r1 := j0; simp only [loV, cond_true, cond_false] at r0 r1 ⊢; omega
    obtain ⟨rfl, rfl, rfl⟩ := e0.same x0 ez
    have ey : z1 = hiV false s1 l1 := by rw [hz1]; have r0 := i1; have r1 := j1; simp only [hiV, cond_true, cond_false] at r0 r1 ⊢; omega
    obtain ⟨rfl, rfl, rfl⟩ := e1.same x1 ey
    have d2 : decide (0 < g2) = false := decide_eq_false hc2
    clear ez ey e0 e1 hz0 hz1 x0 x1 y0 y1 i0 i1 j0 j1 o1 o2 hc2
    go_enter Try.func42, Try.ntmps42
    go_upto_region 2 with fail
    generalize ((((w.alloc (.cells #[.bool true, .bool s0, .slice A l0.length a, .bool false, .bool s1, .slice B l1.length b] 29)).alloc (.cells #[.bool false, .bool t0, .slice C k0.length c, .bool false, .bool t1, .slice D k1.length d] 29)).alloc (.cells #[.bool false, .bool false, .slice none 0 0, .bool false, .bool false, .slice none 0 0] 29)).alloc (.cells #[.bool true, .bool s0, .slice A l0.length a, .bool false, .bool s1, .slice B l1.length b] 29)) = W at *
    have HB := Lib.hid hB0
    clear hB0
    have KA := Lib.hid bA; have KB := Lib.hid bB; have KR := Lib.hid bR; have KO := Lib.hid bO
    obtain ⟨a0, a1, a2, a3, a4, a5, _, _, _, _, _, _, _⟩ := bA
    obtain ⟨b0, b1, b2, b3, b4, b5, _, _, _, _, _, _, _⟩ := bB
    obtain ⟨p0, p1, p2, p3, p4, p5, pf0, pf1, pf2, pf3, pf4, pf5, _⟩ := bO
    go_upto_region 4 with fail
    clear a0 a1 a2 a3 a4 a5 b0 b1 b2 b3 b4 b5 p0 p1 p2 p3 p4 p5 pf0 pf1 pf2 pf3 pf4 pf5
    have bA := KA.out; have bB := KB.out; have bR := KR.out; have bO := KO.out
    clear KA KB KR KO
    have KA := Lib.hid bA; have KB := Lib.hid bB; have KR := Lib.hid bR; have KO := Lib.hid bO
    obtain ⟨a0, a1, a2, a3, a4, a5, _, _, _, _, _, _, _⟩ := bA
    obtain ⟨b0, b1, b2, b3, b4, b5, _, _, _, _, _, _, _⟩ := bB
    obtain ⟨p0, p1, p2, p3, p4, p5, pf0, pf1, pf2, pf3, pf4, pf5, _⟩ := bO
    go_wp2_with fail
    refine (C2.out _ HB.out (by first | rfl | trivial) (by first | rfl | trivial)).mono ?_
    rintro e v1 ⟨rfl, hc⟩
    clear a0 a1 a2 a3 a4 a5 b0 b1 b2 b3 b4 b5 p0 p1 p2 p3 p4 p5 pf0 pf1 pf2 pf3 pf4 pf5
    have bA := KA.out; have bB := KB.out; have bR := KR.out; have bO := KO.out
    clear KA KB KR KO
    replace bA := bA.below hc; replace bB := bB.below hc; replace bR := bR.below hc; replace bO := bO.below hc; have HB := Lib.hid (from_ HB.out hc)
    clear hc
    have KA := Lib.hid bA; have KB := Lib.hid bB; have KR := Lib.hid bR; have KO := Lib.hid bO
    obtain ⟨a0, a1, a2, a3, a4, a5, _, _, _, _, _, _, _⟩ := bA
    obtain ⟨b0, b1, b2, b3, b4, b5, _, _, _, _, _, _, _⟩ := bB
    obtain ⟨p0, p1, p2, p3, p4, p5, pf0, pf1, pf2, pf3, pf4, pf5, _⟩ := bO
    go_upto_region 6 with fail
    clear a0 a1 a2 a3 a4 a5 b0 b1 b2 b3 b4 b5 p0 p1 p2 p3 p4 p5 pf0 pf1 pf2 pf3 pf4 pf5
    have bA := KA.out; have bB := KB.out; have bR := KR.out; have bO := KO.out
    clear KA KB KR KO
    have KA := Lib.hid bA; have KB := Lib.hid bB; have KR := Lib.hid bR; have KO := Lib.hid bO
    obtain ⟨a0, a1, a2, a3, a4, a5, _, _, _, _, _, _, _⟩ := bA
    obtain ⟨b0, b1, b2, b3, b4, b5, _, _, _, _, _, _, _⟩ := bB
    obtain ⟨p0, p1, p2, p3, p4, p5, pf0, pf1, pf2, pf3, pf4, pf5, _⟩ := bO
    have HP := Lib.hid (KR.out.put HB.out (by omega) (.bool true) (.bool s0) (.slice A l0.length a) (.bool false) (.bool s1) (.slice B l1.length b))
    obtain ⟨r0, r1, r2, r3, r4, r5, f0, f1, f2, f3, f4, f5, _⟩ := KR.out
    go_wp2
    refine bodyPost_ret (res_itv rfl _ (w.heap.size + 2) rfl HP.out.box) rfl ?_
    exact ⟨A, a, B, b, by first | rfl | trivial, (U1.out.below HP.out.bel).mono (le_old _), (U2.out.below HP.out.bel).mono (le_old _), HP.out.bel⟩
  · have ez : z0 = loV false t0 k0 := by rw [hz0]; have r0 := i0; have r1 := j0; simp only [loV, cond_true, cond_false] at r0 r1 ⊢; omega
    obtain ⟨rfl, rfl, rfl⟩ := e0.same y0 ez
    have ey : z1 = hiV true t1 k1 := by rw [hz1]; have r0 := i1; have r1 := j1; simp only [hiV, cond_true, cond_false] at r0 r1 ⊢; omega
    obtain ⟨rfl, rfl, rfl⟩ := e1.same y1 ey
    have d1 : decide (g1 < 0) = true := decide_eq_true hc1
    clear ez ey e0 e1 hz0 hz1 x0 x1 y0 y1 i0 i1 j0 j1 o1 o2 hc1
    go_enter Try.func42, Try.ntmps42
    go_upto_region 2 with fail
    generalize ((((w.alloc (.cells #[.bool false, .bool s0, .slice A l0.length a, .bool n1, .bool s1, .slice B l1.length b] 29)).alloc (.cells #[.bool false, .bool t0, .slice C k0.length c, .bool true, .bool t1, .slice D k1.length d] 29)).alloc (.cells #[.bool false, .bool false, .slice none 0 0, .bool false, .bool false, .slice none 0 0] 29)).alloc (.cells #[.bool false, .bool s0, .slice A l0.length a, .bool n1, .bool s1, .slice B l1.length b] 29)) = W at *
    have HB := Lib.hid hB0
    clear hB0
    have KA := Lib.hid bA; have KB := Lib.hid bB; have KR := Lib.hid bR; have KO := Lib.hid bO
    obtain ⟨a0, a1, a2, a3, a4, a5, _, _, _, _, _, _, _⟩ := bA
    obtain ⟨b0, b1, b2, b3, b4, b5, _, _, _, _, _, _, _⟩ := bB
    obtain ⟨p0, p1, p2, p3, p4, p5, pf0, pf1, pf2, pf3, pf4, pf5, _⟩ := bO
    go_wp2_with fail
    refine (C1.out _ HB.out (by first | rfl | trivial) (by first | rfl | trivial)).mono ?_
    rintro e v1 ⟨rfl, hc⟩
    clear a0 a1 a2 a3 a4 a5 b0 b1 b2 b3 b4 b5 p0 p1 p2 p3 p4 p5 pf0 pf1 pf2 pf3 pf4 pf5
    have bA := KA.out; have bB := KB.out; have bR := KR.out; have bO := KO.out
    clear KA KB KR KO
    replace bA := bA.below hc; replace bB := bB.below hc; replace bR := bR.below hc; replace bO := bO.below hc; have HB := Lib.hid (from_ HB.out hc)
    clear hc
    have KA := Lib.hid bA; have KB := Lib.hid bB; have KR := Lib.hid bR; have KO := Lib.hid bO
    obtain ⟨a0, a1, a2, a3, a4, a5, _, _, _, _, _, _, _⟩ := bA
    obtain ⟨b0, b1, b2, b3, b4, b5, _, _, _, _, _, _, _⟩ := bB
    obtain ⟨p0, p1, p2, p3, p4, p5, pf0, pf1, pf2, pf3, pf4, pf5, _⟩ := bO
    go_upto_region 4 with fail
    clear a0 a1 a2 a3 a4 a5 b0 b1 b2 b3 b4 b5 p0 p1 p2 p3 p4 p5 pf0 pf1 pf2 pf3 pf4 pf5
    have bA := KA.out; have bB := KB.out; have bR := KR.out; have bO := KO.out
    clear KA KB KR KO
    replace bA := bA.oth3 (w.heap.size + 3) 0 1 2 (by omega) (.bool false) (.bool t0) (.slice C k0.length c); replace bB := bB.oth3 (w.heap.size + 3) 0 1 2 (by omega) (.bool false) (.bool t0) (.slice C k0.length c); replace bR := bR.oth3 (w.heap.size + 3) 0 1 2 (by omega) (.bool false) (.bool t0) (.slice C k0.length c); replace bO := bO.lo3 (.bool false) (.bool t0) (.slice C k0.length c)
    have hB1 := Below.set3 HB.out (w.heap.size + 3) 0 1 2 (by omega) (.bool false) (.bool t0) (.slice C k0.length c)
    generalize (((v1.setCell ⟨w.heap.size + 3, 0, none⟩ (.bool false)).setCell ⟨w.heap.size + 3, 1, none⟩ (.bool t0)).setCell ⟨w.heap.size + 3, 2, none⟩ (.slice C k0.length c)) = V1 at *
    have HB := Lib.hid hB1
    clear hB1
    have KA := Lib.hid bA; have KB := Lib.hid bB; have KR := Lib.hid bR; have KO := Lib.hid bO
    obtain ⟨a0, a1, a2, a3, a4, a5, _, _, _, _, _, _, _⟩ := bA
    obtain ⟨b0, b1, b2, b3, b4, b5, _, _, _, _, _, _, _⟩ := bB
    obtain ⟨p0, p1, p2, p3, p4, p5, pf0, pf1, pf2, pf3, pf4, pf5, _⟩ := bO
    go_upto_region 6 with fail
    clear a0 a1 a2 a3 a4 a5 b0 b1 b2 b3 b4 b5 p0 p1 p2 p3 p4 p5 pf0 pf1 pf2 pf3 pf4 pf5
    have bA := KA.out; have bB := KB.out; have bR := KR.out; have bO := KO.out
    clear KA KB KR KO
    replace bA := bA.oth3 (w.heap.size + 3) 3 4 5 (by omega) (.bool true) (.bool t1) (.slice D k1.length d); replace bB := bB.oth3 (w.heap.size + 3) 3 4 5 (by omega) (.bool true) (.bool t1) (.slice D k1.length d); replace bR := bR.oth3 (w.heap.size + 3) 3 4 5 (by omega) (.bool true) (.bool t1) (.slice D k1.length d); replace bO := bO.hi3 (.bool true) (.bool t1) (.slice D k1.length d)
    have hB1 := Below.set3 HB.out (w.heap.size + 3) 3 4 5 (by omega) (.bool true) (.bool t1) (.slice D k1.length d)
    generalize (((V1.setCell ⟨w.heap.size + 3, 3, none⟩ (.bool true)).setCell ⟨w.heap.size + 3, 4, none⟩ (.bool t1)).setCell ⟨w.heap.size + 3, 5, none⟩ (.slice D k1.length d)) = V2 at *
    have HB := Lib.hid hB1
    clear hB1
    have KA := Lib.hid bA; have KB := Lib.hid bB; have KR := Lib.hid bR; have KO := Lib.hid bO
    obtain ⟨a0, a1, a2, a3, a4, a5, _, _, _, _, _, _, _⟩ := bA
    obtain ⟨b0, b1, b2, b3, b4, b5, _, _, _, _, _, _, _⟩ := bB
    obtain ⟨p0, p1, p2, p3, p4, p5, pf0, pf1, pf2, pf3, pf4, pf5, _⟩ := bO
    have HP := Lib.hid (KR.out.put HB.out (by omega) (.bool false) (.bool t0) (.slice C k0.length c) (.bool true) (.bool t1) (.slice D k1.length d))
    obtain ⟨r0, r1, r2, r3, r4, r5, f0, f1, f2, f3, f4, f5, _⟩ := KR.out
    go_wp2
    refine bodyPost_ret (res_itv rfl _ (w.heap.size + 2) rfl HP.out.box) rfl ?_
    exact ⟨C, c, D, d, by first | rfl | trivial, (U3.out.below HP.out.bel).mono (le_old _), (U4.out.below HP.out.bel).mono (le_old _), HP.out.bel⟩
  · have ez : z0 = loV false t0 k0 := by rw [hz0]; have r0 := i0; have r1 := j0; simp only [loV, cond_true, cond_false] at r0 r1 ⊢; omega
    obtain ⟨rfl, rfl, rfl⟩ := e0.same y0 ez
    have ey : z1 = hiV true s1 l1 := by rw [hz1]; have r0 := i1; have r1 := j1; simp only [hiV, cond_true, cond_false] at r0 r1 ⊢; omega
    obtain ⟨rfl, rfl, rfl⟩ := e1.same x1 ey
    have d1 : decide (g1 < 0) = true := decide_eq_true hc1
    clear ez ey e0 e1 hz0 hz1 x0 x1 y0 y1 i0 i1 j0 j1 o1 o2 hc1
    go_enter Try.func42, Try.ntmps42
    go_upto_region 2 with fail
    generalize ((((w.alloc (.cells #[.bool false, .bool s0, .slice A l0.length a, .bool true, .bool s1, .slice B l1.length b] 29)).alloc (.cells #[.bool false, .bool t0, .slice C k0.length c, .bool false, .bool t1, .slice D k1.length d] 29)).alloc (.cells #[.bool false, .bool false, .slice none 0 0, .bool false, .bool false, .slice none 0 0] 29)).alloc (.cells #[.bool false, .bool s0, .slice A l0.length a, .bool true, .bool s1, .slice B l1.length b] 29)) = W at *
    have HB := Lib.hid hB0
    clear hB0
    have KA := Lib.hid bA; have KB := Lib.hid bB; have KR := Lib.hid bR; have KO := Lib.hid bO
    obtain ⟨a0, a1, a2, a3, a4, a5, _, _, _, _, _, _, _⟩ := bA
    obtain ⟨b0, b1, b2, b3, b4, b5, _, _, _, _, _, _, _⟩ := bB
    obtain ⟨p0, p1, p2, p3, p4, p5, pf0, pf1, pf2, pf3, pf4, pf5, _⟩ := bO
    go_wp2_with fail
    refine (C1.out _ HB.out (by first | rfl | trivial) (by first | rfl | trivial)).mono ?_
    rintro e v1 ⟨rfl, hc⟩
    clear a0 a1 a2 a3 a4 a5 b0 b1 b2 b3 b4 b5 p0 p1 p2 p3 p4 p5 pf0 pf1 pf2 pf3 pf4 pf5
    have bA := KA.out; have bB := KB.out; have bR := KR.out; have bO := KO.out
    clear KA KB KR KO
    replace bA := bA.below hc; replace bB := bB.below hc; replace bR := bR.below hc; replace bO := bO.below hc; have HB := Lib.hid (from_ HB.out hc)
    clear hc
    have KA := Lib.hid bA; have KB := Lib.hid bB; have KR := Lib.hid bR; have KO := Lib.hid bO
    obtain ⟨a0, a1, a2, a3, a4, a5, _, _, _, _, _, _, _⟩ := bA
    obtain ⟨b0, b1, b2, b3, b4, b5, _, _, _, _, _, _, _⟩ := bB
    obtain ⟨p0, p1, p2, p3, p4, p5, pf0, pf1, pf2, pf3, pf4, pf5, _⟩ := bO
    go_upto_region 4 with fail
    clear a0 a1 a2 a3 a4 a5 b0 b1 b2 b3 b4 b5 p0 p1 p2 p3 p4 p5 pf0 pf1 pf2 pf3 pf4 pf5
    have bA := KA.out; have bB := KB.out; have bR := KR.out; have bO := KO.out
    clear KA KB KR KO
    replace bA := bA.oth3 (w.heap.size + 3) 0 1 2 (by omega) (.bool false) (.bool t0) (.slice C k0.length c); replace bB := bB.oth3 (w.heap.size + 3) 0 1 2 (by omega) (.bool false) (.bool t0) (.slice C k0.length c); replace bR := bR.oth3 (w.heap.size + 3) 0 1 2 (by omega) (.bool false) (.bool t0) (.slice C k0.length c); replace bO := bO.lo3 (.bool false) (.bool t0) (.slice C k0.length c)
    have hB1 := Below.set3 HB.out (w.heap.size + 3) 0 1 2 (by omega) (.bool false) (.bool t0) (.slice C k0.length c)
    generalize (((v1.setCell ⟨w.heap.size + 3, 0, none⟩ (.bool false)).setCell ⟨w.heap.size + 3, 1, none⟩ (.bool t0)).setCell ⟨w.heap.size + 3, 2, none⟩ (.slice C k0.length c)) = V1 at *
    have HB := Lib.hid hB1
    clear hB1
    have KA := Lib.hid bA; have KB := Lib.hid bB; have KR := Lib.hid bR; have KO := Lib.hid bO
    obtain ⟨a0, a1, a2, a3, a4, a5, _, _, _, _, _, _, _⟩ := bA
    obtain ⟨b0, b1, b2, b3, b4, b5, _, _, _, _, _, _, _⟩ := bB
    obtain ⟨p0, p1, p2, p3, p4, p5, pf0, pf1, pf2, pf3, pf4, pf5, _⟩ := bO
    go_upto_region 6 with fail
    clear a0 a1 a2 a3 a4 a5 b0 b1 b2 b3 b4 b5 p0 p1 p2 p3 p4 p5 pf0 pf1 pf2 pf3 pf4 pf5
    have bA := KA.out; have bB := KB.out; have bR := KR.out; have bO := KO.out
    clear KA KB KR KO
    have KA := Lib.hid bA; have KB := Lib.hid bB; have KR := Lib.hid bR; have KO := Lib.hid bO
    obtain ⟨a0, a1, a2, a3, a4, a5, _, _, _, _, _, _, _⟩ := bA
    obtain ⟨b0, b1, b2, b3, b4, b5, _, _, _, _, _, _, _⟩ := bB
    obtain ⟨p0, p1, p2, p3, p4, p5, pf0, pf1, pf2, pf3, pf4, pf5, _⟩ := bO
    have HP := Lib.hid (KR.out.put HB.out (by omega) (.bool false) (.bool t0) (.slice C k0.length c) (.bool true) (.bool s1) (.slice B l1.length b))
    obtain ⟨r0, r1, r2, r3, r4, r5, f0, f1, f2, f3, f4, f5, _⟩ := KR.out
    go_wp2
    refine bodyPost_ret (res_itv rfl _ (w.heap.size + 2) rfl HP.out.box) rfl ?_
    exact ⟨C, c, B, b, by first | rfl | trivial, (U3.out.below HP.out.bel).mono (le_old _), (U2.out.below HP.out.bel).mono (le_old _), HP.out.bel⟩
  · have ez : z0 = loV false t0 k0 := by rw [hz0]; have r0 := i0; have r1 := j0; simp only [loV, cond_true, cond_false] at r0 r1 ⊢; omega
    obtain ⟨rfl, rfl, rfl⟩ := e0.same y0 ez
    have ey : z1 = hiV false t1 k1 := by rw [hz1]; have r0 := i1; have r1 := j1; simp only [hiV, cond_true, cond_false] at r0 r1 ⊢; omega
    obtain ⟨rfl, rfl, rfl⟩ := e1.same y1 ey
    have d1 : decide (g1 < 0) = true := decide_eq_true hc1
    have d2 : decide (0 < g2) = true := decide_eq_true hc2
    clear ez ey e0 e1 hz0 hz1 x0 x1 y0 y1 i0 i1 j0 j1 o1 o2 hc1 hc2
    go_enter Try.func42, Try.ntmps42
    go_upto_region 2 with fail
    generalize ((((w.alloc (.cells #[.bool false, .bool s0, .slice A l0.length a, .bool false, .bool s1, .slice B l1.length b] 29)).alloc (.cells #[.bool false, .bool t0, .slice C k0.length c, .bool false, .bool t1, .slice D k1.length d] 29)).alloc (.cells #[.bool false, .bool false, .slice none 0 0, .bool false, .bool false, .slice none 0 0] 29)).alloc (.cells #[.bool false, .bool s0, .slice A l0.length a, .bool false, .bool s1, .slice B l1.length b] 29)) = W at *
    have HB := Lib.hid hB0
    clear hB0
    have KA := Lib.hid bA; have KB := Lib.hid bB; have KR := Lib.hid bR; have KO := Lib.hid bO
    obtain ⟨a0, a1, a2, a3, a4, a5, _, _, _, _, _, _, _⟩ := bA
    obtain ⟨b0, b1, b2, b3, b4, b5, _, _, _, _, _, _, _⟩ := bB
    obtain ⟨p0, p1, p2, p3, p4, p5, pf0, pf1, pf2, pf3, pf4, pf5, _⟩ := bO
    go_wp2_with fail
    refine (C1.out _ HB.out (by first | rfl | trivial) (by first | rfl | trivial)).mono ?_
    rintro e v1 ⟨rfl, hc⟩
    clear a0 a1 a2 a3 a4 a5 b0 b1 b2 b3 b4 b5 p0 p1 p2 p3 p4 p5 pf0 pf1 pf2 pf3 pf4 pf5
    have bA := KA.out; have bB := KB.out; have bR := KR.out; have bO := KO.out
    clear KA KB KR KO
    replace bA := bA.below hc; replace bB := bB.below hc; replace bR := bR.below hc; replace bO := bO.below hc; have HB := Lib.hid (from_ HB.out hc)
    clear hc
    have KA := Lib.hid bA; have KB := Lib.hid bB; have KR := Lib.hid bR; have KO := Lib.hid bO
    obtain ⟨a0, a1, a2, a3, a4, a5, _, _, _, _, _, _, _⟩ := bA
    obtain ⟨b0, b1, b2, b3, b4, b5, _, _, _, _, _, _, _⟩ := bB
    obtain ⟨p0, p1, p2, p3, p4, p5, pf0, pf1, pf2, pf3, pf4, pf5, _⟩ := bO
    go_upto_region 4 with fail
    clear a0 a1 a2 a3 a4 a5 b0 b1 b2 b3 b4 b5 p0 p1 p2 p3 p4 p5 pf0 pf1 pf2 pf3 pf4 pf5
    have bA := KA.out; have bB := KB.out; have bR := KR.out; have bO := KO.out
    clear KA KB KR KO
    replace bA := bA.oth3 (w.heap.size + 3) 0 1 2 (by omega) (.bool false) (.bool t0) (.slice C k0.length c); replace bB := bB.oth3 (w.heap.size + 3) 0 1 2 (by omega) (.bool false) (.bool t0) (.slice C k0.length c); replace bR := bR.oth3 (w.heap.size + 3) 0 1 2 (by omega) (.bool false) (.bool t0) (.slice C k0.length c); replace bO := bO.lo3 (.bool false) (.bool t0) (.slice C k0.length c)
    have hB1 := Below.set3 HB.out (w.heap.size + 3) 0 1 2 (by omega) (.bool false) (.bool t0) (.slice C k0.length c)
    generalize (((v1.setCell ⟨w.heap.size + 3, 0, none⟩ (.bool false)).setCell ⟨w.heap.size + 3, 1, none⟩ (.bool t0)).setCell ⟨w.heap.size + 3, 2, none⟩ (.slice C k0.length c)) = V1 at *
    have HB := Lib.hid hB1
    clear hB1
    have KA := Lib.hid bA; have KB := Lib.hid bB; have KR := Lib.hid bR; have KO := Lib.hid bO
    obtain ⟨a0, a1, a2, a3, a4, a5, _, _, _, _, _, _, _⟩ := bA
    obtain ⟨b0, b1, b2, b3, b4, b5, _, _, _, _, _, _, _⟩ := bB
    obtain ⟨p0, p1, p2, p3, p4, p5, pf0, pf1, pf2, pf3, pf4, pf5, _⟩ := bO
    go_wp2_with fail
    refine (C2.out _ HB.out (by first | rfl | trivial) (by first | rfl | trivial)).mono ?_
    rintro e v2 ⟨rfl, hc⟩
    clear a0 a1 a2 a3 a4 a5 b0 b1 b2 b3 b4 b5 p0 p1 p2 p3 p4 p5 pf0 pf1 pf2 pf3 pf4 pf5
    have bA := KA.out; have bB := KB.out; have bR := KR.out; have bO := KO.out
    clear KA KB KR KO
    replace bA := bA.below hc; replace bB := bB.below hc; replace bR := bR.below hc; replace bO := bO.below hc; have HB := Lib.hid (from_ HB.out hc)
    clear hc
    have KA := Lib.hid bA; have KB := Lib.hid bB; have KR := Lib.hid bR; have KO := Lib.hid bO
    obtain ⟨a0, a1, a2, a3, a4, a5, _, _, _, _, _, _, _⟩ := bA
    obtain ⟨b0, b1, b2, b3, b4, b5, _, _, _, _, _, _, _⟩ := bB
    obtain ⟨p0, p1, p2, p3, p4, p5, pf0, pf1, pf2, pf3, pf4, pf5, _⟩ := bO
    go_upto_region 6 with fail
    clear a0 a1 a2 a3 a4 a5 b0 b1 b2 b3 b4 b5 p0 p1 p2 p3 p4 p5 pf0 pf1 pf2 pf3 pf4 pf5
    have bA := KA.out; have bB := KB.out; have bR := KR.out; have bO := KO.out
    clear KA KB KR KO
    replace bA := bA.oth3 (w.heap.size + 3) 3 4 5 (by omega) (.bool false) (.bool t1) (.slice D k1.length d); replace bB := bB.oth3 (w.heap.size + 3) 3 4 5 (by omega) (.bool false) (.bool t1) (.slice D k1.length d); replace bR := bR.oth3 (w.heap.size + 3) 3 4 5 (by omega) (.bool false) (.bool t1) (.slice D k1.length d); replace bO := bO.hi3 (.bool false) (.bool t1) (.slice D k1.length d)
    have hB1 := Below.set3 HB.out (w.heap.size + 3) 3 4 5 (by omega) (.bool false) (.bool t1) (.slice D k1.length d)
    generalize (((v2.setCell ⟨w.heap.size + 3, 3, none⟩ (.bool false)).setCell ⟨w.heap.size + 3, 4, none⟩ (.bool t1)).setCell ⟨w.heap.size + 3, 5, none⟩ (.slice D k1.length d)) = V2 at *
    have HB := Lib.hid hB1
    clear hB1
    have KA := Lib.hid bA; have KB := Lib.hid bB; have KR := Lib.hid bR; have KO := Lib.hid bO
    obtain ⟨a0, a1, a2, a3, a4, a5, _, _, _, _, _, _, _⟩ := bA
    obtain ⟨b0, b1, b2, b3, b4, b5, _, _, _, _, _, _, _⟩ := bB
    obtain ⟨p0, p1, p2, p3, p4, p5, pf0, pf1, pf2, pf3, pf4, pf5, _⟩ := bO
    have HP := Lib.hid (KR.out.put HB.out (by omega) (.bool false) (.bool t0) (.slice C k0.length c) (.bool false) (.bool t1) (.slice D k1.length d))
    obtain ⟨r0, r1, r2, r3, r4, r5, f0, f1, f2, f3, f4, f5, _⟩ := KR.out
    go_wp2
    refine bodyPost_ret (res_itv rfl _ (w.heap.size + 2) rfl HP.out.box) rfl ?_
    exact ⟨C, c, D, d, by first | rfl | trivial, (U3.out.below HP.out.bel).mono (le_old _), (U4.out.below HP.out.bel).mono (le_old _), HP.out.bel⟩
  · have ez : z0 = loV false t0 k0 := by rw [hz0]; have r0 := i0; have r1 := j0; simp only [loV, cond_true, cond_false] at r0 r1 ⊢; omega
    obtain ⟨rfl, rfl, rfl⟩ := e0.same y0 ez
    have ey : z1 = hiV false s1 l1 := by rw [hz1]; have r0 := i1; have r1 := j1; simp only [hiV, cond_true, cond_false] at r0 r1 ⊢; omega
    obtain ⟨rfl, rfl, rfl⟩ := e1.same x1 ey
    have d1 : decide (g1 < 0) = true := decide_eq_true hc1
    have d2 : decide (0 < g2) = false := decide_eq_false hc2
    clear ez ey e0 e1 hz0 hz1 x0 x1 y0 y1 i0 i1 j0 j1 o1 o2 hc1 hc2
    go_enter Try.func42, Try.ntmps42
    go_upto_region 2 with fail
    generalize ((((w.alloc (.cells #[.bool false, .bool s0, .slice A l0.length a, .bool false, .bool s1, .slice B l1.length b] 29)).alloc (.cells #[.bool false, .bool t0, .slice C k0.length c, .bool false, .bool t1, .slice D k1.length d] 29)).alloc (.cells #[.bool false, .bool false, .slice none 0 0, .bool false, .bool false, .slice none 0 0] 29)).alloc (.cells #[.bool false, .bool s0, .slice A l0.length a, .bool false, .bool s1, .slice B l1.length b] 29)) = W at *
    have HB := Lib.hid hB0
    clear hB0
    have KA := Lib.hid bA; have KB := Lib.hid bB; have KR := Lib.hid bR; have KO := Lib.hid bO
    obtain ⟨a0, a1, a2, a3, a4, a5, _, _, _, _, _, _, _⟩ := bA
    obtain ⟨b0, b1, b2, b3, b4, b5, _, _, _, _, _, _, _⟩ := bB
    obtain ⟨p0, p1, p2, p3, p4, p5, pf0, pf1, pf2, pf3, pf4, pf5, _⟩ := bO
    go_wp2_with fail
    refine (C1.out _ HB.out (by first | rfl | trivial) (by first | rfl | trivial)).mono ?_
    rintro e v1 ⟨rfl, hc⟩
    clear a0 a1 a2 a3 a4 a5 b0 b1 b2 b3 b4 b5 p0 p1 p2 p3 p4 p5 pf0 pf1 pf2 pf3 pf4 pf5
    have bA := KA.out; have bB := KB.out; have bR := KR.out; have bO := KO.out
    clear KA KB KR KO
    replace bA := bA.below hc; replace bB := bB.below hc; replace bR := bR.below hc; replace bO := bO.below hc; have HB := Lib.hid (from_ HB.out hc)
    clear hc
    have KA := Lib.hid bA; have KB := Lib.hid bB; have KR := Lib.hid bR; have KO := Lib.hid bO
    obtain ⟨a0, a1, a2, a3, a4, a5, _, _, _, _, _, _, _⟩ := bA
    obtain ⟨b0, b1, b2, b3, b4, b5, _, _, _, _, _, _, _⟩ := bB
    obtain ⟨p0, p1, p2, p3, p4, p5, pf0, pf1, pf2, pf3, pf4, pf5, _⟩ := bO
    go_upto_region 4 with fail
    clear a0 a1 a2 a3 a4 a5 b0 b1 b2 b3 b4 b5 p0 p1 p2 p3 p4 p5 pf0 pf1 pf2 pf3 pf4 pf5
    have bA := KA.out; have bB := KB.out; have bR := KR.out; have bO := KO.out
    clear KA KB KR KO
    replace bA := bA.oth3 (w.heap.size + 3) 0 1 2 (by omega) (.bool false) (.bool t0) (.slice C k0.length c); replace bB := bB.oth3 (w.heap.size + 3) 0 1 2 (by omega) (.bool false) (.bool t0) (.slice C k0.length c); replace bR := bR.oth3 (w.heap.size + 3) 0 1 2 (by omega) (.bool false) (.bool t0) (.slice C k0.length c); replace bO := bO.lo3 (.bool false) (.bool t0) (.slice C k0.length c)
    have hB1 := Below.set3 HB.out (w.heap.size + 3) 0 1 2 (by omega) (.bool false) (.bool t0) (.slice C k0.length c)
    generalize (((v1.setCell ⟨w.heap.size + 3, 0, none⟩ (.bool false)).setCell ⟨w.heap.size + 3, 1, none⟩ (.bool t0)).setCell ⟨w.heap.size + 3, 2, none⟩ (.slice C k0.length c)) = V1 at *
    have HB := Lib.hid hB1
    clear hB1
    have KA := Lib.hid bA; have KB := Lib.hid bB; have KR := Lib.hid bR; have KO := Lib.hid bO
    obtain ⟨a0, a1, a2, a3, a4, a5, _, _, _, _, _, _, _⟩ := bA
    obtain ⟨b0, b1, b2, b3, b4, b5, _, _, _, _, _, _, _⟩ := bB
    obtain ⟨p0, p1, p2, p3, p4, p5, pf0, pf1, pf2, pf3, pf4, pf5, _⟩ := bO
    go_wp2_with fail
    refine (C2.out _ HB.out (by first | rfl | trivial) (by first | rfl | trivial)).mono ?_
    rintro e v2 ⟨rfl, hc⟩
    clear a0 a1 a2 a3 a4 a5 b0 b1 b2 b3 b4 b5 p0 p1 p2 p3 p4 p5 pf0 pf1 pf2 pf3 pf4 pf5
    have bA := KA.out; have bB := KB.out; have bR := KR.out; have bO := KO.out
    clear KA KB KR KO
    replace bA := bA.below hc; replace bB := bB.below hc; replace bR := bR.below hc; replace bO := bO.below hc; have HB := Lib.hid (from_ HB.out hc)
    clear hc
    have KA := Lib.hid bA; have KB := Lib.hid bB; have KR := Lib.hid bR; have KO := Lib.hid bO
    obtain ⟨a0, a1, a2, a3, a4, a5, _, _, _, _, _, _, _⟩ := bA
    obtain ⟨b0, b1, b2, b3, b4, b5, _, _, _, _, _, _, _⟩ := bB
    obtain ⟨p0, p1, p2, p3, p4, p5, pf0, pf1, pf2, pf3, pf4, pf5, _⟩ := bO
    go_upto_region 6 with fail
    clear a0 a1 a2 a3 a4 a5 b0 b1 b2 b3 b4 b5 p0 p1 p2 p3 p4 p5 pf0 pf1 pf2 pf3 pf4 pf5
    have bA := KA.out; have bB := KB.out; have bR := KR.out; have bO := KO.out
    clear KA KB KR KO
    have KA := Lib.hid bA; have KB := Lib.hid bB; have KR := Lib.hid bR; have KO := Lib.hid bO
    obtain ⟨a0, a1, a2, a3, a4, a5, _, _, _, _, _, _, _⟩ := bA
    obtain ⟨b0, b1, b2, b3, b4, b5, _, _, _, _, _, _, _⟩ := bB
    obtain ⟨p0, p1, p2, p3, p4, p5, pf0, pf1, pf2, pf3, pf4, pf5, _⟩ := bO
    have HP := Lib.hid (KR.out.put HB.out (by omega) (.bool false) (.bool t0) (.slice C k0.length c) (.bool false) (.bool s1) (.slice B l1.length b))
    obtain ⟨r0, r1, r2, r3, r4, r5, f0, f1, f2, f3, f4, f5, _⟩ := KR.out
    go_wp2
    refine bodyPost_ret (res_itv rfl _ (w.heap.size + 2) rfl HP.out.box) rfl ?_
    exact ⟨C, c, B, b, by first | rfl | trivial, (U3.out.below HP.out.bel).mono (le_old _), (U2.out.below HP.out.bel).mono (le_old _), HP.out.bel⟩
  · have ez : z0 = loV false s0 l0 := by rw [hz0]; have r0 := i0; have r1 := j0; simp only [loV, cond_true, cond_false] at r0 r1 ⊢; omega
    obtain ⟨rfl, rfl, rfl⟩ := e0.same x0 ez
    have ey : z1 = hiV true t1 k1 := by rw [hz1]; have r0 := i1; have r1 := j1; simp only [hiV, cond_true, cond_false] at r0 r1 ⊢; omega
    obtain ⟨rfl, rfl, rfl⟩ := e1.same y1 ey
    have d1 : decide (g1 < 0) = false := decide_eq_false hc1
    clear ez ey e0 e1 hz0 hz1 x0 x1 y0 y1 i0 i1 j0 j1 o1 o2 hc1
    go_enter Try.func42, Try.ntmps42
    go_upto_region 2 with fail
    generalize ((((w.alloc (.cells #[.bool false, .bool s0, .slice A l0.length a, .bool n1, .bool s1, .slice B l1.length b] 29)).alloc (.cells #[.bool false, .bool t0, .slice C k0.length c, .bool true, .bool t1, .slice D k1.length d] 29)).alloc (.cells #[.bool false, .bool false, .slice none 0 0, .bool false, .bool false, .slice none 0 0] 29)).alloc (.cells #[.bool false, .bool s0, .slice A l0.length a, .bool n1, .bool s1, .slice B l1.length b] 29)) = W at *
    have HB := Lib.hid hB0
    clear hB0
    have KA := Lib.hid bA; have KB := Lib.hid bB; have KR := Lib.hid bR; have KO := Lib.hid bO
    obtain ⟨a0, a1, a2, a3, a4, a5, _, _, _, _, _, _, _⟩ := bA
    obtain ⟨b0, b1, b2, b3, b4, b5, _, _, _, _, _, _, _⟩ := bB
    obtain ⟨p0, p1, p2, p3, p4, p5, pf0, pf1, pf2, pf3, pf4, pf5, _⟩ := bO
    go_wp2_with fail
    refine (C1.out _ HB.out (by first | rfl | trivial) (by first | rfl | trivial)).mono ?_
    rintro e v1 ⟨rfl, hc⟩
    clear a0 a1 a2 a3 a4 a5 b0 b1 b2 b3 b4 b5 p0 p1 p2 p3 p4 p5 pf0 pf1 pf2 pf3 pf4 pf5
    have bA := KA.out; have bB := KB.out; have bR := KR.out; have bO := KO.out
    clear KA KB KR KO
    replace bA := bA.below hc; replace bB := bB.below hc; replace bR := bR.below hc; replace bO := bO.below hc; have HB := Lib.hid (from_ HB.out hc)
    clear hc
    have KA := Lib.hid bA; have KB := Lib.hid bB; have KR := Lib.hid bR; have KO := Lib.hid bO
    obtain ⟨a0, a1, a2, a3, a4, a5, _, _, _, _, _, _, _⟩ := bA
    obtain ⟨b0, b1, b2, b3, b4, b5, _, _, _, _, _, _, _⟩ := bB
    obtain ⟨p0, p1, p2, p3, p4, p5, pf0, pf1, pf2, pf3, pf4, pf5, _⟩ := bO
    go_upto_region 4 with fail
    clear a0 a1 a2 a3 a4 a5 b0 b1 b2 b3 b4 b5 p0 p1 p2 p3 p4 p5 pf0 pf1 pf2 pf3 pf4 pf5
    have bA := KA.out; have bB := KB.out; have bR := KR.out; have bO := KO.out
    clear KA KB KR KO
    have KA := Lib.hid bA; have KB := Lib.hid bB; have KR := Lib.hid bR; have KO := Lib.hid bO
    obtain ⟨a0, a1, a2, a3, a4, a5, _, _, _, _, _, _, _⟩ := bA
    obtain ⟨b0, b1, b2, b3, b4, b5, _, _, _, _, _, _, _⟩ := bB
    obtain ⟨p0, p1, p2, p3, p4, p5, pf0, pf1, pf2, pf3, pf4, pf5, _⟩ := bO
    go_upto_region 6 with fail
    clear a0 a1 a2 a3 a4 a5 b0 b1 b2 b3 b4 b5 p0 p1 p2 p3 p4 p5 pf0 pf1 pf2 pf3 pf4 pf5
    have bA := KA.out; have bB := KB.out; have bR := KR.out; have bO := KO.out
    clear KA KB KR KO
    replace bA := bA.oth3 (w.heap.size + 3) 3 4 5 (by omega) (.bool true) (.bool t1) (.slice D k1.length d); replace bB := bB.oth3 (w.heap.size + 3) 3 4 5 (by omega) (.bool true) (.bool t1) (.slice D k1.length d); replace bR := bR.oth3 (w.heap.size + 3) 3 4 5 (by omega) (.bool true) (.bool t1) (.slice D k1.length d); replace bO := bO.hi3 (.bool true) (.bool t1) (.slice D k1.length d)
    have hB1 := Below.set3 HB.out (w.heap.size + 3) 3 4 5 (by omega) (.bool true) (.bool t1) (.slice D k1.length d)
    generalize (((v1.setCell ⟨w.heap.size + 3, 3, none⟩ (.bool true)).setCell ⟨w.heap.size + 3, 4, none⟩ (.bool t1)).setCell ⟨w.heap.size + 3, 5, none⟩ (.slice D k1.length d)) = V2 at *
    have HB := Lib.hid hB1
    clear hB1
    have KA := Lib.hid bA; have KB := Lib.hid bB; have KR := Lib.hid bR; have KO := Lib.hid bO
    obtain ⟨a0, a1, a2, a3, a4, a5, _, _, _, _, _, _, _⟩ := bA
    obtain ⟨b0, b1, b2, b3, b4, b5, _, _, _, _, _, _, _⟩ := bB
    obtain ⟨p0, p1, p2, p3, p4, p5, pf0, pf1, pf2, pf3, pf4, pf5, _⟩ := bO
    have HP := Lib.hid (KR.out.put HB.out (by omega) (.bool false) (.bool s0) (.slice A l0.length a) (.bool true) (.bool t1) (.slice D k1.length d))
    obtain ⟨r0, r1, r2, r3, r4, r5, f0, f1, f2, f3, f4, f5, _⟩ := KR.out
    go_wp2
    refine bodyPost_ret (res_itv rfl _ (w.heap.size + 2) rfl HP.out.box) rfl ?_
    exact ⟨A, a, D, d, by first | rfl | trivial, (U1.out.below HP.out.bel).mono (le_old _), (U4.out.below HP.out.bel).mono (le_old _), HP.out.bel⟩
  · have ez : z0 = loV false s0 l0 := by rw [hz0]; have r0 := i0; have r1 := j0; simp only [loV, cond_true, cond_false] at r0 r1 ⊢; omega
    obtain ⟨rfl, rfl, rfl⟩ := e0.same x0 ez
    have ey : z1 = hiV true s1 l1 := by rw [hz1]; have r0 := i1; have r1 := j1; simp only [hiV, cond_true, cond_false] at r0 r1 ⊢; omega
    obtain ⟨rfl, rfl, rfl⟩ := e1.same x1 ey
    have d1 : decide (g1 < 0) = false := decide_eq_false hc1
    clear ez ey e0 e1 hz0 hz1 x0 x1 y0 y1 i0 i1 j0 j1 o1 o2 hc1
    go_enter Try.func42, Try.ntmps42
    go_upto_region 2 with fail
    generalize ((((w.alloc (.cells #[.bool false, .bool s0, .slice A l0.length a, .bool true, .bool s1, .slice B l1.length b] 29)).alloc (.cells #[.bool false, .bool t0, .slice C k0.length c, .bool false, .bool t1, .slice D k1.length d] 29)).alloc (.cells #[.bool false, .bool false, .slice none 0 0, .bool false, .bool false, .slice none 0 0] 29)).alloc (.cells #[.bool false, .bool s0, .slice A l0.length a, .bool true, .bool s1, .slice B l1.length b] 29)) = W at *
    have HB := Lib.hid hB0
    clear hB0
    have KA := Lib.hid bA; have KB := Lib.hid bB; have KR := Lib.hid bR; have KO := Lib.hid bO
    obtain ⟨a0, a1, a2, a3, a4, a5, _, _, _, _, _, _, _⟩ := bA
    obtain ⟨b0, b1, b2, b3, b4, b5, _, _, _, _, _, _, _⟩ := bB
    obtain ⟨p0, p1, p2, p3, p4, p5, pf0, pf1, pf2, pf3, pf4, pf5, _⟩ := bO
    go_wp2_with fail
    refine (C1.out _ HB.out (by first | rfl | trivial) (by first | rfl | trivial)).mono ?_
    rintro e v1 ⟨rfl, hc⟩
    clear a0 a1 a2 a3 a4 a5 b0 b1 b2 b3 b4 b5 p0 p1 p2 p3 p4 p5 pf0 pf1 pf2 pf3 pf4 pf5
    have bA := KA.out; have bB := KB.out; have bR := KR.out; have bO := KO.out
    clear KA KB KR KO
    replace bA := bA.below hc; replace bB := bB.below hc; replace bR := bR.below hc; replace bO := bO.below hc; have HB := Lib.hid (from_ HB.out hc)
    clear hc
    have KA := Lib.hid bA; have KB := Lib.hid bB; have KR := Lib.hid bR; have KO := Lib.hid bO
    obtain ⟨a0, a1, a2, a3, a4, a5, _, _, _, _, _, _, _⟩ := bA
    obtain ⟨b0, b1, b2, b3, b4, b5, _, _, _, _, _, _, _⟩ := bB
    obtain ⟨p0, p1, p2, p3, p4, p5, pf0, pf1, pf2, pf3, pf4, pf5, _⟩ := bO
    go_upto_region 4 with fail
    clear a0 a1 a2 a3 a4 a5 b0 b1 b2 b3 b4 b5 p0 p1 p2 p3 p4 p5 pf0 pf1 pf2 pf3 pf4 pf5
    have bA := KA.out; have bB := KB.out; have bR := KR.out; have bO := KO.out
    clear KA KB KR KO
    have KA := Lib.hid bA; have KB := Lib.hid bB; have KR := Lib.hid bR; have KO := Lib.hid bO
    obtain ⟨a0, a1, a2, a3, a4, a5, _, _, _, _, _, _, _⟩ := bA
    obtain ⟨b0, b1, b2, b3, b4, b5, _, _, _, _, _, _, _⟩ := bB
    obtain ⟨p0, p1, p2, p3, p4, p5, pf0, pf1, pf2, pf3, pf4, pf5, _⟩ := bO
    go_upto_region 6 with fail
    clear a0 a1 a2 a3 a4 a5 b0 b1 b2 b3 b4 b5 p0 p1 p2 p3 p4 p5 pf0 pf1 pf2 pf3 pf4 pf5
    have bA := KA.out; have bB := KB.out; have bR := KR.out; have bO := KO.out
    clear KA KB KR KO
    have KA := Lib.hid bA; have KB := Lib.hid bB; have KR := Lib.hid bR; have KO := Lib.hid bO
    obtain ⟨a0, a1, a2, a3, a4, a5, _, _, _, _, _, _, _⟩ := bA
    obtain ⟨b0, b1, b2, b3, b4, b5, _, _, _, _, _, _, _⟩ := bB
    obtain ⟨p0, p1, p2, p3, p4, p5, pf0, pf1, pf2, pf3, pf4, pf5, _⟩ := bO
    have HP := Lib.hid (KR.out.put HB.out (by omega) (.bool false) (.bool s0) (.slice A l0.length a) (.bool true) (.bool s1) (.slice B l1.length b))
    obtain ⟨r0, r1, r2, r3, r4, r5, f0, f1, f2, f3, f4, f5, _⟩ := KR.out
    go_wp2
    refine bodyPost_ret (res_itv rfl _ (w.heap.size + 2) rfl HP.out.box) rfl ?_
    exact ⟨A, a, B, b, by first | rfl | trivial, (U1.out.below HP.out.bel).mono (le_old _), (U2.out.below HP.out.bel).mono (le_old _), HP.out.bel⟩
  · have ez : z0 = loV false s0 l0 := by rw [hz0]; have r0 := i0; have r1 := j0; simp only [loV, cond_true, cond_false] at r0 r1 ⊢; omega
    obtain ⟨rfl, rfl, rfl⟩ := e0.same x0 ez
    have ey : z1 = hiV false t1 k1 := by rw [hz1]; have r0 := i1; have r1 := j1; simp only [hiV, cond_true, cond_false] at r0 r1 ⊢; omega
    obtain ⟨rfl, rfl, rfl⟩ := e1.same y1 ey
    have d1 : decide (g1 < 0) = false := decide_eq_false hc1
    have d2 : decide (0 < g2) = true := decide_eq_true hc2
    clear ez ey e0 e1 hz0 hz1 x0 x1 y0 y1 i0 i1 j0 j1 o1 o2 hc1 hc2
    go_enter Try.func42, Try.ntmps42
    go_upto_region 2 with fail
    generalize ((((w.alloc (.cells #[.bool false, .bool s0, .slice A l0.length a, .bool false, .bool s1, .slice B l1.length b] 29)).alloc (.cells #[.bool false, .bool t0, .slice C k0.length c, .bool false, .bool t1, .slice D k1.length d] 29)).alloc (.cells #[.bool false, .bool false, .slice none 0 0, .bool false, .bool false, .slice none 0 0] 29)).alloc (.cells #[.bool false, .bool s0, .slice A l0.length a, .bool false, .bool s1, .slice B l1.length b] 29)) = W at *
    have HB := Lib.hid hB0
    clear hB0
    have KA := Lib.hid bA; have KB := Lib.hid bB; have KR := Lib.hid bR; have KO := Lib.hid bO
    obtain ⟨a0, a1, a2, a3, a4, a5, _, _, _, _, _, _, _⟩ := bA
    obtain ⟨b0, b1, b2, b3, b4, b5, _, _, _, _, _, _, _⟩ := bB
    obtain ⟨p0, p1, p2, p3, p4, p5, pf0, pf1, pf2, pf3, pf4, pf5, _⟩ := bO
    go_wp2_with fail
    refine (C1.out _ HB.out (by first | rfl | trivial) (by first | rfl | trivial)).mono ?_
    rintro e v1 ⟨rfl, hc⟩
    clear a0 a1 a2 a3 a4 a5 b0 b1 b2 b3 b4 b5 p0 p1 p2 p3 p4 p5 pf0 pf1 pf2 pf3 pf4 pf5
    have bA := KA.out; have bB := KB.out; have bR := KR.out; have bO := KO.out
    clear KA KB KR KO
    replace bA := bA.below hc; replace bB := bB.below hc; replace bR := bR.below hc; replace bO := bO.below hc; have HB := Lib.hid (from_ HB.out hc)
    clear hc
    have KA := Lib.hid bA; have KB := Lib.hid bB; have KR := Lib.hid bR; have KO := Lib.hid bO
    obtain ⟨a0, a1, a2, a3, a4, a5, _, _, _, _, _, _, _⟩ := bA
    obtain ⟨b0, b1, b2, b3, b4, b5, _, _, _, _, _, _, _⟩ := bB
    obtain ⟨p0, p1, p2, p3, p4, p5, pf0, pf1, pf2, pf3, pf4, pf5, _⟩ := bO
    go_upto_region 4 with fail
    clear a0 a1 a2 a3 a4 a5 b0 b1 b2 b3 b4 b5 p0 p1 p2 p3 p4 p5 pf0 pf1 pf2 pf3 pf4 pf5
    have bA := KA.out; have bB := KB.out; have bR := KR.out; have bO := KO.out
    clear KA KB KR KO
    have KA := Lib.hid bA; have KB := Lib.hid bB; have KR := Lib.hid bR; have KO := Lib.hid bO
    obtain ⟨a0, a1, a2, a3, a4, a5, _, _, _, _, _, _, _⟩ := bA
    obtain ⟨b0, b1, b2, b3, b4, b5, _, _, _, _, _, _, _⟩ := bB
    obtain ⟨p0, p1, p2, p3, p4, p5, pf0, pf1, pf2, pf3, pf4, pf5, _⟩ := bO
    go_wp2_with fail
    refine (C2.out _ HB.out (by first | rfl | trivial) (by first | rfl | trivial)).mono ?_
    rintro e v2 ⟨rfl, hc⟩
    clear a0 a1 a2 a3 a4 a5 b0 b1 b2 b3 b4 b5 p0 p1 p2 p3 p4 p5 pf0 pf1 pf2 pf3 pf4 pf5
    have bA := KA.out; have bB := KB.out; have bR := KR.out; have bO := KO.out
    clear KA KB KR KO
    replace bA := bA.below hc; replace bB := bB.below hc; replace bR := bR.below hc; replace bO := bO.below hc; have HB := Lib.hid (from_ HB.out hc)
    clear hc
    have KA := Lib.hid bA; have KB := Lib.hid bB; have KR := Lib.hid bR; have KO := Lib.hid bO
    obtain ⟨a0, a1, a2, a3, a4, a5, _, _, _, _, _, _, _⟩ := bA
    obtain ⟨b0, b1, b2, b3, b4, b5, _, _, _, _, _, _, _⟩ := bB
    obtain ⟨p0, p1, p2, p3, p4, p5, pf0, pf1, pf2, pf3, pf4, pf5, _⟩ := bO
    go_upto_region 6 with fail
    clear a0 a1 a2 a3 a4 a5 b0 b1 b2 b3 b4 b5 p0 p1 p2 p3 p4 p5 pf0 pf1 pf2 pf3 pf4 pf5
    have bA := KA.out; have bB := KB.out; have bR := KR.out; have bO := KO.out
    clear KA KB KR KO
    replace bA := bA.oth3 (w.heap.size + 3) 3 4 5 (by omega) (.bool false) (.bool t1) (.slice D k1.length d); replace bB := bB.oth3 (w.heap.size + 3) 3 4 5 (by omega) (.bool false) (.bool t1) (.slice D k1.length d); replace bR := bR.oth3 (w.heap.size + 3) 3 4 5 (by omega) (.bool false) (.bool t1) (.slice D k1.length d); replace bO := bO.hi3 (.bool false) (.bool t1) (.slice D k1.length d)
    have hB1 := Below.set3 HB.out (w.heap.size + 3) 3 4 5 (by omega) (.bool false) (.bool t1) (.slice D k1.length d)
    generalize (((v2.setCell ⟨w.heap.size + 3, 3, none⟩ (.bool false)).setCell ⟨w.heap.size + 3, 4, none⟩ (.bool t1)).setCell ⟨w.heap.size + 3, 5, none⟩ (.slice D k1.length d)) = V2 at *
    have HB := Lib.hid hB1
    clear hB1
    have KA := Lib.hid bA; have KB := Lib.hid bB; have KR := Lib.hid bR; have KO := Lib.hid bO
    obtain ⟨a0, a1, a2, a3, a4, a5, _, _, _, _, _, _, _⟩ := bA
    obtain ⟨b0, b1, b2, b3, b4, b5, _, _, _, _, _, _, _⟩ := bB
    obtain ⟨p0, p1, p2, p3, p4, p5, pf0, pf1, pf2, pf3, pf4, pf5, _⟩ := bO
    have HP := Lib.hid (KR.out.put HB.out (by omega) (.bool false) (.bool s0) (.slice A l0.length a) (.bool false) (.bool t1) (.slice D k1.length d))
    obtain ⟨r0, r1, r2, r3, r4, r5, f0, f1, f2, f3, f4, f5, _⟩ := KR.out
    go_wp2
    refine bodyPost_ret (res_itv rfl _ (w.heap.size + 2) rfl HP.out.box) rfl ?_
    exact ⟨A, a, D, d, by first | rfl | trivial, (U1.out.below HP.out.bel).mono (le_old _), (U4.out.below HP.out.bel).mono (le_old _), HP.out.bel⟩
  · have ez : z0 = loV false s0 l0 := by rw [hz0]; have r0 := i0; have r1 := j0; simp only [loV, cond_true, cond_false] at r0 r1 ⊢; omega
    obtain ⟨rfl, rfl, rfl⟩ := e0.same x0 ez
    have ey : z1 = hiV false s1 l1 := by rw [hz1]; have r0 := i1; have r1 := j1; simp only [hiV, cond_true, cond_false] at r0 r1 ⊢; omega
    obtain ⟨rfl, rfl, rfl⟩ := e1.same x1 ey
    have d1 : decide (g1 < 0) = false := decide_eq_false hc1
    have d2 : decide (0 < g2) = false := decide_eq_false hc2
    clear ez ey e0 e1 hz0 hz1 x0 x1 y0 y1 i0 i1 j0 j1 o1 o2 hc1 hc2
    go_enter Try.func42, Try.ntmps42
    go_upto_region 2 with fail
    generalize ((((w.alloc (.cells #[.bool false, .bool s0, .slice A l0.length a, .bool false, .bool s1, .slice B l1.length b] 29)).alloc (.cells #[.bool false, .bool t0, .slice C k0.length c, .bool false, .bool t1, .slice D k1.length d] 29)).alloc (.cells #[.bool false, .bool false, .slice none 0 0, .bool false, .bool false, .slice none 0 0] 29)).alloc (.cells #[.bool false, .bool s0, .slice A l0.length a, .bool false, .bool s1, .slice B l1.length b] 29)) = W at *
    have HB := Lib.hid hB0
    clear hB0
    have KA := Lib.hid bA; have KB := Lib.hid bB; have KR := Lib.hid bR; have KO := Lib.hid bO
    obtain ⟨a0, a1, a2, a3, a4, a5, _, _, _, _, _, _, _⟩ := bA
    obtain ⟨b0, b1, b2, b3, b4, b5, _, _, _, _, _, _, _⟩ := bB
    obtain ⟨p0, p1, p2, p3, p4, p5, pf0, pf1, pf2, pf3, pf4, pf5, _⟩ := bO
    go_wp2_with fail
    refine (C1.out _ HB.out (by first | rfl | trivial) (by first | rfl | trivial)).mono ?_
    rintro e v1 ⟨rfl, hc⟩
    clear a0 a1 a2 a3 a4 a5 b0 b1 b2 b3 b4 b5 p0 p1 p2 p3 p4 p5 pf0 pf1 pf2 pf3 pf4 pf5
    have bA := KA.out; have bB := KB.out; have bR := KR.out; have bO := KO.out
    clear KA KB KR KO
    replace bA := bA.below hc; replace bB := bB.below hc; replace bR := bR.below hc; replace bO := bO.below hc; have HB := Lib.hid (from_ HB.out hc)
    clear hc
    have KA := Lib.hid bA; have KB := Lib.hid bB; have KR := Lib.hid bR; have KO := Lib.hid bO
    obtain ⟨a0, a1, a2, a3, a4, a5, _, _, _, _, _, _, _⟩ := bA
    obtain ⟨b0, b1, b2, b3, b4, b5, _, _, _, _, _, _, _⟩ := bB
    obtain ⟨p0, p1, p2, p3, p4, p5, pf0, pf1, pf2, pf3, pf4, pf5, _⟩ := bO
    go_upto_region 4 with fail
    clear a0 a1 a2 a3 a4 a5 b0 b1 b2 b3 b4 b5 p0 p1 p2 p3 p4 p5 pf0 pf1 pf2 pf3 pf4 pf5
    have bA := KA.out; have bB := KB.out; have bR := KR.out; have bO := KO.out
    clear KA KB KR KO
    have KA := Lib.hid bA; have KB := Lib.hid bB; have KR := Lib.hid bR; have KO := Lib.hid bO
    obtain ⟨a0, a1, a2, a3, a4, a5, _, _, _, _, _, _, _⟩ := bA
    obtain ⟨b0, b1, b2, b3, b4, b5, _, _, _, _, _, _, _⟩ := bB
    obtain ⟨p0, p1, p2, p3, p4, p5, pf0, pf1, pf2, pf3, pf4, pf5, _⟩ := bO
    go_wp2_with fail
    refine (C2.out _ HB.out (by first | rfl | trivial) (by first | rfl | trivial)).mono ?_
    rintro e v2 ⟨rfl, hc⟩
    clear a0 a1 a2 a3 a4 a5 b0 b1 b2 b3 b4 b5 p0 p1 p2 p3 p4 p5 pf0 pf1 pf2 pf3 pf4 pf5
    have bA := KA.out; have bB := KB.out; have bR := KR.out; have bO := KO.out
    clear KA KB KR KO
    replace bA := bA.below hc; replace bB := bB.below hc; replace bR := bR.below hc; replace bO := bO.below hc; have HB := Lib.hid (from_ HB.out hc)
    clear hc
    have KA := Lib.hid bA; have KB := Lib.hid bB; have KR := Lib.hid bR; have KO := Lib.hid bO
    obtain ⟨a0, a1, a2, a3, a4, a5, _, _, _, _, _, _, _⟩ := bA
    obtain ⟨b0, b1, b2, b3, b4, b5, _, _, _, _, _, _, _⟩ := bB
    obtain ⟨p0, p1, p2, p3, p4, p5, pf0, pf1, pf2, pf3, pf4, pf5, _⟩ := bO
    go_upto_region 6 with fail
    clear a0 a1 a2 a3 a4 a5 b0 b1 b2 b3 b4 b5 p0 p1 p2 p3 p4 p5 pf0 pf1 pf2 pf3 pf4 pf5
    have bA := KA.out; have bB := KB.out; have bR := KR.out; have bO := KO.out
    clear KA KB KR KO
    have KA := Lib.hid bA; have KB := Lib.hid bB; have KR := Lib.hid bR; have KO := Lib.hid bO
    obtain ⟨a0, a1, a2, a3, a4, a5, _, _, _, _, _, _, _⟩ := bA
    obtain ⟨b0, b1, b2, b3, b4, b5, _, _, _, _, _, _, _⟩ := bB
    obtain ⟨p0, p1, p2, p3, p4, p5, pf0, pf1, pf2, pf3, pf4, pf5, _⟩ := bO
    have HP := Lib.hid (KR.out.put HB.out (by omega) (.bool false) (.bool s0) (.slice A l0.length a) (.bool false) (.bool s1) (.slice B l1.length b))
    obtain ⟨r0, r1, r2, r3, r4, r5, f0, f1, f2, f3, f4, f5, _⟩ := KR.out
    go_wp2
    refine bodyPost_ret (res_itv rfl _ (w.heap.size + 2) rfl HP.out.box) rfl ?_
    exact ⟨A, a, B, b, by first | rfl | trivial, (U1.out.below HP.out.bel).mono (le_old _), (U2.out.below HP.out.bel).mono (le_old _), HP.out.bel⟩

end Go.Proofs.Ytennphechbngcaa
