/-
  facetroomlaw16.ItvLattice, walked. No conditions.
-/
import Derived.Test.YtennphechbngcaaMItwW
import Derived.Test.YtennphechbngcaaMWhV
namespace Go.Proofs.Ytennphechbngcaa
open Go.RowKit
set_option linter.unusedVariables false
set_option linter.unusedSimpArgs false

theorem inI_w {p q : Iv} {P Q : IvP} (hp : IvW P p) (gp : IvN 60 P.1 P.2) (hq : IvW Q q) (gq : IvN 60 Q.1 Q.2) {x : Bool} (hx : decide (Q.1 ≤ P.1 ∧ P.2 ≤ Q.2) = x) : InI p q x := fun w Z1 Z2 Z3 Z4 A B C D a b c d u1 u2 u3 u4 => iin_w hp gp hq gq u1 u2 u3 u4 hx
theorem ijoinG_w {w : World} {Z1 Z2 Z3 Z4 : Zone} {p q r : Iv} {P Q : IvP} {A B C D : Option Addr} {a b c d : Nat} (hp : IvW P p) (gp : IvN 60 P.1 P.2) (hq : IvW Q q) (gq : IvN 60 Q.1 Q.2) (hr : IvW (ivJ P Q) r) (u1 : U64s w Z1 A a p.l0) (u2 : U64s w Z2 B b p.l1) (u3 : U64s w Z3 C c q.l0) (u4 : U64s w Z4 D d q.l1) :
    Calls Try.prog 7 #[.agg #[.bool p.n0, .bool p.s0, .slice A p.l0.length a, .bool p.n1, .bool p.s1, .slice B p.l1.length b], .agg #[.bool q.n0, .bool q.s0, .slice C q.l0.length c, .bool q.n1, .bool q.s1, .slice D q.l1.length d]] w fun e w' => ∃ rA ra rB rb, e = .returned (.tuple #[.agg #[.bool r.n0, .bool r.s0, .slice rA r.l0.length ra, .bool r.n1, .bool r.s1, .slice rB r.l1.length rb], .int .i64 0]) ∧ U64s w' (new w.heap.size) rA ra r.l0 ∧ U64s w' (new w.heap.size) rB rb r.l1 ∧ Below w.heap.size w w' := by
  have kp := hp.k gp (by omega)
  have kq := hq.k gq (by omega)
  exact iJoin_good u1 u2 u3 u4 kp.ok kq.ok (by have := kp.q0; omega) (by have := kp.q1; omega) (by have := kq.q0; omega) (by have := kq.q1; omega) (z0 := min P.1 Q.1) (z1 := max P.2 Q.2) (by rw [kp.lo, kq.lo]) (by rw [kp.hi, kq.hi]) hr.1 hr.2
theorem in_join {P Q R : IvP} : decide (R.1 ≤ (ivJ P Q).1 ∧ (ivJ P Q).2 ≤ R.2) = (decide (R.1 ≤ P.1 ∧ P.2 ≤ R.2) && decide (R.1 ≤ Q.1 ∧ Q.2 ≤ R.2)) := by
  unfold ivJ
  rw [Bool.eq_iff_iff, Bool.and_eq_true, decide_eq_true_iff, decide_eq_true_iff, decide_eq_true_iff]
  dsimp only
  omega
theorem in_meet {P Q R : IvP} : decide (max P.1 Q.1 ≤ R.1 ∧ R.2 ≤ min P.2 Q.2) = (decide (P.1 ≤ R.1 ∧ R.2 ≤ P.2) && decide (Q.1 ≤ R.1 ∧ R.2 ≤ Q.2)) := by
  rw [Bool.eq_iff_iff, Bool.and_eq_true, decide_eq_true_iff, decide_eq_true_iff, decide_eq_true_iff]
  omega
theorem in_none {P Q R : IvP} (hR : R.1 ≤ R.2) (h : ¬ max P.1 Q.1 ≤ min P.2 Q.2) : (decide (P.1 ≤ R.1 ∧ R.2 ≤ P.2) && decide (Q.1 ≤ R.1 ∧ R.2 ≤ Q.2)) = false := by
  rw [Bool.eq_false_iff]
  intro e
  rw [Bool.and_eq_true, decide_eq_true_iff, decide_eq_true_iff] at e
  omega

set_option maxRecDepth 100000 in
set_option maxHeartbeats 8000000 in
theorem lla_g1 {w : World} {a b c : Value} {p q r : Iv} (ha : IsItv w old a p) (hb : IsItv w old b q) (hc : IsItv w old c r) (k1 : gtI p 4 = true) : Calls Try.prog 3 #[a, b, c] w fun e w' => e = .returned (.bool true) ∧ Below w.heap.size w w' := by
  obtain ⟨A0, a0, B0, b0, rfl, u0, u1⟩ := ha
  obtain ⟨A1, a1, B1, b1, rfl, u2, u3⟩ := hb
  obtain ⟨A2, a2, B2, b2, rfl, u4, u5⟩ := hc
  have AL := Lib.hid alive16
  have G1 := Lib.hid (fun (W : World) (h : Below w.heap.size w W) => g16_w (u0.below h) (u1.below h))
  rw [k1] at G1
  obtain ⟨hq, hb0⟩ := Q3.new w (.bool p.n0) (.bool p.s0) (.slice A0 p.l0.length a0) (.bool p.n1) (.bool p.s1) (.slice B0 p.l1.length b0) (.bool q.n0) (.bool q.s0) (.slice A1 q.l0.length a1) (.bool q.n1) (.bool q.s1) (.slice B1 q.l1.length b1) (.bool r.n0) (.bool r.s0) (.slice A2 r.l0.length a2) (.bool r.n1) (.bool r.s1) (.slice B2 r.l1.length b2) 29
  have bxs := Lib.hid hq
  have HB := Lib.hid hb0
  clear hq hb0
  clear u0 u1 u2 u3 u4 u5 k1
  go_enter Try.func3, Try.ntmps3
  go_wp2_with fail
  refine (AL.out _).mono ?_
  rintro e w1 ⟨rfl, hc⟩
  replace bxs := Lib.hid (bxs.out.below hc)
  replace HB := Lib.hid (from_ HB.out hc)
  clear hc
  clear AL
  obtain ⟨y1_0, y1_1, y1_2, y1_3, y1_4, y1_5, _, _, _, _, _, _, _⟩ := id bxs.out.1
  go_wp2_with fail
  refine (G1.out _ HB.out).mono ?_
  rintro e w2 ⟨rfl, hc⟩
  clear y1_0 y1_1 y1_2 y1_3 y1_4 y1_5
  replace bxs := Lib.hid (bxs.out.below hc)
  replace HB := Lib.hid (from_ HB.out hc)
  clear hc
  clear G1
  go_wp2
  go_ret
  exact ⟨by first | rfl | trivial, HB.out⟩
set_option maxRecDepth 100000 in
set_option maxHeartbeats 8000000 in
theorem lla_g2 {w : World} {a b c : Value} {p q r : Iv} (ha : IsItv w old a p) (hb : IsItv w old b q) (hc : IsItv w old c r) (k1 : gtI p 4 = false) (k2 : gtI q 4 = true) : Calls Try.prog 3 #[a, b, c] w fun e w' => e = .returned (.bool true) ∧ Below w.heap.size w w' := by
  obtain ⟨A0, a0, B0, b0, rfl, u0, u1⟩ := ha
  obtain ⟨A1, a1, B1, b1, rfl, u2, u3⟩ := hb
  obtain ⟨A2, a2, B2, b2, rfl, u4, u5⟩ := hc
  have AL := Lib.hid alive16
  have G1 := Lib.hid (fun (W : World) (h : Below w.heap.size w W) => g16_w (u0.below h) (u1.below h))
  rw [k1] at G1
  have G2 := Lib.hid (fun (W : World) (h : Below w.heap.size w W) => g16_w (u2.below h) (u3.below h))
  rw [k2] at G2
  obtain ⟨hq, hb0⟩ := Q3.new w (.bool p.n0) (.bool p.s0) (.slice A0 p.l0.length a0) (.bool p.n1) (.bool p.s1) (.slice B0 p.l1.length b0) (.bool q.n0) (.bool q.s0) (.slice A1 q.l0.length a1) (.bool q.n1) (.bool q.s1) (.slice B1 q.l1.length b1) (.bool r.n0) (.bool r.s0) (.slice A2 r.l0.length a2) (.bool r.n1) (.bool r.s1) (.slice B2 r.l1.length b2) 29
  have bxs := Lib.hid hq
  have HB := Lib.hid hb0
  clear hq hb0
  clear u0 u1 u2 u3 u4 u5 k1 k2
  go_enter Try.func3, Try.ntmps3
  go_wp2_with fail
  refine (AL.out _).mono ?_
  rintro e w1 ⟨rfl, hc⟩
  replace bxs := Lib.hid (bxs.out.below hc)
  replace HB := Lib.hid (from_ HB.out hc)
  clear hc
  clear AL
  obtain ⟨y1_0, y1_1, y1_2, y1_3, y1_4, y1_5, _, _, _, _, _, _, _⟩ := id bxs.out.1
  go_wp2_with fail
  refine (G1.out _ HB.out).mono ?_
  rintro e w2 ⟨rfl, hc⟩
  clear y1_0 y1_1 y1_2 y1_3 y1_4 y1_5
  replace bxs := Lib.hid (bxs.out.below hc)
  replace HB := Lib.hid (from_ HB.out hc)
  clear hc
  clear G1
  obtain ⟨y3_0, y3_1, y3_2, y3_3, y3_4, y3_5, _, _, _, _, _, _, _⟩ := id bxs.out.2.1
  go_wp2_with fail
  refine (G2.out _ HB.out).mono ?_
  rintro e w4 ⟨rfl, hc⟩
  clear y3_0 y3_1 y3_2 y3_3 y3_4 y3_5
  replace bxs := Lib.hid (bxs.out.below hc)
  replace HB := Lib.hid (from_ HB.out hc)
  clear hc
  clear G2
  go_wp2
  go_ret
  exact ⟨by first | rfl | trivial, HB.out⟩
set_option maxRecDepth 100000 in
set_option maxHeartbeats 8000000 in
theorem lla_g3 {w : World} {a b c : Value} {p q r : Iv} (ha : IsItv w old a p) (hb : IsItv w old b q) (hc : IsItv w old c r) (k1 : gtI p 4 = false) (k2 : gtI q 4 = false) (k3 : gtI r 4 = true) : Calls Try.prog 3 #[a, b, c] w fun e w' => e = .returned (.bool true) ∧ Below w.heap.size w w' := by
  obtain ⟨A0, a0, B0, b0, rfl, u0, u1⟩ := ha
  obtain ⟨A1, a1, B1, b1, rfl, u2, u3⟩ := hb
  obtain ⟨A2, a2, B2, b2, rfl, u4, u5⟩ := hc
  have AL := Lib.hid alive16
  have G1 := Lib.hid (fun (W : World) (h : Below w.heap.size w W) => g16_w (u0.below h) (u1.below h))
  rw [k1] at G1
  have G2 := Lib.hid (fun (W : World) (h : Below w.heap.size w W) => g16_w (u2.below h) (u3.below h))
  rw [k2] at G2
  have G3 := Lib.hid (fun (W : World) (h : Below w.heap.size w W) => g16_w (u4.below h) (u5.below h))
  rw [k3] at G3
  obtain ⟨hq, hb0⟩ := Q3.new w (.bool p.n0) (.bool p.s0) (.slice A0 p.l0.length a0) (.bool p.n1) (.bool p.s1) (.slice B0 p.l1.length b0) (.bool q.n0) (.bool q.s0) (.slice A1 q.l0.length a1) (.bool q.n1) (.bool q.s1) (.slice B1 q.l1.length b1) (.bool r.n0) (.bool r.s0) (.slice A2 r.l0.length a2) (.bool r.n1) (.bool r.s1) (.slice B2 r.l1.length b2) 29
  have bxs := Lib.hid hq
  have HB := Lib.hid hb0
  clear hq hb0
  clear u0 u1 u2 u3 u4 u5 k1 k2 k3
  go_enter Try.func3, Try.ntmps3
  go_wp2_with fail
  refine (AL.out _).mono ?_
  rintro e w1 ⟨rfl, hc⟩
  replace bxs := Lib.hid (bxs.out.below hc)
  replace HB := Lib.hid (from_ HB.out hc)
  clear hc
  clear AL
  obtain ⟨y1_0, y1_1, y1_2, y1_3, y1_4, y1_5, _, _, _, _, _, _, _⟩ := id bxs.out.1
  go_wp2_with fail
  refine (G1.out _ HB.out).mono ?_
  rintro e w2 ⟨rfl, hc⟩
  clear y1_0 y1_1 y1_2 y1_3 y1_4 y1_5
  replace bxs := Lib.hid (bxs.out.below hc)
  replace HB := Lib.hid (from_ HB.out hc)
  clear hc
  clear G1
  obtain ⟨y3_0, y3_1, y3_2, y3_3, y3_4, y3_5, _, _, _, _, _, _, _⟩ := id bxs.out.2.1
  go_wp2_with fail
  refine (G2.out _ HB.out).mono ?_
  rintro e w4 ⟨rfl, hc⟩
  clear y3_0 y3_1 y3_2 y3_3 y3_4 y3_5
  replace bxs := Lib.hid (bxs.out.below hc)
  replace HB := Lib.hid (from_ HB.out hc)
  clear hc
  clear G2
  obtain ⟨y5_0, y5_1, y5_2, y5_3, y5_4, y5_5, _, _, _, _, _, _, _⟩ := id bxs.out.2.2
  go_wp2_with fail
  refine (G3.out _ HB.out).mono ?_
  rintro e w6 ⟨rfl, hc⟩
  clear y5_0 y5_1 y5_2 y5_3 y5_4 y5_5
  replace bxs := Lib.hid (bxs.out.below hc)
  replace HB := Lib.hid (from_ HB.out hc)
  clear hc
  clear G3
  go_wp2
  go_ret
  exact ⟨by first | rfl | trivial, HB.out⟩
set_option maxRecDepth 100000 in
set_option maxHeartbeats 8000000 in
theorem lla_e {w : World} {a b c : Value} {p q r : Iv} (ha : IsItv w old a p) (hb : IsItv w old b q) (hc : IsItv w old c r) (k1 : gtI p 4 = false) (k2 : gtI q 4 = false) (k3 : gtI r 4 = false) (hbad : p.ok = true → q.ok = true → False) : Calls Try.prog 3 #[a, b, c] w fun e w' => e = .returned (.bool true) ∧ Below w.heap.size w w' := by
  obtain ⟨A0, a0, B0, b0, rfl, u0, u1⟩ := ha
  obtain ⟨A1, a1, B1, b1, rfl, u2, u3⟩ := hb
  obtain ⟨A2, a2, B2, b2, rfl, u4, u5⟩ := hc
  have AL := Lib.hid alive16
  obtain ⟨m0, m1⟩ := gtI_no k1
  obtain ⟨m2, m3⟩ := gtI_no k2
  obtain ⟨m4, m5⟩ := gtI_no k3
  have G1 := Lib.hid (fun (W : World) (h : Below w.heap.size w W) => g16_w (u0.below h) (u1.below h))
  rw [k1] at G1
  have G2 := Lib.hid (fun (W : World) (h : Below w.heap.size w W) => g16_w (u2.below h) (u3.below h))
  rw [k2] at G2
  have G3 := Lib.hid (fun (W : World) (h : Below w.heap.size w W) => g16_w (u4.below h) (u5.below h))
  rw [k3] at G3
  have JN := Lib.hid (fun (W : World) (h : Below w.heap.size w W) => iJoin_bad (n0 := p.n0) (s0 := p.s0) (n1 := p.n1) (s1 := p.s1) (m0 := q.n0) (t0 := q.s0) (m1 := q.n1) (t1 := q.s1) (u0.below h) (u1.below h) (u2.below h) (u3.below h) hbad (by omega) (by omega) (by omega) (by omega))
  obtain ⟨hq, hb0⟩ := Q3.new w (.bool p.n0) (.bool p.s0) (.slice A0 p.l0.length a0) (.bool p.n1) (.bool p.s1) (.slice B0 p.l1.length b0) (.bool q.n0) (.bool q.s0) (.slice A1 q.l0.length a1) (.bool q.n1) (.bool q.s1) (.slice B1 q.l1.length b1) (.bool r.n0) (.bool r.s0) (.slice A2 r.l0.length a2) (.bool r.n1) (.bool r.s1) (.slice B2 r.l1.length b2) 29
  have bxs := Lib.hid hq
  have HB := Lib.hid hb0
  clear hq hb0
  clear u0 u1 u2 u3 u4 u5 k1 k2 k3 m0 m1 m2 m3 m4 m5 hbad
  go_enter Try.func3, Try.ntmps3
  go_wp2_with fail
  refine (AL.out _).mono ?_
  rintro e w1 ⟨rfl, hc⟩
  replace bxs := Lib.hid (bxs.out.below hc)
  replace HB := Lib.hid (from_ HB.out hc)
  clear hc
  clear AL
  obtain ⟨y1_0, y1_1, y1_2, y1_3, y1_4, y1_5, _, _, _, _, _, _, _⟩ := id bxs.out.1
  go_wp2_with fail
  refine (G1.out _ HB.out).mono ?_
  rintro e w2 ⟨rfl, hc⟩
  clear y1_0 y1_1 y1_2 y1_3 y1_4 y1_5
  replace bxs := Lib.hid (bxs.out.below hc)
  replace HB := Lib.hid (from_ HB.out hc)
  clear hc
  clear G1
  obtain ⟨y3_0, y3_1, y3_2, y3_3, y3_4, y3_5, _, _, _, _, _, _, _⟩ := id bxs.out.2.1
  go_wp2_with fail
  refine (G2.out _ HB.out).mono ?_
  rintro e w4 ⟨rfl, hc⟩
  clear y3_0 y3_1 y3_2 y3_3 y3_4 y3_5
  replace bxs := Lib.hid (bxs.out.below hc)
  replace HB := Lib.hid (from_ HB.out hc)
  clear hc
  clear G2
  obtain ⟨y5_0, y5_1, y5_2, y5_3, y5_4, y5_5, _, _, _, _, _, _, _⟩ := id bxs.out.2.2
  go_wp2_with fail
  refine (G3.out _ HB.out).mono ?_
  rintro e w6 ⟨rfl, hc⟩
  clear y5_0 y5_1 y5_2 y5_3 y5_4 y5_5
  replace bxs := Lib.hid (bxs.out.below hc)
  replace HB := Lib.hid (from_ HB.out hc)
  clear hc
  clear G3
  obtain ⟨y7_0, y7_1, y7_2, y7_3, y7_4, y7_5, _, _, _, _, _, _, _⟩ := id bxs.out.1
  obtain ⟨y8_0, y8_1, y8_2, y8_3, y8_4, y8_5, _, _, _, _, _, _, _⟩ := id bxs.out.2.1
  go_wp2_with fail
  refine (JN.out _ HB.out).mono ?_
  rintro e w9 ⟨rfl, hc⟩
  clear y7_0 y7_1 y7_2 y7_3 y7_4 y7_5 y8_0 y8_1 y8_2 y8_3 y8_4 y8_5
  go_upto_region 5 with fail
  have hax : Below w9.heap.size w9 (w9.alloc (.cells #[.bool false, .bool false, .slice none 0 0, .bool false, .bool false, .slice none 0 0] 29)) := (Below.refl _ _).alloc (Nat.le_refl _) _
  have bJ := Lib.hid (Box6.new w9 (.bool false) (.bool false) (.slice none 0 0) (.bool false) (.bool false) (.slice none 0 0) 29)
  obtain ⟨gbJ, hgbJ⟩ : ∃ g, g = w9.heap.size := ⟨_, rfl⟩
  rw [← hgbJ] at bJ
  have hc8 := from_ hc hax
  replace bxs := Lib.hid (bxs.out.below hc8)
  replace HB := Lib.hid (from_ HB.out hc8)
  clear hc hax hc8 
  generalize hWx : w9.alloc (.cells #[.bool false, .bool false, .slice none 0 0, .bool false, .bool false, .slice none 0 0] 29) = W10 at *
  try simp only [← hgbJ]
  clear hWx hgbJ
  clear JN
  go_wp2
  go_ret
  exact ⟨by first | rfl | trivial, HB.out⟩
set_option maxRecDepth 100000 in
set_option maxHeartbeats 8000000 in
theorem lla_c {w : World} {a b c : Value} {p q r : Iv} (ha : IsItv w old a p) (hb : IsItv w old b q) (hc : IsItv w old c r) (k1 : gtI p 4 = false) (k2 : gtI q 4 = false) (k3 : gtI r 4 = false) (op : p.ok = true) (oq : q.ok = true) (hbad : ¬ r.ok = true) : Calls Try.prog 3 #[a, b, c] w fun e w' => e = .returned (.bool true) ∧ Below w.heap.size w w' := by
  obtain ⟨A0, a0, B0, b0, rfl, u0, u1⟩ := ha
  obtain ⟨A1, a1, B1, b1, rfl, u2, u3⟩ := hb
  obtain ⟨A2, a2, B2, b2, rfl, u4, u5⟩ := hc
  have AL := Lib.hid alive16
  obtain ⟨m0, m1⟩ := gtI_no k1
  obtain ⟨m2, m3⟩ := gtI_no k2
  obtain ⟨m4, m5⟩ := gtI_no k3
  have G1 := Lib.hid (fun (W : World) (h : Below w.heap.size w W) => g16_w (u0.below h) (u1.below h))
  rw [k1] at G1
  have G2 := Lib.hid (fun (W : World) (h : Below w.heap.size w W) => g16_w (u2.below h) (u3.below h))
  rw [k2] at G2
  have G3 := Lib.hid (fun (W : World) (h : Below w.heap.size w W) => g16_w (u4.below h) (u5.below h))
  rw [k3] at G3
  obtain ⟨wp, gp⟩ := itw_of op u0.small u1.small m0 m1 (by omega)
  obtain ⟨wq, gq⟩ := itw_of oq u2.small u3.small m2 m3 (by omega)
  obtain ⟨k, hk⟩ : ∃ k, IvW (ivJ (p.lo, p.hi) (q.lo, q.hi)) k := ⟨_, IvW.mk _⟩
  have gk : IvN 4 (ivJ (p.lo, p.hi) (q.lo, q.hi)).1 (ivJ (p.lo, p.hi) (q.lo, q.hi)).2 := ivJ_ok (p := (p.lo, p.hi)) (q := (q.lo, q.hi)) gp gq
  have JN := Lib.hid (fun (W : World) (h : Below w.heap.size w W) => ijoinG_w wp (gp.up (by omega)) wq (gq.up (by omega)) hk (u0.below h) (u1.below h) (u2.below h) (u3.below h))
  have CK := Lib.hid (fun (W : World) (h : Below w.heap.size w W) => icheck_any (n0 := r.n0) (s0 := r.s0) (n1 := r.n1) (s1 := r.s1) (u4.below h) (u5.below h) (by omega) (by omega))
  have h8 : errA r.n0 r.s0 r.l0 r.n1 r.s1 r.l1 = 8 := if_neg hbad
  rw [h8] at CK
  obtain ⟨hq, hb0⟩ := Q3.new w (.bool p.n0) (.bool p.s0) (.slice A0 p.l0.length a0) (.bool p.n1) (.bool p.s1) (.slice B0 p.l1.length b0) (.bool q.n0) (.bool q.s0) (.slice A1 q.l0.length a1) (.bool q.n1) (.bool q.s1) (.slice B1 q.l1.length b1) (.bool r.n0) (.bool r.s0) (.slice A2 r.l0.length a2) (.bool r.n1) (.bool r.s1) (.slice B2 r.l1.length b2) 29
  have bxs := Lib.hid hq
  have HB := Lib.hid hb0
  clear hq hb0
  clear u0 u1 u2 u3 u4 u5 k1 k2 k3 m0 m1 m2 m3 m4 m5 op oq wp gp wq gq hk gk hbad h8
  go_enter Try.func3, Try.ntmps3
  go_wp2_with fail
  refine (AL.out _).mono ?_
  rintro e w1 ⟨rfl, hc⟩
  replace bxs := Lib.hid (bxs.out.below hc)
  replace HB := Lib.hid (from_ HB.out hc)
  clear hc
  clear AL
  obtain ⟨y1_0, y1_1, y1_2, y1_3, y1_4, y1_5, _, _, _, _, _, _, _⟩ := id bxs.out.1
  go_wp2_with fail
  refine (G1.out _ HB.out).mono ?_
  rintro e w2 ⟨rfl, hc⟩
  clear y1_0 y1_1 y1_2 y1_3 y1_4 y1_5
  replace bxs := Lib.hid (bxs.out.below hc)
  replace HB := Lib.hid (from_ HB.out hc)
  clear hc
  clear G1
  obtain ⟨y3_0, y3_1, y3_2, y3_3, y3_4, y3_5, _, _, _, _, _, _, _⟩ := id bxs.out.2.1
  go_wp2_with fail
  refine (G2.out _ HB.out).mono ?_
  rintro e w4 ⟨rfl, hc⟩
  clear y3_0 y3_1 y3_2 y3_3 y3_4 y3_5
  replace bxs := Lib.hid (bxs.out.below hc)
  replace HB := Lib.hid (from_ HB.out hc)
  clear hc
  clear G2
  obtain ⟨y5_0, y5_1, y5_2, y5_3, y5_4, y5_5, _, _, _, _, _, _, _⟩ := id bxs.out.2.2
  go_wp2_with fail
  refine (G3.out _ HB.out).mono ?_
  rintro e w6 ⟨rfl, hc⟩
  clear y5_0 y5_1 y5_2 y5_3 y5_4 y5_5
  replace bxs := Lib.hid (bxs.out.below hc)
  replace HB := Lib.hid (from_ HB.out hc)
  clear hc
  clear G3
  obtain ⟨y7_0, y7_1, y7_2, y7_3, y7_4, y7_5, _, _, _, _, _, _, _⟩ := id bxs.out.1
  obtain ⟨y8_0, y8_1, y8_2, y8_3, y8_4, y8_5, _, _, _, _, _, _, _⟩ := id bxs.out.2.1
  go_wp2_with fail
  refine (JN.out _ HB.out).mono ?_
  rintro e w9 ⟨Xk, xk, Yk, zk, rfl, vk, tk, hc⟩
  clear y7_0 y7_1 y7_2 y7_3 y7_4 y7_5 y8_0 y8_1 y8_2 y8_3 y8_4 y8_5
  go_upto_region 5 with fail
  have hax : Below w9.heap.size w9 (w9.alloc (.cells #[.bool k.n0, .bool k.s0, .slice Xk k.l0.length xk, .bool k.n1, .bool k.s1, .slice Yk k.l1.length zk] 29)) := (Below.refl _ _).alloc (Nat.le_refl _) _
  have bJ := Lib.hid (Box6.new w9 (.bool k.n0) (.bool k.s0) (.slice Xk k.l0.length xk) (.bool k.n1) (.bool k.s1) (.slice Yk k.l1.length zk) 29)
  obtain ⟨gbJ, hgbJ⟩ : ∃ g, g = w9.heap.size := ⟨_, rfl⟩
  rw [← hgbJ] at bJ
  have hc8 := from_ hc hax
  have Vk := Lib.hid (vk.below hax)
  have Tk := Lib.hid (tk.below hax)
  replace bxs := Lib.hid (bxs.out.below hc8)
  replace HB := Lib.hid (from_ HB.out hc8)
  clear hc hax hc8 vk tk
  generalize hWx : w9.alloc (.cells #[.bool k.n0, .bool k.s0, .slice Xk k.l0.length xk, .bool k.n1, .bool k.s1, .slice Yk k.l1.length zk] 29) = W10 at *
  try simp only [← hgbJ]
  clear hWx hgbJ
  clear JN
  obtain ⟨y11_0, y11_1, y11_2, y11_3, y11_4, y11_5, _, _, _, _, _, _, _⟩ := id bxs.out.2.2
  go_wp2_with fail
  refine (CK.out _ HB.out).mono ?_
  rintro e w12 ⟨rfl, hc⟩
  clear y11_0 y11_1 y11_2 y11_3 y11_4 y11_5
  replace bxs := Lib.hid (bxs.out.below hc)
  replace bJ := Lib.hid (bJ.out.below hc)
  replace Vk := Lib.hid (Vk.out.below hc)
  replace Tk := Lib.hid (Tk.out.below hc)
  replace HB := Lib.hid (from_ HB.out hc)
  clear hc
  go_wp2
  go_ret
  exact ⟨by first | rfl | trivial, HB.out⟩

end Go.Proofs.Ytennphechbngcaa
