/-
  facetroomlaw16.ItvTells, walked. No conditions.
-/
import Derived.Test.YtennphechbngcaaMTelB
import Derived.Test.YtennphechbngcaaMWhV
namespace Go.Proofs.Ytennphechbngcaa
open Go.RowKit
set_option linter.unusedVariables false
set_option linter.unusedSimpArgs false

set_option maxRecDepth 100000 in
set_option maxHeartbeats 8000000 in
theorem tel_g1 {w : World} {a b n : Value} {p q : Iv} {sn : Bool} {ln : List Nat} {x y : Int} (ha : IsItv w old a p) (hb : IsItv w old b q) (hn : IsI w old n sn ln) (hx : -9223372036854775808 ≤ x ∧ x ≤ 9223372036854775807) (hy : -9223372036854775808 ≤ y ∧ y ≤ 9223372036854775807) (k1 : gtJ p 4 = true) : Calls Try.prog 4 #[a, b, n, .int .i64 x, .int .i64 y] w fun e w' => e = .returned (.bool true) ∧ Below w.heap.size w w' := by
  obtain ⟨A0, a0, B0, b0, rfl, u0, u1⟩ := ha
  obtain ⟨A1, a1, B1, b1, rfl, u2, u3⟩ := hb
  obtain ⟨_, rfl, C0, c0, rfl, u4⟩ := hn
  have G1 := Lib.hid (fun (W : World) (h : Below w.heap.size w W) => g16J_w (u0.below h) (u1.below h))
  rw [k1] at G1
  obtain ⟨hq, hb0⟩ := Q3n.new w (.bool p.n0) (.bool p.s0) (.slice A0 p.l0.length a0) (.bool p.n1) (.bool p.s1) (.slice B0 p.l1.length b0) (.bool q.n0) (.bool q.s0) (.slice A1 q.l0.length a1) (.bool q.n1) (.bool q.s1) (.slice B1 q.l1.length b1) (.bool sn) (.slice C0 ln.length c0) 29 25
  have bxs := Lib.hid hq
  have HB := Lib.hid hb0
  clear hq hb0
  clear u0 u1 u2 u3 u4 k1
  go_enter Try.func4, Try.ntmps4
  obtain ⟨y1_0, y1_1, y1_2, y1_3, y1_4, y1_5, _, _, _, _, _, _, _⟩ := id bxs.out.1
  go_wp2_with fail
  refine (G1.out _ HB.out).mono ?_
  rintro e w1 ⟨rfl, hc⟩
  clear y1_0 y1_1 y1_2 y1_3 y1_4 y1_5
  replace bxs := Lib.hid (bxs.out.below hc)
  replace HB := Lib.hid (from_ HB.out hc)
  clear hc G1
  go_wp2
  go_ret
  exact ⟨by first | rfl | trivial, HB.out⟩
set_option maxRecDepth 100000 in
set_option maxHeartbeats 8000000 in
theorem tel_g2 {w : World} {a b n : Value} {p q : Iv} {sn : Bool} {ln : List Nat} {x y : Int} (ha : IsItv w old a p) (hb : IsItv w old b q) (hn : IsI w old n sn ln) (hx : -9223372036854775808 ≤ x ∧ x ≤ 9223372036854775807) (hy : -9223372036854775808 ≤ y ∧ y ≤ 9223372036854775807) (k1 : gtJ p 4 = false) (k2 : gtJ q 4 = true) : Calls Try.prog 4 #[a, b, n, .int .i64 x, .int .i64 y] w fun e w' => e = .returned (.bool true) ∧ Below w.heap.size w w' := by
  obtain ⟨A0, a0, B0, b0, rfl, u0, u1⟩ := ha
  obtain ⟨A1, a1, B1, b1, rfl, u2, u3⟩ := hb
  obtain ⟨_, rfl, C0, c0, rfl, u4⟩ := hn
  have G1 := Lib.hid (fun (W : World) (h : Below w.heap.size w W) => g16J_w (u0.below h) (u1.below h))
  rw [k1] at G1
  have G2 := Lib.hid (fun (W : World) (h : Below w.heap.size w W) => g16J_w (u2.below h) (u3.below h))
  rw [k2] at G2
  obtain ⟨hq, hb0⟩ := Q3n.new w (.bool p.n0) (.bool p.s0) (.slice A0 p.l0.length a0) (.bool p.n1) (.bool p.s1) (.slice B0 p.l1.length b0) (.bool q.n0) (.bool q.s0) (.slice A1 q.l0.length a1) (.bool q.n1) (.bool q.s1) (.slice B1 q.l1.length b1) (.bool sn) (.slice C0 ln.length c0) 29 25
  have bxs := Lib.hid hq
  have HB := Lib.hid hb0
  clear hq hb0
  clear u0 u1 u2 u3 u4 k1 k2
  go_enter Try.func4, Try.ntmps4
  obtain ⟨y1_0, y1_1, y1_2, y1_3, y1_4, y1_5, _, _, _, _, _, _, _⟩ := id bxs.out.1
  go_wp2_with fail
  refine (G1.out _ HB.out).mono ?_
  rintro e w1 ⟨rfl, hc⟩
  clear y1_0 y1_1 y1_2 y1_3 y1_4 y1_5
  replace bxs := Lib.hid (bxs.out.below hc)
  replace HB := Lib.hid (from_ HB.out hc)
  clear hc G1
  obtain ⟨y2_0, y2_1, y2_2, y2_3, y2_4, y2_5, _, _, _, _, _, _, _⟩ := id bxs.out.2.1
  go_wp2_with fail
  refine (G2.out _ HB.out).mono ?_
  rintro e w3 ⟨rfl, hc⟩
  clear y2_0 y2_1 y2_2 y2_3 y2_4 y2_5
  replace bxs := Lib.hid (bxs.out.below hc)
  replace HB := Lib.hid (from_ HB.out hc)
  clear hc
  clear G2
  go_wp2
  go_ret
  exact ⟨by first | rfl | trivial, HB.out⟩
set_option maxRecDepth 100000 in
set_option maxHeartbeats 8000000 in
theorem tel_g3 {w : World} {a b n : Value} {p q : Iv} {sn : Bool} {ln : List Nat} {x y : Int} (ha : IsItv w old a p) (hb : IsItv w old b q) (hn : IsI w old n sn ln) (hx : -9223372036854775808 ≤ x ∧ x ≤ 9223372036854775807) (hy : -9223372036854775808 ≤ y ∧ y ≤ 9223372036854775807) (k1 : gtJ p 4 = false) (k2 : gtJ q 4 = false) (k3 : 4 < ln.length) : Calls Try.prog 4 #[a, b, n, .int .i64 x, .int .i64 y] w fun e w' => e = .returned (.bool true) ∧ Below w.heap.size w w' := by
  obtain ⟨A0, a0, B0, b0, rfl, u0, u1⟩ := ha
  obtain ⟨A1, a1, B1, b1, rfl, u2, u3⟩ := hb
  obtain ⟨_, rfl, C0, c0, rfl, u4⟩ := hn
  have G1 := Lib.hid (fun (W : World) (h : Below w.heap.size w W) => g16J_w (u0.below h) (u1.below h))
  rw [k1] at G1
  have G2 := Lib.hid (fun (W : World) (h : Below w.heap.size w W) => g16J_w (u2.below h) (u3.below h))
  rw [k2] at G2
  have d3 : decide ((4 : Int) < (ln.length : Int)) = true := decide_eq_true (by omega)
  obtain ⟨hq, hb0⟩ := Q3n.new w (.bool p.n0) (.bool p.s0) (.slice A0 p.l0.length a0) (.bool p.n1) (.bool p.s1) (.slice B0 p.l1.length b0) (.bool q.n0) (.bool q.s0) (.slice A1 q.l0.length a1) (.bool q.n1) (.bool q.s1) (.slice B1 q.l1.length b1) (.bool sn) (.slice C0 ln.length c0) 29 25
  have bxs := Lib.hid hq
  have HB := Lib.hid hb0
  clear hq hb0
  clear u0 u1 u2 u3 u4 k1 k2 k3
  go_enter Try.func4, Try.ntmps4
  obtain ⟨y1_0, y1_1, y1_2, y1_3, y1_4, y1_5, _, _, _, _, _, _, _⟩ := id bxs.out.1
  go_wp2_with fail
  refine (G1.out _ HB.out).mono ?_
  rintro e w1 ⟨rfl, hc⟩
  clear y1_0 y1_1 y1_2 y1_3 y1_4 y1_5
  replace bxs := Lib.hid (bxs.out.below hc)
  replace HB := Lib.hid (from_ HB.out hc)
  clear hc G1
  obtain ⟨y2_0, y2_1, y2_2, y2_3, y2_4, y2_5, _, _, _, _, _, _, _⟩ := id bxs.out.2.1
  go_wp2_with fail
  refine (G2.out _ HB.out).mono ?_
  rintro e w3 ⟨rfl, hc⟩
  clear y2_0 y2_1 y2_2 y2_3 y2_4 y2_5
  replace bxs := Lib.hid (bxs.out.below hc)
  replace HB := Lib.hid (from_ HB.out hc)
  clear hc
  clear G2
  obtain ⟨y4_0, y4_1, _, _, _⟩ := id bxs.out.2.2
  go_wp2
  go_ret
  exact ⟨by first | rfl | trivial, HB.out⟩
set_option maxRecDepth 100000 in
set_option maxHeartbeats 8000000 in
theorem tel_good {w : World} {a b n : Value} {p q : Iv} {sn : Bool} {ln : List Nat} {x y : Int} (ha : IsItv w old a p) (hb : IsItv w old b q) (hn : IsI w old n sn ln) (hx : -9223372036854775808 ≤ x ∧ x ≤ 9223372036854775807) (hy : -9223372036854775808 ≤ y ∧ y ≤ 9223372036854775807) (k1 : gtJ p 4 = false) (k2 : gtJ q 4 = false) (k3 : ln.length ≤ 4) : Calls Try.prog 4 #[a, b, n, .int .i64 x, .int .i64 y] w fun e w' => e = .returned (.bool true) ∧ Below w.heap.size w w' := by
  obtain ⟨A0, a0, B0, b0, rfl, u0, u1⟩ := ha
  obtain ⟨A1, a1, B1, b1, rfl, u2, u3⟩ := hb
  obtain ⟨_, rfl, C0, c0, rfl, u4⟩ := hn
  have G1 := Lib.hid (fun (W : World) (h : Below w.heap.size w W) => g16J_w (u0.below h) (u1.below h))
  rw [k1] at G1
  have G2 := Lib.hid (fun (W : World) (h : Below w.heap.size w W) => g16J_w (u2.below h) (u3.below h))
  rw [k2] at G2
  obtain ⟨m0, m1⟩ := gtJ_no k1
  obtain ⟨m2, m3⟩ := gtJ_no k2
  obtain ⟨r1, e1, c1, d1⟩ := pair_meet (p := p) (q := q) m0 m1 m2 m3 u0.small u1.small u2.small u3.small
  obtain ⟨r2, e2, c2, d2⟩ := pair_join (p := p) (q := q) m0 m1 m2 m3 u0.small u1.small u2.small u3.small
  obtain ⟨r3, e3, c3, d3⟩ := pair_in (p := p) (q := q) m0 m1 m2 m3 u0.small u1.small u2.small u3.small
  obtain ⟨r4, e4, c4, d4⟩ := pair_has (p := p) (t := sn) (k := ln) m0 m1 k3
  obtain ⟨r5, e5, c5, d5⟩ := pair_neg (p := p) m0 m1 u0.small u1.small
  obtain ⟨r6, e6, c6, d6⟩ := pair_of hx hy
  obtain ⟨r7, e7, c7, d7⟩ := pair_point (t := sn) (k := ln) k3 u4.small
  have C1 := Lib.hid (fun (W : World) (h : Below w.heap.size w W) => c1 W _ _ _ _ _ _ _ _ _ _ _ _ (u0.below h) (u1.below h) (u2.below h) (u3.below h))
  have D1 := Lib.hid (fun (W : World) (h : Below w.heap.size w W) => d1 W _ _ _ _ _ _ _ _ _ _ _ _ (u0.below h) (u1.below h) (u2.below h) (u3.below h))
  have C2 := Lib.hid (fun (W : World) (h : Below w.heap.size w W) => c2 W _ _ _ _ _ _ _ _ _ _ _ _ (u0.below h) (u1.below h) (u2.below h) (u3.below h))
  have D2 := Lib.hid (fun (W : World) (h : Below w.heap.size w W) => d2 W _ _ _ _ _ _ _ _ _ _ _ _ (u0.below h) (u1.below h) (u2.below h) (u3.below h))
  have C3 := Lib.hid (fun (W : World) (h : Below w.heap.size w W) => c3 W _ _ _ _ _ _ _ _ _ _ _ _ (u0.below h) (u1.below h) (u2.below h) (u3.below h))
  have D3 := Lib.hid (fun (W : World) (h : Below w.heap.size w W) => d3 W _ _ _ _ _ _ _ _ _ _ _ _ (u0.below h) (u1.below h) (u2.below h) (u3.below h))
  have C4 := Lib.hid (fun (W : World) (h : Below w.heap.size w W) => c4 W _ _ _ _ _ _ _ _ _ (u0.below h) (u1.below h) (u4.below h))
  have D4 := Lib.hid (fun (W : World) (h : Below w.heap.size w W) => d4 W _ _ _ _ _ _ _ _ _ (u0.below h) (u1.below h) (u4.below h))
  have C5 := Lib.hid (fun (W : World) (h : Below w.heap.size w W) => c5 W _ _ _ _ _ _ (u0.below h) (u1.below h))
  have D5 := Lib.hid (fun (W : World) (h : Below w.heap.size w W) => d5 W _ _ _ _ _ _ (u0.below h) (u1.below h))
  have C7 := Lib.hid (fun (W : World) (h : Below w.heap.size w W) => c7 W _ _ _ (u4.below h))
  have D7 := Lib.hid (fun (W : World) (h : Below w.heap.size w W) => d7 W _ _ _ (u4.below h))
  have C6 := Lib.hid c6
  have D6 := Lib.hid d6
  have CK := Lib.hid (fun (W : World) (h : Below w.heap.size w W) => icheck_any (n0 := p.n0) (s0 := p.s0) (n1 := p.n1) (s1 := p.s1) (u0.below h) (u1.below h) (by omega) (by omega))
  have DK := Lib.hid (fun (W : World) (h : Below w.heap.size w W) => r16check_any (p := p) (u0.below h) (u1.below h) (by omega) (by omega))
  obtain ⟨ek, hek⟩ : ∃ e, e = errA p.n0 p.s0 p.l0 p.n1 p.s1 p.l1 := ⟨_, rfl⟩
  rw [← hek] at CK DK
  have CS := Lib.hid (fun (W : World) (h : Below w.heap.size w W) => isame_any (n0 := p.n0) (s0 := p.s0) (n1 := p.n1) (s1 := p.s1) (m0 := q.n0) (t0 := q.s0) (m1 := q.n1) (t1 := q.s1) (u0.below h) (u1.below h) (u2.below h) (u3.below h))
  have DS := Lib.hid (fun (W : World) (h : Below w.heap.size w W) => r16same_any (n0 := p.n0) (s0 := p.s0) (n1 := p.n1) (s1 := p.s1) (m0 := q.n0) (t0 := q.s0) (m1 := q.n1) (t1 := q.s1) (u0.below h) (u1.below h) (u2.below h) (u3.below h))
  obtain ⟨es, hes⟩ : ∃ e, e = decide ((p.n0 = q.n0 ∧ p.s0 = q.s0 ∧ p.l0 = q.l0) ∧ p.n1 = q.n1 ∧ p.s1 = q.s1 ∧ p.l1 = q.l1) := ⟨_, rfl⟩
  rw [← hes] at CS DS
  have TT := Lib.hid (fun (W : World) => same16_yes (p := ⟨true, false, [], true, false, []⟩) (U64s.nil W old) (U64s.nil W old) (U64s.nil W old) (U64s.nil W old))
  simp only [List.length_nil] at TT
  have S1 := Lib.hid (fun (W : World) (Z1 Z2 Z3 Z4 : Zone) (A B C D : Option Addr) (a b c d : Nat) (v1 : U64s W Z1 A a r1.l0) (v2 : U64s W Z2 B b r1.l1) (v3 : U64s W Z3 C c r1.l0) (v4 : U64s W Z4 D d r1.l1) => same16_yes (p := r1) v1 v2 v3 v4)
  have S2 := Lib.hid (fun (W : World) (Z1 Z2 Z3 Z4 : Zone) (A B C D : Option Addr) (a b c d : Nat) (v1 : U64s W Z1 A a r2.l0) (v2 : U64s W Z2 B b r2.l1) (v3 : U64s W Z3 C c r2.l0) (v4 : U64s W Z4 D d r2.l1) => same16_yes (p := r2) v1 v2 v3 v4)
  have S5 := Lib.hid (fun (W : World) (Z1 Z2 Z3 Z4 : Zone) (A B C D : Option Addr) (a b c d : Nat) (v1 : U64s W Z1 A a r5.l0) (v2 : U64s W Z2 B b r5.l1) (v3 : U64s W Z3 C c r5.l0) (v4 : U64s W Z4 D d r5.l1) => same16_yes (p := r5) v1 v2 v3 v4)
  have S6 := Lib.hid (fun (W : World) (Z1 Z2 Z3 Z4 : Zone) (A B C D : Option Addr) (a b c d : Nat) (v1 : U64s W Z1 A a r6.l0) (v2 : U64s W Z2 B b r6.l1) (v3 : U64s W Z3 C c r6.l0) (v4 : U64s W Z4 D d r6.l1) => same16_yes (p := r6) v1 v2 v3 v4)
  have S7 := Lib.hid (fun (W : World) (Z1 Z2 Z3 Z4 : Zone) (A B C D : Option Addr) (a b c d : Nat) (v1 : U64s W Z1 A a r7.l0) (v2 : U64s W Z2 B b r7.l1) (v3 : U64s W Z3 C c r7.l0) (v4 : U64s W Z4 D d r7.l1) => same16_yes (p := r7) v1 v2 v3 v4)
  have l3 : decide ((4 : Int) < (ln.length : Int)) = false := decide_eq_false (by omega)
  obtain ⟨hq, hb0⟩ := Q3n.new w (.bool p.n0) (.bool p.s0) (.slice A0 p.l0.length a0) (.bool p.n1) (.bool p.s1) (.slice B0 p.l1.length b0) (.bool q.n0) (.bool q.s0) (.slice A1 q.l0.length a1) (.bool q.n1) (.bool q.s1) (.slice B1 q.l1.length b1) (.bool sn) (.slice C0 ln.length c0) 29 25
  have bxs := Lib.hid hq
  have HB := Lib.hid hb0
  clear hq hb0
  clear u0 u1 u2 u3 u4 k1 k2 k3 m0 m1 m2 m3 hx hy hek hes c1 d1 c2 d2 c3 d3 c4 d4 c5 d5 c6 d6 c7 d7
  go_enter Try.func4, Try.ntmps4
  obtain ⟨y1_0, y1_1, y1_2, y1_3, y1_4, y1_5, _, _, _, _, _, _, _⟩ := id bxs.out.1
  go_wp2_with fail
  refine (G1.out _ HB.out).mono ?_
  rintro e w1 ⟨rfl, hc⟩
  clear y1_0 y1_1 y1_2 y1_3 y1_4 y1_5
  replace bxs := Lib.hid (bxs.out.below hc)
  replace HB := Lib.hid (from_ HB.out hc)
  clear hc G1
  obtain ⟨y2_0, y2_1, y2_2, y2_3, y2_4, y2_5, _, _, _, _, _, _, _⟩ := id bxs.out.2.1
  go_wp2_with fail
  refine (G2.out _ HB.out).mono ?_
  rintro e w3 ⟨rfl, hc⟩
  clear y2_0 y2_1 y2_2 y2_3 y2_4 y2_5
  replace bxs := Lib.hid (bxs.out.below hc)
  replace HB := Lib.hid (from_ HB.out hc)
  clear hc
  clear G2
  obtain ⟨y4_0, y4_1, _, _, _⟩ := id bxs.out.2.2
  obtain ⟨y5_0, y5_1, y5_2, y5_3, y5_4, y5_5, _, _, _, _, _, _, _⟩ := id bxs.out.1
  obtain ⟨y6_0, y6_1, y6_2, y6_3, y6_4, y6_5, _, _, _, _, _, _, _⟩ := id bxs.out.2.1
  go_wp2_with fail
  refine (C1.out _ HB.out).mono ?_
  rintro e w9 ⟨Xa, xa, Ya, za, rfl, va, ta, hc⟩
  clear y4_0 y4_1 y5_0 y5_1 y5_2 y5_3 y5_4 y5_5 y6_0 y6_1 y6_2 y6_3 y6_4 y6_5
  go_upto_region 4 with fail
  have hax : Below w9.heap.size w9 (w9.alloc (.cells #[.bool r1.n0, .bool r1.s0, .slice Xa r1.l0.length xa, .bool r1.n1, .bool r1.s1, .slice Ya r1.l1.length za] 29)) := (Below.refl _ _).alloc (Nat.le_refl _) _
  have b1 := Lib.hid (Box6.new w9 (.bool r1.n0) (.bool r1.s0) (.slice Xa r1.l0.length xa) (.bool r1.n1) (.bool r1.s1) (.slice Ya r1.l1.length za) 29)
  obtain ⟨gb1, hgb1⟩ : ∃ g, g = w9.heap.size := ⟨_, rfl⟩
  rw [← hgb1] at b1
  have hc8 := from_ hc hax
  have Va := Lib.hid (va.below hax)
  have Ta := Lib.hid (ta.below hax)
  replace bxs := Lib.hid (bxs.out.below hc8)
  replace HB := Lib.hid (from_ HB.out hc8)
  clear hc hax hc8 va ta
  generalize hWx : w9.alloc (.cells #[.bool r1.n0, .bool r1.s0, .slice Xa r1.l0.length xa, .bool r1.n1, .bool r1.s1, .slice Ya r1.l1.length za] 29) = W7 at *
  try simp only [← hgb1]
  clear hWx hgb1
  clear C1
  obtain ⟨y8_0, y8_1, y8_2, y8_3, y8_4, y8_5, _, _, _, _, _, _, _⟩ := id bxs.out.1
  obtain ⟨y9_0, y9_1, y9_2, y9_3, y9_4, y9_5, _, _, _, _, _, _, _⟩ := id bxs.out.2.1
  go_wp2_with fail
  refine (D1.out _ HB.out).mono ?_
  rintro e w10 ⟨Xb, xb, Yb, zb, rfl, vb, tb, hc⟩
  clear y8_0 y8_1 y8_2 y8_3 y8_4 y8_5 y9_0 y9_1 y9_2 y9_3 y9_4 y9_5
  go_upto_region 5 with fail
  have hax : Below w10.heap.size w10 (w10.alloc (.cells #[.bool r1.n0, .bool r1.s0, .slice Xb r1.l0.length xb, .bool r1.n1, .bool r1.s1, .slice Yb r1.l1.length zb] 29)) := (Below.refl _ _).alloc (Nat.le_refl _) _
  have d1 := Lib.hid (Box6.new w10 (.bool r1.n0) (.bool r1.s0) (.slice Xb r1.l0.length xb) (.bool r1.n1) (.bool r1.s1) (.slice Yb r1.l1.length zb) 29)
  obtain ⟨gd1, hgd1⟩ : ∃ g, g = w10.heap.size := ⟨_, rfl⟩
  rw [← hgd1] at d1
  have hc8 := from_ hc hax
  have Vb := Lib.hid (vb.below hax)
  have Tb := Lib.hid (tb.below hax)
  replace bxs := Lib.hid (bxs.out.below hc8)
  replace b1 := Lib.hid (b1.out.below hc8)
  replace Va := Lib.hid (Va.out.below hc8)
  replace Ta := Lib.hid (Ta.out.below hc8)
  replace HB := Lib.hid (from_ HB.out hc8)
  clear hc hax hc8 vb tb
  generalize hWx : w10.alloc (.cells #[.bool r1.n0, .bool r1.s0, .slice Xb r1.l0.length xb, .bool r1.n1, .bool r1.s1, .slice Yb r1.l1.length zb] 29) = W11 at *
  try simp only [← hgd1]
  clear hWx hgd1
  clear D1
  obtain ⟨y12_0, y12_1, y12_2, y12_3, y12_4, y12_5, _, _, _, _, _, _, _⟩ := id bxs.out.1
  obtain ⟨y13_0, y13_1, y13_2, y13_3, y13_4, y13_5, _, _, _, _, _, _, _⟩ := id bxs.out.2.1
  go_wp2_with fail
  refine (C2.out _ HB.out).mono ?_
  rintro e w14 ⟨Xc, xc, Yc, zc, rfl, vc, tc, hc⟩
  clear y12_0 y12_1 y12_2 y12_3 y12_4 y12_5 y13_0 y13_1 y13_2 y13_3 y13_4 y13_5
  go_upto_region 6 with fail
  have hax : Below w14.heap.size w14 (w14.alloc (.cells #[.bool r2.n0, .bool r2.s0, .slice Xc r2.l0.length xc, .bool r2.n1, .bool r2.s1, .slice Yc r2.l1.length zc] 29)) := (Below.refl _ _).alloc (Nat.le_refl _) _
  have b2 := Lib.hid (Box6.new w14 (.bool r2.n0) (.bool r2.s0) (.slice Xc r2.l0.length xc) (.bool r2.n1) (.bool r2.s1) (.slice Yc r2.l1.length zc) 29)
  obtain ⟨gb2, hgb2⟩ : ∃ g, g = w14.heap.size := ⟨_, rfl⟩
  rw [← hgb2] at b2
  have hc8 := from_ hc hax
  have Vc := Lib.hid (vc.below hax)
  have Tc := Lib.hid (tc.below hax)
  replace bxs := Lib.hid (bxs.out.below hc8)
  replace b1 := Lib.hid (b1.out.below hc8)
  replace d1 := Lib.hid (d1.out.below hc8)
  replace Va := Lib.hid (Va.out.below hc8)
  replace Ta := Lib.hid (Ta.out.below hc8)
  replace Vb := Lib.hid (Vb.out.below hc8)
  replace Tb := Lib.hid (Tb.out.below hc8)
  replace HB := Lib.hid (from_ HB.out hc8)
  clear hc hax hc8 vc tc
  generalize hWx : w14.alloc (.cells #[.bool r2.n0, .bool r2.s0, .slice Xc r2.l0.length xc, .bool r2.n1, .bool r2.s1, .slice Yc r2.l1.length zc] 29) = W15 at *
  try simp only [← hgb2]
  clear hWx hgb2
  clear C2
  obtain ⟨y16_0, y16_1, y16_2, y16_3, y16_4, y16_5, _, _, _, _, _, _, _⟩ := id bxs.out.1
  obtain ⟨y17_0, y17_1, y17_2, y17_3, y17_4, y17_5, _, _, _, _, _, _, _⟩ := id bxs.out.2.1
  go_wp2_with fail
  refine (D2.out _ HB.out).mono ?_
  rintro e w18 ⟨Xd, xd, Yd, zd, rfl, vd, td, hc⟩
  clear y16_0 y16_1 y16_2 y16_3 y16_4 y16_5 y17_0 y17_1 y17_2 y17_3 y17_4 y17_5
  go_upto_region 7 with fail
  have hax : Below w18.heap.size w18 (w18.alloc (.cells #[.bool r2.n0, .bool r2.s0, .slice Xd r2.l0.length xd, .bool r2.n1, .bool r2.s1, .slice Yd r2.l1.length zd] 29)) := (Below.refl _ _).alloc (Nat.le_refl _) _
  have d2 := Lib.hid (Box6.new w18 (.bool r2.n0) (.bool r2.s0) (.slice Xd r2.l0.length xd) (.bool r2.n1) (.bool r2.s1) (.slice Yd r2.l1.length zd) 29)
  obtain ⟨gd2, hgd2⟩ : ∃ g, g = w18.heap.size := ⟨_, rfl⟩
  rw [← hgd2] at d2
  have hc8 := from_ hc hax
  have Vd := Lib.hid (vd.below hax)
  have Td := Lib.hid (td.below hax)
  replace bxs := Lib.hid (bxs.out.below hc8)
  replace b1 := Lib.hid (b1.out.below hc8)
  replace d1 := Lib.hid (d1.out.below hc8)
  replace b2 := Lib.hid (b2.out.below hc8)
  replace Va := Lib.hid (Va.out.below hc8)
  replace Ta := Lib.hid (Ta.out.below hc8)
  replace Vb := Lib.hid (Vb.out.below hc8)
  replace Tb := Lib.hid (Tb.out.below hc8)
  replace Vc := Lib.hid (Vc.out.below hc8)
  replace Tc := Lib.hid (Tc.out.below hc8)
  replace HB := Lib.hid (from_ HB.out hc8)
  clear hc hax hc8 vd td
  generalize hWx : w18.alloc (.cells #[.bool r2.n0, .bool r2.s0, .slice Xd r2.l0.length xd, .bool r2.n1, .bool r2.s1, .slice Yd r2.l1.length zd] 29) = W19 at *
  try simp only [← hgd2]
  clear hWx hgd2
  clear D2
  obtain ⟨y20_0, y20_1, y20_2, y20_3, y20_4, y20_5, _, _, _, _, _, _, _⟩ := id bxs.out.1
  obtain ⟨y21_0, y21_1, y21_2, y21_3, y21_4, y21_5, _, _, _, _, _, _, _⟩ := id bxs.out.2.1
  go_wp2_with fail
  refine (C3.out _ HB.out).mono ?_
  rintro e w22 ⟨rfl, hc⟩
  clear y20_0 y20_1 y20_2 y20_3 y20_4 y20_5 y21_0 y21_1 y21_2 y21_3 y21_4 y21_5
  replace bxs := Lib.hid (bxs.out.below hc)
  replace b1 := Lib.hid (b1.out.below hc)
  replace d1 := Lib.hid (d1.out.below hc)
  replace b2 := Lib.hid (b2.out.below hc)
  replace d2 := Lib.hid (d2.out.below hc)
  replace Va := Lib.hid (Va.out.below hc)
  replace Ta := Lib.hid (Ta.out.below hc)
  replace Vb := Lib.hid (Vb.out.below hc)
  replace Tb := Lib.hid (Tb.out.below hc)
  replace Vc := Lib.hid (Vc.out.below hc)
  replace Tc := Lib.hid (Tc.out.below hc)
  replace Vd := Lib.hid (Vd.out.below hc)
  replace Td := Lib.hid (Td.out.below hc)
  replace HB := Lib.hid (from_ HB.out hc)
  clear hc
  clear C3
  obtain ⟨y23_0, y23_1, y23_2, y23_3, y23_4, y23_5, _, _, _, _, _, _, _⟩ := id bxs.out.1
  obtain ⟨y24_0, y24_1, y24_2, y24_3, y24_4, y24_5, _, _, _, _, _, _, _⟩ := id bxs.out.2.1
  go_wp2_with fail
  refine (D3.out _ HB.out).mono ?_
  rintro e w25 ⟨rfl, hc⟩
  clear y23_0 y23_1 y23_2 y23_3 y23_4 y23_5 y24_0 y24_1 y24_2 y24_3 y24_4 y24_5
  replace bxs := Lib.hid (bxs.out.below hc)
  replace b1 := Lib.hid (b1.out.below hc)
  replace d1 := Lib.hid (d1.out.below hc)
  replace b2 := Lib.hid (b2.out.below hc)
  replace d2 := Lib.hid (d2.out.below hc)
  replace Va := Lib.hid (Va.out.below hc)
  replace Ta := Lib.hid (Ta.out.below hc)
  replace Vb := Lib.hid (Vb.out.below hc)
  replace Tb := Lib.hid (Tb.out.below hc)
  replace Vc := Lib.hid (Vc.out.below hc)
  replace Tc := Lib.hid (Tc.out.below hc)
  replace Vd := Lib.hid (Vd.out.below hc)
  replace Td := Lib.hid (Td.out.below hc)
  replace HB := Lib.hid (from_ HB.out hc)
  clear hc
  clear D3
  obtain ⟨y26_0, y26_1, y26_2, y26_3, y26_4, y26_5, _, _, _, _, _, _, _⟩ := id bxs.out.1
  obtain ⟨y27_0, y27_1, _, _, _⟩ := id bxs.out.2.2
  go_wp2_with fail
  refine (C4.out _ HB.out).mono ?_
  rintro e w28 ⟨rfl, hc⟩
  clear y26_0 y26_1 y26_2 y26_3 y26_4 y26_5 y27_0 y27_1
  replace bxs := Lib.hid (bxs.out.below hc)
  replace b1 := Lib.hid (b1.out.below hc)
  replace d1 := Lib.hid (d1.out.below hc)
  replace b2 := Lib.hid (b2.out.below hc)
  replace d2 := Lib.hid (d2.out.below hc)
  replace Va := Lib.hid (Va.out.below hc)
  replace Ta := Lib.hid (Ta.out.below hc)
  replace Vb := Lib.hid (Vb.out.below hc)
  replace Tb := Lib.hid (Tb.out.below hc)
  replace Vc := Lib.hid (Vc.out.below hc)
  replace Tc := Lib.hid (Tc.out.below hc)
  replace Vd := Lib.hid (Vd.out.below hc)
  replace Td := Lib.hid (Td.out.below hc)
  replace HB := Lib.hid (from_ HB.out hc)
  clear hc
  clear C4
  obtain ⟨y29_0, y29_1, y29_2, y29_3, y29_4, y29_5, _, _, _, _, _, _, _⟩ := id bxs.out.1
  obtain ⟨y30_0, y30_1, _, _, _⟩ := id bxs.out.2.2
  go_wp2_with fail
  refine (D4.out _ HB.out).mono ?_
  rintro e w31 ⟨rfl, hc⟩
  clear y29_0 y29_1 y29_2 y29_3 y29_4 y29_5 y30_0 y30_1
  replace bxs := Lib.hid (bxs.out.below hc)
  replace b1 := Lib.hid (b1.out.below hc)
  replace d1 := Lib.hid (d1.out.below hc)
  replace b2 := Lib.hid (b2.out.below hc)
  replace d2 := Lib.hid (d2.out.below hc)
  replace Va := Lib.hid (Va.out.below hc)
  replace Ta := Lib.hid (Ta.out.below hc)
  replace Vb := Lib.hid (Vb.out.below hc)
  replace Tb := Lib.hid (Tb.out.below hc)
  replace Vc := Lib.hid (Vc.out.below hc)
  replace Tc := Lib.hid (Tc.out.below hc)
  replace Vd := Lib.hid (Vd.out.below hc)
  replace Td := Lib.hid (Td.out.below hc)
  replace HB := Lib.hid (from_ HB.out hc)
  clear hc
  clear D4
  obtain ⟨y32_0, y32_1, y32_2, y32_3, y32_4, y32_5, _, _, _, _, _, _, _⟩ := id bxs.out.1
  go_wp2_with fail
  refine (C5.out _ HB.out).mono ?_
  rintro e w33 ⟨Xe, xe, Ye, ze, rfl, ve, te, hc⟩
  clear y32_0 y32_1 y32_2 y32_3 y32_4 y32_5
  go_upto_region 12 with fail
  have hax : Below w33.heap.size w33 (w33.alloc (.cells #[.bool r5.n0, .bool r5.s0, .slice Xe r5.l0.length xe, .bool r5.n1, .bool r5.s1, .slice Ye r5.l1.length ze] 29)) := (Below.refl _ _).alloc (Nat.le_refl _) _
  have b5 := Lib.hid (Box6.new w33 (.bool r5.n0) (.bool r5.s0) (.slice Xe r5.l0.length xe) (.bool r5.n1) (.bool r5.s1) (.slice Ye r5.l1.length ze) 29)
  obtain ⟨gb5, hgb5⟩ : ∃ g, g = w33.heap.size := ⟨_, rfl⟩
  rw [← hgb5] at b5
  have hc8 := from_ hc hax
  have Ve := Lib.hid (ve.below hax)
  have Te := Lib.hid (te.below hax)
  replace bxs := Lib.hid (bxs.out.below hc8)
  replace b1 := Lib.hid (b1.out.below hc8)
  replace d1 := Lib.hid (d1.out.below hc8)
  replace b2 := Lib.hid (b2.out.below hc8)
  replace d2 := Lib.hid (d2.out.below hc8)
  replace Va := Lib.hid (Va.out.below hc8)
  replace Ta := Lib.hid (Ta.out.below hc8)
  replace Vb := Lib.hid (Vb.out.below hc8)
  replace Tb := Lib.hid (Tb.out.below hc8)
  replace Vc := Lib.hid (Vc.out.below hc8)
  replace Tc := Lib.hid (Tc.out.below hc8)
  replace Vd := Lib.hid (Vd.out.below hc8)
  replace Td := Lib.hid (Td.out.below hc8)
  replace HB := Lib.hid (from_ HB.out hc8)
  clear hc hax hc8 ve te
  generalize hWx : w33.alloc (.cells #[.bool r5.n0, .bool r5.s0, .slice Xe r5.l0.length xe, .bool r5.n1, .bool r5.s1, .slice Ye r5.l1.length ze] 29) = W34 at *
  try simp only [← hgb5]
  clear hWx hgb5
  clear C5
  obtain ⟨y35_0, y35_1, y35_2, y35_3, y35_4, y35_5, _, _, _, _, _, _, _⟩ := id bxs.out.1
  go_wp2_with fail
  refine (D5.out _ HB.out).mono ?_
  rintro e w36 ⟨Xf, xf, Yf, zf, rfl, vf, tf, hc⟩
  clear y35_0 y35_1 y35_2 y35_3 y35_4 y35_5
  go_upto_region 13 with fail
  have hax : Below w36.heap.size w36 (w36.alloc (.cells #[.bool r5.n0, .bool r5.s0, .slice Xf r5.l0.length xf, .bool r5.n1, .bool r5.s1, .slice Yf r5.l1.length zf] 29)) := (Below.refl _ _).alloc (Nat.le_refl _) _
  have d5 := Lib.hid (Box6.new w36 (.bool r5.n0) (.bool r5.s0) (.slice Xf r5.l0.length xf) (.bool r5.n1) (.bool r5.s1) (.slice Yf r5.l1.length zf) 29)
  obtain ⟨gd5, hgd5⟩ : ∃ g, g = w36.heap.size := ⟨_, rfl⟩
  rw [← hgd5] at d5
  have hc8 := from_ hc hax
  have Vf := Lib.hid (vf.below hax)
  have Tf := Lib.hid (tf.below hax)
  replace bxs := Lib.hid (bxs.out.below hc8)
  replace b1 := Lib.hid (b1.out.below hc8)
  replace d1 := Lib.hid (d1.out.below hc8)
  replace b2 := Lib.hid (b2.out.below hc8)
  replace d2 := Lib.hid (d2.out.below hc8)
  replace b5 := Lib.hid (b5.out.below hc8)
  replace Va := Lib.hid (Va.out.below hc8)
  replace Ta := Lib.hid (Ta.out.below hc8)
  replace Vb := Lib.hid (Vb.out.below hc8)
  replace Tb := Lib.hid (Tb.out.below hc8)
  replace Vc := Lib.hid (Vc.out.below hc8)
  replace Tc := Lib.hid (Tc.out.below hc8)
  replace Vd := Lib.hid (Vd.out.below hc8)
  replace Td := Lib.hid (Td.out.below hc8)
  replace Ve := Lib.hid (Ve.out.below hc8)
  replace Te := Lib.hid (Te.out.below hc8)
  replace HB := Lib.hid (from_ HB.out hc8)
  clear hc hax hc8 vf tf
  generalize hWx : w36.alloc (.cells #[.bool r5.n0, .bool r5.s0, .slice Xf r5.l0.length xf, .bool r5.n1, .bool r5.s1, .slice Yf r5.l1.length zf] 29) = W37 at *
  try simp only [← hgd5]
  clear hWx hgd5
  clear D5
  go_wp2_with fail
  refine (C6.out _).mono ?_
  rintro e w38 ⟨Xg, xg, Yg, zg, rfl, vg, tg, hc⟩
  go_upto_region 14 with fail
  have hax : Below w38.heap.size w38 (w38.alloc (.cells #[.bool r6.n0, .bool r6.s0, .slice Xg r6.l0.length xg, .bool r6.n1, .bool r6.s1, .slice Yg r6.l1.length zg] 29)) := (Below.refl _ _).alloc (Nat.le_refl _) _
  have b6 := Lib.hid (Box6.new w38 (.bool r6.n0) (.bool r6.s0) (.slice Xg r6.l0.length xg) (.bool r6.n1) (.bool r6.s1) (.slice Yg r6.l1.length zg) 29)
  obtain ⟨gb6, hgb6⟩ : ∃ g, g = w38.heap.size := ⟨_, rfl⟩
  rw [← hgb6] at b6
  have hc8 := from_ hc hax
  have Vg := Lib.hid (vg.below hax)
  have Tg := Lib.hid (tg.below hax)
  replace bxs := Lib.hid (bxs.out.below hc8)
  replace b1 := Lib.hid (b1.out.below hc8)
  replace d1 := Lib.hid (d1.out.below hc8)
  replace b2 := Lib.hid (b2.out.below hc8)
  replace d2 := Lib.hid (d2.out.below hc8)
  replace b5 := Lib.hid (b5.out.below hc8)
  replace d5 := Lib.hid (d5.out.below hc8)
  replace Va := Lib.hid (Va.out.below hc8)
  replace Ta := Lib.hid (Ta.out.below hc8)
  replace Vb := Lib.hid (Vb.out.below hc8)
  replace Tb := Lib.hid (Tb.out.below hc8)
  replace Vc := Lib.hid (Vc.out.below hc8)
  replace Tc := Lib.hid (Tc.out.below hc8)
  replace Vd := Lib.hid (Vd.out.below hc8)
  replace Td := Lib.hid (Td.out.below hc8)
  replace Ve := Lib.hid (Ve.out.below hc8)
  replace Te := Lib.hid (Te.out.below hc8)
  replace Vf := Lib.hid (Vf.out.below hc8)
  replace Tf := Lib.hid (Tf.out.below hc8)
  replace HB := Lib.hid (from_ HB.out hc8)
  clear hc hax hc8 vg tg
  generalize hWx : w38.alloc (.cells #[.bool r6.n0, .bool r6.s0, .slice Xg r6.l0.length xg, .bool r6.n1, .bool r6.s1, .slice Yg r6.l1.length zg] 29) = W39 at *
  try simp only [← hgb6]
  clear hWx hgb6
  clear C6
  go_wp2_with fail
  refine (D6.out _).mono ?_
  rintro e w40 ⟨Xh, xh, Yh, zh, rfl, vh, th, hc⟩
  go_upto_region 15 with fail
  have hax : Below w40.heap.size w40 (w40.alloc (.cells #[.bool r6.n0, .bool r6.s0, .slice Xh r6.l0.length xh, .bool r6.n1, .bool r6.s1, .slice Yh r6.l1.length zh] 29)) := (Below.refl _ _).alloc (Nat.le_refl _) _
  have d6 := Lib.hid (Box6.new w40 (.bool r6.n0) (.bool r6.s0) (.slice Xh r6.l0.length xh) (.bool r6.n1) (.bool r6.s1) (.slice Yh r6.l1.length zh) 29)
  obtain ⟨gd6, hgd6⟩ : ∃ g, g = w40.heap.size := ⟨_, rfl⟩
  rw [← hgd6] at d6
  have hc8 := from_ hc hax
  have Vh := Lib.hid (vh.below hax)
  have Th := Lib.hid (th.below hax)
  replace bxs := Lib.hid (bxs.out.below hc8)
  replace b1 := Lib.hid (b1.out.below hc8)
  replace d1 := Lib.hid (d1.out.below hc8)
  replace b2 := Lib.hid (b2.out.below hc8)
  replace d2 := Lib.hid (d2.out.below hc8)
  replace b5 := Lib.hid (b5.out.below hc8)
  replace d5 := Lib.hid (d5.out.below hc8)
  replace b6 := Lib.hid (b6.out.below hc8)
  replace Va := Lib.hid (Va.out.below hc8)
  replace Ta := Lib.hid (Ta.out.below hc8)
  replace Vb := Lib.hid (Vb.out.below hc8)
  replace Tb := Lib.hid (Tb.out.below hc8)
  replace Vc := Lib.hid (Vc.out.below hc8)
  replace Tc := Lib.hid (Tc.out.below hc8)
  replace Vd := Lib.hid (Vd.out.below hc8)
  replace Td := Lib.hid (Td.out.below hc8)
  replace Ve := Lib.hid (Ve.out.below hc8)
  replace Te := Lib.hid (Te.out.below hc8)
  replace Vf := Lib.hid (Vf.out.below hc8)
  replace Tf := Lib.hid (Tf.out.below hc8)
  replace Vg := Lib.hid (Vg.out.below hc8)
  replace Tg := Lib.hid (Tg.out.below hc8)
  replace HB := Lib.hid (from_ HB.out hc8)
  clear hc hax hc8 vh th
  generalize hWx : w40.alloc (.cells #[.bool r6.n0, .bool r6.s0, .slice Xh r6.l0.length xh, .bool r6.n1, .bool r6.s1, .slice Yh r6.l1.length zh] 29) = W41 at *
  try simp only [← hgd6]
  clear hWx hgd6
  clear D6
  obtain ⟨y42_0, y42_1, _, _, _⟩ := id bxs.out.2.2
  go_wp2_with fail
  refine (C7.out _ HB.out).mono ?_
  rintro e w43 ⟨Xi, xi, Yi, zi, rfl, vi, ti, hc⟩
  clear y42_0 y42_1
  go_upto_region 16 with fail
  have hax : Below w43.heap.size w43 (w43.alloc (.cells #[.bool r7.n0, .bool r7.s0, .slice Xi r7.l0.length xi, .bool r7.n1, .bool r7.s1, .slice Yi r7.l1.length zi] 29)) := (Below.refl _ _).alloc (Nat.le_refl _) _
  have b7 := Lib.hid (Box6.new w43 (.bool r7.n0) (.bool r7.s0) (.slice Xi r7.l0.length xi) (.bool r7.n1) (.bool r7.s1) (.slice Yi r7.l1.length zi) 29)
  obtain ⟨gb7, hgb7⟩ : ∃ g, g = w43.heap.size := ⟨_, rfl⟩
  rw [← hgb7] at b7
  have hc8 := from_ hc hax
  have Vi := Lib.hid (vi.below hax)
  have Ti := Lib.hid (ti.below hax)
  replace bxs := Lib.hid (bxs.out.below hc8)
  replace b1 := Lib.hid (b1.out.below hc8)
  replace d1 := Lib.hid (d1.out.below hc8)
  replace b2 := Lib.hid (b2.out.below hc8)
  replace d2 := Lib.hid (d2.out.below hc8)
  replace b5 := Lib.hid (b5.out.below hc8)
  replace d5 := Lib.hid (d5.out.below hc8)
  replace b6 := Lib.hid (b6.out.below hc8)
  replace d6 := Lib.hid (d6.out.below hc8)
  replace Va := Lib.hid (Va.out.below hc8)
  replace Ta := Lib.hid (Ta.out.below hc8)
  replace Vb := Lib.hid (Vb.out.below hc8)
  replace Tb := Lib.hid (Tb.out.below hc8)
  replace Vc := Lib.hid (Vc.out.below hc8)
  replace Tc := Lib.hid (Tc.out.below hc8)
  replace Vd := Lib.hid (Vd.out.below hc8)
  replace Td := Lib.hid (Td.out.below hc8)
  replace Ve := Lib.hid (Ve.out.below hc8)
  replace Te := Lib.hid (Te.out.below hc8)
  replace Vf := Lib.hid (Vf.out.below hc8)
  replace Tf := Lib.hid (Tf.out.below hc8)
  replace Vg := Lib.hid (Vg.out.below hc8)
  replace Tg := Lib.hid (Tg.out.below hc8)
  replace Vh := Lib.hid (Vh.out.below hc8)
  replace Th := Lib.hid (Th.out.below hc8)
  replace HB := Lib.hid (from_ HB.out hc8)
  clear hc hax hc8 vi ti
  generalize hWx : w43.alloc (.cells #[.bool r7.n0, .bool r7.s0, .slice Xi r7.l0.length xi, .bool r7.n1, .bool r7.s1, .slice Yi r7.l1.length zi] 29) = W44 at *
  try simp only [← hgb7]
  clear hWx hgb7
  clear C7
  obtain ⟨y45_0, y45_1, _, _, _⟩ := id bxs.out.2.2
  go_wp2_with fail
  refine (D7.out _ HB.out).mono ?_
  rintro e w46 ⟨Xj, xj, Yj, zj, rfl, vj, tj, hc⟩
  clear y45_0 y45_1
  go_upto_region 17 with fail
  have hax : Below w46.heap.size w46 (w46.alloc (.cells #[.bool r7.n0, .bool r7.s0, .slice Xj r7.l0.length xj, .bool r7.n1, .bool r7.s1, .slice Yj r7.l1.length zj] 29)) := (Below.refl _ _).alloc (Nat.le_refl _) _
  have d7 := Lib.hid (Box6.new w46 (.bool r7.n0) (.bool r7.s0) (.slice Xj r7.l0.length xj) (.bool r7.n1) (.bool r7.s1) (.slice Yj r7.l1.length zj) 29)
  obtain ⟨gd7, hgd7⟩ : ∃ g, g = w46.heap.size := ⟨_, rfl⟩
  rw [← hgd7] at d7
  have hc8 := from_ hc hax
  have Vj := Lib.hid (vj.below hax)
  have Tj := Lib.hid (tj.below hax)
  replace bxs := Lib.hid (bxs.out.below hc8)
  replace b1 := Lib.hid (b1.out.below hc8)
  replace d1 := Lib.hid (d1.out.below hc8)
  replace b2 := Lib.hid (b2.out.below hc8)
  replace d2 := Lib.hid (d2.out.below hc8)
  replace b5 := Lib.hid (b5.out.below hc8)
  replace d5 := Lib.hid (d5.out.below hc8)
  replace b6 := Lib.hid (b6.out.below hc8)
  replace d6 := Lib.hid (d6.out.below hc8)
  replace b7 := Lib.hid (b7.out.below hc8)
  replace Va := Lib.hid (Va.out.below hc8)
  replace Ta := Lib.hid (Ta.out.below hc8)
  replace Vb := Lib.hid (Vb.out.below hc8)
  replace Tb := Lib.hid (Tb.out.below hc8)
  replace Vc := Lib.hid (Vc.out.below hc8)
  replace Tc := Lib.hid (Tc.out.below hc8)
  replace Vd := Lib.hid (Vd.out.below hc8)
  replace Td := Lib.hid (Td.out.below hc8)
  replace Ve := Lib.hid (Ve.out.below hc8)
  replace Te := Lib.hid (Te.out.below hc8)
  replace Vf := Lib.hid (Vf.out.below hc8)
  replace Tf := Lib.hid (Tf.out.below hc8)
  replace Vg := Lib.hid (Vg.out.below hc8)
  replace Tg := Lib.hid (Tg.out.below hc8)
  replace Vh := Lib.hid (Vh.out.below hc8)
  replace Th := Lib.hid (Th.out.below hc8)
  replace Vi := Lib.hid (Vi.out.below hc8)
  replace Ti := Lib.hid (Ti.out.below hc8)
  replace HB := Lib.hid (from_ HB.out hc8)
  clear hc hax hc8 vj tj
  generalize hWx : w46.alloc (.cells #[.bool r7.n0, .bool r7.s0, .slice Xj r7.l0.length xj, .bool r7.n1, .bool r7.s1, .slice Yj r7.l1.length zj] 29) = W47 at *
  try simp only [← hgd7]
  clear hWx hgd7
  clear D7
  obtain ⟨y48_0, y48_1, y48_2, y48_3, y48_4, y48_5, _, _, _, _, _, _, _⟩ := id b1.out
  obtain ⟨y49_0, y49_1, y49_2, y49_3, y49_4, y49_5, _, _, _, _, _, _, _⟩ := id d1.out
  go_wp2_with fail
  refine (S1.out _ _ _ _ _ _ _ _ _ _ _ _ _ Va.out Ta.out Vb.out Tb.out).mono ?_
  rintro e w50 ⟨rfl, hc⟩
  clear y48_0 y48_1 y48_2 y48_3 y48_4 y48_5 y49_0 y49_1 y49_2 y49_3 y49_4 y49_5
  clear b1 d1 Va Ta Vb Tb
  replace bxs := Lib.hid (bxs.out.below hc)
  replace b2 := Lib.hid (b2.out.below hc)
  replace d2 := Lib.hid (d2.out.below hc)
  replace b5 := Lib.hid (b5.out.below hc)
  replace d5 := Lib.hid (d5.out.below hc)
  replace b6 := Lib.hid (b6.out.below hc)
  replace d6 := Lib.hid (d6.out.below hc)
  replace b7 := Lib.hid (b7.out.below hc)
  replace d7 := Lib.hid (d7.out.below hc)
  replace Vc := Lib.hid (Vc.out.below hc)
  replace Tc := Lib.hid (Tc.out.below hc)
  replace Vd := Lib.hid (Vd.out.below hc)
  replace Td := Lib.hid (Td.out.below hc)
  replace Ve := Lib.hid (Ve.out.below hc)
  replace Te := Lib.hid (Te.out.below hc)
  replace Vf := Lib.hid (Vf.out.below hc)
  replace Tf := Lib.hid (Tf.out.below hc)
  replace Vg := Lib.hid (Vg.out.below hc)
  replace Tg := Lib.hid (Tg.out.below hc)
  replace Vh := Lib.hid (Vh.out.below hc)
  replace Th := Lib.hid (Th.out.below hc)
  replace Vi := Lib.hid (Vi.out.below hc)
  replace Ti := Lib.hid (Ti.out.below hc)
  replace Vj := Lib.hid (Vj.out.below hc)
  replace Tj := Lib.hid (Tj.out.below hc)
  replace HB := Lib.hid (from_ HB.out hc)
  clear hc
  clear S1
  obtain ⟨y51_0, y51_1, y51_2, y51_3, y51_4, y51_5, _, _, _, _, _, _, _⟩ := id b2.out
  obtain ⟨y52_0, y52_1, y52_2, y52_3, y52_4, y52_5, _, _, _, _, _, _, _⟩ := id d2.out
  go_wp2_with fail
  refine (S2.out _ _ _ _ _ _ _ _ _ _ _ _ _ Vc.out Tc.out Vd.out Td.out).mono ?_
  rintro e w53 ⟨rfl, hc⟩
  clear y51_0 y51_1 y51_2 y51_3 y51_4 y51_5 y52_0 y52_1 y52_2 y52_3 y52_4 y52_5
  clear b2 d2 Vc Tc Vd Td
  replace bxs := Lib.hid (bxs.out.below hc)
  replace b5 := Lib.hid (b5.out.below hc)
  replace d5 := Lib.hid (d5.out.below hc)
  replace b6 := Lib.hid (b6.out.below hc)
  replace d6 := Lib.hid (d6.out.below hc)
  replace b7 := Lib.hid (b7.out.below hc)
  replace d7 := Lib.hid (d7.out.below hc)
  replace Ve := Lib.hid (Ve.out.below hc)
  replace Te := Lib.hid (Te.out.below hc)
  replace Vf := Lib.hid (Vf.out.below hc)
  replace Tf := Lib.hid (Tf.out.below hc)
  replace Vg := Lib.hid (Vg.out.below hc)
  replace Tg := Lib.hid (Tg.out.below hc)
  replace Vh := Lib.hid (Vh.out.below hc)
  replace Th := Lib.hid (Th.out.below hc)
  replace Vi := Lib.hid (Vi.out.below hc)
  replace Ti := Lib.hid (Ti.out.below hc)
  replace Vj := Lib.hid (Vj.out.below hc)
  replace Tj := Lib.hid (Tj.out.below hc)
  replace HB := Lib.hid (from_ HB.out hc)
  clear hc
  clear S2
  obtain ⟨y54_0, y54_1, y54_2, y54_3, y54_4, y54_5, _, _, _, _, _, _, _⟩ := id b5.out
  obtain ⟨y55_0, y55_1, y55_2, y55_3, y55_4, y55_5, _, _, _, _, _, _, _⟩ := id d5.out
  go_wp2_with fail
  refine (S5.out _ _ _ _ _ _ _ _ _ _ _ _ _ Ve.out Te.out Vf.out Tf.out).mono ?_
  rintro e w56 ⟨rfl, hc⟩
  clear y54_0 y54_1 y54_2 y54_3 y54_4 y54_5 y55_0 y55_1 y55_2 y55_3 y55_4 y55_5
  clear b5 d5 Ve Te Vf Tf
  replace bxs := Lib.hid (bxs.out.below hc)
  replace b6 := Lib.hid (b6.out.below hc)
  replace d6 := Lib.hid (d6.out.below hc)
  replace b7 := Lib.hid (b7.out.below hc)
  replace d7 := Lib.hid (d7.out.below hc)
  replace Vg := Lib.hid (Vg.out.below hc)
  replace Tg := Lib.hid (Tg.out.below hc)
  replace Vh := Lib.hid (Vh.out.below hc)
  replace Th := Lib.hid (Th.out.below hc)
  replace Vi := Lib.hid (Vi.out.below hc)
  replace Ti := Lib.hid (Ti.out.below hc)
  replace Vj := Lib.hid (Vj.out.below hc)
  replace Tj := Lib.hid (Tj.out.below hc)
  replace HB := Lib.hid (from_ HB.out hc)
  clear hc
  clear S5
  obtain ⟨y57_0, y57_1, y57_2, y57_3, y57_4, y57_5, _, _, _, _, _, _, _⟩ := id b6.out
  obtain ⟨y58_0, y58_1, y58_2, y58_3, y58_4, y58_5, _, _, _, _, _, _, _⟩ := id d6.out
  go_wp2_with fail
  refine (S6.out _ _ _ _ _ _ _ _ _ _ _ _ _ Vg.out Tg.out Vh.out Th.out).mono ?_
  rintro e w59 ⟨rfl, hc⟩
  clear y57_0 y57_1 y57_2 y57_3 y57_4 y57_5 y58_0 y58_1 y58_2 y58_3 y58_4 y58_5
  clear b6 d6 Vg Tg Vh Th
  replace bxs := Lib.hid (bxs.out.below hc)
  replace b7 := Lib.hid (b7.out.below hc)
  replace d7 := Lib.hid (d7.out.below hc)
  replace Vi := Lib.hid (Vi.out.below hc)
  replace Ti := Lib.hid (Ti.out.below hc)
  replace Vj := Lib.hid (Vj.out.below hc)
  replace Tj := Lib.hid (Tj.out.below hc)
  replace HB := Lib.hid (from_ HB.out hc)
  clear hc
  clear S6
  obtain ⟨y60_0, y60_1, y60_2, y60_3, y60_4, y60_5, _, _, _, _, _, _, _⟩ := id b7.out
  obtain ⟨y61_0, y61_1, y61_2, y61_3, y61_4, y61_5, _, _, _, _, _, _, _⟩ := id d7.out
  go_wp2_with fail
  refine (S7.out _ _ _ _ _ _ _ _ _ _ _ _ _ Vi.out Ti.out Vj.out Tj.out).mono ?_
  rintro e w62 ⟨rfl, hc⟩
  clear y60_0 y60_1 y60_2 y60_3 y60_4 y60_5 y61_0 y61_1 y61_2 y61_3 y61_4 y61_5
  clear b7 d7 Vi Ti Vj Tj
  replace bxs := Lib.hid (bxs.out.below hc)
  replace HB := Lib.hid (from_ HB.out hc)
  clear hc
  clear S7
  go_upto_region 19 with fail
  have hs := And.intro bxs.out.1.all bxs.out.2.1.all
  replace hs := c12_keep hs (Below.refl _ _).drew
  have Hc := Lib.hid HB.out.drew
  first | go_region_held3 (fun w' => (w'.cell? ⟨w.heap.size, 0, none⟩ = some (.bool p.n0) ∧ w'.cell? ⟨w.heap.size, 1, none⟩ = some (.bool p.s0) ∧ w'.cell? ⟨w.heap.size, 2, none⟩ = some (.slice A0 p.l0.length a0) ∧ w'.cell? ⟨w.heap.size, 3, none⟩ = some (.bool p.n1) ∧ w'.cell? ⟨w.heap.size, 4, none⟩ = some (.bool p.s1) ∧ w'.cell? ⟨w.heap.size, 5, none⟩ = some (.slice B0 p.l1.length b0)) ∧ w'.cell? ⟨w.heap.size + 1, 0, none⟩ = some (.bool q.n0) ∧ w'.cell? ⟨w.heap.size + 1, 1, none⟩ = some (.bool q.s0) ∧ w'.cell? ⟨w.heap.size + 1, 2, none⟩ = some (.slice A1 q.l0.length a1) ∧ w'.cell? ⟨w.heap.size + 1, 3, none⟩ = some (.bool q.n1) ∧ w'.cell? ⟨w.heap.size + 1, 4, none⟩ = some (.bool q.s1) ∧ w'.cell? ⟨w.heap.size + 1, 5, none⟩ = some (.slice B1 q.l1.length b1))
    (first
      | with_reducible exact hs
      | exact c12_keep hs ((Below.refl _ _).alloc (Nat.le_refl _) _))
    (first
      | (go_at_call 8; with_reducible refine (CK.out _ Hc.out).mono ?_; rintro e v1 ⟨rfl, hc2⟩; replace hs := c12_keep hs hc2; replace Hc := Lib.hid (from_ Hc.out hc2); clear hc2)
      | (go_at_call 23; with_reducible refine (DK.out _ Hc.out).mono ?_; rintro e v1 ⟨rfl, hc2⟩; replace hs := c12_keep hs hc2; replace Hc := Lib.hid (from_ Hc.out hc2); clear hc2)
      | (go_at_call 24; with_reducible refine (CS.out _ Hc.out).mono ?_; rintro e v1 ⟨rfl, hc2⟩; replace hs := c12_keep hs hc2; replace Hc := Lib.hid (from_ Hc.out hc2); clear hc2)
      | (go_at_call 22; with_reducible refine (DS.out _ Hc.out).mono ?_; rintro e v1 ⟨rfl, hc2⟩; replace hs := c12_keep hs hc2; replace Hc := Lib.hid (from_ Hc.out hc2); clear hc2)
      | (go_at_call 25; with_reducible refine itop_p.mono ?_; rintro e v1 ⟨rfl, hc2⟩; replace hs := c12_keep hs hc2; replace Hc := Lib.hid (from_ Hc.out hc2); clear hc2)
      | (go_at_call 26; with_reducible refine r16top_p.mono ?_; rintro e v1 ⟨rfl, hc2⟩; replace hs := c12_keep hs hc2; replace Hc := Lib.hid (from_ Hc.out hc2); clear hc2)
      | (go_at_call 22; with_reducible refine (TT.out _).mono ?_; rintro e v1 ⟨rfl, hc2⟩; replace hs := c12_keep hs hc2; replace Hc := Lib.hid (from_ Hc.out hc2); clear hc2)) | fail
  all_goals
    clear hs bxs HB
    go_wp2
    go_ret
    exact ⟨by first | rfl | trivial, Hc.out⟩
theorem lawItvTells {w : World} {a b n : Value} {p q : Iv} {sn : Bool} {ln : List Nat} {x y : Int} (ha : IsItv w old a p) (hb : IsItv w old b q) (hn : IsI w old n sn ln) (hx : -9223372036854775808 ≤ x ∧ x ≤ 9223372036854775807) (hy : -9223372036854775808 ≤ y ∧ y ≤ 9223372036854775807) : Calls Try.prog 4 #[a, b, n, .int .i64 x, .int .i64 y] w fun e w' => e = .returned (.bool true) ∧ Below w.heap.size w w' := by
  by_cases k1 : gtJ p 4 = true
  · exact tel_g1 ha hb hn hx hy k1
  replace k1 := Bool.eq_false_iff.2 k1
  by_cases k2 : gtJ q 4 = true
  · exact tel_g2 ha hb hn hx hy k1 k2
  replace k2 := Bool.eq_false_iff.2 k2
  by_cases k3 : 4 < ln.length
  · exact tel_g3 ha hb hn hx hy k1 k2 k3
  exact tel_good ha hb hn hx hy k1 k2 (by omega)

end Go.Proofs.Ytennphechbngcaa
