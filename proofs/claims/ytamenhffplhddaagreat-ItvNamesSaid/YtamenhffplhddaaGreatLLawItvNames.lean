/-
  facetroomlaw16.ItvNames, walked. No conditions.
-/
import Derived.Test.YtamenhffplhddaaGreatLItwR
import Derived.Test.YtamenhffplhddaaGreatLItwE
namespace Go.Proofs.YtamenhffplhddaaGreat
open Go.RowKit
set_option linter.unusedVariables false
set_option linter.unusedSimpArgs false

theorem bD : ivD (5, bigZ) (2, bigZ) = (0, bigZ) := by decide +kernel
theorem bPn : partsP (2, bigZ) ≠ [] := by decide +kernel
theorem bL : shlP (1, 3) (0, 2) = (1, 12) := by decide +kernel
theorem bS : shrP (-3, 5) (1, 70) = (-2, 2) := by decide +kernel
theorem bZ : partsP (0, 0) = [] := by decide +kernel
theorem ivn_on {x : Int} (hx : -1000000 ≤ x) (hy : x ≤ 1000000) : IvN 1 x bigZ := by
  have e : wN 1 = 18446744073709551616 := rfl
  have e2 := wN_le (show 1 ≤ 64 by omega)
  exact ⟨.inr (.inr (by omega)), .inl rfl, by omega, by omega, by omega⟩
theorem l16on_k {w : World} {x : Int} {k : Iv} (hk : k = ivOf x bigZ) (hx : -1000000 ≤ x) (hy : x ≤ 1000000) :
    Calls Tryz.prog 29 #[.int .i64 x] w fun e w' => ∃ A c B d, e = .returned (.agg #[.bool k.n0, .bool k.s0, .slice A k.l0.length c, .bool k.n1, .bool k.s1, .slice B k.l1.length d]) ∧ U64s w' (new w.heap.size) A c k.l0 ∧ U64s w' (new w.heap.size) B d k.l1 ∧ Below w.heap.size w w' := by
  have h0 := bigZ_pos
  have e : wN 1 = 18446744073709551616 := rfl
  have e2 := wN_le (show 1 ≤ 64 by omega)
  have n1 := nm_e (n := x) ⟨by omega, by omega⟩
  refine (l16on_w (w := w) n1 ⟨by omega, by omega⟩).mono ?_
  rintro e w' ⟨A, c, rfl, u, hb⟩
  subst hk
  refine ⟨A, c, none, 0, ?_, u, ?_, hb⟩
  · show _ = Ending.returned (Value.agg #[.bool (nLo x), .bool (sE x), .slice A (lE x).length c, .bool (nHi bigZ), .bool (sE bigZ), .slice none (lE bigZ).length 0])
    rw [nLo_no (by omega), show nHi bigZ = true from decide_eq_true rfl, show sE bigZ = false from decide_eq_false (by omega), show lE bigZ = [] from if_neg (by omega)]
    rfl
  · show U64s w' _ none 0 (lE bigZ)
    rw [show lE bigZ = [] from if_neg (by omega)]
    exact U64s.nil _ _
theorem imeetW_none {w : World} {Z1 Z2 Z3 Z4 : Zone} {p q : Iv} {P Q : IvP} {A B C D : Option Addr} {a b c d : Nat} (hp : IvW P p) (gp : IvN 60 P.1 P.2) (hq : IvW Q q) (gq : IvN 60 Q.1 Q.2) (hg : min P.2 Q.2 < max P.1 Q.1) (u1 : U64s w Z1 A a p.l0) (u2 : U64s w Z2 B b p.l1) (u3 : U64s w Z3 C c q.l0) (u4 : U64s w Z4 D d q.l1) :
    Calls Tryz.prog 27 #[.agg #[.bool p.n0, .bool p.s0, .slice A p.l0.length a, .bool p.n1, .bool p.s1, .slice B p.l1.length b], .agg #[.bool q.n0, .bool q.s0, .slice C q.l0.length c, .bool q.n1, .bool q.s1, .slice D q.l1.length d]] w fun e w' => e = .returned (.tuple #[.agg #[.bool false, .bool false, .slice none 0 0, .bool false, .bool false, .slice none 0 0], .int .i64 6]) ∧ Below w.heap.size w w' := by
  have kp := hp.k gp (by omega)
  have kq := hq.k gq (by omega)
  obtain ⟨r, hr⟩ : ∃ r, IvW (max P.1 Q.1, min P.2 Q.2) r := ⟨_, IvW.mk _⟩
  exact iMeet_none u1 u2 u3 u4 kp.ok kq.ok (by have := kp.q0; omega) (by have := kp.q1; omega) (by have := kq.q0; omega) (by have := kq.q1; omega) (z0 := max P.1 Q.1) (z1 := min P.2 Q.2) (by rw [kp.lo, kq.lo]) (by rw [kp.hi, kq.hi]) hr.1 hr.2 hg

set_option maxRecDepth 100000 in
set_option maxHeartbeats 8000000 in
theorem lawItvNames (w : World) : Calls Tryz.prog 5 #[] w fun e w' => e = .returned (.bool true) ∧ Below w.heap.size w w' := by
  obtain ⟨k1, hk1⟩ : ∃ k, k = ivOf 5 bigZ := ⟨_, rfl⟩
  have Ok1 := Lib.hid (fun (W : World) => l16on_k (w := W) hk1 (by omega) (by omega))
  have wk1 : IvW (5, bigZ) k1 := by rw [hk1]; exact ivof_w _ _
  obtain ⟨k2, hk2⟩ : ∃ k, k = ivOf 2 bigZ := ⟨_, rfl⟩
  have Ok2 := Lib.hid (fun (W : World) => l16on_k (w := W) hk2 (by omega) (by omega))
  have wk2 : IvW (2, bigZ) k2 := by rw [hk2]; exact ivof_w _ _
  obtain ⟨k3, hk3⟩ : ∃ k, k = ivOf 1 3 := ⟨_, rfl⟩
  have Ok3 := Lib.hid (fun (W : World) => l16of_k (w := W) hk3 (by omega) (by omega) (by omega))
  have wk3 : IvW (1, 3) k3 := by rw [hk3]; exact ivof_w _ _
  obtain ⟨k4, hk4⟩ : ∃ k, k = ivOf 0 2 := ⟨_, rfl⟩
  have Ok4 := Lib.hid (fun (W : World) => l16of_k (w := W) hk4 (by omega) (by omega) (by omega))
  have wk4 : IvW (0, 2) k4 := by rw [hk4]; exact ivof_w _ _
  obtain ⟨k5, hk5⟩ : ∃ k, k = ivOf (-3) 5 := ⟨_, rfl⟩
  have Ok5 := Lib.hid (fun (W : World) => l16of_k (w := W) hk5 (by omega) (by omega) (by omega))
  have wk5 : IvW (-3, 5) k5 := by rw [hk5]; exact ivof_w _ _
  obtain ⟨k6, hk6⟩ : ∃ k, k = ivOf 1 70 := ⟨_, rfl⟩
  have Ok6 := Lib.hid (fun (W : World) => l16of_k (w := W) hk6 (by omega) (by omega) (by omega))
  have wk6 : IvW (1, 70) k6 := by rw [hk6]; exact ivof_w _ _
  obtain ⟨k7, hk7⟩ : ∃ k, k = ivOf 1 2 := ⟨_, rfl⟩
  have Ok7 := Lib.hid (fun (W : World) => l16of_k (w := W) hk7 (by omega) (by omega) (by omega))
  have wk7 : IvW (1, 2) k7 := by rw [hk7]; exact ivof_w _ _
  obtain ⟨k8, hk8⟩ : ∃ k, k = ivOf 3 4 := ⟨_, rfl⟩
  have Ok8 := Lib.hid (fun (W : World) => l16of_k (w := W) hk8 (by omega) (by omega) (by omega))
  have wk8 : IvW (3, 4) k8 := by rw [hk8]; exact ivof_w _ _
  obtain ⟨k9, hk9⟩ : ∃ k, k = ivOf 0 0 := ⟨_, rfl⟩
  have Ok9 := Lib.hid (fun (W : World) => l16of_k (w := W) hk9 (by omega) (by omega) (by omega))
  have wk9 : IvW (0, 0) k9 := by rw [hk9]; exact ivof_w _ _
  obtain ⟨kA, hkA⟩ : ∃ k, k = ivOf 64 70 := ⟨_, rfl⟩
  have OkA := Lib.hid (fun (W : World) => l16of_k (w := W) hkA (by omega) (by omega) (by omega))
  have wkA : IvW (64, 70) kA := by rw [hkA]; exact ivof_w _ _
  obtain ⟨r1, hr1⟩ : ∃ k, k = ivOf 0 bigZ := ⟨_, rfl⟩
  have Or1 := Lib.hid (fun (W : World) => l16on_k (w := W) hr1 (by omega) (by omega))
  have wr1 : IvW (0, bigZ) r1 := by rw [hr1]; exact ivof_w _ _
  obtain ⟨r2, hr2⟩ : ∃ k, k = ivOf 1 12 := ⟨_, rfl⟩
  have Or2 := Lib.hid (fun (W : World) => l16of_k (w := W) hr2 (by omega) (by omega) (by omega))
  have wr2 : IvW (1, 12) r2 := by rw [hr2]; exact ivof_w _ _
  obtain ⟨r3, hr3⟩ : ∃ k, k = ivOf (-2) 2 := ⟨_, rfl⟩
  have Or3 := Lib.hid (fun (W : World) => l16of_k (w := W) hr3 (by omega) (by omega) (by omega))
  have wr3 : IvW (-2, 2) r3 := by rw [hr3]; exact ivof_w _ _
  have DI := Lib.hid (fun (W : World) (Z1 Z2 Z3 Z4 : Zone) (A B C D : Option Addr) (a b c d : Nat) (u1 : U64s W Z1 A a k1.l0) (u2 : U64s W Z2 B b k1.l1) (u3 : U64s W Z3 C c k2.l0) (u4 : U64s W Z4 D d k2.l1) => idiv_w (r := r1) wk1 ((ivn_on (by omega) (by omega)).up (by omega) : IvN 60 _ _) wk2 ((ivn_on (by omega) (by omega)).up (by omega) : IvN 60 _ _) u1 u2 u3 u4 bPn (by rw [bD]; exact wr1))
  have SL := Lib.hid (fun (W : World) (Z1 Z2 Z3 Z4 : Zone) (A B C D : Option Addr) (a b c d : Nat) (u1 : U64s W Z1 A a k3.l0) (u2 : U64s W Z2 B b k3.l1) (u3 : U64s W Z3 C c k4.l0) (u4 : U64s W Z4 D d k4.l1) => ishl_w (r := r2) wk3 ((ivn_int (by omega) (by omega) (by omega)).up (by omega) : IvN 32 _ _) wk4 ((ivn_int (by omega) (by omega) (by omega)).up (by omega) : IvN 60 _ _) u1 u2 u3 u4 (by decide) (by rw [bL]; exact wr2))
  have SR := Lib.hid (fun (W : World) (Z1 Z2 Z3 Z4 : Zone) (A B C D : Option Addr) (a b c d : Nat) (u1 : U64s W Z1 A a k5.l0) (u2 : U64s W Z2 B b k5.l1) (u3 : U64s W Z3 C c k6.l0) (u4 : U64s W Z4 D d k6.l1) => ishr_w (r := r3) wk5 ((ivn_int (by omega) (by omega) (by omega)).up (by omega) : IvN 32 _ _) wk6 ((ivn_int (by omega) (by omega) (by omega)).up (by omega) : IvN 60 _ _) u1 u2 u3 u4 (by decide) (by rw [bS]; exact wr3))
  have ME := Lib.hid (fun (W : World) (Z1 Z2 Z3 Z4 : Zone) (A B C D : Option Addr) (a b c d : Nat) (u1 : U64s W Z1 A a k7.l0) (u2 : U64s W Z2 B b k7.l1) (u3 : U64s W Z3 C c k8.l0) (u4 : U64s W Z4 D d k8.l1) => imeetW_none wk7 ((ivn_int (by omega) (by omega) (by omega)).up (by omega) : IvN 60 _ _) wk8 ((ivn_int (by omega) (by omega) (by omega)).up (by omega) : IvN 60 _ _) (by decide) u1 u2 u3 u4)
  have DZ := Lib.hid (fun (W : World) (Z1 Z2 Z3 Z4 : Zone) (A B C D : Option Addr) (a b c d : Nat) (u1 : U64s W Z1 A a k7.l0) (u2 : U64s W Z2 B b k7.l1) (u3 : U64s W Z3 C c k9.l0) (u4 : U64s W Z4 D d k9.l1) => idiv_zero wk7 ((ivn_int (by omega) (by omega) (by omega)).up (by omega) : IvN 60 _ _) wk9 ((ivn_int (by omega) (by omega) (by omega)).up (by omega) : IvN 60 _ _) u1 u2 u3 u4 bZ)
  have SN := Lib.hid (fun (W : World) (Z1 Z2 Z3 Z4 : Zone) (A B C D : Option Addr) (a b c d : Nat) (u1 : U64s W Z1 A a k7.l0) (u2 : U64s W Z2 B b k7.l1) (u3 : U64s W Z3 C c kA.l0) (u4 : U64s W Z4 D d kA.l1) => ishl_none wk7 ((ivn_int (by omega) (by omega) (by omega)).up (by omega) : IvN 32 _ _) wkA ((ivn_int (by omega) (by omega) (by omega)).up (by omega) : IvN 60 _ _) u1 u2 u3 u4 (by decide))
  have OB := Lib.hid (fun (W : World) => iof_bad (w := W) (x := 2) (y := 1) (by omega))
  have AL := Lib.hid alive16
  have CK := Lib.hid (fun (W : World) => icheck_any (w := W) (n0 := false) (s0 := false) (n1 := false) (s1 := false) (l0 := []) (l1 := []) (U64s.nil W old) (U64s.nil W old) (by simp) (by simp))
  rw [show errA false false [] false false [] = 0 by decide +kernel, List.length_nil] at CK
  clear hk1 wk1 hk2 wk2 hk3 wk3 hk4 wk4 hk5 wk5 hk6 wk6 hk7 wk7 hk8 wk8 hk9 wk9 hkA wkA hr1 wr1 hr2 wr2 hr3 wr3
  go_enter Tryz.func5, Tryz.ntmps5
  have HB := Lib.hid (Below.refl w.heap.size w)
  go_wp2_with fail
  refine (Ok1.out _).mono ?_
  rintro e v1 ⟨A1, a1, B1, b1, rfl, p0, p1, hc⟩
  replace HB := Lib.hid (from_ HB.out hc)
  clear hc
  go_wp2_with fail
  refine (Ok2.out _).mono ?_
  rintro e x1 ⟨C1, c1, D1, d1, rfl, p2, p3, hc⟩
  replace p0 := p0.below hc
  replace p1 := p1.below hc
  replace HB := Lib.hid (from_ HB.out hc)
  clear hc
  go_wp2_with fail
  refine (DI.out _ _ _ _ _ _ _ _ _ _ _ _ _ p0 p1 p2 p3).mono ?_
  rintro e y1 ⟨E1, e1, F1, f1, rfl, q0, q1, hc⟩
  go_upto_region 2 with fail
  have hax : Below y1.heap.size y1 (y1.alloc (.cells #[.bool r1.n0, .bool r1.s0, .slice E1 r1.l0.length e1, .bool r1.n1, .bool r1.s1, .slice F1 r1.l1.length f1] 29)) := (Below.refl _ _).alloc (Nat.le_refl _) _
  have BX1 := Lib.hid (Box6.new y1 (.bool r1.n0) (.bool r1.s0) (.slice E1 r1.l0.length e1) (.bool r1.n1) (.bool r1.s1) (.slice F1 r1.l1.length f1) 29)
  obtain ⟨g1, hg1⟩ : ∃ g, g = y1.heap.size := ⟨_, rfl⟩
  rw [← hg1] at BX1
  replace hc := from_ hc hax
  have UBX1 := Lib.hid (q0.below hax)
  have VBX1 := Lib.hid (q1.below hax)
  clear hax q0 q1 p0 p1 p2 p3 DI
  replace HB := Lib.hid (from_ HB.out hc)
  clear hc
  generalize hWx : y1.alloc (.cells #[.bool r1.n0, .bool r1.s0, .slice E1 r1.l0.length e1, .bool r1.n1, .bool r1.s1, .slice F1 r1.l1.length f1] 29) = W1 at *
  try simp only [← hg1]
  clear hWx hg1
  go_wp2_with fail
  refine (Ok3.out _).mono ?_
  rintro e v2 ⟨A2, a2, B2, b2, rfl, p0, p1, hc⟩
  replace BX1 := Lib.hid (BX1.out.below hc)
  replace UBX1 := Lib.hid (UBX1.out.below hc)
  replace VBX1 := Lib.hid (VBX1.out.below hc)
  replace HB := Lib.hid (from_ HB.out hc)
  clear hc
  go_wp2_with fail
  refine (Ok4.out _).mono ?_
  rintro e x2 ⟨C2, c2, D2, d2, rfl, p2, p3, hc⟩
  replace BX1 := Lib.hid (BX1.out.below hc)
  replace UBX1 := Lib.hid (UBX1.out.below hc)
  replace VBX1 := Lib.hid (VBX1.out.below hc)
  replace p0 := p0.below hc
  replace p1 := p1.below hc
  replace HB := Lib.hid (from_ HB.out hc)
  clear hc
  go_wp2_with fail
  refine (SL.out _ _ _ _ _ _ _ _ _ _ _ _ _ p0 p1 p2 p3).mono ?_
  rintro e y2 ⟨E2, e2, F2, f2, rfl, q0, q1, hc⟩
  go_upto_region 3 with fail
  have hax : Below y2.heap.size y2 (y2.alloc (.cells #[.bool r2.n0, .bool r2.s0, .slice E2 r2.l0.length e2, .bool r2.n1, .bool r2.s1, .slice F2 r2.l1.length f2] 29)) := (Below.refl _ _).alloc (Nat.le_refl _) _
  have BX2 := Lib.hid (Box6.new y2 (.bool r2.n0) (.bool r2.s0) (.slice E2 r2.l0.length e2) (.bool r2.n1) (.bool r2.s1) (.slice F2 r2.l1.length f2) 29)
  obtain ⟨g2, hg2⟩ : ∃ g, g = y2.heap.size := ⟨_, rfl⟩
  rw [← hg2] at BX2
  replace hc := from_ hc hax
  have UBX2 := Lib.hid (q0.below hax)
  have VBX2 := Lib.hid (q1.below hax)
  clear hax q0 q1 p0 p1 p2 p3 SL
  replace BX1 := Lib.hid (BX1.out.below hc)
  replace UBX1 := Lib.hid (UBX1.out.below hc)
  replace VBX1 := Lib.hid (VBX1.out.below hc)
  replace HB := Lib.hid (from_ HB.out hc)
  clear hc
  generalize hWx : y2.alloc (.cells #[.bool r2.n0, .bool r2.s0, .slice E2 r2.l0.length e2, .bool r2.n1, .bool r2.s1, .slice F2 r2.l1.length f2] 29) = W2 at *
  try simp only [← hg2]
  clear hWx hg2
  go_wp2_with fail
  refine (Ok5.out _).mono ?_
  rintro e v3 ⟨A3, a3, B3, b3, rfl, p0, p1, hc⟩
  replace BX1 := Lib.hid (BX1.out.below hc)
  replace UBX1 := Lib.hid (UBX1.out.below hc)
  replace VBX1 := Lib.hid (VBX1.out.below hc)
  replace BX2 := Lib.hid (BX2.out.below hc)
  replace UBX2 := Lib.hid (UBX2.out.below hc)
  replace VBX2 := Lib.hid (VBX2.out.below hc)
  replace HB := Lib.hid (from_ HB.out hc)
  clear hc
  go_wp2_with fail
  refine (Ok6.out _).mono ?_
  rintro e x3 ⟨C3, c3, D3, d3, rfl, p2, p3, hc⟩
  replace BX1 := Lib.hid (BX1.out.below hc)
  replace UBX1 := Lib.hid (UBX1.out.below hc)
  replace VBX1 := Lib.hid (VBX1.out.below hc)
  replace BX2 := Lib.hid (BX2.out.below hc)
  replace UBX2 := Lib.hid (UBX2.out.below hc)
  replace VBX2 := Lib.hid (VBX2.out.below hc)
  replace p0 := p0.below hc
  replace p1 := p1.below hc
  replace HB := Lib.hid (from_ HB.out hc)
  clear hc
  go_wp2_with fail
  refine (SR.out _ _ _ _ _ _ _ _ _ _ _ _ _ p0 p1 p2 p3).mono ?_
  rintro e y3 ⟨E3, e3, F3, f3, rfl, q0, q1, hc⟩
  go_upto_region 4 with fail
  have hax : Below y3.heap.size y3 (y3.alloc (.cells #[.bool r3.n0, .bool r3.s0, .slice E3 r3.l0.length e3, .bool r3.n1, .bool r3.s1, .slice F3 r3.l1.length f3] 29)) := (Below.refl _ _).alloc (Nat.le_refl _) _
  have BX3 := Lib.hid (Box6.new y3 (.bool r3.n0) (.bool r3.s0) (.slice E3 r3.l0.length e3) (.bool r3.n1) (.bool r3.s1) (.slice F3 r3.l1.length f3) 29)
  obtain ⟨g3, hg3⟩ : ∃ g, g = y3.heap.size := ⟨_, rfl⟩
  rw [← hg3] at BX3
  replace hc := from_ hc hax
  have UBX3 := Lib.hid (q0.below hax)
  have VBX3 := Lib.hid (q1.below hax)
  clear hax q0 q1 p0 p1 p2 p3 SR
  replace BX1 := Lib.hid (BX1.out.below hc)
  replace UBX1 := Lib.hid (UBX1.out.below hc)
  replace VBX1 := Lib.hid (VBX1.out.below hc)
  replace BX2 := Lib.hid (BX2.out.below hc)
  replace UBX2 := Lib.hid (UBX2.out.below hc)
  replace VBX2 := Lib.hid (VBX2.out.below hc)
  replace HB := Lib.hid (from_ HB.out hc)
  clear hc
  generalize hWx : y3.alloc (.cells #[.bool r3.n0, .bool r3.s0, .slice E3 r3.l0.length e3, .bool r3.n1, .bool r3.s1, .slice F3 r3.l1.length f3] 29) = W3 at *
  try simp only [← hg3]
  clear hWx hg3
  go_wp2_with fail
  refine (Ok7.out _).mono ?_
  rintro e v4 ⟨A4, a4, B4, b4, rfl, p0, p1, hc⟩
  replace BX1 := Lib.hid (BX1.out.below hc)
  replace UBX1 := Lib.hid (UBX1.out.below hc)
  replace VBX1 := Lib.hid (VBX1.out.below hc)
  replace BX2 := Lib.hid (BX2.out.below hc)
  replace UBX2 := Lib.hid (UBX2.out.below hc)
  replace VBX2 := Lib.hid (VBX2.out.below hc)
  replace BX3 := Lib.hid (BX3.out.below hc)
  replace UBX3 := Lib.hid (UBX3.out.below hc)
  replace VBX3 := Lib.hid (VBX3.out.below hc)
  replace HB := Lib.hid (from_ HB.out hc)
  clear hc
  go_wp2_with fail
  refine (Ok8.out _).mono ?_
  rintro e x4 ⟨C4, c4, D4, d4, rfl, p2, p3, hc⟩
  replace BX1 := Lib.hid (BX1.out.below hc)
  replace UBX1 := Lib.hid (UBX1.out.below hc)
  replace VBX1 := Lib.hid (VBX1.out.below hc)
  replace BX2 := Lib.hid (BX2.out.below hc)
  replace UBX2 := Lib.hid (UBX2.out.below hc)
  replace VBX2 := Lib.hid (VBX2.out.below hc)
  replace BX3 := Lib.hid (BX3.out.below hc)
  replace UBX3 := Lib.hid (UBX3.out.below hc)
  replace VBX3 := Lib.hid (VBX3.out.below hc)
  replace p0 := p0.below hc
  replace p1 := p1.below hc
  replace HB := Lib.hid (from_ HB.out hc)
  clear hc
  go_wp2_with fail
  refine (ME.out _ _ _ _ _ _ _ _ _ _ _ _ _ p0 p1 p2 p3).mono ?_
  rintro e y4 ⟨rfl, hc⟩
  clear p0 p1 p2 p3 ME
  go_upto_region 5 with fail
  have hax : Below y4.heap.size y4 (y4.alloc (.cells #[.bool false, .bool false, .slice none 0 0, .bool false, .bool false, .slice none 0 0] 29)) := (Below.refl _ _).alloc (Nat.le_refl _) _
  replace hc := from_ hc hax
  clear hax
  replace BX1 := Lib.hid (BX1.out.below hc)
  replace UBX1 := Lib.hid (UBX1.out.below hc)
  replace VBX1 := Lib.hid (VBX1.out.below hc)
  replace BX2 := Lib.hid (BX2.out.below hc)
  replace UBX2 := Lib.hid (UBX2.out.below hc)
  replace VBX2 := Lib.hid (VBX2.out.below hc)
  replace BX3 := Lib.hid (BX3.out.below hc)
  replace UBX3 := Lib.hid (UBX3.out.below hc)
  replace VBX3 := Lib.hid (VBX3.out.below hc)
  replace HB := Lib.hid (from_ HB.out hc)
  clear hc
  generalize y4.alloc (.cells #[.bool false, .bool false, .slice none 0 0, .bool false, .bool false, .slice none 0 0] 29) = W4 at *
  go_wp2_with fail
  refine (Ok7.out _).mono ?_
  rintro e v5 ⟨A5, a5, B5, b5, rfl, p0, p1, hc⟩
  replace BX1 := Lib.hid (BX1.out.below hc)
  replace UBX1 := Lib.hid (UBX1.out.below hc)
  replace VBX1 := Lib.hid (VBX1.out.below hc)
  replace BX2 := Lib.hid (BX2.out.below hc)
  replace UBX2 := Lib.hid (UBX2.out.below hc)
  replace VBX2 := Lib.hid (VBX2.out.below hc)
  replace BX3 := Lib.hid (BX3.out.below hc)
  replace UBX3 := Lib.hid (UBX3.out.below hc)
  replace VBX3 := Lib.hid (VBX3.out.below hc)
  replace HB := Lib.hid (from_ HB.out hc)
  clear hc
  go_wp2_with fail
  refine (Ok9.out _).mono ?_
  rintro e x5 ⟨C5, c5, D5, d5, rfl, p2, p3, hc⟩
  replace BX1 := Lib.hid (BX1.out.below hc)
  replace UBX1 := Lib.hid (UBX1.out.below hc)
  replace VBX1 := Lib.hid (VBX1.out.below hc)
  replace BX2 := Lib.hid (BX2.out.below hc)
  replace UBX2 := Lib.hid (UBX2.out.below hc)
  replace VBX2 := Lib.hid (VBX2.out.below hc)
  replace BX3 := Lib.hid (BX3.out.below hc)
  replace UBX3 := Lib.hid (UBX3.out.below hc)
  replace VBX3 := Lib.hid (VBX3.out.below hc)
  replace p0 := p0.below hc
  replace p1 := p1.below hc
  replace HB := Lib.hid (from_ HB.out hc)
  clear hc
  go_wp2_with fail
  refine (DZ.out _ _ _ _ _ _ _ _ _ _ _ _ _ p0 p1 p2 p3).mono ?_
  rintro e y5 ⟨rfl, hc⟩
  clear p0 p1 p2 p3 DZ
  go_upto_region 6 with fail
  have hax : Below y5.heap.size y5 (y5.alloc (.cells #[.bool false, .bool false, .slice none 0 0, .bool false, .bool false, .slice none 0 0] 29)) := (Below.refl _ _).alloc (Nat.le_refl _) _
  replace hc := from_ hc hax
  clear hax
  replace BX1 := Lib.hid (BX1.out.below hc)
  replace UBX1 := Lib.hid (UBX1.out.below hc)
  replace VBX1 := Lib.hid (VBX1.out.below hc)
  replace BX2 := Lib.hid (BX2.out.below hc)
  replace UBX2 := Lib.hid (UBX2.out.below hc)
  replace VBX2 := Lib.hid (VBX2.out.below hc)
  replace BX3 := Lib.hid (BX3.out.below hc)
  replace UBX3 := Lib.hid (UBX3.out.below hc)
  replace VBX3 := Lib.hid (VBX3.out.below hc)
  replace HB := Lib.hid (from_ HB.out hc)
  clear hc
  generalize y5.alloc (.cells #[.bool false, .bool false, .slice none 0 0, .bool false, .bool false, .slice none 0 0] 29) = W5 at *
  go_wp2_with fail
  refine (OB.out _).mono ?_
  rintro e y6 ⟨rfl, hc⟩
  go_upto_region 7 with fail
  have hax : Below y6.heap.size y6 (y6.alloc (.cells #[.bool false, .bool false, .slice none 0 0, .bool false, .bool false, .slice none 0 0] 29)) := (Below.refl _ _).alloc (Nat.le_refl _) _
  replace hc := from_ hc hax
  clear hax
  replace BX1 := Lib.hid (BX1.out.below hc)
  replace UBX1 := Lib.hid (UBX1.out.below hc)
  replace VBX1 := Lib.hid (VBX1.out.below hc)
  replace BX2 := Lib.hid (BX2.out.below hc)
  replace UBX2 := Lib.hid (UBX2.out.below hc)
  replace VBX2 := Lib.hid (VBX2.out.below hc)
  replace BX3 := Lib.hid (BX3.out.below hc)
  replace UBX3 := Lib.hid (UBX3.out.below hc)
  replace VBX3 := Lib.hid (VBX3.out.below hc)
  replace HB := Lib.hid (from_ HB.out hc)
  clear hc
  generalize y6.alloc (.cells #[.bool false, .bool false, .slice none 0 0, .bool false, .bool false, .slice none 0 0] 29) = W6 at *
  go_wp2_with fail
  refine (Ok7.out _).mono ?_
  rintro e v7 ⟨A7, a7, B7, b7, rfl, p0, p1, hc⟩
  replace BX1 := Lib.hid (BX1.out.below hc)
  replace UBX1 := Lib.hid (UBX1.out.below hc)
  replace VBX1 := Lib.hid (VBX1.out.below hc)
  replace BX2 := Lib.hid (BX2.out.below hc)
  replace UBX2 := Lib.hid (UBX2.out.below hc)
  replace VBX2 := Lib.hid (VBX2.out.below hc)
  replace BX3 := Lib.hid (BX3.out.below hc)
  replace UBX3 := Lib.hid (UBX3.out.below hc)
  replace VBX3 := Lib.hid (VBX3.out.below hc)
  replace HB := Lib.hid (from_ HB.out hc)
  clear hc
  go_wp2_with fail
  refine (OkA.out _).mono ?_
  rintro e x7 ⟨C7, c7, D7, d7, rfl, p2, p3, hc⟩
  replace BX1 := Lib.hid (BX1.out.below hc)
  replace UBX1 := Lib.hid (UBX1.out.below hc)
  replace VBX1 := Lib.hid (VBX1.out.below hc)
  replace BX2 := Lib.hid (BX2.out.below hc)
  replace UBX2 := Lib.hid (UBX2.out.below hc)
  replace VBX2 := Lib.hid (VBX2.out.below hc)
  replace BX3 := Lib.hid (BX3.out.below hc)
  replace UBX3 := Lib.hid (UBX3.out.below hc)
  replace VBX3 := Lib.hid (VBX3.out.below hc)
  replace p0 := p0.below hc
  replace p1 := p1.below hc
  replace HB := Lib.hid (from_ HB.out hc)
  clear hc
  go_wp2_with fail
  refine (SN.out _ _ _ _ _ _ _ _ _ _ _ _ _ p0 p1 p2 p3).mono ?_
  rintro e y7 ⟨rfl, hc⟩
  clear p0 p1 p2 p3 SN
  go_upto_region 8 with fail
  have hax : Below y7.heap.size y7 (y7.alloc (.cells #[.bool false, .bool false, .slice none 0 0, .bool false, .bool false, .slice none 0 0] 29)) := (Below.refl _ _).alloc (Nat.le_refl _) _
  replace hc := from_ hc hax
  clear hax
  replace BX1 := Lib.hid (BX1.out.below hc)
  replace UBX1 := Lib.hid (UBX1.out.below hc)
  replace VBX1 := Lib.hid (VBX1.out.below hc)
  replace BX2 := Lib.hid (BX2.out.below hc)
  replace UBX2 := Lib.hid (UBX2.out.below hc)
  replace VBX2 := Lib.hid (VBX2.out.below hc)
  replace BX3 := Lib.hid (BX3.out.below hc)
  replace UBX3 := Lib.hid (UBX3.out.below hc)
  replace VBX3 := Lib.hid (VBX3.out.below hc)
  replace HB := Lib.hid (from_ HB.out hc)
  clear hc
  generalize y7.alloc (.cells #[.bool false, .bool false, .slice none 0 0, .bool false, .bool false, .slice none 0 0] 29) = W7 at *
  have hs := c18_keep (And.intro BX1.out.all (And.intro BX2.out.all BX3.out.all)) (Below.refl _ _).drew
  have Hc := Lib.hid (Below.refl W7.heap.size W7).drew
  first | go_region_held3 (fun w' => (w'.cell? ⟨g1, 0, none⟩ = some (.bool r1.n0) ∧ w'.cell? ⟨g1, 1, none⟩ = some (.bool r1.s0) ∧ w'.cell? ⟨g1, 2, none⟩ = some (.slice E1 r1.l0.length e1) ∧ w'.cell? ⟨g1, 3, none⟩ = some (.bool r1.n1) ∧ w'.cell? ⟨g1, 4, none⟩ = some (.bool r1.s1) ∧ w'.cell? ⟨g1, 5, none⟩ = some (.slice F1 r1.l1.length f1)) ∧ (w'.cell? ⟨g2, 0, none⟩ = some (.bool r2.n0) ∧ w'.cell? ⟨g2, 1, none⟩ = some (.bool r2.s0) ∧ w'.cell? ⟨g2, 2, none⟩ = some (.slice E2 r2.l0.length e2) ∧ w'.cell? ⟨g2, 3, none⟩ = some (.bool r2.n1) ∧ w'.cell? ⟨g2, 4, none⟩ = some (.bool r2.s1) ∧ w'.cell? ⟨g2, 5, none⟩ = some (.slice F2 r2.l1.length f2)) ∧ w'.cell? ⟨g3, 0, none⟩ = some (.bool r3.n0) ∧ w'.cell? ⟨g3, 1, none⟩ = some (.bool r3.s0) ∧ w'.cell? ⟨g3, 2, none⟩ = some (.slice E3 r3.l0.length e3) ∧ w'.cell? ⟨g3, 3, none⟩ = some (.bool r3.n1) ∧ w'.cell? ⟨g3, 4, none⟩ = some (.bool r3.s1) ∧ w'.cell? ⟨g3, 5, none⟩ = some (.slice F3 r3.l1.length f3))
    (first | with_reducible exact hs)
    (first
      | (go_at_call 8; with_reducible refine (AL.out _).mono ?_; rintro e w6 ⟨rfl, hc2⟩; replace hs := c18_keep hs hc2; replace Hc := Lib.hid (from_ Hc.out hc2))
      | (go_at_call 29; with_reducible refine (Or1.out _).mono ?_; rintro e w7 ⟨A5, c5, B5, d5, rfl, o5, o6, hc2⟩; replace hs := c18_keep hs hc2; replace Hc := Lib.hid (from_ Hc.out hc2))
      | (go_at_call 30; (first | (with_reducible refine (Or2.out _).mono ?_) | (with_reducible refine (Or3.out _).mono ?_)); rintro e w7 ⟨A5, c5, B5, d5, rfl, o5, o6, hc2⟩; replace hs := c18_keep hs hc2; replace Hc := Lib.hid (from_ Hc.out hc2))
      | (go_at_call 33; with_reducible refine (CK.out _).mono ?_; rintro e w9 ⟨rfl, hc2⟩; replace hs := c18_keep hs hc2; replace Hc := Lib.hid (from_ Hc.out hc2))
      | (go_at_call 32; (first | (with_reducible refine (l16is_yes (UBX1.out.below Hc.out) (VBX1.out.below Hc.out) o5 o6).mono ?_) | (with_reducible refine (l16is_yes (UBX2.out.below Hc.out) (VBX2.out.below Hc.out) o5 o6).mono ?_) | (with_reducible refine (l16is_yes (UBX3.out.below Hc.out) (VBX3.out.below Hc.out) o5 o6).mono ?_)); rintro e w8 ⟨rfl, hc2⟩; replace hs := c18_keep hs hc2; replace Hc := Lib.hid (from_ Hc.out hc2); clear o5 o6)) | fail
  all_goals
    go_wp2
    go_ret
    exact ⟨by first | rfl | trivial, from_ HB.out Hc.out⟩

end Go.Proofs.YtamenhffplhddaaGreat
