/- facetroomlaw16.ItvReckons, walked. No conditions. -/
import Derived.Test.YthpngihjcphigaaGreatRTelO
import Derived.Test.YthpngihjcphigaaGreatRWhV
set_option linter.unusedVariables false
set_option linter.unusedSimpArgs false
set_option maxRecDepth 100000
set_option maxHeartbeats 40000000
namespace Go.Proofs.YthpngihjcphigaaGreat
open Go.Lib (hid)
open Go.RowKit
variable {a b : Value} {p q : Iv} {w : World}
theorem rec_g1 (ha : IsItv w old a p) (hb : IsItv w old b q) (k1 : gtJ p 4 = true) : Calls Tryz.prog 3 #[a, b] w fun e w' => e = .returned (.bool true) ∧ Below w.heap.size w w' := by
 obtain ⟨A0, a0, B0, b0, rfl, u0, u1⟩ := ha
 obtain ⟨A1, a1, B1, b1, rfl, u2, u3⟩ := hb
 have G1 := hid (fun (W : World) (h : Below w.heap.size w W) => g16J_w (u0.below h) (u1.below h))
 rw [k1] at G1
 obtain ⟨hq, hb0⟩ := Q2.new w (.bool p.n0) (.bool p.s0) (.slice A0 p.l0.length a0) (.bool p.n1) (.bool p.s1) (.slice B0 p.l1.length b0) (.bool q.n0) (.bool q.s0) (.slice A1 q.l0.length a1) (.bool q.n1) (.bool q.s1) (.slice B1 q.l1.length b1) 29
 obtain ⟨bxs, HB⟩ := hid2 hq hb0
 clear hq hb0
 clear u0 u1 u2 u3 k1
 go_enter Tryz.func3, Tryz.ntmps3
 have y1_0 := bxs.out.1.all
 go_wp2_with fail
 refine (G1.out _ HB.out).mono ?_
 rintro e w1 ⟨rfl, hc⟩
 clear y1_0
 replace bxs := hid (bxs.out.below hc)
 replace HB := hid (from_ HB.out hc)
 clear hc G1
 go_wp2
 go_ret
 exact ⟨by first | rfl | trivial, HB.out⟩
theorem rec_g2 (ha : IsItv w old a p) (hb : IsItv w old b q) (k1 : gtJ p 4 = false) (k2 : gtJ q 4 = true) : Calls Tryz.prog 3 #[a, b] w fun e w' => e = .returned (.bool true) ∧ Below w.heap.size w w' := by
 obtain ⟨A0, a0, B0, b0, rfl, u0, u1⟩ := ha
 obtain ⟨A1, a1, B1, b1, rfl, u2, u3⟩ := hb
 have G1 := hid (fun (W : World) (h : Below w.heap.size w W) => g16J_w (u0.below h) (u1.below h))
 rw [k1] at G1
 have G2 := hid (fun (W : World) (h : Below w.heap.size w W) => g16J_w (u2.below h) (u3.below h))
 rw [k2] at G2
 obtain ⟨hq, hb0⟩ := Q2.new w (.bool p.n0) (.bool p.s0) (.slice A0 p.l0.length a0) (.bool p.n1) (.bool p.s1) (.slice B0 p.l1.length b0) (.bool q.n0) (.bool q.s0) (.slice A1 q.l0.length a1) (.bool q.n1) (.bool q.s1) (.slice B1 q.l1.length b1) 29
 obtain ⟨bxs, HB⟩ := hid2 hq hb0
 clear hq hb0
 clear u0 u1 u2 u3 k1 k2
 go_enter Tryz.func3, Tryz.ntmps3
 have y1_0 := bxs.out.1.all
 go_wp2_with fail
 refine (G1.out _ HB.out).mono ?_
 rintro e w1 ⟨rfl, hc⟩
 clear y1_0
 replace bxs := hid (bxs.out.below hc)
 replace HB := hid (from_ HB.out hc)
 clear hc G1
 have y2_0 := bxs.out.2.all
 go_wp2_with fail
 refine (G2.out _ HB.out).mono ?_
 rintro e w3 ⟨rfl, hc⟩
 clear y2_0
 replace bxs := hid (bxs.out.below hc)
 replace HB := hid (from_ HB.out hc)
 clear hc
 clear G2
 go_wp2
 go_ret
 exact ⟨by first | rfl | trivial, HB.out⟩
theorem rec_good (ha : IsItv w old a p) (hb : IsItv w old b q) (k1 : gtJ p 4 = false) (k2 : gtJ q 4 = false) : Calls Tryz.prog 3 #[a, b] w fun e w' => e = .returned (.bool true) ∧ Below w.heap.size w w' := by
 obtain ⟨A0, a0, B0, b0, rfl, u0, u1⟩ := ha
 obtain ⟨A1, a1, B1, b1, rfl, u2, u3⟩ := hb
 have G1 := hid (fun (W : World) (h : Below w.heap.size w W) => g16J_w (u0.below h) (u1.below h))
 rw [k1] at G1
 have G2 := hid (fun (W : World) (h : Below w.heap.size w W) => g16J_w (u2.below h) (u3.below h))
 rw [k2] at G2
 obtain ⟨m0, m1⟩ := gtJ_no k1
 obtain ⟨m2, m3⟩ := gtJ_no k2
 obtain ⟨r1, e1, c1, d1⟩ := pair_add (p := p) (q := q) m0 m1 m2 m3 u0.small u1.small u2.small u3.small
 obtain ⟨r2, e2, c2, d2⟩ := pair_mul (p := p) (q := q) m0 m1 m2 m3 u0.small u1.small u2.small u3.small
 obtain ⟨r3, e3, c3, d3⟩ := pair_div (p := p) (q := q) m0 m1 m2 m3 u0.small u1.small u2.small u3.small
 obtain ⟨r4, e4, c4, d4⟩ := pair_mod (p := p) (q := q) m0 m1 m2 m3 u0.small u1.small u2.small u3.small
 obtain ⟨r5, e5, c5, d5⟩ := pair_shl (p := p) (q := q) m0 m1 m2 m3 u0.small u1.small u2.small u3.small
 obtain ⟨r6, e6, c6, d6⟩ := pair_shr (p := p) (q := q) m0 m1 m2 m3 u0.small u1.small u2.small u3.small
 replace c1 := hid (fun (W : World) (h : Below w.heap.size w W) => c1 W _ _ _ _ _ _ _ _ _ _ _ _ (u0.below h) (u1.below h) (u2.below h) (u3.below h))
 replace d1 := hid (fun (W : World) (h : Below w.heap.size w W) => d1 W _ _ _ _ _ _ _ _ _ _ _ _ (u0.below h) (u1.below h) (u2.below h) (u3.below h))
 replace c2 := hid (fun (W : World) (h : Below w.heap.size w W) => c2 W _ _ _ _ _ _ _ _ _ _ _ _ (u0.below h) (u1.below h) (u2.below h) (u3.below h))
 replace d2 := hid (fun (W : World) (h : Below w.heap.size w W) => d2 W _ _ _ _ _ _ _ _ _ _ _ _ (u0.below h) (u1.below h) (u2.below h) (u3.below h))
 replace c3 := hid (fun (W : World) (h : Below w.heap.size w W) => c3 W _ _ _ _ _ _ _ _ _ _ _ _ (u0.below h) (u1.below h) (u2.below h) (u3.below h))
 replace d3 := hid (fun (W : World) (h : Below w.heap.size w W) => d3 W _ _ _ _ _ _ _ _ _ _ _ _ (u0.below h) (u1.below h) (u2.below h) (u3.below h))
 replace c4 := hid (fun (W : World) (h : Below w.heap.size w W) => c4 W _ _ _ _ _ _ _ _ _ _ _ _ (u0.below h) (u1.below h) (u2.below h) (u3.below h))
 replace d4 := hid (fun (W : World) (h : Below w.heap.size w W) => d4 W _ _ _ _ _ _ _ _ _ _ _ _ (u0.below h) (u1.below h) (u2.below h) (u3.below h))
 replace c5 := hid (fun (W : World) (h : Below w.heap.size w W) => c5 W _ _ _ _ _ _ _ _ _ _ _ _ (u0.below h) (u1.below h) (u2.below h) (u3.below h))
 replace d5 := hid (fun (W : World) (h : Below w.heap.size w W) => d5 W _ _ _ _ _ _ _ _ _ _ _ _ (u0.below h) (u1.below h) (u2.below h) (u3.below h))
 replace c6 := hid (fun (W : World) (h : Below w.heap.size w W) => c6 W _ _ _ _ _ _ _ _ _ _ _ _ (u0.below h) (u1.below h) (u2.below h) (u3.below h))
 replace d6 := hid (fun (W : World) (h : Below w.heap.size w W) => d6 W _ _ _ _ _ _ _ _ _ _ _ _ (u0.below h) (u1.below h) (u2.below h) (u3.below h))
 clear u0 u1 u2 u3
 obtain ⟨hq, hb0⟩ := Q2.new w (.bool p.n0) (.bool p.s0) (.slice A0 p.l0.length a0) (.bool p.n1) (.bool p.s1) (.slice B0 p.l1.length b0) (.bool q.n0) (.bool q.s0) (.slice A1 q.l0.length a1) (.bool q.n1) (.bool q.s1) (.slice B1 q.l1.length b1) 29
 obtain ⟨bxs, HB⟩ := hid2 hq hb0
 clear hq hb0
 clear k1 k2 m0 m1 m2 m3
 go_enter Tryz.func3, Tryz.ntmps3
 have y1_0 := bxs.out.1.all
 go_wp2_with fail
 refine (G1.out _ HB.out).mono ?_
 rintro e w1 ⟨rfl, hc⟩
 clear y1_0
 replace bxs := hid (bxs.out.below hc)
 replace HB := hid (from_ HB.out hc)
 clear hc G1
 have y := (bxs.out).cells
 go_wp2_with fail
 refine (G2.out _ HB.out).mono ?_
 rintro e w3 ⟨rfl, hc⟩
 clear y G2
 replace bxs := hid (bxs.out.below hc)
 replace HB := hid (from_ HB.out hc)
 have S := hid (Below.refl w3.heap.size w3)
 clear hc
 have y := (bxs.out.below S.out).cells
 go_wp2_with fail
 refine (c1.out _ (from_ HB.out S.out)).mono ?_
 rintro e v ⟨A1, a1, B1, b1, rfl, o0, o1, hc⟩
 clear y c1
 go_upto_region 4 with fail
 obtain ⟨x1, s1⟩ := BX.two (t := 29) hc o0 o1
 obtain ⟨g1, hg⟩ : ∃ g, g = v.heap.size := ⟨_, rfl⟩
 rw [← hg] at x1
 generalize v.alloc (.cells #[.bool r1.n0, .bool r1.s0, .slice A1 r1.l0.length a1, .bool r1.n1, .bool r1.s1, .slice B1 r1.l1.length b1] 29) = v1 at *
 try simp only [← hg]
 clear hg o0 o1 hc
 replace S := hid (from_ S.out s1.out)
 have y := (bxs.out.below S.out).cells
 go_wp2_with fail
 refine (d1.out _ (from_ HB.out S.out)).mono ?_
 rintro e v ⟨A2, a2, B2, b2, rfl, o0, o1, hc⟩
 clear y d1
 go_upto_region 5 with fail
 obtain ⟨x2, s2⟩ := BX.two (t := 29) hc o0 o1
 obtain ⟨g2, hg⟩ : ∃ g, g = v.heap.size := ⟨_, rfl⟩
 rw [← hg] at x2
 generalize v.alloc (.cells #[.bool r1.n0, .bool r1.s0, .slice A2 r1.l0.length a2, .bool r1.n1, .bool r1.s1, .slice B2 r1.l1.length b2] 29) = v2 at *
 try simp only [← hg]
 clear hg o0 o1 hc
 replace S := hid (from_ S.out s2.out)
 have y := (bxs.out.below S.out).cells
 go_wp2_with fail
 refine (c2.out _ (from_ HB.out S.out)).mono ?_
 rintro e v ⟨A3, a3, B3, b3, rfl, o0, o1, hc⟩
 clear y c2
 go_upto_region 6 with fail
 obtain ⟨x3, s3⟩ := BX.two (t := 29) hc o0 o1
 obtain ⟨g3, hg⟩ : ∃ g, g = v.heap.size := ⟨_, rfl⟩
 rw [← hg] at x3
 generalize v.alloc (.cells #[.bool r2.n0, .bool r2.s0, .slice A3 r2.l0.length a3, .bool r2.n1, .bool r2.s1, .slice B3 r2.l1.length b3] 29) = v3 at *
 try simp only [← hg]
 clear hg o0 o1 hc
 replace S := hid (from_ S.out s3.out)
 have y := (bxs.out.below S.out).cells
 go_wp2_with fail
 refine (d2.out _ (from_ HB.out S.out)).mono ?_
 rintro e v ⟨A4, a4, B4, b4, rfl, o0, o1, hc⟩
 clear y d2
 go_upto_region 7 with fail
 obtain ⟨x4, s4⟩ := BX.two (t := 29) hc o0 o1
 obtain ⟨g4, hg⟩ : ∃ g, g = v.heap.size := ⟨_, rfl⟩
 rw [← hg] at x4
 generalize v.alloc (.cells #[.bool r2.n0, .bool r2.s0, .slice A4 r2.l0.length a4, .bool r2.n1, .bool r2.s1, .slice B4 r2.l1.length b4] 29) = v4 at *
 try simp only [← hg]
 clear hg o0 o1 hc
 replace S := hid (from_ S.out s4.out)
 have y := (bxs.out.below S.out).cells
 go_wp2_with fail
 refine (c3.out _ (from_ HB.out S.out)).mono ?_
 rintro e v ⟨A5, a5, B5, b5, rfl, o0, o1, hc⟩
 clear y c3
 go_upto_region 8 with fail
 obtain ⟨x5, s5⟩ := BX.two (t := 29) hc o0 o1
 obtain ⟨g5, hg⟩ : ∃ g, g = v.heap.size := ⟨_, rfl⟩
 rw [← hg] at x5
 generalize v.alloc (.cells #[.bool r3.n0, .bool r3.s0, .slice A5 r3.l0.length a5, .bool r3.n1, .bool r3.s1, .slice B5 r3.l1.length b5] 29) = v5 at *
 try simp only [← hg]
 clear hg o0 o1 hc
 replace S := hid (from_ S.out s5.out)
 have y := (bxs.out.below S.out).cells
 go_wp2_with fail
 refine (d3.out _ (from_ HB.out S.out)).mono ?_
 rintro e v ⟨A6, a6, B6, b6, rfl, o0, o1, hc⟩
 clear y d3
 go_upto_region 9 with fail
 obtain ⟨x6, s6⟩ := BX.two (t := 29) hc o0 o1
 obtain ⟨g6, hg⟩ : ∃ g, g = v.heap.size := ⟨_, rfl⟩
 rw [← hg] at x6
 generalize v.alloc (.cells #[.bool r3.n0, .bool r3.s0, .slice A6 r3.l0.length a6, .bool r3.n1, .bool r3.s1, .slice B6 r3.l1.length b6] 29) = v6 at *
 try simp only [← hg]
 clear hg o0 o1 hc
 replace S := hid (from_ S.out s6.out)
 have y := (bxs.out.below S.out).cells
 go_wp2_with fail
 refine (c4.out _ (from_ HB.out S.out)).mono ?_
 rintro e v ⟨A7, a7, B7, b7, rfl, o0, o1, hc⟩
 clear y c4
 go_upto_region 10 with fail
 obtain ⟨x7, s7⟩ := BX.two (t := 29) hc o0 o1
 obtain ⟨g7, hg⟩ : ∃ g, g = v.heap.size := ⟨_, rfl⟩
 rw [← hg] at x7
 generalize v.alloc (.cells #[.bool r4.n0, .bool r4.s0, .slice A7 r4.l0.length a7, .bool r4.n1, .bool r4.s1, .slice B7 r4.l1.length b7] 29) = v7 at *
 try simp only [← hg]
 clear hg o0 o1 hc
 replace S := hid (from_ S.out s7.out)
 have y := (bxs.out.below S.out).cells
 go_wp2_with fail
 refine (d4.out _ (from_ HB.out S.out)).mono ?_
 rintro e v ⟨A8, a8, B8, b8, rfl, o0, o1, hc⟩
 clear y d4
 go_upto_region 11 with fail
 obtain ⟨x8, s8⟩ := BX.two (t := 29) hc o0 o1
 obtain ⟨g8, hg⟩ : ∃ g, g = v.heap.size := ⟨_, rfl⟩
 rw [← hg] at x8
 generalize v.alloc (.cells #[.bool r4.n0, .bool r4.s0, .slice A8 r4.l0.length a8, .bool r4.n1, .bool r4.s1, .slice B8 r4.l1.length b8] 29) = v8 at *
 try simp only [← hg]
 clear hg o0 o1 hc
 replace S := hid (from_ S.out s8.out)
 have y := (bxs.out.below S.out).cells
 go_wp2_with fail
 refine (c5.out _ (from_ HB.out S.out)).mono ?_
 rintro e v ⟨A9, a9, B9, b9, rfl, o0, o1, hc⟩
 clear y c5
 go_upto_region 12 with fail
 obtain ⟨x9, s9⟩ := BX.two (t := 29) hc o0 o1
 obtain ⟨g9, hg⟩ : ∃ g, g = v.heap.size := ⟨_, rfl⟩
 rw [← hg] at x9
 generalize v.alloc (.cells #[.bool r5.n0, .bool r5.s0, .slice A9 r5.l0.length a9, .bool r5.n1, .bool r5.s1, .slice B9 r5.l1.length b9] 29) = v9 at *
 try simp only [← hg]
 clear hg o0 o1 hc
 replace S := hid (from_ S.out s9.out)
 have y := (bxs.out.below S.out).cells
 go_wp2_with fail
 refine (d5.out _ (from_ HB.out S.out)).mono ?_
 rintro e v ⟨A10, a10, B10, b10, rfl, o0, o1, hc⟩
 clear y d5
 go_upto_region 13 with fail
 obtain ⟨x10, s10⟩ := BX.two (t := 29) hc o0 o1
 obtain ⟨g10, hg⟩ : ∃ g, g = v.heap.size := ⟨_, rfl⟩
 rw [← hg] at x10
 generalize v.alloc (.cells #[.bool r5.n0, .bool r5.s0, .slice A10 r5.l0.length a10, .bool r5.n1, .bool r5.s1, .slice B10 r5.l1.length b10] 29) = v10 at *
 try simp only [← hg]
 clear hg o0 o1 hc
 replace S := hid (from_ S.out s10.out)
 have y := (bxs.out.below S.out).cells
 go_wp2_with fail
 refine (c6.out _ (from_ HB.out S.out)).mono ?_
 rintro e v ⟨A11, a11, B11, b11, rfl, o0, o1, hc⟩
 clear y c6
 go_upto_region 14 with fail
 obtain ⟨x11, s11⟩ := BX.two (t := 29) hc o0 o1
 obtain ⟨g11, hg⟩ : ∃ g, g = v.heap.size := ⟨_, rfl⟩
 rw [← hg] at x11
 generalize v.alloc (.cells #[.bool r6.n0, .bool r6.s0, .slice A11 r6.l0.length a11, .bool r6.n1, .bool r6.s1, .slice B11 r6.l1.length b11] 29) = v11 at *
 try simp only [← hg]
 clear hg o0 o1 hc
 replace S := hid (from_ S.out s11.out)
 have y := (bxs.out.below S.out).cells
 go_wp2_with fail
 refine (d6.out _ (from_ HB.out S.out)).mono ?_
 rintro e v ⟨A12, a12, B12, b12, rfl, o0, o1, hc⟩
 clear y d6
 go_upto_region 15 with fail
 obtain ⟨x12, s12⟩ := BX.two (t := 29) hc o0 o1
 obtain ⟨g12, hg⟩ : ∃ g, g = v.heap.size := ⟨_, rfl⟩
 rw [← hg] at x12
 generalize v.alloc (.cells #[.bool r6.n0, .bool r6.s0, .slice A12 r6.l0.length a12, .bool r6.n1, .bool r6.s1, .slice B12 r6.l1.length b12] 29) = v12 at *
 try simp only [← hg]
 clear hg o0 o1 hc
 replace S := hid (from_ S.out s12.out)
 have E := hid (Below.refl v12.heap.size v12)
 have t11 := s12
 have t10 := hid (from_ s11.out t11.out)
 have t9 := hid (from_ s10.out t10.out)
 have t8 := hid (from_ s9.out t9.out)
 have t7 := hid (from_ s8.out t8.out)
 have t6 := hid (from_ s7.out t7.out)
 have t5 := hid (from_ s6.out t6.out)
 have t4 := hid (from_ s5.out t5.out)
 have t3 := hid (from_ s4.out t4.out)
 have t2 := hid (from_ s3.out t3.out)
 have t1 := hid (from_ s2.out t2.out)
 replace x1 := hid (x1.out.below t1.out)
 replace x2 := hid (x2.out.below t2.out)
 replace x3 := hid (x3.out.below t3.out)
 replace x4 := hid (x4.out.below t4.out)
 replace x5 := hid (x5.out.below t5.out)
 replace x6 := hid (x6.out.below t6.out)
 replace x7 := hid (x7.out.below t7.out)
 replace x8 := hid (x8.out.below t8.out)
 replace x9 := hid (x9.out.below t9.out)
 replace x10 := hid (x10.out.below t10.out)
 replace x11 := hid (x11.out.below t11.out)
 clear s1 s2 s3 s4 s5 s6 s7 s8 s9 s10 s11 s12 t1 t2 t3 t4 t5 t6 t7 t8 t9 t10 t11
 obtain ⟨x, z⟩ := And.intro (hid (x1.out.below E.out)) (hid (x2.out.below E.out))
 have y := And.intro x.out.box.all z.out.box.all
 go_wp2_with fail
 refine (same16_yes x.out.u0 x.out.u1 z.out.u0 z.out.u1).mono ?_
 rintro e v ⟨rfl, hc⟩
 clear x z y
 replace E := hid (from_ E.out hc)
 clear hc
 obtain ⟨x, z⟩ := And.intro (hid (x3.out.below E.out)) (hid (x4.out.below E.out))
 have y := And.intro x.out.box.all z.out.box.all
 go_wp2_with fail
 refine (same16_yes x.out.u0 x.out.u1 z.out.u0 z.out.u1).mono ?_
 rintro e v ⟨rfl, hc⟩
 clear x z y
 replace E := hid (from_ E.out hc)
 clear hc
 obtain ⟨x, z⟩ := And.intro (hid (x5.out.below E.out)) (hid (x6.out.below E.out))
 have y := And.intro x.out.box.all z.out.box.all
 go_wp2_with fail
 refine (same16_yes x.out.u0 x.out.u1 z.out.u0 z.out.u1).mono ?_
 rintro e v ⟨rfl, hc⟩
 clear x z y
 replace E := hid (from_ E.out hc)
 clear hc
 obtain ⟨x, z⟩ := And.intro (hid (x7.out.below E.out)) (hid (x8.out.below E.out))
 have y := And.intro x.out.box.all z.out.box.all
 go_wp2_with fail
 refine (same16_yes x.out.u0 x.out.u1 z.out.u0 z.out.u1).mono ?_
 rintro e v ⟨rfl, hc⟩
 clear x z y
 replace E := hid (from_ E.out hc)
 clear hc
 obtain ⟨x, z⟩ := And.intro (hid (x9.out.below E.out)) (hid (x10.out.below E.out))
 have y := And.intro x.out.box.all z.out.box.all
 go_wp2_with fail
 refine (same16_yes x.out.u0 x.out.u1 z.out.u0 z.out.u1).mono ?_
 rintro e v ⟨rfl, hc⟩
 clear x z y
 replace E := hid (from_ E.out hc)
 clear hc
 obtain ⟨x, z⟩ := And.intro (hid (x11.out.below E.out)) (hid (x12.out.below E.out))
 have y := And.intro x.out.box.all z.out.box.all
 go_wp2_with fail
 refine (same16_yes x.out.u0 x.out.u1 z.out.u0 z.out.u1).mono ?_
 rintro e v ⟨rfl, hc⟩
 clear x z y
 replace E := hid (from_ E.out hc)
 clear hc
 go_wp2
 go_ret
 exact ⟨by first | rfl | trivial, from_ (from_ HB.out S.out) E.out⟩
theorem lawItvReckons (ha : IsItv w old a p) (hb : IsItv w old b q) : Calls Tryz.prog 3 #[a, b] w fun e w' => e = .returned (.bool true) ∧ Below w.heap.size w w' := by
 by_cases k1 : gtJ p 4 = true
 · exact rec_g1 ha hb k1
 replace k1 := Bool.eq_false_iff.2 k1
 by_cases k2 : gtJ q 4 = true
 · exact rec_g2 ha hb k1 k2
 replace k2 := Bool.eq_false_iff.2 k2
 exact rec_good ha hb k1 k2
end Go.Proofs.YthpngihjcphigaaGreat
