/- Linear forms: what they may be, plain. No conditions. -/
import Derived.Deep.RegionHeld3
import Derived.Test.YthpngihjcphigaaGreatRItwC
import Derived.Test.YthpngihjcphigaaGreatRWhV
import Derived.Test.YthpngihjcphigaaGreatRItvR
import Derived.Test.YthpngihjcphigaaGreatRWhM
import Derived.Test.YthpngihjcphigaaGreatRWhJ
import Derived.Test.YthpngihjcphigaaGreatRWhU
import Derived.Test.YthpngihjcphigaaGreatRRefI
set_option linter.unusedVariables false
set_option linter.unusedSimpArgs false
set_option maxRecDepth 100000
set_option maxHeartbeats 40000000
namespace Go.Proofs.YthpngihjcphigaaGreat
open Go.Lib (hid)
open Go.RowKit
variable {A B C D : Option Addr} {B0 F K M N a b c d f g h i j n o : Nat} {V W W' W0 w w' : World} {Y Z Z1 Z2 Z3 Z4 : Zone} {a0 a1 a2 a3 a4 a5 v x0 x1 x2 : Value} {e x y z z0 z1 : Int} {k0 k1 l l0 l1 m rl0 rl1 : List Nat} {m0 m1 n0 n1 r rn0 rn1 rs0 rs1 s s0 s1 t t0 t1 : Bool} {p q : Iv} {xs : List Value}
theorem iMul_good 
  (u1 : U64s w Z1 A a l0) (u2 : U64s w Z2 B b l1) (u3 : U64s w Z3 C c k0) (u4 : U64s w Z4 D d k1) (h1 : okA n0 s0 l0 n1 s1 l1 = true) (h2 : okA m0 t0 k0 m1 t1 k1 = true)
  (q1 : l0.length ≤ 32) (q2 : l1.length ≤ 32) (q3 : k0.length ≤ 32) (q4 : k1.length ≤ 32)
  (hz0 : z0 = mulLo (loV n0 s0 l0) (hiV n1 s1 l1) (loV m0 t0 k0) (hiV m1 t1 k1)) (hz1 : z1 = mulHi (loV n0 s0 l0) (hiV n1 s1 l1) (loV m0 t0 k0) (hiV m1 t1 k1)) (gm : z0 < bigZ) (gM : -bigZ < z1) (e0 : EndL z0 rn0 rs0 rl0) (e1 : EndH z1 rn1 rs1 rl1) :
  Calls Tryz.prog 8 #[.agg #[.bool n0, .bool s0, .slice A l0.length a, .bool n1, .bool s1, .slice B l1.length b], .agg #[.bool m0, .bool t0, .slice C k0.length c, .bool m1, .bool t1, .slice D k1.length d]] w fun e w' => ∃ rA ra rB rb, e = .returned (.tuple #[.agg #[.bool rn0, .bool rs0, .slice rA rl0.length ra, .bool rn1, .bool rs1, .slice rB rl1.length rb], .int .i64 0]) ∧ U64s w' (new w.heap.size) rA ra rl0 ∧ U64s w' (new w.heap.size) rB rb rl1 ∧ Below w.heap.size w w' := by
 obtain ⟨bA, bB, bR, hB0⟩ := boxX w (.bool n0) (.bool s0) (.slice A l0.length a) (.bool n1) (.bool s1) (.slice B l1.length b) (.bool m0) (.bool t0) (.slice C k0.length c) (.bool m1) (.bool t1) (.slice D k1.length d) (.bool false) (.bool false) (.slice none 0 0) (.bool false) (.bool false) (.slice none 0 0) 29
 have hb1 := hB0.alloc hB0.size (.cells #[.bool n0, .bool s0, .slice A l0.length a, .bool n1, .bool s1, .slice B l1.length b, .bool m0, .bool t0, .slice C k0.length c, .bool m1, .bool t1, .slice D k1.length d] 29)
 have hg := given_twoA (p := ⟨n0, s0, l0, n1, s1, l1⟩) (q := ⟨m0, t0, k0, m1, t1, k1⟩) (ty := 29) (u1.below hB0) (u2.below hB0) (u3.below hB0) (u4.below hB0)
 rw [show (((w.alloc (.cells #[.bool n0, .bool s0, .slice A l0.length a, .bool n1, .bool s1, .slice B l1.length b] 29)).alloc (.cells #[.bool m0, .bool t0, .slice C k0.length c, .bool m1, .bool t1, .slice D k1.length d] 29)).alloc (.cells #[.bool false, .bool false, .slice none 0 0, .bool false, .bool false, .slice none 0 0] 29)).heap.size = w.heap.size + 3 by simp] at hg
 have hck := ichecked_any (n := 2) (c := 2) hg rfl (by simp) (by intro p hp; simp only [List.mem_cons, List.not_mem_nil, or_false] at hp; rcases hp with rfl | rfl <;> exact ⟨by dsimp only; omega, by dsimp only; omega⟩)
 rw [errAs_two, if_pos ⟨h1, h2⟩] at hck
 obtain ⟨HA, HBb, HR, Hck, Hb1⟩ := hid5 (bA.alloc (.cells #[.bool n0, .bool s0, .slice A l0.length a, .bool n1, .bool s1, .slice B l1.length b, .bool m0, .bool t0, .slice C k0.length c, .bool m1, .bool t1, .slice D k1.length d] 29)) (bB.alloc (.cells #[.bool n0, .bool s0, .slice A l0.length a, .bool n1, .bool s1, .slice B l1.length b, .bool m0, .bool t0, .slice C k0.length c, .bool m1, .bool t1, .slice D k1.length d] 29)) (bR.alloc (.cells #[.bool n0, .bool s0, .slice A l0.length a, .bool n1, .bool s1, .slice B l1.length b, .bool m0, .bool t0, .slice C k0.length c, .bool m1, .bool t1, .slice D k1.length d] 29)) hck hb1
 obtain ⟨a0, a1, a2, a3, a4, a5, _, _, _, _, _, _, _⟩ := bA
 obtain ⟨b0, b1, b2, b3, b4, b5, _, _, _, _, _, _, _⟩ := bB
 have J := hid (fun (W : World) (h : Below w.heap.size w W) => icrossed_times (u1.below h) (u2.below h) (u3.below h) (u4.below h) h1 h2 q1 q2 q3 q4 hz0 hz1 gm gM e0 e1)
 clear gm gM hck hb1 hg u1 u2 u3 u4 h1 h2 q1 q2 q3 q4 hz0 hz1 e0 e1 bR hB0
 go_enter Tryz.func8, Tryz.ntmps8
 go_wp2_with fail
 refine Hck.out.mono ?_
 rintro e w1 ⟨rfl, hc⟩
 obtain ⟨H1, R1⟩ := hid2 (from_ Hb1.out hc) (HR.out.below hc)
 clear a0 a1 a2 a3 a4 a5 b0 b1 b2 b3 b4 b5
 have a0 := (HA.out.below hc).all
 have b0 := (HBb.out.below hc).all
 clear hc
 go_wp2_with fail
 refine (J.out _ H1.out).mono ?_
 rintro e w2 ⟨A1, c1, A2, c2, rfl, o1, o2, hc⟩
 have z1 := R1.out.lt
 have R2 := R1.out.below hc
 obtain ⟨HP, U1, U2⟩ := hid3 (R2.put (from_ H1.out hc) (by omega) (.bool rn0) (.bool rs0) (.slice A1 rl0.length c1) (.bool rn1) (.bool rs1) (.slice A2 rl1.length c2)) ((o1.set6 (g := w.heap.size + 2) (fun (h : w1.heap.size ≤ w.heap.size + 2) => by omega) (.bool rn0) (.bool rs0) (.slice A1 rl0.length c1) (.bool rn1) (.bool rs1) (.slice A2 rl1.length c2)).mono (new_le H1.out.size)) ((o2.set6 (g := w.heap.size + 2) (fun (h : w1.heap.size ≤ w.heap.size + 2) => by omega) (.bool rn0) (.bool rs0) (.slice A1 rl0.length c1) (.bool rn1) (.bool rs1) (.slice A2 rl1.length c2)).mono (new_le H1.out.size))
 have g0 := R2.cf
 clear o1 o2 hc z1 a0 b0
 go_wp2
 refine bodyPost_ret (res_itv2 rfl _ (w.heap.size + 2) rfl HP.out.box) rfl ?_
 exact ⟨_, _, _, _, rfl, U1.out, U2.out, HP.out.bel⟩
theorem iAdd_good 
  (u1 : U64s w Z1 A a l0) (u2 : U64s w Z2 B b l1) (u3 : U64s w Z3 C c k0) (u4 : U64s w Z4 D d k1) (h1 : okA n0 s0 l0 n1 s1 l1 = true) (h2 : okA m0 t0 k0 m1 t1 k1 = true)
  (q1 : l0.length ≤ 60) (q2 : l1.length ≤ 60) (q3 : k0.length ≤ 60) (q4 : k1.length ≤ 60)
  (hz0 : z0 = plusE bigZ (loV n0 s0 l0) (loV m0 t0 k0)) (hz1 : z1 = plusE bigZ (hiV n1 s1 l1) (hiV m1 t1 k1)) (gm : z0 < bigZ) (gM : -bigZ < z1) (e0 : EndL z0 rn0 rs0 rl0) (e1 : EndH z1 rn1 rs1 rl1) :
  Calls Tryz.prog 6 #[.agg #[.bool n0, .bool s0, .slice A l0.length a, .bool n1, .bool s1, .slice B l1.length b], .agg #[.bool m0, .bool t0, .slice C k0.length c, .bool m1, .bool t1, .slice D k1.length d]] w fun e w' => ∃ rA ra rB rb, e = .returned (.tuple #[.agg #[.bool rn0, .bool rs0, .slice rA rl0.length ra, .bool rn1, .bool rs1, .slice rB rl1.length rb], .int .i64 0]) ∧ U64s w' (new w.heap.size) rA ra rl0 ∧ U64s w' (new w.heap.size) rB rb rl1 ∧ Below w.heap.size w w' := by
 obtain ⟨bA, bB, bR, hB0⟩ := boxX w (.bool n0) (.bool s0) (.slice A l0.length a) (.bool n1) (.bool s1) (.slice B l1.length b) (.bool m0) (.bool t0) (.slice C k0.length c) (.bool m1) (.bool t1) (.slice D k1.length d) (.bool false) (.bool false) (.slice none 0 0) (.bool false) (.bool false) (.slice none 0 0) 29
 have hb1 := hB0.alloc hB0.size (.cells #[.bool n0, .bool s0, .slice A l0.length a, .bool n1, .bool s1, .slice B l1.length b, .bool m0, .bool t0, .slice C k0.length c, .bool m1, .bool t1, .slice D k1.length d] 29)
 have hg := given_twoA (p := ⟨n0, s0, l0, n1, s1, l1⟩) (q := ⟨m0, t0, k0, m1, t1, k1⟩) (ty := 29) (u1.below hB0) (u2.below hB0) (u3.below hB0) (u4.below hB0)
 rw [show (((w.alloc (.cells #[.bool n0, .bool s0, .slice A l0.length a, .bool n1, .bool s1, .slice B l1.length b] 29)).alloc (.cells #[.bool m0, .bool t0, .slice C k0.length c, .bool m1, .bool t1, .slice D k1.length d] 29)).alloc (.cells #[.bool false, .bool false, .slice none 0 0, .bool false, .bool false, .slice none 0 0] 29)).heap.size = w.heap.size + 3 by simp] at hg
 have hck := ichecked_any (n := 2) (c := 2) hg rfl (by simp) (by intro p hp; simp only [List.mem_cons, List.not_mem_nil, or_false] at hp; rcases hp with rfl | rfl <;> exact ⟨by dsimp only; omega, by dsimp only; omega⟩)
 rw [errAs_two, if_pos ⟨h1, h2⟩] at hck
 obtain ⟨HA, HBb, HR, Hck, Hb1⟩ := hid5 (bA.alloc (.cells #[.bool n0, .bool s0, .slice A l0.length a, .bool n1, .bool s1, .slice B l1.length b, .bool m0, .bool t0, .slice C k0.length c, .bool m1, .bool t1, .slice D k1.length d] 29)) (bB.alloc (.cells #[.bool n0, .bool s0, .slice A l0.length a, .bool n1, .bool s1, .slice B l1.length b, .bool m0, .bool t0, .slice C k0.length c, .bool m1, .bool t1, .slice D k1.length d] 29)) (bR.alloc (.cells #[.bool n0, .bool s0, .slice A l0.length a, .bool n1, .bool s1, .slice B l1.length b, .bool m0, .bool t0, .slice C k0.length c, .bool m1, .bool t1, .slice D k1.length d] 29)) hck hb1
 have a0 := bA.all
 have b0 := bB.all
 obtain ⟨ea1, ea2⟩ := okA_ends h1
 obtain ⟨eb1, eb2⟩ := okA_ends h2
 obtain ⟨x1, xs1, xl1, xA1, xc1, P1⟩ := Plc.ex (-1) n0 s0 l0 A a
 obtain ⟨x2, xs2, xl2, xA2, xc2, P2⟩ := Plc.ex 1 n1 s1 l1 B b
 obtain ⟨x3, xs3, xl3, xA3, xc3, P3⟩ := Plc.ex (-1) m0 t0 k0 C c
 obtain ⟨x4, xs4, xl4, xA4, xc4, P4⟩ := Plc.ex 1 m1 t1 k1 D d
 have p1 := P1.lo ea1 u1.small (by omega)
 have p2 := P2.hi ea2 u2.small (by omega)
 have p3 := P3.lo eb1 u3.small (by omega)
 have p4 := P4.hi eb2 u4.small (by omega)
 have r1 := P1.len
 have r2 := P2.len
 have r3 := P3.len
 have r4 := P4.len
 have v1 := P1.u64s u1
 have v2 := P2.u64s u2
 have v3 := P3.u64s u3
 have v4 := P4.u64s u4
 have i1 := lo_range (n := n0) (s := s0) u1.small (by omega)
 have i2 := hi_range (n := n1) (s := s1) u2.small (by omega)
 have i3 := lo_range (n := m0) (s := t0) u3.small (by omega)
 have i4 := hi_range (n := m1) (s := t1) u4.small (by omega)
 obtain ⟨L1, L2, L3, L4⟩ := hid4 (fun (W : World) => ilow_p (w := W) (v3 := .bool n1) (v4 := .bool s1) (v5 := .slice B l1.length b) P1) (fun (W : World) => ihigh_p (w := W) (v3 := .bool n0) (v4 := .bool s0) (v5 := .slice A l0.length a) P2) (fun (W : World) => ilow_p (w := W) (v3 := .bool m1) (v4 := .bool t1) (v5 := .slice D k1.length d) P3) (fun (W : World) => ihigh_p (w := W) (v3 := .bool m0) (v4 := .bool t0) (v5 := .slice C k0.length c) P4)
 generalize loV n0 s0 l0 = X1 at *
 generalize hiV n1 s1 l1 = X2 at *
 generalize loV m0 t0 k0 = X3 at *
 generalize hiV m1 t1 k1 = X4 at *
 have xx1 : Ext bigZ (wN 61) z0 := by rw [hz0]; exact ext_plus (p1.ext (by omega)) (p3.ext (by omega))
 obtain ⟨y1, ys1, yl1, py1⟩ : ∃ b s l, Pl z0 b s l := ⟨_, _, _, Pl.all (xx1.range (by omega))⟩
 have yn1 := py1.len_of xx1
 obtain ⟨eq1, er1, es1⟩ := e0
 obtain rfl : ys1 = rs0 := py1.uniq.2.1.trans er1.symm
 obtain rfl : yl1 = rl0 := py1.uniq.2.2.trans es1.symm
 have PL1 : Hid (∀ W, Below w.heap.size w W → Calls Tryz.prog 27 #[.agg #[.int .i64 x1, .bool xs1, .slice xA1 xl1.length xc1], .agg #[.int .i64 x3, .bool xs3, .slice xA3 xl3.length xc3]] W fun e' w' => ∃ A' c', e' = .returned (.agg #[.int .i64 y1, .bool ys1, .slice A' yl1.length c']) ∧ U64s w' (new W.heap.size) A' c' yl1 ∧ Below W.heap.size W w') := fun W g => iplus_p p1 p3 py1 hz0.symm ⟨by omega, by omega⟩ (v1.below g) (v3.below g) (by omega) (by omega)
 have BD1 : Hid (∀ W Y D d, U64s W Y D d yl1 → Calls Tryz.prog 26 #[.agg #[.int .i64 y1, .bool ys1, .slice D yl1.length d]] W fun e' w' => ∃ A' c', e' = .returned (.agg #[.bool rn0, .bool ys1, .slice A' yl1.length c']) ∧ U64s w' (new W.heap.size) A' c' yl1 ∧ Below W.heap.size W w') := fun W Y D d g => ibound_p py1 ((py1.nlo gm).trans eq1.symm) g (by omega)
 have xx2 : Ext bigZ (wN 61) z1 := by rw [hz1]; exact ext_plus (p2.ext (by omega)) (p4.ext (by omega))
 obtain ⟨y2, ys2, yl2, py2⟩ : ∃ b s l, Pl z1 b s l := ⟨_, _, _, Pl.all (xx2.range (by omega))⟩
 have yn2 := py2.len_of xx2
 obtain ⟨eq2, er2, es2⟩ := e1
 obtain rfl : ys2 = rs1 := py2.uniq.2.1.trans er2.symm
 obtain rfl : yl2 = rl1 := py2.uniq.2.2.trans es2.symm
 have PL2 : Hid (∀ W, Below w.heap.size w W → Calls Tryz.prog 27 #[.agg #[.int .i64 x2, .bool xs2, .slice xA2 xl2.length xc2], .agg #[.int .i64 x4, .bool xs4, .slice xA4 xl4.length xc4]] W fun e' w' => ∃ A' c', e' = .returned (.agg #[.int .i64 y2, .bool ys2, .slice A' yl2.length c']) ∧ U64s w' (new W.heap.size) A' c' yl2 ∧ Below W.heap.size W w') := fun W g => iplus_p p2 p4 py2 hz1.symm ⟨by omega, by omega⟩ (v2.below g) (v4.below g) (by omega) (by omega)
 have BD2 : Hid (∀ W Y D d, U64s W Y D d yl2 → Calls Tryz.prog 26 #[.agg #[.int .i64 y2, .bool ys2, .slice D yl2.length d]] W fun e' w' => ∃ A' c', e' = .returned (.agg #[.bool rn1, .bool ys2, .slice A' yl2.length c']) ∧ U64s w' (new W.heap.size) A' c' yl2 ∧ Below W.heap.size W w') := fun W Y D d g => ibound_p py2 ((py2.nhi gM).trans eq2.symm) g (by omega)
 clear hck hb1 hg bR hB0 hz0 hz1 gm gM
 clear xx1 py1 yn1 eq1 er1 es1 xx2 py2 yn2 eq2 er2 es2
 clear u1 u2 u3 u4 ea1 ea2 eb1 eb2 P1 P2 P3 P4 p1 p2 p3 p4 r1 r2 r3 r4 v1 v2 v3 v4 i1 i2 i3 i4 q1 q2 q3 q4 h1 h2
 go_enter Tryz.func6, Tryz.ntmps6
 go_wp2_with fail
 refine Hck.out.mono ?_
 rintro e w1 ⟨rfl, hc⟩
 have H1 := hid (from_ Hb1.out hc)
 clear a0 b0
 have hs := boxT_of (HA.out.below hc) (HBb.out.below hc)
 replace hs := boxT_keep hs bdr_
 have Hc := hid H1.out.drew
 obtain ⟨gR, hgR⟩ : ∃ gR, gR = w.heap.size + 2 := ⟨_, rfl⟩
 replace HR := hid ((HR.out.below hc).below bdr_)
 rw [← hgR] at HR
 clear hc H1 Hb1 HA HBb Hck
 go_upto_region 4 with fail
 simp only [show w.heap.size + 2 = gR from hgR.symm, show w.heap.size + 1 + 1 = gR from hgR.symm]
 have n1 : gR ≠ w.heap.size := by omega
 have n2 : gR ≠ w.heap.size + 1 := by omega
 have n3 : w.heap.size ≤ gR := by omega
 obtain ⟨N1, N2, N3⟩ := hid3 n1 n2 n3
 clear hgR n1 n2 n3
 first | go_region_held3 (fun w' => D6 w' w.heap.size (.bool n0) (.bool s0) (.slice A l0.length a) (.bool n1) (.bool s1) (.slice B l1.length b) (C6 w' (w.heap.size + 1) (.bool m0) (.bool t0) (.slice C k0.length c) (.bool m1) (.bool t1) (.slice D k1.length d)))
  (first
   | with_reducible exact hs
   | with_reducible exact boxT_st6 N1.out N2.out hs
   | exact boxT_keep hs bal_)
  (first
   | (go_at_call 28; (first | (with_reducible refine (L1.out _).mono ?_) | (with_reducible refine (L3.out _).mono ?_)); rintro e w2 ⟨rfl, hc2⟩; (try replace vv1 := vv1.below hc2); (try replace vv2 := vv2.below hc2); (try replace o1 := o1.below hc2); replace hs := boxT_keep hs hc2; replace HR := hid (HR.out.below hc2); replace Hc := hid (from_ Hc.out hc2))
   | (go_at_call 29; (first | (with_reducible refine (L2.out _).mono ?_) | (with_reducible refine (L4.out _).mono ?_)); rintro e w2 ⟨rfl, hc2⟩; (try replace vv1 := vv1.below hc2); (try replace vv2 := vv2.below hc2); (try replace o1 := o1.below hc2); replace hs := boxT_keep hs hc2; replace HR := hid (HR.out.below hc2); replace Hc := hid (from_ Hc.out hc2))
   | (go_at_call 27; with_reducible refine (PL1.out _ Hc.out).mono ?_; rintro e w2 ⟨D1, d1, rfl, vv1, hc2⟩; replace hs := boxT_keep hs hc2; replace HR := hid (HR.out.below hc2); replace Hc := hid (from_ Hc.out hc2))
   | (go_at_call 26; with_reducible refine (BD1.out _ _ _ _ vv1).mono ?_; rintro e w2 ⟨A1, c1, rfl, o1, hc2⟩; replace o1 := o1.mono (Y := new (gR + 1)) (new_le (Nat.succ_le_of_lt HR.out.lt)); replace hs := boxT_keep hs hc2; replace HR := hid (HR.out.below hc2); replace Hc := hid (from_ Hc.out hc2))
   | (go_at_call 27; with_reducible refine (PL2.out _ Hc.out).mono ?_; rintro e w2 ⟨D2, d2, rfl, vv2, hc2⟩; (try replace o1 := o1.below hc2); replace hs := boxT_keep hs hc2; replace HR := hid (HR.out.below hc2); replace Hc := hid (from_ Hc.out hc2))
   | (go_at_call 26; with_reducible refine (BD2.out _ _ _ _ vv2).mono ?_; rintro e w2 ⟨A2, c2, rfl, o2, hc2⟩; replace o2 := o2.mono (Y := new (gR + 1)) (new_le (Nat.succ_le_of_lt HR.out.lt)); (try replace o1 := o1.below hc2); replace hs := boxT_keep hs hc2; replace HR := hid (HR.out.below hc2); replace Hc := hid (from_ Hc.out hc2); have g0 := HR.out.cf)) | fail
 all_goals
  obtain ⟨HP, U1, U2⟩ := hid3 (HR.out.put Hc.out N3.out (.bool rn0) (.bool ys1) (.slice A1 yl1.length c1) (.bool rn1) (.bool ys2) (.slice A2 yl2.length c2)) ((o1.set6 (g := gR) (fun (h : gR + 1 ≤ gR) => by omega) (.bool rn0) (.bool ys1) (.slice A1 yl1.length c1) (.bool rn1) (.bool ys2) (.slice A2 yl2.length c2)).mono (new_le (show w.heap.size ≤ gR + 1 from Nat.le_succ_of_le N3.out))) ((o2.set6 (g := gR) (fun (h : gR + 1 ≤ gR) => by omega) (.bool rn0) (.bool ys1) (.slice A1 yl1.length c1) (.bool rn1) (.bool ys2) (.slice A2 yl2.length c2)).mono (new_le (show w.heap.size ≤ gR + 1 from Nat.le_succ_of_le N3.out)))
  clear o1 o2
  go_wp2
  refine bodyPost_ret (res_itv2 rfl _ gR rfl HP.out.box) rfl ?_
  exact ⟨_, _, _, _, rfl, U1.out, U2.out, HP.out.bel⟩
theorem box6_keep (hs : C6 W g a0 a1 a2 a3 a4 a5) (hb : Below W.heap.size W W') :
  C6 W' g a0 a1 a2 a3 a4 a5 := by
 obtain ⟨h0, h1, h2, h3, h4, h5⟩ := hs
 exact ⟨keepC hb h0, keepC hb h1, keepC hb h2, keepC hb h3, keepC hb h4, keepC hb h5⟩
theorem box6_st6 {r : Nat} {x0 x1 x2 x3 x4 x5 : Value} (hg : r ≠ g)
  (hs : C6 W g a0 a1 a2 a3 a4 a5) :
  let V := ((((((W.setCell ⟨r, 0, none⟩ x0).setCell ⟨r, 1, none⟩ x1).setCell ⟨r, 2, none⟩ x2).setCell ⟨r, 3, none⟩ x3).setCell ⟨r, 4, none⟩ x4).setCell ⟨r, 5, none⟩ x5)
  C6 V g a0 a1 a2 a3 a4 a5 := by
 obtain ⟨h0, h1, h2, h3, h4, h5⟩ := hs
 exact ⟨st6 h0 hg, st6 h1 hg, st6 h2 hg, st6 h3 hg, st6 h4 hg, st6 h5 hg⟩
theorem ext_over (hx : Ext bigZ (wN N) x) : Ext bigZ (wN N) (overE bigZ x y) := by
 have h3 := wN_pos N
 unfold overE
 split
 · exact .inr (.inr (by omega))
 · split
   · split
     · exact .inl rfl
     · exact .inr (.inl rfl)
   · exact .inr (.inr (tdiv_bd (by unfold Ext at hx; omega)))
theorem ext_down (hx : Ext bigZ (wN N) x) (hy : 0 < y) : Ext bigZ (wN N) (downE bigZ x y) := by
 unfold downE
 split
 · exact hx
 · exact .inr (.inr (fdiv_bd (by unfold Ext at hx; omega) hy))
def divLo (x y z t : Int) : Int := lo4 (overE bigZ x z) (overE bigZ x t) (overE bigZ y z) (overE bigZ y t)
def divHi (x y z t : Int) : Int := hi4 (overE bigZ x z) (overE bigZ x t) (overE bigZ y z) (overE bigZ y t)
theorem over_lt (hx : Ext bigZ (wN N) x) (hN : N ≤ 60) (hy : y ≠ 0) (h : x < bigZ ∧ 0 < y ∨ -bigZ < x ∧ y < 0) : overE bigZ x y < bigZ := by
 have h3 := bigZ_pos
 have h4 := wN_le (show N ≤ 64 by omega)
 unfold overE
 split
 · omega
 · split
   · rw [if_neg (by omega)]; omega
   · have := tdiv_bd (x := x) (y := y) (M := wN N) (by unfold Ext at hx; omega)
     omega
theorem over_gt (hx : Ext bigZ (wN N) x) (hN : N ≤ 60) (hy : y ≠ 0) (h : x < bigZ ∧ y < 0 ∨ -bigZ < x ∧ 0 < y) : -bigZ < overE bigZ x y := by
 have h3 := bigZ_pos
 have h4 := wN_le (show N ≤ 64 by omega)
 unfold overE
 split
 · omega
 · split
   · rw [if_pos (by omega)]; omega
   · have := tdiv_bd (x := x) (y := y) (M := wN N) (by unfold Ext at hx; omega)
     omega
theorem ivn_over {t : Int} (h : IvN N x y) (g : IvN M z t) (h0 : 0 < z ∨ t < 0) (hN : N ≤ 60) : IvN N (divLo x y z t) (divHi x y z t) := by
 obtain ⟨a1, a2, a3, a4, a5⟩ := h
 have b3 := g.le
 refine ⟨?_, ?_, ?_, ?_, ?_⟩
 · exact ext_min (ext_min (ext_over a1) (ext_over a1)) (ext_min (ext_over a2) (ext_over a2))
 · exact ext_max (ext_max (ext_over a1) (ext_over a1)) (ext_max (ext_over a2) (ext_over a2))
 · unfold divLo divHi lo4 hi4; omega
 · unfold divLo lo4
   rcases h0 with h0 | h0
   · have := over_lt (y := z) a1 hN (by omega) (.inl ⟨a4, h0⟩)
     omega
   · have := over_lt (y := t) a2 hN (by omega) (.inr ⟨a5, h0⟩)
     omega
 · unfold divHi hi4
   rcases h0 with h0 | h0
   · have := over_gt (y := z) a2 hN (by omega) (.inr ⟨a5, h0⟩)
     omega
   · have := over_gt (y := t) a1 hN (by omega) (.inl ⟨a4, h0⟩)
     omega
def partsP (P : Int × Int) : List (Int × Int) := (if P.1 ≤ -1 then [(P.1, min P.2 (-1))] else []) ++ (if 1 ≤ P.2 then [(max P.1 1, P.2)] else [])
theorem parts_ok {P : Int × Int} (h : IvN N P.1 P.2) (hN : 1 ≤ N) : ∀ Q ∈ partsP P, IvN N Q.1 Q.2 ∧ (0 < Q.1 ∨ Q.2 < 0) := fun Q hQ => by
 obtain ⟨a1, a2, a3, a4, a5⟩ := h
 have h3 := bigZ_pos
 have h4 : (1 : Int) < wN N := by
  have := wN_mono hN
  have e : wN 1 = 18446744073709551616 := rfl
  omega
 have h5 : (1 : Int) < bigZ := by
  have := wN_le (show 1 ≤ 64 by omega)
  have e : wN 1 = 18446744073709551616 := rfl
  omega
 have c1 : Ext bigZ (wN N) (-1) := .inr (.inr (by omega))
 have c2 : Ext bigZ (wN N) 1 := .inr (.inr (by omega))
 unfold partsP at hQ
 rw [List.mem_append] at hQ
 rcases hQ with hQ | hQ
 · split at hQ
   · rw [List.mem_singleton] at hQ
     subst hQ
     exact ⟨⟨a1, ext_min a2 c1, by dsimp only; omega, by dsimp only; omega, by dsimp only; omega⟩, .inr (by dsimp only; omega)⟩
   · cases hQ
 · split at hQ
   · rw [List.mem_singleton] at hQ
     subst hQ
     exact ⟨⟨ext_max a1 c2, a2, by dsimp only; omega, by dsimp only; omega, by dsimp only; omega⟩, .inl (by dsimp only; omega)⟩
   · cases hQ
theorem parts_nil {P : Int × Int} (h : P.1 ≤ P.2) : partsP P = [] ↔ P.1 = 0 ∧ P.2 = 0 := by
 unfold partsP
 by_cases h1 : P.1 ≤ -1 <;> by_cases h2 : 1 ≤ P.2 <;> simp [h1, h2] <;> omega
theorem parts_has {P : Int × Int} {b : Int} (h0 : b ≠ 0) (h1 : P.1 ≤ b) (h2 : b ≤ P.2) : ∃ Q ∈ partsP P, Q.1 ≤ b ∧ b ≤ Q.2 := by
 by_cases h : b ≤ -1
 · refine ⟨(P.1, min P.2 (-1)), ?_, by dsimp only; omega, by dsimp only; omega⟩
   unfold partsP
   rw [if_pos (by omega)]
   simp
 · refine ⟨(max P.1 1, P.2), ?_, by dsimp only; omega, by dsimp only; omega⟩
   unfold partsP
   rw [if_pos (show 1 ≤ P.2 by omega)]
   simp
def ivJ (p q : Int × Int) : Int × Int := (min p.1 q.1, max p.2 q.2)
theorem ivJ_ok {p q : Int × Int} (h : IvN N p.1 p.2) (g : IvN N q.1 q.2) : IvN N (ivJ p q).1 (ivJ p q).2 := by
 obtain ⟨a1, a2, a3, a4, a5⟩ := h
 obtain ⟨b1, b2, b3, b4, b5⟩ := g
 exact ⟨ext_min a1 b1, ext_max a2 b2, by dsimp only [ivJ]; omega, by dsimp only [ivJ]; omega, by dsimp only [ivJ]; omega⟩
def ivD1 (A Q : Int × Int) : Int × Int := (divLo A.1 A.2 Q.1 Q.2, divHi A.1 A.2 Q.1 Q.2)
def ivD (A B : Int × Int) : Int × Int := match partsP B with
 | [] => (0, 0)
 | Q :: t => t.foldl (fun o q => ivJ o (ivD1 A q)) (ivD1 A Q)
theorem iDiv_bad 
  (u1 : U64s w Z1 A a l0) (u2 : U64s w Z2 B b l1) (u3 : U64s w Z3 C c k0) (u4 : U64s w Z4 D d k1) (hbad : okA n0 s0 l0 n1 s1 l1 = true → okA m0 t0 k0 m1 t1 k1 = true → False)
  (q1 : l0.length ≤ 60) (q2 : l1.length ≤ 60) (q3 : k0.length ≤ 60) (q4 : k1.length ≤ 60) :
  Calls Tryz.prog 10 #[.agg #[.bool n0, .bool s0, .slice A l0.length a, .bool n1, .bool s1, .slice B l1.length b], .agg #[.bool m0, .bool t0, .slice C k0.length c, .bool m1, .bool t1, .slice D k1.length d]] w fun e w' => e = .returned (.tuple #[.agg #[.bool false, .bool false, .slice none 0 0, .bool false, .bool false, .slice none 0 0], .int .i64 8]) ∧ Below w.heap.size w w' := by
 obtain ⟨bA, bB, bR, hB0⟩ := boxX w (.bool n0) (.bool s0) (.slice A l0.length a) (.bool n1) (.bool s1) (.slice B l1.length b) (.bool m0) (.bool t0) (.slice C k0.length c) (.bool m1) (.bool t1) (.slice D k1.length d) (.bool false) (.bool false) (.slice none 0 0) (.bool false) (.bool false) (.slice none 0 0) 29
 have hb1 := hB0.alloc hB0.size (.cells #[.bool n0, .bool s0, .slice A l0.length a, .bool n1, .bool s1, .slice B l1.length b, .bool m0, .bool t0, .slice C k0.length c, .bool m1, .bool t1, .slice D k1.length d] 29)
 have hg := given_twoA (p := ⟨n0, s0, l0, n1, s1, l1⟩) (q := ⟨m0, t0, k0, m1, t1, k1⟩) (ty := 29) (u1.below hB0) (u2.below hB0) (u3.below hB0) (u4.below hB0)
 rw [show (((w.alloc (.cells #[.bool n0, .bool s0, .slice A l0.length a, .bool n1, .bool s1, .slice B l1.length b] 29)).alloc (.cells #[.bool m0, .bool t0, .slice C k0.length c, .bool m1, .bool t1, .slice D k1.length d] 29)).alloc (.cells #[.bool false, .bool false, .slice none 0 0, .bool false, .bool false, .slice none 0 0] 29)).heap.size = w.heap.size + 3 by simp] at hg
 have hck := ichecked_any (n := 2) (c := 2) hg rfl (by simp) (by intro p hp; simp only [List.mem_cons, List.not_mem_nil, or_false] at hp; rcases hp with rfl | rfl <;> exact ⟨by dsimp only; omega, by dsimp only; omega⟩)
 rw [errAs_two, if_neg (fun h => hbad h.1 h.2)] at hck
 obtain ⟨HA, HBb, HR, Hck, Hb1⟩ := hid5 (bA.alloc (.cells #[.bool n0, .bool s0, .slice A l0.length a, .bool n1, .bool s1, .slice B l1.length b, .bool m0, .bool t0, .slice C k0.length c, .bool m1, .bool t1, .slice D k1.length d] 29)) (bB.alloc (.cells #[.bool n0, .bool s0, .slice A l0.length a, .bool n1, .bool s1, .slice B l1.length b, .bool m0, .bool t0, .slice C k0.length c, .bool m1, .bool t1, .slice D k1.length d] 29)) (bR.alloc (.cells #[.bool n0, .bool s0, .slice A l0.length a, .bool n1, .bool s1, .slice B l1.length b, .bool m0, .bool t0, .slice C k0.length c, .bool m1, .bool t1, .slice D k1.length d] 29)) hck hb1
 have a0 := bA.all
 have b0 := bB.all
 clear hck hb1 hg u1 u2 u3 u4 q1 q2 q3 q4 hbad bR hB0
 go_enter Tryz.func10, Tryz.ntmps10
 go_wp2_with fail
 refine Hck.out.mono ?_
 rintro e w1 ⟨rfl, hc⟩
 have R1 := HR.out.below hc
 obtain ⟨HP, HE⟩ := hid2 R1 (from_ Hb1.out hc)
 have g0 := R1.cf
 clear hc a0 b0
 go_wp2
 refine bodyPost_ret (res_itv2 rfl _ (w.heap.size + 2) rfl HP.out) rfl ?_
 exact ⟨rfl, HE.out⟩
theorem iall_bad (hF : F = 6 ∨ F = 8 ∨ F = 12) 
  (u1 : U64s w Z1 A a l0) (u2 : U64s w Z2 B b l1) (u3 : U64s w Z3 C c k0) (u4 : U64s w Z4 D d k1) (hbad : okA n0 s0 l0 n1 s1 l1 = true → okA m0 t0 k0 m1 t1 k1 = true → False)
  (q1 : l0.length ≤ 60) (q2 : l1.length ≤ 60) (q3 : k0.length ≤ 60) (q4 : k1.length ≤ 60) :
  Calls Tryz.prog F #[.agg #[.bool n0, .bool s0, .slice A l0.length a, .bool n1, .bool s1, .slice B l1.length b], .agg #[.bool m0, .bool t0, .slice C k0.length c, .bool m1, .bool t1, .slice D k1.length d]] w fun e w' => e = .returned (.tuple #[.agg #[.bool false, .bool false, .slice none 0 0, .bool false, .bool false, .slice none 0 0], .int .i64 8]) ∧ Below w.heap.size w w' := by
 obtain ⟨bA, bB, bR, hB0⟩ := boxX w (.bool n0) (.bool s0) (.slice A l0.length a) (.bool n1) (.bool s1) (.slice B l1.length b) (.bool m0) (.bool t0) (.slice C k0.length c) (.bool m1) (.bool t1) (.slice D k1.length d) (.bool false) (.bool false) (.slice none 0 0) (.bool false) (.bool false) (.slice none 0 0) 29
 have hb1 := hB0.alloc hB0.size (.cells #[.bool n0, .bool s0, .slice A l0.length a, .bool n1, .bool s1, .slice B l1.length b, .bool m0, .bool t0, .slice C k0.length c, .bool m1, .bool t1, .slice D k1.length d] 29)
 have hg := given_twoA (p := ⟨n0, s0, l0, n1, s1, l1⟩) (q := ⟨m0, t0, k0, m1, t1, k1⟩) (ty := 29) (u1.below hB0) (u2.below hB0) (u3.below hB0) (u4.below hB0)
 rw [show (((w.alloc (.cells #[.bool n0, .bool s0, .slice A l0.length a, .bool n1, .bool s1, .slice B l1.length b] 29)).alloc (.cells #[.bool m0, .bool t0, .slice C k0.length c, .bool m1, .bool t1, .slice D k1.length d] 29)).alloc (.cells #[.bool false, .bool false, .slice none 0 0, .bool false, .bool false, .slice none 0 0] 29)).heap.size = w.heap.size + 3 by simp] at hg
 have hck := ichecked_any (n := 2) (c := 2) hg rfl (by simp) (by intro p hp; simp only [List.mem_cons, List.not_mem_nil, or_false] at hp; rcases hp with rfl | rfl <;> exact ⟨by dsimp only; omega, by dsimp only; omega⟩)
 rw [errAs_two, if_neg (fun h => hbad h.1 h.2)] at hck
 obtain ⟨HA, HBb, HR, Hck, Hb1⟩ := hid5 (bA.alloc (.cells #[.bool n0, .bool s0, .slice A l0.length a, .bool n1, .bool s1, .slice B l1.length b, .bool m0, .bool t0, .slice C k0.length c, .bool m1, .bool t1, .slice D k1.length d] 29)) (bB.alloc (.cells #[.bool n0, .bool s0, .slice A l0.length a, .bool n1, .bool s1, .slice B l1.length b, .bool m0, .bool t0, .slice C k0.length c, .bool m1, .bool t1, .slice D k1.length d] 29)) (bR.alloc (.cells #[.bool n0, .bool s0, .slice A l0.length a, .bool n1, .bool s1, .slice B l1.length b, .bool m0, .bool t0, .slice C k0.length c, .bool m1, .bool t1, .slice D k1.length d] 29)) hck hb1
 have a0 := bA.all
 have b0 := bB.all
 clear hck hb1 hg u1 u2 u3 u4 q1 q2 q3 q4 hbad bR hB0
 rcases hF with rfl | rfl | rfl
 all_goals
  (first | (go_enter Tryz.func6, Tryz.ntmps6) | (go_enter Tryz.func8, Tryz.ntmps8) | (go_enter Tryz.func12, Tryz.ntmps12))
  go_wp2_with fail
  refine Hck.out.mono ?_
  rintro e w1 ⟨rfl, hc⟩
  have R1 := HR.out.below hc
  have HP := hid (R1.put (from_ Hb1.out hc) (by omega) (.bool false) (.bool false) (.slice none 0 0) (.bool false) (.bool false) (.slice none 0 0))
  have g0 := R1.cf
  clear hc a0 b0
  go_wp2
  refine bodyPost_ret (res_itv2 rfl _ (w.heap.size + 2) rfl HP.out.box) rfl ?_
  exact ⟨rfl, HP.out.bel⟩
theorem iSh_bad {o : Value} 
  (u1 : U64s w Z1 A a l0) (u2 : U64s w Z2 B b l1) (u3 : U64s w Z3 C c k0) (u4 : U64s w Z4 D d k1) (hbad : okA n0 s0 l0 n1 s1 l1 = true → okA m0 t0 k0 m1 t1 k1 = true → False)
  (q1 : l0.length ≤ 60) (q2 : l1.length ≤ 60) (q3 : k0.length ≤ 60) (q4 : k1.length ≤ 60) :
  Calls Tryz.prog 46 #[.agg #[.bool n0, .bool s0, .slice A l0.length a, .bool n1, .bool s1, .slice B l1.length b], .agg #[.bool m0, .bool t0, .slice C k0.length c, .bool m1, .bool t1, .slice D k1.length d], o] w fun e w' => e = .returned (.tuple #[.agg #[.bool false, .bool false, .slice none 0 0, .bool false, .bool false, .slice none 0 0], .int .i64 8]) ∧ Below w.heap.size w w' := by
 obtain ⟨bA, bB, bR, hB0⟩ := boxX w (.bool n0) (.bool s0) (.slice A l0.length a) (.bool n1) (.bool s1) (.slice B l1.length b) (.bool m0) (.bool t0) (.slice C k0.length c) (.bool m1) (.bool t1) (.slice D k1.length d) (.bool false) (.bool false) (.slice none 0 0) (.bool false) (.bool false) (.slice none 0 0) 29
 have hb1 := hB0.alloc hB0.size (.cells #[.bool n0, .bool s0, .slice A l0.length a, .bool n1, .bool s1, .slice B l1.length b, .bool m0, .bool t0, .slice C k0.length c, .bool m1, .bool t1, .slice D k1.length d] 29)
 have hg := given_twoA (p := ⟨n0, s0, l0, n1, s1, l1⟩) (q := ⟨m0, t0, k0, m1, t1, k1⟩) (ty := 29) (u1.below hB0) (u2.below hB0) (u3.below hB0) (u4.below hB0)
 rw [show (((w.alloc (.cells #[.bool n0, .bool s0, .slice A l0.length a, .bool n1, .bool s1, .slice B l1.length b] 29)).alloc (.cells #[.bool m0, .bool t0, .slice C k0.length c, .bool m1, .bool t1, .slice D k1.length d] 29)).alloc (.cells #[.bool false, .bool false, .slice none 0 0, .bool false, .bool false, .slice none 0 0] 29)).heap.size = w.heap.size + 3 by simp] at hg
 have hck := ichecked_any (n := 2) (c := 2) hg rfl (by simp) (by intro p hp; simp only [List.mem_cons, List.not_mem_nil, or_false] at hp; rcases hp with rfl | rfl <;> exact ⟨by dsimp only; omega, by dsimp only; omega⟩)
 rw [errAs_two, if_neg (fun h => hbad h.1 h.2)] at hck
 obtain ⟨HA, HBb, HR, Hck, Hb1⟩ := hid5 (bA.alloc (.cells #[.bool n0, .bool s0, .slice A l0.length a, .bool n1, .bool s1, .slice B l1.length b, .bool m0, .bool t0, .slice C k0.length c, .bool m1, .bool t1, .slice D k1.length d] 29)) (bB.alloc (.cells #[.bool n0, .bool s0, .slice A l0.length a, .bool n1, .bool s1, .slice B l1.length b, .bool m0, .bool t0, .slice C k0.length c, .bool m1, .bool t1, .slice D k1.length d] 29)) (bR.alloc (.cells #[.bool n0, .bool s0, .slice A l0.length a, .bool n1, .bool s1, .slice B l1.length b, .bool m0, .bool t0, .slice C k0.length c, .bool m1, .bool t1, .slice D k1.length d] 29)) hck hb1
 have a0 := bA.all
 have b0 := bB.all
 clear hck hb1 hg u1 u2 u3 u4 q1 q2 q3 q4 hbad bR hB0
 go_enter Tryz.func46, Tryz.ntmps46
 go_wp2_with fail
 refine Hck.out.mono ?_
 rintro e w1 ⟨rfl, hc⟩
 have R1 := HR.out.below hc
 have HP := hid (R1.put (from_ Hb1.out hc) (by omega) (.bool false) (.bool false) (.slice none 0 0) (.bool false) (.bool false) (.slice none 0 0))
 have g0 := R1.cf
 clear hc a0 b0
 go_wp2
 refine bodyPost_ret (res_itv2 rfl _ (w.heap.size + 2) rfl HP.out.box) rfl ?_
 exact ⟨rfl, HP.out.bel⟩
theorem iShs_bad (hF : F = 14 ∨ F = 16) 
  (u1 : U64s w Z1 A a l0) (u2 : U64s w Z2 B b l1) (u3 : U64s w Z3 C c k0) (u4 : U64s w Z4 D d k1) (hbad : okA n0 s0 l0 n1 s1 l1 = true → okA m0 t0 k0 m1 t1 k1 = true → False)
  (q1 : l0.length ≤ 60) (q2 : l1.length ≤ 60) (q3 : k0.length ≤ 60) (q4 : k1.length ≤ 60) :
  Calls Tryz.prog F #[.agg #[.bool n0, .bool s0, .slice A l0.length a, .bool n1, .bool s1, .slice B l1.length b], .agg #[.bool m0, .bool t0, .slice C k0.length c, .bool m1, .bool t1, .slice D k1.length d]] w fun e w' => e = .returned (.tuple #[.agg #[.bool false, .bool false, .slice none 0 0, .bool false, .bool false, .slice none 0 0], .int .i64 8]) ∧ Below w.heap.size w w' := by
 obtain ⟨bA, bB, bR, hB0⟩ := boxX w (.bool n0) (.bool s0) (.slice A l0.length a) (.bool n1) (.bool s1) (.slice B l1.length b) (.bool m0) (.bool t0) (.slice C k0.length c) (.bool m1) (.bool t1) (.slice D k1.length d) (.bool false) (.bool false) (.slice none 0 0) (.bool false) (.bool false) (.slice none 0 0) 29
 obtain ⟨J, HR, HB⟩ := hid3 (fun (o : Value) => iSh_bad (o := o) (u1.below hB0) (u2.below hB0) (u3.below hB0) (u4.below hB0) hbad q1 q2 q3 q4) bR hB0
 have a0 := bA.all
 have b0 := bB.all
 clear bR hB0 u1 u2 u3 u4 hbad q1 q2 q3 q4
 rcases hF with rfl | rfl
 all_goals
  (first | (go_enter Tryz.func14, Tryz.ntmps14) | (go_enter Tryz.func16, Tryz.ntmps16))
  go_wp2_with fail
  refine (J.out _).mono ?_
  rintro e w1 ⟨rfl, hc⟩
  have R := HR.out.below hc
  have HP := hid (R.put (w := w) (from_ HB.out hc) (show w.heap.size ≤ w.heap.size + 2 by omega) (.bool false) (.bool false) (.slice none 0 0) (.bool false) (.bool false) (.slice none 0 0))
  have g0 := R.cf
  clear hc a0 b0
  go_wp2
  refine bodyPost_ret (res_itv2 rfl _ (w.heap.size + 2) rfl HP.out.box) rfl ?_
  exact ⟨by first | rfl | trivial, HP.out.bel⟩
abbrev IvP := Int × Int
variable {P Q : IvP}
def ivA (p q : IvP) : IvP := (plusE bigZ p.1 q.1, plusE bigZ p.2 q.2)
def ivM (p q : IvP) : IvP := (mulLo p.1 p.2 q.1 q.2, mulHi p.1 p.2 q.1 q.2)
def ivNg (p : IvP) : IvP := (-p.2, -p.1)
def inI (a : Int) (p : IvP) : Prop := p.1 ≤ a ∧ a ≤ p.2
theorem ivA_ok {p q : IvP} (h : IvN N p.1 p.2) (g : IvN N q.1 q.2) (hN : N ≤ 60) : IvN (N + 1) (ivA p q).1 (ivA p q).2 := ivn_plus h g hN
theorem ivM_ok {p q : IvP} (h : IvN N p.1 p.2) (g : IvN M q.1 q.2) (hN : N + M ≤ 64) : IvN (N + M) (ivM p q).1 (ivM p q).2 := ivn_times h g hN
theorem ivNg_ok {p : IvP} (h : IvN N p.1 p.2) : IvN N (ivNg p).1 (ivNg p).2 := ivn_neg h
def IvW (P : IvP) (q : Iv) : Prop := EndL P.1 q.n0 q.s0 q.l0 ∧ EndH P.2 q.n1 q.s1 q.l1
theorem IvW.mk (P : IvP) : IvW P (ivOf P.1 P.2) := ⟨⟨rfl, rfl, rfl⟩, rfl, rfl, rfl⟩
theorem IvW.uniq (h : IvW P p) (g : IvW P q) : p = q := by
 obtain ⟨⟨a1, a2, a3⟩, a4, a5, a6⟩ := h
 obtain ⟨⟨b1, b2, b3⟩, b4, b5, b6⟩ := g
 cases p
 cases q
 simp only at *
 subst a1 a2 a3 a4 a5 a6 b1 b2 b3 b4 b5 b6
 rfl
theorem lo_e (h : -bigZ ≤ x ∧ x < bigZ) : loV (nLo x) (sE x) (lE x) = x ∧ okE (nLo x) (sE x) (lE x) = true := by
 have h0 := bigZ_pos
 by_cases hx : x = -bigZ
 · have e1 : nLo x = true := decide_eq_true hx
   have e2 : sE x = false := decide_eq_false (by omega)
   have e3 : lE x = [] := by unfold lE; rw [if_neg (by omega)]
   rw [e1, e2, e3]
   exact ⟨hx.symm, rfl⟩
 · have e1 : nLo x = false := decide_eq_false hx
   have e2 := nm_e (n := x) ⟨by omega, h.2⟩
   rw [e1, e2.1, e2.2]
   exact ⟨zof_z x, IsZ.ok x⟩
theorem hi_e (h : -bigZ < x ∧ x ≤ bigZ) : hiV (nHi x) (sE x) (lE x) = x ∧ okE (nHi x) (sE x) (lE x) = true := by
 have h0 := bigZ_pos
 by_cases hx : x = bigZ
 · have e1 : nHi x = true := decide_eq_true hx
   have e2 : sE x = false := decide_eq_false (by omega)
   have e3 : lE x = [] := by unfold lE; rw [if_neg (by omega)]
   rw [e1, e2, e3]
   exact ⟨hx.symm, rfl⟩
 · have e1 : nHi x = false := decide_eq_false hx
   have e2 := nm_e (n := x) ⟨h.1, by omega⟩
   rw [e1, e2.1, e2.2]
   exact ⟨zof_z x, IsZ.ok x⟩
structure IvK (N : Nat) (P : IvP) (p : Iv) : Prop where
 ok : okA p.n0 p.s0 p.l0 p.n1 p.s1 p.l1 = true
 lo : loV p.n0 p.s0 p.l0 = P.1
 hi : hiV p.n1 p.s1 p.l1 = P.2
 q0 : p.l0.length ≤ N
 q1 : p.l1.length ≤ N
theorem IvW.k (h : IvW P p) (g : IvN N P.1 P.2) (hN : N ≤ 64) : IvK N P p := by
 obtain ⟨⟨a1, a2, a3⟩, a4, a5, a6⟩ := h
 have r1 := g.lo.range hN
 have r2 := g.hi.range hN
 have e1 := lo_e ⟨r1.1, g.nlo⟩
 have e2 := hi_e ⟨g.nhi, r2.2⟩
 rw [← a1, ← a2, ← a3] at e1
 rw [← a4, ← a5, ← a6] at e2
 have p1 : Pl P.1 (bE P.1) p.s0 p.l0 := by rw [a2, a3]; exact Pl.all r1
 have p2 : Pl P.2 (bE P.2) p.s1 p.l1 := by rw [a5, a6]; exact Pl.all r2
 refine ⟨?_, e1.1, e2.1, p1.len_of g.lo, p2.len_of g.hi⟩
 unfold okA
 rw [e1.2, e2.2]
 have h1 := e1.1
 have h2 := e2.1
 have h3 := g.le
 unfold loV at h1
 unfold hiV at h2
 cases hn0 : p.n0
 · cases hn1 : p.n1
   · rw [hn0] at h1
     rw [hn1] at h2
     have : zof p.s0 p.l0 ≤ zof p.s1 p.l1 := by
      have h1' : zof p.s0 p.l0 = P.1 := h1
      have h2' : zof p.s1 p.l1 = P.2 := h2
      omega
     simp [this]
   · rfl
 · rfl
theorem imul_w {r : Iv} (hp : IvW P p) (hq : IvW Q q) (hr : IvW (ivM P Q) r) (gp : IvN N P.1 P.2) (gq : IvN M Q.1 Q.2) (hN : N ≤ 32) (hM : M ≤ 32) (u1 : U64s w Z1 A a p.l0) (u2 : U64s w Z2 B b p.l1) (u3 : U64s w Z3 C c q.l0) (u4 : U64s w Z4 D d q.l1) :
  Calls Tryz.prog 8 #[.agg #[.bool p.n0, .bool p.s0, .slice A p.l0.length a, .bool p.n1, .bool p.s1, .slice B p.l1.length b], .agg #[.bool q.n0, .bool q.s0, .slice C q.l0.length c, .bool q.n1, .bool q.s1, .slice D q.l1.length d]] w fun e w' => ∃ rA ra rB rb, e = .returned (.tuple #[.agg #[.bool r.n0, .bool r.s0, .slice rA r.l0.length ra, .bool r.n1, .bool r.s1, .slice rB r.l1.length rb], .int .i64 0]) ∧ U64s w' (new w.heap.size) rA ra r.l0 ∧ U64s w' (new w.heap.size) rB rb r.l1 ∧ Below w.heap.size w w' := by
 have kp := hp.k gp (by omega)
 have kq := hq.k gq (by omega)
 have g := ivM_ok gp gq (by omega)
 exact iMul_good u1 u2 u3 u4 kp.ok kq.ok (Nat.le_trans kp.q0 hN) (Nat.le_trans kp.q1 hN) (Nat.le_trans kq.q0 hM) (Nat.le_trans kq.q1 hM) (by rw [kp.lo, kp.hi, kq.lo, kq.hi]; rfl) (by rw [kp.lo, kp.hi, kq.lo, kq.hi]; rfl) g.nlo g.nhi hr.1 hr.2
theorem iadd_w {r : Iv} (hp : IvW P p) (hq : IvW Q q) (hr : IvW (ivA P Q) r) (gp : IvN N P.1 P.2) (gq : IvN N Q.1 Q.2) (hN : N ≤ 59) (u1 : U64s w Z1 A a p.l0) (u2 : U64s w Z2 B b p.l1) (u3 : U64s w Z3 C c q.l0) (u4 : U64s w Z4 D d q.l1) :
  Calls Tryz.prog 6 #[.agg #[.bool p.n0, .bool p.s0, .slice A p.l0.length a, .bool p.n1, .bool p.s1, .slice B p.l1.length b], .agg #[.bool q.n0, .bool q.s0, .slice C q.l0.length c, .bool q.n1, .bool q.s1, .slice D q.l1.length d]] w fun e w' => ∃ rA ra rB rb, e = .returned (.tuple #[.agg #[.bool r.n0, .bool r.s0, .slice rA r.l0.length ra, .bool r.n1, .bool r.s1, .slice rB r.l1.length rb], .int .i64 0]) ∧ U64s w' (new w.heap.size) rA ra r.l0 ∧ U64s w' (new w.heap.size) rB rb r.l1 ∧ Below w.heap.size w w' := by
 have kp := hp.k gp (by omega)
 have kq := hq.k gq (by omega)
 have g := ivA_ok gp gq (by omega)
 exact iAdd_good u1 u2 u3 u4 kp.ok kq.ok (by have := kp.q0; omega) (by have := kp.q1; omega) (by have := kq.q0; omega) (by have := kq.q1; omega) (by rw [kp.lo, kq.lo]; rfl) (by rw [kp.hi, kq.hi]; rfl) g.nlo g.nhi hr.1 hr.2
theorem six_keep (h : W.cell? ⟨b, o, none⟩ = some a0 ∧ W.cell? ⟨b, o + 1, none⟩ = some a1 ∧ W.cell? ⟨b, o + 2, none⟩ = some a2 ∧ W.cell? ⟨b, o + 3, none⟩ = some a3 ∧ W.cell? ⟨b, o + 4, none⟩ = some a4 ∧ W.cell? ⟨b, o + 5, none⟩ = some a5) (hb : Below W.heap.size W W') : W'.cell? ⟨b, o, none⟩ = some a0 ∧ W'.cell? ⟨b, o + 1, none⟩ = some a1 ∧ W'.cell? ⟨b, o + 2, none⟩ = some a2 ∧ W'.cell? ⟨b, o + 3, none⟩ = some a3 ∧ W'.cell? ⟨b, o + 4, none⟩ = some a4 ∧ W'.cell? ⟨b, o + 5, none⟩ = some a5 :=
 ⟨keepC hb h.1, keepC hb h.2.1, keepC hb h.2.2.1, keepC hb h.2.2.2.1, keepC hb h.2.2.2.2.1, keepC hb h.2.2.2.2.2⟩
theorem six_st6 {r : Nat} {x0 x1 x2 x3 x4 x5 : Value} (hn : r ≠ b) (h : W.cell? ⟨b, o, none⟩ = some a0 ∧ W.cell? ⟨b, o + 1, none⟩ = some a1 ∧ W.cell? ⟨b, o + 2, none⟩ = some a2 ∧ W.cell? ⟨b, o + 3, none⟩ = some a3 ∧ W.cell? ⟨b, o + 4, none⟩ = some a4 ∧ W.cell? ⟨b, o + 5, none⟩ = some a5) :
 let V := ((((((W.setCell ⟨r, 0, none⟩ x0).setCell ⟨r, 1, none⟩ x1).setCell ⟨r, 2, none⟩ x2).setCell ⟨r, 3, none⟩ x3).setCell ⟨r, 4, none⟩ x4).setCell ⟨r, 5, none⟩ x5)
 V.cell? ⟨b, o, none⟩ = some a0 ∧ V.cell? ⟨b, o + 1, none⟩ = some a1 ∧ V.cell? ⟨b, o + 2, none⟩ = some a2 ∧ V.cell? ⟨b, o + 3, none⟩ = some a3 ∧ V.cell? ⟨b, o + 4, none⟩ = some a4 ∧ V.cell? ⟨b, o + 5, none⟩ = some a5 := ⟨st6 h.1 hn, st6 h.2.1 hn, st6 h.2.2.1 hn, st6 h.2.2.2.1 hn, st6 h.2.2.2.2.1 hn, st6 h.2.2.2.2.2 hn⟩
theorem six_keep0 (h : C6 W b a0 a1 a2 a3 a4 a5) (hb : Below W.heap.size W W') : C6 W' b a0 a1 a2 a3 a4 a5 :=
 ⟨keepC hb h.1, keepC hb h.2.1, keepC hb h.2.2.1, keepC hb h.2.2.2.1, keepC hb h.2.2.2.2.1, keepC hb h.2.2.2.2.2⟩
theorem infoIv : (Tryz.prog.info? 29).map (fun i => (i.zero, i.size, i.bytes)) = some (some (.agg #[.bool false, .bool false, .slice none 0 0, .bool false, .bool false, .slice none 0 0]), 6, 80) := by kernel_rfl
theorem c2_keep {a b : Value} (hs : W.cell? ⟨g, i, none⟩ = some a ∧ W.cell? ⟨g, j, none⟩ = some b) (hb : Below W.heap.size W V) : V.cell? ⟨g, i, none⟩ = some a ∧ V.cell? ⟨g, j, none⟩ = some b := ⟨keepC hb hs.1, keepC hb hs.2⟩
theorem c2_al {a b : Value} {o : Obj} (e : V = W.alloc o) (hs : W.cell? ⟨g, i, none⟩ = some a ∧ W.cell? ⟨g, j, none⟩ = some b) : V.cell? ⟨g, i, none⟩ = some a ∧ V.cell? ⟨g, j, none⟩ = some b := by
 subst e
 exact c2_keep hs bal_
theorem c2_dr {a b : Value} (e : V = W.drew) (hs : W.cell? ⟨g, i, none⟩ = some a ∧ W.cell? ⟨g, j, none⟩ = some b) : V.cell? ⟨g, i, none⟩ = some a ∧ V.cell? ⟨g, j, none⟩ = some b := by
 subst e
 exact c2_keep hs bdr_
theorem c4_keep {k l : Nat} {a b c d : Value} (hs : (W.cell? ⟨g, i, none⟩ = some a ∧ W.cell? ⟨g, j, none⟩ = some b) ∧ W.cell? ⟨h, k, none⟩ = some c ∧ W.cell? ⟨h, l, none⟩ = some d) (hb : Below W.heap.size W V) : (V.cell? ⟨g, i, none⟩ = some a ∧ V.cell? ⟨g, j, none⟩ = some b) ∧ V.cell? ⟨h, k, none⟩ = some c ∧ V.cell? ⟨h, l, none⟩ = some d := ⟨c2_keep hs.1 hb, c2_keep hs.2 hb⟩
theorem c4_al {k l : Nat} {a b c d : Value} {o : Obj} (e : V = W.alloc o) (hs : (W.cell? ⟨g, i, none⟩ = some a ∧ W.cell? ⟨g, j, none⟩ = some b) ∧ W.cell? ⟨h, k, none⟩ = some c ∧ W.cell? ⟨h, l, none⟩ = some d) : (V.cell? ⟨g, i, none⟩ = some a ∧ V.cell? ⟨g, j, none⟩ = some b) ∧ V.cell? ⟨h, k, none⟩ = some c ∧ V.cell? ⟨h, l, none⟩ = some d := ⟨c2_al e hs.1, c2_al e hs.2⟩
theorem c4_dr {k l : Nat} {a b c d : Value} (e : V = W.drew) (hs : (W.cell? ⟨g, i, none⟩ = some a ∧ W.cell? ⟨g, j, none⟩ = some b) ∧ W.cell? ⟨h, k, none⟩ = some c ∧ W.cell? ⟨h, l, none⟩ = some d) : (V.cell? ⟨g, i, none⟩ = some a ∧ V.cell? ⟨g, j, none⟩ = some b) ∧ V.cell? ⟨h, k, none⟩ = some c ∧ V.cell? ⟨h, l, none⟩ = some d := ⟨c2_dr e hs.1, c2_dr e hs.2⟩
theorem wfloor_m {k : List Nat} (h1 : Nm x s l) (h2 : Nm y t k) (hy : y ≠ 0) (h3 : Nm (rq x y true) r m) (hl : l.length ≤ 10000000000) (u1 : U64s w Z1 A c l) (u2 : U64s w Z2 B d k) :
  Calls Tryz.prog 81 #[.agg #[.bool s, .slice A l.length c], .agg #[.bool t, .slice B k.length d]] w fun e w' => ∃ Av cv, e = .returned (.tuple #[.agg #[.bool r, .slice Av m.length cv], .int .i64 0]) ∧ U64s w' (new w.heap.size) Av cv m ∧ Below w.heap.size w w' := by
 refine (wfloor_z (h1.isZ u1) (h2.isZ u2) hy (by rw [← h1.len]; exact hl)).mono ?_
 rintro e w' ⟨v, rfl, hv, hb⟩
 obtain ⟨Av, cv, rfl, hu⟩ := h3.of hv
 exact ⟨Av, cv, rfl, hu, hb⟩
theorem same16_yes (u1 : U64s w Z1 A a p.l0) (u2 : U64s w Z2 B b p.l1) (u3 : U64s w Z3 C c p.l0) (u4 : U64s w Z4 D d p.l1) :
  Calls Tryz.prog 18 #[.agg #[.bool p.n0, .bool p.s0, .slice A p.l0.length a, .bool p.n1, .bool p.s1, .slice B p.l1.length b], .agg #[.bool p.n0, .bool p.s0, .slice C p.l0.length c, .bool p.n1, .bool p.s1, .slice D p.l1.length d]] w fun e w' => e = .returned (.bool true) ∧ Below w.heap.size w w' := by
 have h := r16same_any (n0 := p.n0) (s0 := p.s0) (n1 := p.n1) (s1 := p.s1) (m0 := p.n0) (t0 := p.s0) (m1 := p.n1) (t1 := p.s1) u1 u2 u3 u4
 rw [decide_eq_true (show (p.n0 = p.n0 ∧ p.s0 = p.s0 ∧ p.l0 = p.l0) ∧ p.n1 = p.n1 ∧ p.s1 = p.s1 ∧ p.l1 = p.l1 from ⟨⟨rfl, rfl, rfl⟩, rfl, rfl, rfl⟩)] at h
 exact h
def fmOf (Ps : List IvP) : List Iv := Ps.map fun P => ivOf P.1 P.2
theorem fmOf_len (Ps : List IvP) : (fmOf Ps).length = Ps.length := List.length_map _
theorem fmOf_get {Ps : List IvP} (h : j < (fmOf Ps).length) (h' : j < Ps.length) : (fmOf Ps)[j] = ivOf Ps[j].1 Ps[j].2 := List.getElem_map _
theorem U64s.anyz (h : U64s w Z A c []) : U64s w' Y A c [] := ⟨h.small, h.cap, h.max, h.nul, fun hp => absurd hp (by simp)⟩
theorem wceil_m {k : List Nat} (h1 : Nm x s l) (h2 : Nm y t k) (hy : y ≠ 0) (h3 : Nm (rq x y false) r m) (hl : l.length ≤ 10000000000) (u1 : U64s w Z1 A c l) (u2 : U64s w Z2 B d k) :
  Calls Tryz.prog 80 #[.agg #[.bool s, .slice A l.length c], .agg #[.bool t, .slice B k.length d]] w fun e w' => ∃ Av cv, e = .returned (.tuple #[.agg #[.bool r, .slice Av m.length cv], .int .i64 0]) ∧ U64s w' (new w.heap.size) Av cv m ∧ Below w.heap.size w w' := by
 refine (wceil_z (h1.isZ u1) (h2.isZ u2) hy (by rw [← h1.len]; exact hl)).mono ?_
 rintro e w' ⟨v, rfl, hv, hb⟩
 obtain ⟨Av, cv, rfl, hu⟩ := h3.of hv
 exact ⟨Av, cv, rfl, hu, hb⟩
theorem tq_tdiv (x y : Int) : tq x y = Int.tdiv x y := by
 unfold tq
 cases x with
 | ofNat m =>
   cases y with
   | ofNat n => rfl
   | negSucc n => rw [if_neg (by simp)]; simp [Int.tdiv, Int.natAbs]
 | negSucc m =>
   cases y with
   | ofNat n => rw [if_neg (by simp)]; simp [Int.tdiv, Int.natAbs]
   | negSucc n => rw [if_pos (by simp)]; simp [Int.tdiv, Int.natAbs]
theorem rq_tq {d : Bool} (h : (x = 0 ∨ (decide (x < 0) != decide (y < 0)) = !d)) : rq x y d = Int.tdiv x y := by
 rw [← tq_tdiv]
 unfold rq
 rcases h with rfl | h
 · rw [if_neg]
   simp [limbs_eq_nil.2]
 · rw [h, if_neg]
   cases d <;> simp
theorem rq_down (hy : 0 < y) : rq x y true = Int.fdiv x y := by
 rw [Int.fdiv_eq_ediv_of_nonneg _ (by omega)]
 have h0 : y.natAbs = y := by omega
 have key : 0 ≤ x - rq x y true * y ∧ x - rq x y true * y < y := by
  rcases rounds_plain (x := x) (y := y) (by omega) with ⟨_, h, _⟩ | ⟨_, h, _, _, h2⟩
  · omega
  · have : sgn y = 1 := by unfold sgn; rw [if_neg (by omega), if_neg (by omega)]
    rw [this] at h
    unfold sgn at h
    split at h
    · omega
    · split at h
      · omega
      · omega
 generalize rq x y true = q at key
 have h3 := (Int.ediv_emod_unique (a := x) (b := y) (q := q) (r := x - q * y) (by omega)).2 ⟨by rw [Int.mul_comm y q]; omega, key.1, key.2⟩
 exact h3.1.symm
theorem boxD_st3 {r : Nat} {b0 b1 b2 : Value} (e : V = (((W.setCell ⟨r, 0, none⟩ x0).setCell ⟨r, 1, none⟩ x1).setCell ⟨r, 2, none⟩ x2)) (hg : r ≠ g) (hh : r ≠ h)
  (hs : D3 W g a0 a1 a2 (C3 W h b0 b1 b2)) :
  D3 V g a0 a1 a2 (C3 V h b0 b1 b2) := by
 subst e
 exact ⟨st3 hs.1 hg, st3 hs.2.1 hg, st3 hs.2.2.1 hg, st3 hs.2.2.2.1 hh, st3 hs.2.2.2.2.1 hh, st3 hs.2.2.2.2.2 hh⟩
theorem iover_p {b d : Int} {k : List Nat} (h1 : Pl x b s l) (h2 : Pl y d t k) (h3 : Pl z e r m) (hz : overE bigZ x y = z) (hy0 : y ≠ 0) (hu : U64s w Z A c l) (hv : U64s w Y B f k) (hl : l.length ≤ 60) (hl2 : k.length ≤ 60) :
  Calls Tryz.prog 36 #[.agg #[.int .i64 b, .bool s, .slice A l.length c], .agg #[.int .i64 d, .bool t, .slice B k.length f]] w fun e' w' => ∃ A' c', e' = .returned (.agg #[.int .i64 e, .bool r, .slice A' m.length c']) ∧ U64s w' (new w.heap.size) A' c' m ∧ Below w.heap.size w w' := by
 have hbz := bigZ_pos
 have ex := h1.ext hl
 have ey := h2.ext hl2
 obtain ⟨bA, bB, bR, hB0⟩ := boxS w (.int .i64 b) (.bool s) (.slice A l.length c) (.int .i64 d) (.bool t) (.slice B k.length f) (.int .i64 0) (.bool false) (.slice none 0 0) 53
 obtain ⟨g, hg⟩ : ∃ g, sgn x = g := ⟨_, rfl⟩
 obtain ⟨h, hh⟩ : ∃ h, sgn y = h := ⟨_, rfl⟩
 obtain ⟨S1, S2⟩ := hid2 (fun (W : World) (q : Below w.heap.size w W) => isign_p h1 hg (hu.below q)) (fun (W : World) (q : Below w.heap.size w W) => isign_p h2 hh (hv.below q))
 have hg3 := sgn3 x
 have hh3 := sgn3 y
 rw [hg] at hg3
 rw [hh] at hh3
 obtain ⟨v, hv_⟩ : ∃ v, g * h = v := ⟨_, rfl⟩
 have hv3 : (v = 0 ∧ (x = 0 ∨ y = 0)) ∨ (v = 1 ∧ x ≠ 0 ∧ y ≠ 0 ∧ (0 < x ↔ 0 < y)) ∨ (v = -1 ∧ x ≠ 0 ∧ y ≠ 0 ∧ ¬ (0 < x ↔ 0 < y)) := by
  rw [← hv_]
  rcases hg3 with ⟨rfl, a⟩ | ⟨rfl, a⟩ | ⟨rfl, a⟩ <;> rcases hh3 with ⟨rfl, b⟩ | ⟨rfl, b⟩ | ⟨rfl, b⟩ <;> simp <;> omega
 obtain ⟨v2, hv2⟩ : ∃ u, (b != 0) = u := ⟨_, rfl⟩
 obtain ⟨v3, hv3'⟩ : ∃ u, (d != 0) = u := ⟨_, rfl⟩
 obtain ⟨v4, hv4⟩ : ∃ u, decide (v < 0) = u := ⟨_, rfl⟩
 have HD : (v3 = true ∧ e = 0 ∧ r = false ∧ m = []) ∨ (v3 = false ∧ v2 = true ∧ e = b * h ∧ r = false ∧ m = []) ∨ (v3 = false ∧ v2 = false ∧ e = 0 ∧ Nm x s l ∧ Nm y t k ∧ Nm (rq x y (!v4)) r m) := by
  by_cases hd : d = 0
  · obtain ⟨n2, r2⟩ : Nm y t k ∧ (-bigZ < y ∧ y < bigZ) := by rcases h2 with ⟨_, n, q⟩ | ⟨q, _⟩ | ⟨q, _⟩ <;> first | exact ⟨n, q⟩ | omega
    have hf : v3 = false := by rw [← hv3', hd]; rfl
    by_cases hb0 : b = 0
    · obtain ⟨n1, r1⟩ : Nm x s l ∧ (-bigZ < x ∧ x < bigZ) := by rcases h1 with ⟨_, n, q⟩ | ⟨q, _⟩ | ⟨q, _⟩ <;> first | exact ⟨n, q⟩ | omega
      have ez : Int.tdiv x y = z := by rw [← hz]; unfold overE; rw [if_neg (by omega), if_neg (by omega)]
      have hzb := tdiv_bd (y := y) r1
      rw [ez] at hzb
      obtain ⟨e0, n3⟩ := h3.fin hzb
      have er : rq x y (!v4) = z := by
       rw [← ez]
       refine rq_tq ?_
       by_cases hx0 : x = 0
       · exact .inl hx0
       · refine .inr ?_
         rw [← hv4]
         rcases hv3 with ⟨q, _⟩ | ⟨q, _, _, q3⟩ | ⟨q, _, _, q3⟩
         · omega
         · rw [q]; by_cases a : x < 0 <;> by_cases b : y < 0 <;> simp [a, b] <;> omega
         · rw [q]; by_cases a : x < 0 <;> by_cases b : y < 0 <;> simp [a, b] <;> omega
      exact .inr (.inr ⟨hf, by rw [← hv2, hb0]; rfl, e0, n1, n2, by rw [er]; exact n3⟩)
    · unfold overE at hz
      have ht : v2 = true := by rw [← hv2]; simp [hb0]
      rcases h1 with ⟨q, _⟩ | ⟨hb, _, _, q⟩ | ⟨hb, _, _, q⟩
      · exact absurd q hb0
      all_goals
       rw [if_neg (by omega), if_pos (by omega)] at hz
       rcases hh3 with ⟨q1, q2⟩ | ⟨q1, q2⟩ | ⟨q1, q2⟩
       · exact absurd q2 hy0
       all_goals
        first
         | (rw [if_pos (by omega)] at hz; obtain ⟨a1, a2, a3⟩ := h3.top hz.symm; exact .inr (.inl ⟨hf, ht, by rw [a1, hb, q1]; rfl, a2, a3⟩))
         | (rw [if_neg (by omega)] at hz; obtain ⟨a1, a2, a3⟩ := h3.bot hz.symm; exact .inr (.inl ⟨hf, ht, by rw [a1, hb, q1]; rfl, a2, a3⟩))
  · have hq : y = bigZ ∨ y = -bigZ := by
     rcases h2 with ⟨q, _⟩ | ⟨_, _, _, q⟩ | ⟨_, _, _, q⟩
     · exact absurd q hd
     · exact .inl q
     · exact .inr q
    have ez : z = 0 := by rw [← hz]; unfold overE; rw [if_pos hq]
    obtain ⟨e1, n3⟩ := h3.fin (by omega)
    exact .inl ⟨by rw [← hv3']; simp [hd], e1, n3.1.trans (by rw [ez]; rfl), n3.2.trans (by rw [ez]; exact limbs_eq_nil.2 rfl)⟩
 have hwb : b = 0 ∨ b = 1 ∨ b = -1 := by rcases h1 with ⟨q, _⟩ | ⟨q, _⟩ | ⟨q, _⟩ <;> omega
 obtain ⟨HA, HBx, HR, HB, Hg3⟩ := hid5 bA bB bR hB0 (And.intro hg3 (And.intro hh3 hv_))
 clear bA bB bR hB0 hg3 hh3 hv_ hg hh hv3 ex ey h1 h2 h3 hz hbz
 obtain ⟨Hd, He⟩ := hid2 HD (And.intro hv2 (And.intro hv3' (And.intro hv4 hwb)))
 clear HD hv2 hv3' hv4 hwb
 go_enter Tryz.func36, Tryz.ntmps36
 go_upto_region 1 with fail
 generalize hW : (((w.alloc (.cells #[.int .i64 b, .bool s, .slice A l.length c] 53)).alloc (.cells #[.int .i64 d, .bool t, .slice B k.length f] 53)).alloc (.cells #[.int .i64 0, .bool false, .slice none 0 0] 53)) = W1 at *
 clear hW
 obtain ⟨hv2, hv3, hv4, hwb⟩ := He.out
 have Hwb := hid hwb
 clear hwb
 rcases Hd.out with ⟨rfl, rfl, rfl, rfl⟩ | ⟨rfl, rfl, rfl, rfl, rfl⟩ | ⟨rfl, rfl, rfl, n1, n2, n3⟩
 · clear S1 S2 Hg3 He Hd hu hv hl hl2 Hwb
   have HP := hid (HR.out.put (w := w) HB.out (by omega) (.int .i64 0) (.bool false) (.slice none 0 0))
   obtain ⟨p0, p1, p2, _⟩ := HA.out
   obtain ⟨p3, p4, p5, _⟩ := HBx.out
   obtain ⟨q0, q1, q2, f0, f1, f2, _⟩ := HR.out
   go_wp2
   refine bodyPost_ret (res_place rfl _ (w.heap.size + 2) rfl HP.out.c0 HP.out.c1 HP.out.c2) rfl ?_
   exact ⟨none, 0, rfl, U64s.nil _ _, HP.out.bel⟩
 · obtain ⟨p0, p1, p2, _⟩ := HA.out
   obtain ⟨p3, p4, p5, _⟩ := HBx.out
   go_upto_region 4 with fail
   clear p0 p1 p2 p3 p4 p5
   have hs := boxD_keep (boxD_of HA.out HBx.out) bdr_
   have Hc := hid (from_ HB.out (Below.refl W1.heap.size W1).drew)
   replace HR := hid (HR.out.below bdr_)
   have hw : IntKind.i64.wrap (b * h) = b * h := by
    obtain ⟨_, hh3, _⟩ := Hg3.out
    rcases Hwb.out with rfl | rfl | rfl <;> rcases hh3 with ⟨rfl, _⟩ | ⟨rfl, _⟩ | ⟨rfl, _⟩ <;> decide
   have Hw := hid hw
   clear hw hv2 hv3 hv4
   first | go_region_held3 (fun w' => D3 w' w.heap.size (.int .i64 b) (.bool s) (.slice A l.length c) (C3 w' (w.heap.size + 1) (.int .i64 d) (.bool t) (.slice B k.length f)))
    (first | with_reducible exact hs | (with_reducible apply boxD_st3 rfl <;> (first | with_reducible exact hs | omega)) | (go_keep; done))
    ((go_at_call 43; (with_reducible refine (S2.out _ Hc.out).mono ?_); rintro e' w2 ⟨rfl, hc2⟩; replace hs := boxD_keep hs hc2; replace HR := hid (HR.out.below hc2); replace Hc := hid (from_ Hc.out hc2); have hw := Hw.out; obtain ⟨q0, q1, q2, f0, f1, f2, _⟩ := HR.out)) | fail
   all_goals
    have HP := hid (HR.out.put (w := w) Hc.out (by omega) (.int .i64 (b * h)) (.bool false) (.slice none 0 0))
    clear hs S1 S2 Hg3 He Hd hu hv hl hl2 Hwb
    have hw := Hw.out
    go_wp2
    (try rw [hw])
    refine bodyPost_ret (res_place rfl _ (w.heap.size + 2) rfl HP.out.c0 HP.out.c1 HP.out.c2) rfl ?_
    exact ⟨none, 0, rfl, U64s.nil _ _, HP.out.bel⟩
 · obtain ⟨p0, p1, p2, _⟩ := HA.out
   obtain ⟨p3, p4, p5, _⟩ := HBx.out
   obtain ⟨CA, Hv4⟩ := hid2 (fun (W : World) (q : Below w.heap.size w W) => And.intro (fun (hq : v4 = true) => wceil_m n1 n2 hy0 (by rw [hq] at n3; exact n3) (by omega) (hu.below q) (hv.below q)) (fun (hq : v4 = false) => wfloor_m n1 n2 hy0 (by rw [hq] at n3; exact n3) (by omega) (hu.below q) (hv.below q))) hv4
   clear hv4 n1 n2 n3
   have hy0_ := hy0
   clear hy0 hy0_
   go_upto_region 5 with fail
   clear p0 p1 p2 p3 p4 p5
   have hs := boxD_keep (boxD_of HA.out HBx.out) bdr_
   have Hc := hid (Below.refl W1.heap.size W1).drew
   go_cut [24] (fun sx wx => sx = .bool v4 ∧ Below W1.heap.size W1 wx)
   case first =>
    obtain ⟨hg3, hh3, hv_⟩ := Hg3.out
    have hw : IntKind.i64.wrap (g * h) = v := by
     rw [← hv_]
     rcases hg3 with ⟨rfl, a⟩ | ⟨rfl, a⟩ | ⟨rfl, a⟩ <;> rcases hh3 with ⟨rfl, b⟩ | ⟨rfl, b⟩ | ⟨rfl, b⟩ <;> decide
    have Hw := hid hw
    clear hg3 hh3 hv_ hw
    first | go_region_held3 (fun w' => D3 w' w.heap.size (.int .i64 b) (.bool s) (.slice A l.length c) (C3 w' (w.heap.size + 1) (.int .i64 d) (.bool t) (.slice B k.length f)))
     (first | with_reducible exact hs | (go_keep; done))
     ((go_at_call 43; (first | (with_reducible refine (S1.out _ (from_ HB.out Hc.out)).mono ?_) | (with_reducible refine (S2.out _ (from_ HB.out Hc.out)).mono ?_)); rintro e' w2 ⟨rfl, hc2⟩; replace hs := boxD_keep hs hc2; replace Hc := hid (from_ Hc.out hc2))) | fail
    all_goals
     clear hs
     have hw := Hw.out
     have hv4 := Hv4.out
     go_wp2_with fail
     go_meet
     exact ⟨by first | rfl | trivial | (rw [hw, hv4]) | (simp [hw, hv4]), Hc.out⟩
   case rest =>
    clear hs Hc
    obtain ⟨rfl, hc⟩ := hcut
    replace HA := hid (HA.out.below hc)
    replace HBx := hid (HBx.out.below hc)
    replace HR := hid (HR.out.below hc)
    replace HB := hid (from_ HB.out hc)
    clear hc
    obtain ⟨W2, hren⟩ : ∃ W, W = wc := ⟨_, rfl⟩
    subst hren
    clear S1 S2 Hg3 He Hd Hv4 hv2 hv3 Hwb
    cases v4 with
    | true =>
      replace CA := hid (fun (W : World) (q : Below w.heap.size w W) => (CA.out W q).1 rfl)
      obtain ⟨p0, p1, p2, _⟩ := HA.out
      obtain ⟨p3, p4, p5, _⟩ := HBx.out
      go_wp2_with fail
      refine (CA.out _ HB.out).mono ?_
      rintro e' w1 ⟨Av, cv, rfl, u1, hc⟩
      clear p0 p1 p2 p3 p4 p5
      have hB1 := from_ HB.out hc
      have bR1 := HR.out.below hc
      have hP := bR1.put hB1 (by omega) (.int .i64 0) (.bool r) (.slice Av m.length cv)
      obtain ⟨HP, hal⟩ := hid2 hP ((Below.refl _ (((w1.setCell ⟨w.heap.size + 2, 0, none⟩ (.int .i64 0)).setCell ⟨w.heap.size + 2, 1, none⟩ (.bool r)).setCell ⟨w.heap.size + 2, 2, none⟩ (.slice Av m.length cv))).alloc (Nat.le_refl _) (.cells #[.bool r, .slice Av m.length cv] 25))
      have U1 := hid (((hP.keep (fun (h : _ ≤ w.heap.size + 2) => by have h8 := HR.out.lt; omega) u1).mono (new_le HB.out.size)).below hal.out)
      obtain ⟨q0, q1, q2, f0, f1, f2, z1⟩ := bR1
      obtain ⟨p0, p1, p2, _⟩ := HA.out.below hc
      obtain ⟨p3, p4, p5, _⟩ := HBx.out.below hc
      have y1 : ¬ w1.heap.size = w.heap.size + 2 := by omega
      have y2 : ¬ w.heap.size + 2 = w1.heap.size := by omega
      clear hP u1 hc hB1
      go_wp2
      refine bodyPost_ret (res_place rfl _ (w.heap.size + 2) rfl (keepC hal.out HP.out.c0) (keepC hal.out HP.out.c1) (keepC hal.out HP.out.c2)) rfl ?_
      exact ⟨_, _, rfl, U1.out, from_ HP.out.bel hal.out⟩
    | false =>
      replace CA := hid (fun (W : World) (q : Below w.heap.size w W) => (CA.out W q).2 rfl)
      obtain ⟨p0, p1, p2, _⟩ := HA.out
      obtain ⟨p3, p4, p5, _⟩ := HBx.out
      go_wp2_with fail
      refine (CA.out _ HB.out).mono ?_
      rintro e' w1 ⟨Av, cv, rfl, u1, hc⟩
      clear p0 p1 p2 p3 p4 p5
      have hB1 := from_ HB.out hc
      have bR1 := HR.out.below hc
      have hP := bR1.put hB1 (by omega) (.int .i64 0) (.bool r) (.slice Av m.length cv)
      obtain ⟨HP, hal⟩ := hid2 hP ((Below.refl _ (((w1.setCell ⟨w.heap.size + 2, 0, none⟩ (.int .i64 0)).setCell ⟨w.heap.size + 2, 1, none⟩ (.bool r)).setCell ⟨w.heap.size + 2, 2, none⟩ (.slice Av m.length cv))).alloc (Nat.le_refl _) (.cells #[.bool r, .slice Av m.length cv] 25))
      have U1 := hid (((hP.keep (fun (h : _ ≤ w.heap.size + 2) => by have h8 := HR.out.lt; omega) u1).mono (new_le HB.out.size)).below hal.out)
      obtain ⟨q0, q1, q2, f0, f1, f2, z1⟩ := bR1
      obtain ⟨p0, p1, p2, _⟩ := HA.out.below hc
      obtain ⟨p3, p4, p5, _⟩ := HBx.out.below hc
      have y1 : ¬ w1.heap.size = w.heap.size + 2 := by omega
      have y2 : ¬ w.heap.size + 2 = w1.heap.size := by omega
      clear hP u1 hc hB1
      go_wp2
      refine bodyPost_ret (res_place rfl _ (w.heap.size + 2) rfl (keepC hal.out HP.out.c0) (keepC hal.out HP.out.c1) (keepC hal.out HP.out.c2)) rfl ?_
      exact ⟨_, _, rfl, U1.out, from_ HP.out.bel hal.out⟩
theorem idown_p {b d : Int} {k : List Nat} (h1 : Pl x b s l) (h2 : Pl y d t k) (h3 : Pl z e r m) (hz : downE bigZ x y = z) (hy0 : 0 < y) (hyb : y < bigZ) (hu : U64s w Z A c l) (hv : U64s w Y B f k) (hl : l.length ≤ 60) (hl2 : k.length ≤ 60) :
  Calls Tryz.prog 53 #[.agg #[.int .i64 b, .bool s, .slice A l.length c], .agg #[.int .i64 d, .bool t, .slice B k.length f]] w fun e' w' => ∃ A' c', e' = .returned (.agg #[.int .i64 e, .bool r, .slice A' m.length c']) ∧ U64s w' (new w.heap.size) A' c' m ∧ Below w.heap.size w w' := by
 have hbz := bigZ_pos
 have ex := h1.ext hl
 obtain ⟨rfl, n2⟩ := h2.fin ⟨by omega, hyb⟩
 rcases h1 with ⟨rfl, n1, r1, r2⟩ | ⟨rfl, rfl, rfl, hx⟩ | ⟨rfl, rfl, rfl, hx⟩
 · have er : rq x y true = z := by
    rw [rq_down hy0, ← hz]
    unfold downE
    rw [if_neg (by omega)]
   have hzb : -bigZ < z ∧ z < bigZ := by
    have h1 := fdiv_bd (p := y) ⟨r1, r2⟩ hy0
    rw [← hz]
    unfold downE
    rw [if_neg (by omega)]
    exact h1
   obtain ⟨rfl, n3⟩ := h3.fin hzb
   have hy1 : y ≠ 0 := by omega
   rw [← er] at n3
   obtain ⟨bA, bB, bR, hB0⟩ := boxS w (.int .i64 0) (.bool s) (.slice A l.length c) (.int .i64 0) (.bool t) (.slice B k.length f) (.int .i64 0) (.bool false) (.slice none 0 0) 53
   obtain ⟨HA, HBx, HR, HB⟩ := hid4 bA bB bR hB0
   obtain ⟨a0, a1, a2, _, _, _, _⟩ := bA
   obtain ⟨b0, b1, b2, _, _, _, _⟩ := bB
   have CA := hid (wfloor_m n1 n2 hy1 n3 (by omega) (hu.below hB0) (hv.below hB0))
   clear hu hv hl hl2 n1 n2 n3 bR hB0 er hz hy0 hyb hy1 ex h3 h2 r1 r2 hzb
   generalize l.length = L1 at *
   generalize k.length = L2 at *
   go_enter Tryz.func53, Tryz.ntmps53
   go_wp2_with fail
   refine CA.out.mono ?_
   rintro e' w1 ⟨Av, cv, rfl, u1, hc⟩
   have hB1 := from_ HB.out hc
   have bR1 := HR.out.below hc
   have hP := bR1.put hB1 (by omega) (.int .i64 0) (.bool r) (.slice Av m.length cv)
   obtain ⟨HP, hal⟩ := hid2 hP ((Below.refl _ (((w1.setCell ⟨w.heap.size + 2, 0, none⟩ (.int .i64 0)).setCell ⟨w.heap.size + 2, 1, none⟩ (.bool r)).setCell ⟨w.heap.size + 2, 2, none⟩ (.slice Av m.length cv))).alloc (Nat.le_refl _) (.cells #[.bool r, .slice Av m.length cv] 25))
   have U1 := hid (((hP.keep (fun (h : _ ≤ w.heap.size + 2) => by have h8 := HR.out.lt; omega) u1).mono (new_le HB.out.size)).below hal.out)
   obtain ⟨q0, q1, q2, f0, f1, f2, z1⟩ := bR1
   obtain ⟨p0, p1, p2, _⟩ := HA.out.below hc
   obtain ⟨p3, p4, p5, _⟩ := HBx.out.below hc
   have y1 : ¬ w1.heap.size = w.heap.size + 2 := by omega
   have y2 : ¬ w.heap.size + 2 = w1.heap.size := by omega
   clear hP u1 hc hB1
   go_wp2
   refine bodyPost_ret (res_place rfl _ (w.heap.size + 2) rfl (keepC hal.out HP.out.c0) (keepC hal.out HP.out.c1) (keepC hal.out HP.out.c2)) rfl ?_
   exact ⟨_, _, rfl, U1.out, from_ HP.out.bel hal.out⟩
 · obtain ⟨rfl, rfl, rfl⟩ := h3.top (by
    rw [← hz]
    unfold downE
    rw [if_pos (by omega)]
    exact hx)
   have HU := hid hu
   clear hz ex hu hv hl hl2 hy0 n2 h2 h3
   generalize k.length = L2 at *
   simp only [List.length_nil] at *
   obtain ⟨bA, bB, bR, hB0⟩ := boxS w (.int .i64 1) (.bool false) (.slice A 0 c) (.int .i64 0) (.bool t) (.slice B L2 f) (.int .i64 0) (.bool false) (.slice none 0 0) 53
   obtain ⟨HA, HBx, HR, HB⟩ := hid4 bA bB bR hB0
   obtain ⟨a0, a1, a2, _, _, _, _⟩ := bA
   obtain ⟨b0, b1, b2, _, _, _, _⟩ := bB
   obtain ⟨_, _, cR, hC0⟩ := boxS w (.int .i64 1) (.bool false) (.slice A 0 c) (.int .i64 0) (.bool t) (.slice B L2 f) (.int .i64 1) (.bool false) (.slice A 0 c) 53
   obtain ⟨q0, q1, q2, f0, f1, f2, _⟩ := bR
   obtain ⟨CR, HC⟩ := hid2 cR hC0
   clear hB0 HA HBx HR HB cR hC0
   go_enter Tryz.func53, Tryz.ntmps53
   go_wp2
   refine bodyPost_ret (res_place rfl _ (w.heap.size + 2) rfl CR.out.c0 CR.out.c1 CR.out.c2) rfl ?_
   exact ⟨A, c, rfl, HU.out.anyz, HC.out⟩
 · obtain ⟨rfl, rfl, rfl⟩ := h3.bot (by
    rw [← hz]
    unfold downE
    rw [if_pos (by omega)]
    exact hx)
   have HU := hid hu
   clear hz ex hu hv hl hl2 hy0 n2 h2 h3
   generalize k.length = L2 at *
   simp only [List.length_nil] at *
   obtain ⟨bA, bB, bR, hB0⟩ := boxS w (.int .i64 (-1)) (.bool false) (.slice A 0 c) (.int .i64 0) (.bool t) (.slice B L2 f) (.int .i64 0) (.bool false) (.slice none 0 0) 53
   obtain ⟨HA, HBx, HR, HB⟩ := hid4 bA bB bR hB0
   obtain ⟨a0, a1, a2, _, _, _, _⟩ := bA
   obtain ⟨b0, b1, b2, _, _, _, _⟩ := bB
   obtain ⟨_, _, cR, hC0⟩ := boxS w (.int .i64 (-1)) (.bool false) (.slice A 0 c) (.int .i64 0) (.bool t) (.slice B L2 f) (.int .i64 (-1)) (.bool false) (.slice A 0 c) 53
   obtain ⟨q0, q1, q2, f0, f1, f2, _⟩ := bR
   obtain ⟨CR, HC⟩ := hid2 cR hC0
   clear hB0 HA HBx HR HB cR hC0
   go_enter Tryz.func53, Tryz.ntmps53
   go_wp2
   refine bodyPost_ret (res_place rfl _ (w.heap.size + 2) rfl CR.out.c0 CR.out.c1 CR.out.c2) rfl ?_
   exact ⟨A, c, rfl, HU.out.anyz, HC.out⟩
def shrLo (x y z t : Int) : Int := lo4 (downE bigZ x z) (downE bigZ x t) (downE bigZ y z) (downE bigZ y t)
def shrHi (x y z t : Int) : Int := hi4 (downE bigZ x z) (downE bigZ x t) (downE bigZ y z) (downE bigZ y t)
theorem icrossed_over 
  (u1 : U64s w Z1 A a l0) (u2 : U64s w Z2 B b l1) (u3 : U64s w Z3 C c k0) (u4 : U64s w Z4 D d k1) (h1 : okA n0 s0 l0 n1 s1 l1 = true) (h2 : okA m0 t0 k0 m1 t1 k1 = true)
  (q1 : l0.length ≤ 60) (q2 : l1.length ≤ 60) (q3 : k0.length ≤ 60) (q4 : k1.length ≤ 60) (hq : loV m0 t0 k0 ≠ 0 ∧ hiV m1 t1 k1 ≠ 0)
  (hz0 : z0 = divLo (loV n0 s0 l0) (hiV n1 s1 l1) (loV m0 t0 k0) (hiV m1 t1 k1)) (hz1 : z1 = divHi (loV n0 s0 l0) (hiV n1 s1 l1) (loV m0 t0 k0) (hiV m1 t1 k1)) (gm : z0 < bigZ) (gM : -bigZ < z1) (e0 : EndL z0 rn0 rs0 rl0) (e1 : EndH z1 rn1 rs1 rl1) :
  Calls Tryz.prog 32 #[.agg #[.bool n0, .bool s0, .slice A l0.length a, .bool n1, .bool s1, .slice B l1.length b], .agg #[.bool m0, .bool t0, .slice C k0.length c, .bool m1, .bool t1, .slice D k1.length d], .func (.func 36) #[] #[]] w fun e w' => ∃ rA ra rB rb, e = .returned (.agg #[.bool rn0, .bool rs0, .slice rA rl0.length ra, .bool rn1, .bool rs1, .slice rB rl1.length rb]) ∧ U64s w' (new w.heap.size) rA ra rl0 ∧ U64s w' (new w.heap.size) rB rb rl1 ∧ Below w.heap.size w w' :=
 icrossed_any (n := 60) (by omega) (by simp) (op := overE bigZ) u1 u2 u3 u4 h1 h2 (by omega) (by omega) (by omega) (by omega) (fun _ p q hl _ _ => (ext_over (p.ext hl)).up (by omega)) (fun _ hy p q r hz u v hl hk => iover_p p q r hz (hy.elim (fun e => e ▸ hq.1) (fun e => e ▸ hq.2)) u v hl hk) hz0 hz1 gm gM e0 e1
theorem icrossed_down 
  (u1 : U64s w Z1 A a l0) (u2 : U64s w Z2 B b l1) (u3 : U64s w Z3 C c k0) (u4 : U64s w Z4 D d k1) (h1 : okA n0 s0 l0 n1 s1 l1 = true) (h2 : okA m0 t0 k0 m1 t1 k1 = true)
  (q1 : l0.length ≤ 60) (q2 : l1.length ≤ 60) (q3 : k0.length ≤ 60) (q4 : k1.length ≤ 60) (hq : (0 < loV m0 t0 k0 ∧ loV m0 t0 k0 < bigZ) ∧ 0 < hiV m1 t1 k1 ∧ hiV m1 t1 k1 < bigZ)
  (hz0 : z0 = shrLo (loV n0 s0 l0) (hiV n1 s1 l1) (loV m0 t0 k0) (hiV m1 t1 k1)) (hz1 : z1 = shrHi (loV n0 s0 l0) (hiV n1 s1 l1) (loV m0 t0 k0) (hiV m1 t1 k1)) (gm : z0 < bigZ) (gM : -bigZ < z1) (e0 : EndL z0 rn0 rs0 rl0) (e1 : EndH z1 rn1 rs1 rl1) :
  Calls Tryz.prog 32 #[.agg #[.bool n0, .bool s0, .slice A l0.length a, .bool n1, .bool s1, .slice B l1.length b], .agg #[.bool m0, .bool t0, .slice C k0.length c, .bool m1, .bool t1, .slice D k1.length d], .func (.func 53) #[] #[]] w fun e w' => ∃ rA ra rB rb, e = .returned (.agg #[.bool rn0, .bool rs0, .slice rA rl0.length ra, .bool rn1, .bool rs1, .slice rB rl1.length rb]) ∧ U64s w' (new w.heap.size) rA ra rl0 ∧ U64s w' (new w.heap.size) rB rb rl1 ∧ Below w.heap.size w w' :=
 icrossed_any (n := 60) (by omega) (by simp) (op := downE bigZ) u1 u2 u3 u4 h1 h2 (by omega) (by omega) (by omega) (by omega) (fun hy p q hl _ _ => (ext_down (p.ext hl) (hy.elim (fun e => e ▸ hq.1.1) (fun e => e ▸ hq.2.1))).up (by omega)) (fun _ hy p q r hz u v hl hk => idown_p p q r hz (hy.elim (fun e => e ▸ hq.1.1) (fun e => e ▸ hq.2.1)) (hy.elim (fun e => e ▸ hq.1.2) (fun e => e ▸ hq.2.2)) u v hl hk) hz0 hz1 gm gM e0 e1
def IvsO (w : World) (B0 : Nat) (v : Value) (xs : List Value) (ps : List Iv) : Prop :=
 ∀ j (hj : j < ps.length), ∃ A a B b, (xs[j * 6]? = some (.bool ps[j].n0) ∧ xs[j * 6 + 1]? = some (.bool ps[j].s0) ∧ xs[j * 6 + 2]? = some (.slice A ps[j].l0.length a) ∧ xs[j * 6 + 3]? = some (.bool ps[j].n1) ∧ xs[j * 6 + 4]? = some (.bool ps[j].s1) ∧ xs[j * 6 + 5]? = some (.slice B ps[j].l1.length b)) ∧ U64s w (newX B0 v) A a ps[j].l0 ∧ U64s w (newX B0 v) B b ps[j].l1
theorem IvsO.nil (w : World) (B0 : Nat) (v : Value) (xs : List Value) : IvsO w B0 v xs [] := fun j hj => absurd hj (by simp)
theorem IvsO.below {ps : List Iv} (h : IvsO w B0 v xs ps) (hb : Below w.heap.size w w') : IvsO w' B0 v xs ps := fun j hj => by
 obtain ⟨A, a, B, b, hc, h0, h1⟩ := h j hj
 exact ⟨A, a, B, b, hc, h0.below hb, h1.below hb⟩
theorem IvsO.snoc {v' : Value} {ps : List Iv} (h : IvsO w B0 v xs ps) (hl : xs.length = ps.length * 6) (hg : w.grownBy w' v.ownBlock) (hf : Fresh w v v') (hu : U64s w (newX B0 v) A a p.l0) (hv : U64s w (newX B0 v) B b p.l1) :
  IvsO w' B0 v' (xs ++ [.bool p.n0, .bool p.s0, .slice A p.l0.length a, .bool p.n1, .bool p.s1, .slice B p.l1.length b]) (ps ++ [p]) := fun j hj => by
 rw [List.length_append, List.length_singleton] at hj
 by_cases hj2 : j < ps.length
 · obtain ⟨A', a', B', b', ⟨h0, h1, h2, h3, h4, h5⟩, u0, u1⟩ := h j hj2
   refine ⟨A', a', B', b', ?_, ?_, ?_⟩
   · rw [List.getElem_append_left hj2, List.getElem?_append_left (by omega), List.getElem?_append_left (by omega), List.getElem?_append_left (by omega), List.getElem?_append_left (by omega), List.getElem?_append_left (by omega), List.getElem?_append_left (by omega)]
     exact ⟨h0, h1, h2, h3, h4, h5⟩
   · rw [List.getElem_append_left hj2]; exact u0.grow hg hf
   · rw [List.getElem_append_left hj2]; exact u1.grow hg hf
 · obtain rfl : j = ps.length := by omega
   have e : (ps ++ [p])[ps.length]'(by simp) = p := by rw [List.getElem_append_right (by omega)]; simp
   refine ⟨A, a, B, b, ?_, ?_, ?_⟩
   · rw [e, List.getElem?_append_right (by omega), List.getElem?_append_right (by omega), List.getElem?_append_right (by omega), List.getElem?_append_right (by omega), List.getElem?_append_right (by omega), List.getElem?_append_right (by omega), hl, Nat.sub_self, show ps.length * 6 + 1 - ps.length * 6 = 1 by omega, show ps.length * 6 + 2 - ps.length * 6 = 2 by omega, show ps.length * 6 + 3 - ps.length * 6 = 3 by omega, show ps.length * 6 + 4 - ps.length * 6 = 4 by omega, show ps.length * 6 + 5 - ps.length * 6 = 5 by omega]
     exact ⟨rfl, rfl, rfl, rfl, rfl, rfl⟩
   · rw [e]; exact hu.grow hg hf
   · rw [e]; exact hv.grow hg hf
theorem IvsO.fin {B : Nat} {ps : List Iv} {e : TypeId} (h : IvsO w B0 v xs ps) (hown : w.ownsRow B e 6 v ps.length xs) : ∃ A c, v = .slice A ps.length c ∧ IvsAt w (new B0) A c ps ∧ ∀ b o, A = some ⟨b, o, none⟩ → B ≤ b := by
 have hcase := hown.2
 rcases hcase with ⟨e1, h0⟩ | ⟨g, cap, cur, e1, hB, hh, hcap, hm, _⟩
 · have hq : ps = [] := List.eq_nil_of_length_eq_zero h0
   subst hq
   exact ⟨none, 0, e1, IvsAt.nil _ _, fun b o h => by cases h⟩
 · subst e1
   refine ⟨some ⟨g, 0, none⟩, cap, rfl, ⟨hcap, by simpa [maxLen] using hm, fun h0 => ⟨g, 0, rfl, (hown.lt g rfl).2, fun j hj => ?_⟩⟩, fun b o h => by injection h with h; injection h with h1 h2; omega⟩
   obtain ⟨A, a, B, b, ⟨c0, c1, c2, c3, c4, c5⟩, u0, u1⟩ := h j hj
   refine ⟨A, a, B, b, ⟨?_, ?_, ?_, ?_, ?_, ?_⟩, u0.mono (newX_le _ _), u1.mono (newX_le _ _)⟩
   · rw [Nat.zero_add, hown.cellAt (j * 6) (by omega)]; exact c0
   · rw [Nat.zero_add, hown.cellAt (j * 6 + 1) (by omega)]; exact c1
   · rw [Nat.zero_add, hown.cellAt (j * 6 + 2) (by omega)]; exact c2
   · rw [Nat.zero_add, hown.cellAt (j * 6 + 3) (by omega)]; exact c3
   · rw [Nat.zero_add, hown.cellAt (j * 6 + 4) (by omega)]; exact c4
   · rw [Nat.zero_add, hown.cellAt (j * 6 + 5) (by omega)]; exact c5
def SD (k : Nat) : Int × Int := if k = 0 then (-bigZ, -1) else (1, bigZ)
def partK (P : Int × Int) (k : Nat) : List (Int × Int) := (if 1 ≤ k ∧ P.1 ≤ -1 then [(P.1, min P.2 (-1))] else []) ++ (if 2 ≤ k ∧ 1 ≤ P.2 then [(max P.1 1, P.2)] else [])
theorem partK_zero (P : Int × Int) : partK P 0 = [] := by simp [partK]
theorem partK_two (P : Int × Int) : partK P 2 = partsP P := by simp [partK, partsP]
theorem big_one : (1 : Int) < bigZ := by
 have := wN_le (show 1 ≤ 64 by omega)
 have e : wN 1 = 18446744073709551616 := rfl
 omega
theorem partK_step {k : Nat} {P : Int × Int} (h : IvN N P.1 P.2) (hN : N ≤ 60) (hk : k < 2) {g : Bool} (hg : decide (max P.1 (SD k).1 ≤ min P.2 (SD k).2) = g) : partK P (k + 1) = if g = true then partK P k ++ [(max P.1 (SD k).1, min P.2 (SD k).2)] else partK P k := by
 obtain ⟨a1, a2, a3, a4, a5⟩ := h
 have h3 := big_one
 have r1 := a1.range (by omega)
 have r2 := a2.range (by omega)
 obtain rfl | rfl : k = 0 ∨ k = 1 := by omega
 · unfold SD partK at *
   simp only [if_true] at hg ⊢
   have e : max P.1 (-bigZ) = P.1 := by omega
   rw [e] at hg ⊢
   subst hg
   by_cases h1 : P.1 ≤ -1
   · rw [if_pos ⟨by omega, h1⟩, decide_eq_true (by omega)]; simp
   · rw [if_neg (by omega), decide_eq_false (by omega)]; simp
 · unfold SD partK at *
   simp only [show ¬ (1 = 0) by omega, if_false] at hg ⊢
   have e : min P.2 bigZ = P.2 := by omega
   rw [e] at hg ⊢
   subst hg
   by_cases h2 : 1 ≤ P.2
   · rw [if_pos (show 2 ≤ 1 + 1 ∧ 1 ≤ P.2 by omega), decide_eq_true (by omega)]; simp
   · rw [if_neg (show ¬ (2 ≤ 1 + 1 ∧ 1 ≤ P.2) by omega), decide_eq_false (by omega)]; simp
theorem ivn_side (hN : 1 ≤ N) (k : Nat) : IvN N (SD k).1 (SD k).2 := by
 have h3 := big_one
 have h4 : (1 : Int) < wN N := by
  have := wN_mono hN
  have e : wN 1 = 18446744073709551616 := rfl
  omega
 unfold SD
 split
 · exact ⟨.inr (.inl rfl), .inr (.inr (by omega)), by dsimp only; omega, by dsimp only; omega, by dsimp only; omega⟩
 · exact ⟨.inr (.inr (by omega)), .inl rfl, by dsimp only; omega, by dsimp only; omega, by dsimp only; omega⟩
theorem side_w (k : Nat) : IvW (SD k) (ivOf (SD k).1 (SD k).2) := IvW.mk _
theorem side_lo : (ivOf (SD 0).1 (SD 0).2).n0 = true ∧ (ivOf (SD 0).1 (SD 0).2).s0 = false ∧ (ivOf (SD 0).1 (SD 0).2).l0 = [] ∧ (ivOf (SD 0).1 (SD 0).2).n1 = false ∧ Nm (-1) (ivOf (SD 0).1 (SD 0).2).s1 (ivOf (SD 0).1 (SD 0).2).l1 := by
 have h3 := big_one
 rw [show SD 0 = (-bigZ, -1) from rfl]
 refine ⟨?_, ?_, ?_, ?_, ?_⟩
 · exact decide_eq_true (p := -bigZ = -bigZ) rfl
 · exact decide_eq_false (p := -bigZ < -bigZ ∧ -bigZ < 0) (by omega)
 · exact if_neg (c := -bigZ < -bigZ ∧ -bigZ < bigZ) (t := limbs (-bigZ).natAbs) (by omega)
 · exact decide_eq_false (p := -1 = bigZ) (by omega)
 · exact nm_e (n := -1) ⟨by omega, by omega⟩
theorem side_hi : (ivOf (SD 1).1 (SD 1).2).n0 = false ∧ Nm 1 (ivOf (SD 1).1 (SD 1).2).s0 (ivOf (SD 1).1 (SD 1).2).l0 ∧ (ivOf (SD 1).1 (SD 1).2).n1 = true ∧ (ivOf (SD 1).1 (SD 1).2).s1 = false ∧ (ivOf (SD 1).1 (SD 1).2).l1 = [] := by
 have h3 := big_one
 rw [show SD 1 = (1, bigZ) from rfl]
 refine ⟨?_, ?_, ?_, ?_, ?_⟩
 · exact decide_eq_false (p := 1 = -bigZ) (by omega)
 · exact nm_e (n := 1) ⟨by omega, by omega⟩
 · exact decide_eq_true (p := bigZ = bigZ) rfl
 · exact decide_eq_false (p := -bigZ < bigZ ∧ bigZ < 0) (by omega)
 · exact if_neg (c := -bigZ < bigZ ∧ bigZ < bigZ) (t := limbs bigZ.natAbs) (by omega)
theorem six_news {t : TypeId} : ∀ j u, [a0, a1, a2, a3, a4, a5][j]? = some u → (W.alloc (.cells #[a0, a1, a2, a3, a4, a5] t)).cell? ⟨W.heap.size, j, none⟩ = some u := by
 intro j u h
 have hj : j < 6 := by
  have h2 := (List.getElem?_eq_some_iff.1 h).1
  have h3 : ([a0, a1, a2, a3, a4, a5] : List Value).length = 6 := rfl
  omega
 refine cell_newest rfl ?_
 rw [← h]
 exact List.getElem?_toArray
theorem imeet_w {r : Iv} (hp : IvW P p) (gp : IvN N P.1 P.2) (hN : N ≤ 60) (hq : IvW Q q) (gq : IvN M Q.1 Q.2) (hM : M ≤ 60) (hr : IvW (max P.1 Q.1, min P.2 Q.2) r) {g : Bool} (hg : decide (max P.1 Q.1 ≤ min P.2 Q.2) = g) (u1 : U64s w Z1 A a p.l0) (u2 : U64s w Z2 B b p.l1) (u3 : U64s w Z3 C c q.l0) (u4 : U64s w Z4 D d q.l1) :
  Calls Tryz.prog 79 #[.agg #[.bool p.n0, .bool p.s0, .slice A p.l0.length a, .bool p.n1, .bool p.s1, .slice B p.l1.length b], .agg #[.bool q.n0, .bool q.s0, .slice C q.l0.length c, .bool q.n1, .bool q.s1, .slice D q.l1.length d]] w fun e w' => (g = true → ∃ rA ra rB rb, e = .returned (.tuple #[.agg #[.bool r.n0, .bool r.s0, .slice rA r.l0.length ra, .bool r.n1, .bool r.s1, .slice rB r.l1.length rb], .bool true]) ∧ U64s w' (new w.heap.size) rA ra r.l0 ∧ U64s w' (new w.heap.size) rB rb r.l1) ∧ (g = false → e = .returned (.tuple #[.agg #[.bool false, .bool false, .slice none 0 0, .bool false, .bool false, .slice none 0 0], .bool false])) ∧ Below w.heap.size w w' := by
 have kp := hp.k gp (by omega)
 have kq := hq.k gq (by omega)
 exact imeet_p u1 u2 u3 u4 kp.ok kq.ok (by have := kp.q0; omega) (by have := kp.q1; omega) (by have := kq.q0; omega) (by have := kq.q1; omega) (by rw [kp.lo, kq.lo]) (by rw [kp.hi, kq.hi]) hr.1 hr.2 hg
theorem iparted_w (hp : IvW P p) (gp : IvN N P.1 P.2) (hN : N ≤ 60) (u0 : U64s w Z1 A a p.l0) (u1 : U64s w Z2 B b p.l1) :
  Calls Tryz.prog 35 #[.agg #[.bool p.n0, .bool p.s0, .slice A p.l0.length a, .bool p.n1, .bool p.s1, .slice B p.l1.length b]] w fun e w' => ∃ Av cv, e = .returned (.slice Av (partsP P).length cv) ∧ IvsAt w' (new w.heap.size) Av cv (fmOf (partsP P)) ∧ (∀ b o, Av = some ⟨b, o, none⟩ → w.heap.size ≤ b) ∧ Below w.heap.size w w' := by
 have hB0 : Below w.heap.size w (w.alloc (.cells #[.bool p.n0, .bool p.s0, .slice A p.l0.length a, .bool p.n1, .bool p.s1, .slice B p.l1.length b] 29)) := (Below.refl _ _).alloc (Nat.le_refl _) _
 have HA := hid (Box6.new w (.bool p.n0) (.bool p.s0) (.slice A p.l0.length a) (.bool p.n1) (.bool p.s1) (.slice B p.l1.length b) 29)
 obtain ⟨sm, lm, nm, sw0⟩ : ∃ sm lm, Nm (-1) sm lm ∧ IvW (SD 0) ⟨true, false, [], false, sm, lm⟩ := by
  obtain ⟨h0, h1, h2, h3, h4⟩ := side_lo
  refine ⟨_, _, h4, ?_⟩
  have h := side_w 0
  unfold IvW at h ⊢
  rwa [h0, h1, h2, h3] at h
 obtain ⟨s1, l1, n1, sw1⟩ : ∃ s1 l1, Nm 1 s1 l1 ∧ IvW (SD 1) ⟨false, s1, l1, true, false, []⟩ := by
  obtain ⟨h0, h1, h2, h3, h4⟩ := side_hi
  refine ⟨_, _, h1, ?_⟩
  have h := side_w 1
  unfold IvW at h ⊢
  rwa [h0, h2, h3, h4] at h
 have q1 : l1.length ≤ 1 := by rw [n1.2]; exact len_limbs_le (by decide)
 have qm : lm.length ≤ 1 := by rw [nm.2]; exact len_limbs_le (by decide)
 obtain ⟨Hp, HG, SW0, SW1, OF, NG⟩ := hid6 hp gp sw0 sw1 (fun (W : World) => wof_p (w := W) n1 (by omega)) (fun (W : World) (C : Option Addr) (c : Nat) (Z : Zone) (u : U64s W Z C c l1) => wneg_n n1 nm rfl (by omega) u)
 obtain ⟨AT1, AT2, HB⟩ := hid3 (fun (W : World) (C : Option Addr) (c : Nat) (Z : Zone) (u : U64s W Z C c lm) => iat_p (s := sm) u (by omega)) (fun (W : World) (C : Option Addr) (c : Nat) (Z : Zone) (u : U64s W Z C c l1) => iat_p (s := s1) u (by omega)) hB0
 clear hp gp sw0 sw1 n1 nm hB0
 go_enter Tryz.func35, Tryz.ntmps35
 go_wp2_with fail
 refine (OF.out _).mono ?_
 rintro e w1 ⟨C1, c1, rfl, uo, hc⟩
 go_upto_region 2 with fail
 have hax : Below w1.heap.size w1 (w1.alloc (.cells #[.bool s1, .slice C1 l1.length c1] 25)) := (Below.refl _ _).alloc (Nat.le_refl _) _
 have BO := hid (Box.new w1 (.bool s1) (.slice C1 l1.length c1) 25)
 obtain ⟨gO, hgO⟩ : ∃ gO, gO = w1.heap.size := ⟨_, rfl⟩
 rw [← hgO] at BO
 have UO := hid (uo.below hax)
 replace HA := hid ((HA.out.below hc).below hax)
 replace HB := hid (from_ (from_ HB.out hc) hax)
 clear hc hax uo OF
 generalize hW1 : w1.alloc (.cells #[.bool s1, .slice C1 l1.length c1] 25) = W1 at *
 try simp only [← hgO]
 clear hW1 hgO
 obtain ⟨x0, x1, _, _, _⟩ := id BO.out
 go_wp2_with fail
 refine (NG.out _ _ _ _ UO.out).mono ?_
 rintro e w2 ⟨D1, d1, rfl, um, hc⟩
 have hax : Below w2.heap.size w2 (w2.alloc (.cells #[.bool sm, .slice D1 lm.length d1] 25)) := (Below.refl _ _).alloc (Nat.le_refl _) _
 have BM := hid (Box.new w2 (.bool sm) (.slice D1 lm.length d1) 25)
 obtain ⟨gM, hgM⟩ : ∃ gM, gM = w2.heap.size := ⟨_, rfl⟩
 rw [← hgM] at BM
 have UM := hid (um.below hax)
 replace UO := hid ((UO.out.below hc).below hax)
 replace BO := hid ((BO.out.below hc).below hax)
 replace HA := hid ((HA.out.below hc).below hax)
 replace HB := hid (from_ (from_ HB.out hc) hax)
 clear hc hax um NG x0 x1
 generalize hW2 : w2.alloc (.cells #[.bool sm, .slice D1 lm.length d1] 25) = W2 at *
 have hs := And.intro (And.intro BM.out.c0 BM.out.c1) (And.intro BO.out.c0 BO.out.c1)
 replace hs := c4_keep hs bdr_
 have Hc := hid (Below.refl W2.heap.size W2).drew
 go_upto_region 3 with fail
 try simp only [hW2]
 try simp only [← hgM]
 clear hW2 hgM
 first | go_region_held3 (fun w' => (w'.cell? ⟨gM, 0, none⟩ = some (.bool sm) ∧ w'.cell? ⟨gM, 1, none⟩ = some (.slice D1 lm.length d1)) ∧ w'.cell? ⟨gO, 0, none⟩ = some (.bool s1) ∧ w'.cell? ⟨gO, 1, none⟩ = some (.slice C1 l1.length c1))
  (first | with_reducible exact hs | (with_reducible apply c4_al rfl; with_reducible exact hs) | (with_reducible apply c4_dr rfl; with_reducible exact hs))
  (((first
    | (go_at_call 66; with_reducible refine (inone_p).mono ?_; rintro e w3 ⟨rfl, hc2⟩)
    | (go_at_call 67; with_reducible refine (AT1.out _ _ _ _ (UM.out.below Hc.out)).mono ?_; rintro e w3 ⟨Em, em, rfl, vm, hc2⟩)
    | (go_at_call 67; with_reducible refine (AT2.out _ _ _ _ (UO.out.below Hc.out)).mono ?_; rintro e w3 ⟨Eo, eo, rfl, vo, hc2⟩)); (try replace vm := vm.below hc2); (try replace vo := vo.below hc2); replace hs := c4_keep hs hc2; replace Hc := hid (from_ Hc.out hc2); clear hc2)) | fail
 all_goals
  have hal := (Below.refl w3.heap.size w3).alloc (Nat.le_refl _) (.cells #[.bool true, .bool false, .slice none 0 0, .bool false, .bool sm, .slice Em lm.length em, .bool false, .bool s1, .slice Eo l1.length eo, .bool true, .bool false, .slice none 0 0] 29)
  have HSIDE : Hid (∀ k, k < 2 → ∃ (sd : Iv) (F0 : Option Addr) (f0 : Nat) (F1 : Option Addr) (f1 : Nat), ((w3.alloc (.cells #[.bool true, .bool false, .slice none 0 0, .bool false, .bool sm, .slice Em lm.length em, .bool false, .bool s1, .slice Eo l1.length eo, .bool true, .bool false, .slice none 0 0] 29)).cell? ⟨w3.heap.size, k * 6, none⟩ = some (.bool sd.n0) ∧ (w3.alloc (.cells #[.bool true, .bool false, .slice none 0 0, .bool false, .bool sm, .slice Em lm.length em, .bool false, .bool s1, .slice Eo l1.length eo, .bool true, .bool false, .slice none 0 0] 29)).cell? ⟨w3.heap.size, k * 6 + 1, none⟩ = some (.bool sd.s0) ∧ (w3.alloc (.cells #[.bool true, .bool false, .slice none 0 0, .bool false, .bool sm, .slice Em lm.length em, .bool false, .bool s1, .slice Eo l1.length eo, .bool true, .bool false, .slice none 0 0] 29)).cell? ⟨w3.heap.size, k * 6 + 2, none⟩ = some (.slice F0 sd.l0.length f0) ∧ (w3.alloc (.cells #[.bool true, .bool false, .slice none 0 0, .bool false, .bool sm, .slice Em lm.length em, .bool false, .bool s1, .slice Eo l1.length eo, .bool true, .bool false, .slice none 0 0] 29)).cell? ⟨w3.heap.size, k * 6 + 3, none⟩ = some (.bool sd.n1) ∧ (w3.alloc (.cells #[.bool true, .bool false, .slice none 0 0, .bool false, .bool sm, .slice Em lm.length em, .bool false, .bool s1, .slice Eo l1.length eo, .bool true, .bool false, .slice none 0 0] 29)).cell? ⟨w3.heap.size, k * 6 + 4, none⟩ = some (.bool sd.s1) ∧ (w3.alloc (.cells #[.bool true, .bool false, .slice none 0 0, .bool false, .bool sm, .slice Em lm.length em, .bool false, .bool s1, .slice Eo l1.length eo, .bool true, .bool false, .slice none 0 0] 29)).cell? ⟨w3.heap.size, k * 6 + 5, none⟩ = some (.slice F1 sd.l1.length f1)) ∧ U64s (w3.alloc (.cells #[.bool true, .bool false, .slice none 0 0, .bool false, .bool sm, .slice Em lm.length em, .bool false, .bool s1, .slice Eo l1.length eo, .bool true, .bool false, .slice none 0 0] 29)) old F0 f0 sd.l0 ∧ U64s (w3.alloc (.cells #[.bool true, .bool false, .slice none 0 0, .bool false, .bool sm, .slice Em lm.length em, .bool false, .bool s1, .slice Eo l1.length eo, .bool true, .bool false, .slice none 0 0] 29)) old F1 f1 sd.l1 ∧ IvW (SD k) sd) := fun k hk => by
   obtain rfl | rfl : k = 0 ∨ k = 1 := by omega
   · exact ⟨_, none, 0, Em, em, ⟨cell_newest rfl rfl, cell_newest rfl rfl, cell_newest rfl rfl, cell_newest rfl rfl, cell_newest rfl rfl, cell_newest rfl rfl⟩, U64s.nil _ _, (vm.below hal).mono (le_old _), SW0.out⟩
   · exact ⟨_, Eo, eo, none, 0, ⟨cell_newest rfl rfl, cell_newest rfl rfl, cell_newest rfl rfl, cell_newest rfl rfl, cell_newest rfl rfl, cell_newest rfl rfl⟩, (vo.below hal).mono (le_old _), U64s.nil _ _, SW1.out⟩
  obtain ⟨g3, hg3⟩ : ∃ g3, g3 = w3.heap.size := ⟨_, rfl⟩
  rw [← hg3] at HSIDE
  have HW3 := hid (from_ (from_ HB.out Hc.out) hal)
  replace HA := hid ((HA.out.below Hc.out).below hal)
  clear hs vm vo hal BO BM UO UM SW0 SW1 AT1 AT2 Hc HB
  generalize hW3 : w3.alloc (.cells #[.bool true, .bool false, .slice none 0 0, .bool false, .bool sm, .slice Em lm.length em, .bool false, .bool s1, .slice Eo l1.length eo, .bool true, .bool false, .slice none 0 0] 29) = W3 at *
  go_wp2
  try simp only [hW3]
  try simp only [← hg3]
  clear hW3 hg3
  go_loopw [2, 26] (fun v i wr => ∃ (vr : Value) (k : Nat) (xs : List Value) (qs : List Iv), v = vr ∧ k ≤ 2 ∧ i = .int .i64 (k : Int) ∧ qs = fmOf (partK P k) ∧ qs.length ≤ k ∧ wr.ownsRow W3.heap.size 29 6 vr qs.length xs ∧ IvsO wr w.heap.size vr xs qs ∧ Below W3.heap.size W3 wr) (fun _ i _ => 2 - (intOf i).toNat)
  case atStart => exact ⟨_, 0, [], [], rfl, Nat.zero_le _, rfl, by rw [partK_zero]; rfl, Nat.zero_le _, World.ownsRow_nil _ _ _ _, IvsO.nil _ _ _ _, Below.refl _ _⟩
  case round =>
   obtain ⟨v, k, xs, qs, hvr, hk, rfl, hqs, hql, hown, hiv, hbel⟩ := hrel
   have hvr2 := hvr.symm
   subst hvr2
   by_cases hlt : k < 2
   · obtain ⟨sd, F0, f0, F1, f1, c6, us0, us1, hsd⟩ := HSIDE.out k hlt
     obtain ⟨g, hg⟩ : ∃ g, decide (max P.1 (SD k).1 ≤ min P.2 (SD k).2) = g := ⟨_, rfl⟩
     obtain ⟨r, hr⟩ : ∃ r, r = ivOf (max P.1 (SD k).1) (min P.2 (SD k).2) := ⟨_, rfl⟩
     have hr2 : IvW (max P.1 (SD k).1, min P.2 (SD k).2) r := by rw [hr]; exact IvW.mk _
     have hst := partK_step HG.out hN hlt hg
     have hW1 := from_ HW3.out hbel
     have MT := hid (fun (W : World) (h : Below wr.heap.size wr W) => imeet_w (w := W) Hp.out HG.out hN hsd (ivn_side (N := 60) (by omega) k) (by omega) hr2 hg ((u0.below hW1).below h) ((u1.below hW1).below h) ((us0.below hbel).below h) ((us1.below hbel).below h))
     have hcc := six_keep c6 hbel
     obtain ⟨x0, x1, x2, x3, x4, x5⟩ := hcc
     have HAr := HA.out.below hbel
     obtain ⟨y0, y1, y2, y3, y4, y5, _, _, _, _, _, _, hltA⟩ := id HAr
     have hi3 : (k : Int) < 2 := by omega
     have hbg : ∀ b, v.ownBlock = some b → W3.heap.size ≤ b ∧ b < wr.heap.size := fun b hb => hown.lt b hb
     obtain ⟨Hbg, HO, Hbel, Hqs, Hql, Hiv⟩ := hid6 hbg hown hbel hqs hql hiv
     obtain ⟨Hst, Hr⟩ := hid2 hst hr
     have hax : Below wr.heap.size wr (wr.alloc (.cells #[.bool sd.n0, .bool sd.s0, .slice F0 sd.l0.length f0, .bool sd.n1, .bool sd.s1, .slice F1 sd.l1.length f1] 29)) := (Below.refl _ _).alloc (Nat.le_refl _) _
     have Hax := hid hax
     obtain ⟨i0, hi, hz0, hz1, hz2⟩ := info_parts infoIv
     clear hbg hown hbel hqs hql hiv hst hr hr2 hax hW1 c6 us0 us1 hsd HAr hg
     go_wp2_with fail
     refine (MT.out _ Hax.out).mono ?_
     rintro e w2 ⟨hT, hF, hc⟩
     have Hc2 := hid (from_ (from_ (Below.refl _ _) Hax.out) hc)
     clear x0 x1 x2 x3 x4 x5 y0 y1 y2 y3 y4 y5 MT
     cases g with
     | false =>
       obtain rfl := hF rfl
       obtain ⟨Hb2, HO2, HI2, Hst2⟩ := hid4 (from_ (from_ Hbel.out Hc2.out) ((Below.refl w2.heap.size w2).alloc (Nat.le_refl _) (.cells #[.bool false, .bool false, .slice none 0 0, .bool false, .bool false, .slice none 0 0] 29))) ((own_below HO.out Hc2.out).alloc (.cells #[.bool false, .bool false, .slice none 0 0, .bool false, .bool false, .slice none 0 0] 29)) ((Hiv.out.below Hc2.out).below ((Below.refl w2.heap.size w2).alloc (Nat.le_refl _) (.cells #[.bool false, .bool false, .slice none 0 0, .bool false, .bool false, .slice none 0 0] 29))) (show qs = fmOf (partK P (k + 1)) by rw [Hst.out]; simpa using Hqs.out)
       clear hT hF hc
       go_wp2
       go_roundw
       case rel => exact ⟨_, k + 1, xs, qs, rfl, by omega, by go_num, Hst2.out, by have := Hql.out; omega, HO2.out, HI2.out, Hb2.out⟩
       case measure => simp [intOf]; omega
     | true =>
       obtain ⟨rA, ra, rB, rb, rfl, v0, v1⟩ := hT rfl
       obtain ⟨Hv0, Hv1⟩ := hid2 v0 v1
       clear hT hF hc v0 v1
       go_upto_region 8 with fail
       have ha8 : Below w2.heap.size w2 (w2.alloc (.cells #[.bool r.n0, .bool r.s0, .slice rA r.l0.length ra, .bool r.n1, .bool r.s1, .slice rB r.l1.length rb] 29)) := (Below.refl _ _).alloc (Nat.le_refl _) _
       have B8 := Box6.new w2 (.bool r.n0) (.bool r.s0) (.slice rA r.l0.length ra) (.bool r.n1) (.bool r.s1) (.slice rB r.l1.length rb) 29
       obtain ⟨g8, hg8⟩ : ∃ g8, g8 = w2.heap.size := ⟨_, rfl⟩
       rw [← hg8] at B8
       try simp only [← hg8]
       have Hb8 := hid (from_ Hc2.out ha8)
       have hsz8 : w.heap.size ≤ (wr.alloc (.cells #[.bool sd.n0, .bool sd.s0, .slice F0 sd.l0.length f0, .bool sd.n1, .bool sd.s1, .slice F1 sd.l1.length f1] 29)).heap.size := Nat.le_trans (from_ HW3.out Hbel.out).size Hax.out.size
       obtain ⟨Hw0, Hw1⟩ := hid2 ((Hv0.out.toX (B := w.heap.size) (v := v) (fun b hb => Nat.lt_of_lt_of_le (Hbg.out b hb).2 Hax.out.size) hsz8).below ha8) ((Hv1.out.toX (B := w.heap.size) (v := v) (fun b hb => Nat.lt_of_lt_of_le (Hbg.out b hb).2 Hax.out.size) hsz8).below ha8)
       clear hg8 ha8
       generalize w2.alloc (.cells #[.bool r.n0, .bool r.s0, .slice rA r.l0.length ra, .bool r.n1, .bool r.s1, .slice rB r.l1.length rb] 29) = W8 at *
       obtain ⟨x0, x1, x2, x3, x4, x5, _, _, _, _, _, _, _⟩ := id B8
       have hla := Hql.out
       go_wp2_with (at_builtin; go_loud (refine wpList_appF _ rfl _ _ 37 rfl W3.heap.size 29 i0 (.agg #[.bool false, .bool false, .slice none 0 0, .bool false, .bool false, .slice none 0 0]) 6 80 Tryz.underlying37 hi hz0 hz1 hz2 rfl (by omega) (by omega) _ _ _ rfl ((own_below HO.out Hb8.out).alloc _) W8.heap.size [.bool r.n0, .bool r.s0, .slice rA r.l0.length ra, .bool r.n1, .bool r.s1, .slice rB r.l1.length rb] rfl rfl six_news (by simp [Value.oneCell']) (by omega) (by have h1 := Hbel.out.size; have h2 := Hb8.out.size; simp; omega) ?_); intro v' wb hown' hgrow hfresh)
       have hal := (Below.refl W8.heap.size W8).alloc (Nat.le_refl _) (.cells #[.bool r.n0, .bool r.s0, .slice rA r.l0.length ra, .bool r.n1, .bool r.s1, .slice rB r.l1.length rb] 29)
       have hgB := (from_ (from_ Hbel.out Hb8.out) hal).grown hgrow (from_ (from_ Hbel.out Hb8.out) hal).size (fun b hb => (Hbg.out b hb).1)
       obtain ⟨hiv', Hst2, HO', HgB⟩ := hid4 (IvsO.snoc (p := r) ((Hiv.out.below Hb8.out).below hal) HO.out.1 hgrow hfresh (Hw0.out.below hal) (Hw1.out.below hal)) (show qs ++ [r] = fmOf (partK P (k + 1)) by rw [Hst.out]; (try simp only [if_true]); rw [Hqs.out, Hr.out]; simp [fmOf]) hown' hgB
       clear hgrow hfresh hal hown' hgB x0 x1 x2 x3 x4 x5
       go_wp2
       go_roundw
       case rel => exact ⟨_, k + 1, _, qs ++ [r], rfl, by omega, by go_num, Hst2.out, by rw [List.length_append, List.length_singleton]; omega, by rw [List.length_append, List.length_singleton]; exact HO'.out, hiv'.out, HgB.out⟩
       case measure => simp [intOf]; omega
   · obtain rfl : k = 2 := by omega
     obtain ⟨A9, a9, rfl, hX, hXb⟩ := hiv.fin hown
     rw [partK_two] at hqs
     subst hqs
     rw [fmOf_len] at *
     have HX := hid hX
     have hw3 := HW3.out.size
     obtain ⟨HXb, HE⟩ := hid2 (fun b o h => Nat.le_trans hw3 (hXb b o h)) (from_ HW3.out hbel)
     clear hown hiv hbel hX hXb hw3
     go_wp2
     go_ret
     exact ⟨A9, a9, rfl, HX.out, HXb.out, HE.out⟩
def modM (Q : Int × Int) : Int := plusE bigZ (max (-Q.1) Q.2) (-1)
def modP (P Q : Int × Int) : Int × Int := if P.2 ≤ 0 then (max P.1 (-modM Q), 0) else if 0 ≤ P.1 then (0, min P.2 (modM Q)) else (max P.1 (-modM Q), min P.2 (modM Q))
theorem modM_ok {Q : Int × Int} (h : IvN N Q.1 Q.2) (h0 : ¬ (Q.1 = 0 ∧ Q.2 = 0)) (hN : N ≤ 60) : Ext bigZ (wN N) (modM Q) ∧ 0 ≤ modM Q ∧ Ext bigZ (wN N) (max (-Q.1) Q.2) ∧ 1 ≤ max (-Q.1) Q.2 := by
 obtain ⟨a1, a2, a3, a4, a5⟩ := h
 have h3 := bigZ_pos
 have h4 := wN_le (show N ≤ 64 by omega)
 have h5 := wN_pos N
 have e1 : Ext bigZ (wN N) (max (-Q.1) Q.2) := ext_max a1.neg a2
 have e2 : 1 ≤ max (-Q.1) Q.2 := by omega
 refine ⟨?_, ?_, e1, e2⟩
 · unfold modM plusE
   generalize max (-Q.1) Q.2 = z at *
   unfold Ext at *
   have hb1 := big_one
   rw [if_neg (show ¬ (z = -bigZ ∨ (-1 : Int) = -bigZ) by omega)]
   split
   · exact .inl rfl
   · exact .inr (.inr (by omega))
 · unfold modM plusE
   generalize max (-Q.1) Q.2 = z at *
   have hb1 := big_one
   rw [if_neg (show ¬ (z = -bigZ ∨ (-1 : Int) = -bigZ) by omega)]
   split <;> omega
theorem ivn_mod {P Q : Int × Int} (g : IvN N P.1 P.2) (h : IvN N Q.1 Q.2) (h0 : ¬ (Q.1 = 0 ∧ Q.2 = 0)) (hN : N ≤ 60) : IvN N (modP P Q).1 (modP P Q).2 := by
 obtain ⟨m1, m2, _, _⟩ := modM_ok h h0 hN
 obtain ⟨a1, a2, a3, a4, a5⟩ := g
 have h3 := bigZ_pos
 have h5 := wN_pos N
 have z : Ext bigZ (wN N) 0 := .inr (.inr (by omega))
 unfold modP
 split
 · exact ⟨ext_max a1 m1.neg, z, by dsimp only; omega, by dsimp only; omega, by dsimp only; omega⟩
 · split
   · exact ⟨z, ext_min a2 m1, by dsimp only; omega, by dsimp only; omega, by dsimp only; omega⟩
   · exact ⟨ext_max a1 m1.neg, ext_min a2 m1, by dsimp only; omega, by dsimp only; omega, by dsimp only; omega⟩
theorem igreatest_q {b d : Int} {k : List Nat} (h1 : Pl x b s l) (h2 : Pl y d t k) (h3 : Pl z e r m) (hz : max x y = z) (hu : U64s w Z A c l) (hv : U64s w Y B f k) (hl : l.length ≤ 9000) (hl2 : k.length ≤ 9000) :
  Calls Tryz.prog 39 #[.agg #[.int .i64 b, .bool s, .slice A l.length c], .agg #[.int .i64 d, .bool t, .slice B k.length f]] w fun e' w' => ∃ A' c', e' = .returned (.agg #[.int .i64 e, .bool r, .slice A' m.length c']) ∧ U64s w' old A' c' m ∧ Below w.heap.size w w' := by
 obtain ⟨rb, rs, rl, rA, rc, K⟩ := Pick.ex (decide (y ≤ x)) b s l A c d t k B f
 have g := K.pl h1 h2
 rw [show (bif decide (y ≤ x) then x else y) = z by rw [← hz]; by_cases h : y ≤ x <;> simp [h] <;> omega] at g
 have u := K.u64s hu hv
 obtain rfl := g.uniq.1.trans h3.uniq.1.symm
 obtain rfl := g.uniq.2.1.trans h3.uniq.2.1.symm
 obtain rfl := g.uniq.2.2.trans h3.uniq.2.2.symm
 refine (igreatest_p h1 h2 hu hv hl hl2 K).mono ?_
 rintro e' w' ⟨rfl, hb⟩
 exact ⟨_, _, rfl, u.below hb, hb⟩
theorem ileast_q {b d : Int} {k : List Nat} (h1 : Pl x b s l) (h2 : Pl y d t k) (h3 : Pl z e r m) (hz : min x y = z) (hu : U64s w Z A c l) (hv : U64s w Y B f k) (hl : l.length ≤ 9000) (hl2 : k.length ≤ 9000) :
  Calls Tryz.prog 42 #[.agg #[.int .i64 b, .bool s, .slice A l.length c], .agg #[.int .i64 d, .bool t, .slice B k.length f]] w fun e' w' => ∃ A' c', e' = .returned (.agg #[.int .i64 e, .bool r, .slice A' m.length c']) ∧ U64s w' old A' c' m ∧ Below w.heap.size w w' := by
 obtain ⟨rb, rs, rl, rA, rc, K⟩ := Pick.ex (decide (x ≤ y)) b s l A c d t k B f
 have g := K.pl h1 h2
 rw [show (bif decide (x ≤ y) then x else y) = z by rw [← hz]; by_cases h : x ≤ y <;> simp [h] <;> omega] at g
 have u := K.u64s hu hv
 obtain rfl := g.uniq.1.trans h3.uniq.1.symm
 obtain rfl := g.uniq.2.1.trans h3.uniq.2.1.symm
 obtain rfl := g.uniq.2.2.trans h3.uniq.2.2.symm
 refine (ileast_p h1 h2 hu hv hl hl2 K).mono ?_
 rintro e' w' ⟨rfl, hb⟩
 exact ⟨_, _, rfl, u.below hb, hb⟩
def NoU (w : World) (g : Nat) : Prop := ∀ o n, w.cell? ⟨g, o, none⟩ ≠ some (.int .u64 n)
structure Bx3 (w : World) (g : Nat) : Prop where
 box : Box3 w g (.int .i64 0) (.bool false) (.slice none 0 0)
 no : NoU w g
theorem NoU.below (h : NoU w g) (hl : g < w.heap.size) (hb : Below w.heap.size w w') : NoU w' g := fun o n e => h o n ((World.cell?_of_block (w := w) (a := ⟨g, o, none⟩) (hb.block g hl)).symm.trans e)
theorem NoU.new (w : World) (x : Int) (s : Bool) (A : Option Addr) (n c : Nat) (t : TypeId) : NoU (w.alloc (.cells #[.int .i64 x, .bool s, .slice A n c] t)) w.heap.size := fun o m e => by
 have h := cell_of_row (w.alloc (.cells #[.int .i64 x, .bool s, .slice A n c] t)) w.heap.size o #[.int .i64 x, .bool s, .slice A n c] t (0, 0) (heap_alloc_new w _)
 rw [h] at e
 match o, e with
 | 0, e => cases e
 | 1, e => cases e
 | 2, e => cases e
 | o + 3, e => simp at e
theorem Bx3.new (w : World) (t : TypeId) : Bx3 (w.alloc (.cells #[.int .i64 0, .bool false, .slice none 0 0] t)) w.heap.size := ⟨Box3.new _ _ _ _ _, NoU.new _ _ _ _ _ _ _⟩
theorem Bx3.below (h : Bx3 w g) (hb : Below w.heap.size w w') : Bx3 w' g := ⟨h.box.below hb, h.no.below h.box.lt hb⟩
theorem Bx3.new2 (w : World) (o : Obj) (t : TypeId) : Bx3 ((w.alloc o).alloc (.cells #[.int .i64 0, .bool false, .slice none 0 0] t)) (w.heap.size + 1) := by
 have h := Bx3.new (w.alloc o) t
 rw [World.size_alloc] at h
 exact h
def zNe (g : Nat) : Zone := ⟨fun b => b ≠ g, False⟩
theorem U64s.offB (u : U64s w Z A c l) (h : NoU w g) : U64s w (zNe g) A c l :=
 ⟨u.small, u.cap, u.max, u.nul, fun h0 => by
  obtain ⟨b, o, e, _, _, hc⟩ := u.row h0
  refine ⟨b, o, e, fun hbg => ?_, fun h => h.elim, hc⟩
  subst hbg
  have h1 := hc 0 _ (List.getElem?_eq_getElem h0)
  rw [List.getElem_map] at h1
  exact h _ _ h1⟩
theorem U64s.set3n (u : U64s w Z A c l) (h : NoU w g) (x0 x1 x2 : Value) : U64s (((w.setCell ⟨g, 0, none⟩ x0).setCell ⟨g, 1, none⟩ x1).setCell ⟨g, 2, none⟩ x2) old A c l :=
 ((((u.offB h).set1 g 0 (fun h => h rfl) x0).set1 g 1 (fun h => h rfl) x1).set1 g 2 (fun h => h rfl) x2).mono (le_old _)
theorem NoU.set3 (u : NoU w h) (hn : g ≠ h) (x0 x1 x2 : Value) : NoU (((w.setCell ⟨g, 0, none⟩ x0).setCell ⟨g, 1, none⟩ x1).setCell ⟨g, 2, none⟩ x2) h := fun o n e => by
 rw [World.cell?_setCell_other _ _ _ _ (fun h => hn (by injection h)), World.cell?_setCell_other _ _ _ _ (fun h => hn (by injection h)), World.cell?_setCell_other _ _ _ _ (fun h => hn (by injection h))] at e
 exact u o n e
structure Res1 (W0 w : World) (g : Nat) (b : Int) (s : Bool) (l : List Nat) (A : Option Addr) (c : Nat) : Prop where
 box : Box3 w g (.int .i64 b) (.bool s) (.slice A l.length c)
 no : NoU w g
 u : U64s w old A c l
 lo : W0.heap.size ≤ g
 bel : Below W0.heap.size W0 w
theorem Res1.nw {b : Int} {t : TypeId} (Hc : Below W0.heap.size W0 w) (u : U64s w Z A c l) : Res1 W0 (w.alloc (.cells #[.int .i64 b, .bool s, .slice A l.length c] t)) w.heap.size b s l A c :=
 ⟨Box3.new _ _ _ _ _, NoU.new _ _ _ _ _ _ _, (u.mono (le_old _)).below bal_, Hc.size, from_ Hc bal_⟩
theorem NoU.of3 (h : NoU w g) (hb : Bx3 w g) : NoU (((w.setCell ⟨g, 0, none⟩ (.int .i64 x)).setCell ⟨g, 1, none⟩ (.bool s)).setCell ⟨g, 2, none⟩ (.slice A n c)) g := fun o m e => by
 have hb3 := hb.box.set3 (.int .i64 x) (.bool s) (.slice A n c)
 by_cases h0 : o = 0
 · subst h0; rw [hb3.c0] at e; cases e
 · by_cases h1 : o = 1
   · subst h1; rw [hb3.c1] at e; cases e
   · by_cases h2 : o = 2
     · subst h2; rw [hb3.c2] at e; cases e
     · rw [World.cell?_setCell_other _ _ _ _ (fun h => h2 (by injection h with _ h; exact h.symm)), World.cell?_setCell_other _ _ _ _ (fun h => h1 (by injection h with _ h; exact h.symm)), World.cell?_setCell_other _ _ _ _ (fun h => h0 (by injection h with _ h; exact h.symm))] at e
       exact h o m e
theorem Res1.ol {b : Int} (Hc : Below W0.heap.size W0 w) (H : Bx3 w g) (hg : W0.heap.size ≤ g) (u : U64s w Z A c l) : Res1 W0 (((w.setCell ⟨g, 0, none⟩ (.int .i64 b)).setCell ⟨g, 1, none⟩ (.bool s)).setCell ⟨g, 2, none⟩ (.slice A l.length c)) g b s l A c :=
 ⟨H.box.set3 _ _ _, H.no.of3 H, u.set3n H.no _ _ _, hg, set3_below Hc hg _ _ _⟩
structure Res2 (W0 w : World) (g h : Nat) (b : Int) (s : Bool) (l : List Nat) (A : Option Addr) (c : Nat) (d : Int) (t : Bool) (k : List Nat) (B : Option Addr) (f : Nat) : Prop where
 bx : Box3 w g (.int .i64 b) (.bool s) (.slice A l.length c)
 by_ : Box3 w h (.int .i64 d) (.bool t) (.slice B k.length f)
 nx : NoU w g
 ny : NoU w h
 u : U64s w old A c l
 v : U64s w old B f k
 lx : W0.heap.size ≤ g
 ly : W0.heap.size ≤ h
 ne : g ≠ h
 bel : Below W0.heap.size W0 w
section
variable {W0 w : World} {g h : Nat} {b : Int} {s : Bool} {l : List Nat} {A : Option Addr} {c : Nat} {d : Int} {t : Bool} {k : List Nat} {B : Option Addr} {f : Nat} {Z Y : Zone} {T : TypeId}
theorem Res2.nn (Hc : Below W0.heap.size W0 w) (u : U64s w Z A c l) (v : U64s w Y B f k) : Res2 W0 ((w.alloc (.cells #[.int .i64 b, .bool s, .slice A l.length c] T)).alloc (.cells #[.int .i64 d, .bool t, .slice B k.length f] T)) w.heap.size (w.heap.size + 1) b s l A c d t k B f := by
 have r := Res1.nw (t := T) (b := b) (s := s) Hc u
 have r2 := Res1.nw (t := T) (b := d) (s := t) r.bel (v.below ((Below.refl _ _).alloc (Nat.le_refl _) (.cells #[.int .i64 b, .bool s, .slice A l.length c] T)))
 rw [World.size_alloc] at r2
 have hal := (Below.refl (w.alloc (.cells #[.int .i64 b, .bool s, .slice A l.length c] T)).heap.size (w.alloc (.cells #[.int .i64 b, .bool s, .slice A l.length c] T))).alloc (Nat.le_refl _) (.cells #[.int .i64 d, .bool t, .slice B k.length f] T)
 exact ⟨r.box.below hal, r2.box, r.no.below r.box.lt hal, r2.no, r.u.below hal, r2.u, r.lo, r2.lo, by omega, r2.bel⟩
theorem Res2.nm (Hc : Below W0.heap.size W0 w) (u : U64s w Z A c l) (v : U64s w Y B f k) : Res2 W0 ((w.alloc (.cells #[.int .i64 d, .bool t, .slice B k.length f] T)).alloc (.cells #[.int .i64 b, .bool s, .slice A l.length c] T)) (w.heap.size + 1) w.heap.size b s l A c d t k B f := by
 have r := Res2.nn (T := T) (b := d) (s := t) (d := b) (t := s) Hc v u
 exact ⟨r.by_, r.bx, r.ny, r.nx, r.v, r.u, r.ly, r.lx, r.ne.symm, r.bel⟩
theorem Res2.on (Hc : Below W0.heap.size W0 w) (H : Bx3 w g) (hg : W0.heap.size ≤ g) (u : U64s w Z A c l) (v : U64s w Y B f k) : Res2 W0 ((((w.setCell ⟨g, 0, none⟩ (.int .i64 b)).setCell ⟨g, 1, none⟩ (.bool s)).setCell ⟨g, 2, none⟩ (.slice A l.length c)).alloc (.cells #[.int .i64 d, .bool t, .slice B k.length f] T)) g w.heap.size b s l A c d t k B f := by
 have r := Res1.ol (b := b) (s := s) Hc H hg u
 have v2 := v.set3n H.no (.int .i64 b) (.bool s) (.slice A l.length c)
 have r2 := Res1.nw (t := T) (b := d) (s := t) r.bel v2
 have hz : (((w.setCell ⟨g, 0, none⟩ (.int .i64 b)).setCell ⟨g, 1, none⟩ (.bool s)).setCell ⟨g, 2, none⟩ (.slice A l.length c)).heap.size = w.heap.size := by simp
 rw [hz] at r2
 have hal := (Below.refl _ (((w.setCell ⟨g, 0, none⟩ (.int .i64 b)).setCell ⟨g, 1, none⟩ (.bool s)).setCell ⟨g, 2, none⟩ (.slice A l.length c))).alloc (Nat.le_refl _) (.cells #[.int .i64 d, .bool t, .slice B k.length f] T)
 have hlt := H.box.lt
 exact ⟨r.box.below hal, r2.box, r.no.below r.box.lt hal, r2.no, r.u.below hal, r2.u, r.lo, r2.lo, by omega, r2.bel⟩
theorem Res2.no (Hc : Below W0.heap.size W0 w) (H : Bx3 w h) (hg : W0.heap.size ≤ h) (u : U64s w Z A c l) (v : U64s w Y B f k) : Res2 W0 ((((w.setCell ⟨h, 0, none⟩ (.int .i64 d)).setCell ⟨h, 1, none⟩ (.bool t)).setCell ⟨h, 2, none⟩ (.slice B k.length f)).alloc (.cells #[.int .i64 b, .bool s, .slice A l.length c] T)) w.heap.size h b s l A c d t k B f := by
 have r := Res2.on (T := T) (b := d) (s := t) (d := b) (t := s) Hc H hg v u
 exact ⟨r.by_, r.bx, r.ny, r.nx, r.v, r.u, r.ly, r.lx, r.ne.symm, r.bel⟩
theorem Res2.oo (Hc : Below W0.heap.size W0 w) (H : Bx3 w g) (H2 : Bx3 w h) (hg : W0.heap.size ≤ g) (hh : W0.heap.size ≤ h) (hn : g ≠ h) (u : U64s w Z A c l) (v : U64s w Y B f k) :
  Res2 W0 ((((((w.setCell ⟨g, 0, none⟩ (.int .i64 b)).setCell ⟨g, 1, none⟩ (.bool s)).setCell ⟨g, 2, none⟩ (.slice A l.length c)).setCell ⟨h, 0, none⟩ (.int .i64 d)).setCell ⟨h, 1, none⟩ (.bool t)).setCell ⟨h, 2, none⟩ (.slice B k.length f)) g h b s l A c d t k B f := by
 have r := Res1.ol (b := b) (s := s) Hc H hg u
 have b2 : Bx3 (((w.setCell ⟨g, 0, none⟩ (.int .i64 b)).setCell ⟨g, 1, none⟩ (.bool s)).setCell ⟨g, 2, none⟩ (.slice A l.length c)) h := ⟨H2.box.oth3 g hn _ _ _, H2.no.set3 hn _ _ _⟩
 have v2 := v.set3n H.no (.int .i64 b) (.bool s) (.slice A l.length c)
 have r2 := Res1.ol (b := d) (s := t) r.bel b2 hh v2
 exact ⟨r.box.oth3 h (Ne.symm hn) _ _ _, r2.box, r.no.set3 (Ne.symm hn) _ _ _, r2.no, r.u.set3n b2.no _ _ _, r2.u, hg, hh, hn, r2.bel⟩
end
theorem ipower_w {rs : Bool} {rl : List Nat} (h : Nm (n : Int) s l) (hn : n ≤ 63) (h2 : Nm ((2 ^ n : Nat) : Int) rs rl) (u : U64s w Z A c l) :
  Calls Tryz.prog 92 #[.agg #[.bool false, .bool s, .slice A l.length c]] w fun e w' => ∃ Av cv, e = .returned (.agg #[.bool false, .bool rs, .slice Av rl.length cv]) ∧ U64s w' (new w.heap.size) Av cv rl ∧ Below w.heap.size w w' := by
 obtain ⟨bA, bR, hB0⟩ := boxQ w (.bool false) (.bool s) (.slice A l.length c) (.bool false) (.bool false) (.slice none 0 0) 27 27
 have hrs : rs = false := by rw [h2.1]; exact decide_eq_false (Int.not_lt.2 (Int.natCast_nonneg _))
 have hrl : rl = limbs (2 ^ n) := by rw [h2.2]; rfl
 have hl2 : rl.length ≤ 1 := by
  rw [hrl]
  refine len_limbs_le ?_
  have h1 : 2 ^ n ≤ 2 ^ 63 := Nat.pow_le_pow_right (by omega) hn
  have h3 : (2 : Nat) ^ 63 < 18446744073709551616 ^ 1 := by decide
  omega
 have CI := hid (wint_z (h.isZ (u.below hB0)) (by omega))
 have hlim2 : (limbs 2).length ≤ 100000000000 := Nat.le_trans (len_limbs_le (k := 1) (by decide)) (by omega)
 have hs2 : n * size 2 ≤ 65536 := by
  have : size 2 = 2 := by decide +kernel
  rw [this]; omega
 obtain ⟨PW, AT⟩ := hid2 (fun (W : World) (g : Nat) (hc : W.cell? ⟨g, 0, none⟩ = some (.int .u64 2)) => pow_good (w := W) (m := 2) (n := n) (isN_one (w := W) (g := g) (by omega) (by omega) hc) hlim2 (by omega) hs2) (fun (W : World) (Y : Zone) (D : Option Addr) (d : Nat) (v : U64s W Y D d rl) => iat_p (s := false) v (by omega))
 subst hrs
 obtain ⟨Hrl, HB, HR⟩ := hid3 hrl hB0 bR
 obtain ⟨a0, a1, a2, _, _, _, _⟩ := bA
 clear u h h2 hrl hl2 hlim2 hs2 hB0 bR
 go_enter Tryz.func92, Tryz.ntmps92
 go_wp2_with fail
 refine CI.out.mono ?_
 rintro e w1 ⟨rfl, hc⟩
 replace HR := hid (HR.out.below hc)
 replace HB := hid (from_ HB.out hc)
 have hal := (Below.refl w1.heap.size w1).alloc (Nat.le_refl _) (.cells #[.int .u64 2] 95)
 have hcl : (w1.alloc (.cells #[.int .u64 2] 95)).cell? ⟨w1.heap.size, 0, none⟩ = some (.int .u64 2) := cell_newest rfl rfl
 obtain ⟨PW1, Hal⟩ := hid2 (PW.out _ _ hcl) hal
 clear hc a0 a1 a2 PW hal hcl
 go_wp2_with fail
 refine PW1.out.mono ?_
 rintro e w2 ⟨v, rfl, ⟨D, d, rfl, hv⟩, hc⟩
 have hrl := Hrl.out
 rw [← hrl] at hv ⊢
 replace HR := hid ((HR.out.below Hal.out).below hc)
 replace HB := hid (from_ (from_ HB.out Hal.out) hc)
 have Hv := hid hv
 clear hc hv hrl PW1 Hal CI Hrl
 go_wp2_with fail
 refine (AT.out _ _ _ _ Hv.out).mono ?_
 rintro e w3 ⟨E, e', rfl, hv, hc⟩
 have R3 := HR.out.below hc
 have hlt := HR.out.lt
 have hHB := HB.out
 have HP := hid (R3.put (w := w) (from_ HB.out hc) (show w.heap.size ≤ w.heap.size + 1 by omega) (.bool false) (.bool false) (.slice E rl.length e'))
 have U1 := hid ((HP.out.keep (fun (h : w2.heap.size ≤ w.heap.size + 1) => by omega) hv).mono (new_le HB.out.size))
 obtain ⟨q0, q1, q2, f0, f1, f2, _⟩ := R3
 clear hc hv hlt hHB
 go_wp2
 refine bodyPost_ret (res_bound rfl _ (w.heap.size + 1) rfl HP.out.c0 HP.out.c1 HP.out.c2) rfl ?_
 exact ⟨_, _, rfl, U1.out, HP.out.bel⟩
def hullP : List IvP → IvP
 | [] => (0, 0)
 | p :: t => t.foldl ivJ p
theorem hull_fold (M : IvP) : ∀ (t : List IvP) (o : IvP), (∀ e ∈ o :: t, M.1 ≤ e.1 ∧ e.2 ≤ M.2) → (∃ e ∈ o :: t, e.1 ≤ M.1) → (∃ e ∈ o :: t, M.2 ≤ e.2) → t.foldl ivJ o = M := by
 intro t
 induction t with
 | nil =>
   intro o h h1 h2
   obtain ⟨e, he, h1⟩ := h1
   obtain ⟨f, hf, h2⟩ := h2
   have a1 : o.1 ≤ M.1 := by rw [List.mem_singleton] at he; rw [← he]; exact h1
   have a2 : M.2 ≤ o.2 := by rw [List.mem_singleton] at hf; rw [← hf]; exact h2
   have := h o (List.mem_singleton.2 rfl)
   exact Prod.ext (by simp only [List.foldl_nil]; omega) (by simp only [List.foldl_nil]; omega)
 | cons q t ih =>
   intro o h h1 h2
   have ho := h o List.mem_cons_self
   have hq := h q (List.mem_cons_of_mem _ List.mem_cons_self)
   refine ih (ivJ o q) (fun e he => ?_) ?_ ?_
   · rcases List.mem_cons.1 he with rfl | he
     · unfold ivJ; dsimp only; omega
     · exact h e (List.mem_cons_of_mem _ (List.mem_cons_of_mem _ he))
   · obtain ⟨e, he, h1⟩ := h1
     rcases List.mem_cons.1 he with rfl | he
     · exact ⟨_, List.mem_cons_self, by unfold ivJ; dsimp only; omega⟩
     · rcases List.mem_cons.1 he with rfl | he
       · exact ⟨_, List.mem_cons_self, by unfold ivJ; dsimp only; omega⟩
       · exact ⟨e, List.mem_cons_of_mem _ he, h1⟩
   · obtain ⟨e, he, h2⟩ := h2
     rcases List.mem_cons.1 he with rfl | he
     · exact ⟨_, List.mem_cons_self, by unfold ivJ; dsimp only; omega⟩
     · rcases List.mem_cons.1 he with rfl | he
       · exact ⟨_, List.mem_cons_self, by unfold ivJ; dsimp only; omega⟩
       · exact ⟨e, List.mem_cons_of_mem _ he, h2⟩
theorem hull_eq {L : List IvP} {M : IvP} (h : ∀ e ∈ L, M.1 ≤ e.1 ∧ e.2 ≤ M.2) (h1 : ∃ e ∈ L, e.1 ≤ M.1) (h2 : ∃ e ∈ L, M.2 ≤ e.2) : L ≠ [] ∧ hullP L = M := by
 cases L with
 | nil => obtain ⟨e, he, _⟩ := h1; cases he
 | cons q t => exact ⟨List.cons_ne_nil _ _, hull_fold M t q h h1 h2⟩
def upP (P : IvP) : IvP := (max P.1 1, P.2)
def dnP (P : IvP) : IvP := (max (-P.2) 1, -P.1)
def ivPr (x y : IvP) : IvP := (timesE bigZ x.1 y.1, timesE bigZ x.2 y.2)
def sideP (P : IvP) (b : Bool) : IvP := bif b then dnP P else upP P
def roundP (P Q : IvP) (i : Nat) : List IvP :=
 if (sideP P (i % 2 == 1)).1 ≤ (sideP P (i % 2 == 1)).2 ∧ (sideP Q (i / 2 == 1)).1 ≤ (sideP Q (i / 2 == 1)).2 then
  [if i = 1 ∨ i = 2 then ivNg (ivPr (sideP P (i % 2 == 1)) (sideP Q (i / 2 == 1))) else ivPr (sideP P (i % 2 == 1)) (sideP Q (i / 2 == 1))] else []
def timesL (P Q : IvP) : List IvP := (if (P.1 ≤ 0 ∧ 0 ≤ P.2) ∨ (Q.1 ≤ 0 ∧ 0 ≤ Q.2) then [(0, 0)] else []) ++ (roundP P Q 0 ++ (roundP P Q 1 ++ (roundP P Q 2 ++ roundP P Q 3)))
theorem timesE_negl (x y : Int) : timesE bigZ (-x) y = -timesE bigZ x y := by
 have h0 := bigZ_pos
 unfold timesE
 by_cases h1 : x = 0 ∨ y = 0
 · rw [if_pos h1, if_pos (by omega)]; rfl
 · rw [if_neg h1, if_neg (by omega)]
   by_cases h2 : x = bigZ ∨ x = -bigZ ∨ y = bigZ ∨ y = -bigZ
   · rw [if_pos h2, if_pos (by omega)]
     by_cases h3 : (0 < x ↔ 0 < y)
     · rw [if_pos h3, if_neg (by omega)]
     · rw [if_neg h3, if_pos (by omega)]; omega
   · rw [if_neg h2, if_neg (by omega), Int.neg_mul]
theorem timesE_negr (x y : Int) : timesE bigZ x (-y) = -timesE bigZ x y := by rw [timesE_comm, timesE_negl, timesE_comm]
theorem timesE_zero (x : Int) : timesE bigZ x 0 = 0 ∧ timesE bigZ 0 x = 0 := ⟨if_pos (.inr rfl), if_pos (.inl rfl)⟩
theorem timesE_up {a b : Int} (hx : 0 < x) (hy : 0 < y) (h1 : x ≤ a) (h2 : y ≤ b) (ea : a ≤ bigZ) (eb : b ≤ bigZ) (ex : Ext bigZ (wN 32) x) (ey : Ext bigZ (wN 32) y) (fa : Ext bigZ (wN 32) a) (fb : Ext bigZ (wN 32) b) : timesE bigZ x y ≤ timesE bigZ a b := by
 have hM : wN 32 * wN 32 ≤ bigZ := by rw [wN_mul]; exact Int.le_refl _
 have k := timesE_in (x0 := x) (x := a) (x1 := a) (y0 := y) (y := b) (y1 := b) bigZ_pos hM (wN_le (by omega)) ex fa fa ey fb fb h1 (Int.le_refl _) h2 (Int.le_refl _)
 have h := timesE_in (x0 := x) (x := x) (x1 := a) (y0 := y) (y := y) (y1 := b) bigZ_pos hM (wN_le (by omega)) ex ex fa ey ey fb (Int.le_refl _) h1 (Int.le_refl _) h2
 have h0 := bigZ_pos
 have w0 := wN_pos 32
 have q := wN_le (show 32 ≤ 64 by omega)
 unfold timesE
 rw [if_neg (show ¬ (x = 0 ∨ y = 0) by omega), if_neg (show ¬ (a = 0 ∨ b = 0) by omega)]
 by_cases hb : a = bigZ ∨ a = -bigZ ∨ b = bigZ ∨ b = -bigZ
 · rw [if_pos hb, if_pos (show (0 < a ↔ 0 < b) from ⟨fun _ => by omega, fun _ => by omega⟩)]
   by_cases hc : x = bigZ ∨ x = -bigZ ∨ y = bigZ ∨ y = -bigZ
   · rw [if_pos hc, if_pos (show (0 < x ↔ 0 < y) from ⟨fun _ => by omega, fun _ => by omega⟩)]; omega
   · rw [if_neg hc]
     unfold Ext at ex ey
     have hx2 : x < wN 32 := by omega
     have hy2 : y < wN 32 := by omega
     have m1 := Int.mul_le_mul (Int.le_of_lt hx2) (Int.le_of_lt hy2) (by omega) (by omega)
     omega
 · rw [if_neg hb, if_neg (by omega)]
   exact Int.mul_le_mul h1 h2 (by omega) (by omega)
theorem side_mem (h1 : P.1 ≤ x) (h2 : x ≤ P.2) (hx : x ≠ 0) : (sideP P (decide (x < 0))).1 ≤ x.natAbs ∧ (x.natAbs : Int) ≤ (sideP P (decide (x < 0))).2 := by
 by_cases h : x < 0
 · rw [decide_eq_true h]; unfold sideP dnP; simp only [cond_true]; omega
 · rw [decide_eq_false h]; unfold sideP upP; simp only [cond_false]; omega
theorem side_in {b : Bool} (h : (sideP P b).1 ≤ x ∧ x ≤ (sideP P b).2) : 0 < x ∧ P.1 ≤ (if b then -x else x) ∧ (if b then -x else x) ≤ P.2 := by
 unfold sideP upP dnP at h
 cases b <;> simp at h ⊢ <;> omega
theorem timesE_abs (x y : Int) : timesE bigZ x y = if (decide (x < 0) == decide (y < 0)) then timesE bigZ x.natAbs y.natAbs else -timesE bigZ x.natAbs y.natAbs := by
 by_cases hx : x < 0
 · have ex : x = -(x.natAbs : Int) := by omega
   by_cases hy : y < 0
   · have ey : y = -(y.natAbs : Int) := by omega
     rw [decide_eq_true hx, decide_eq_true hy, if_pos (show (true == true) = true from rfl)]
     conv => lhs; rw [ex, ey, timesE_negl, timesE_negr, Int.neg_neg]
   · have ey : y = (y.natAbs : Int) := by omega
     rw [decide_eq_true hx, decide_eq_false hy, if_neg (by decide)]
     conv => lhs; rw [ex, ey, timesE_negl]
 · have ex : x = (x.natAbs : Int) := by omega
   by_cases hy : y < 0
   · have ey : y = -(y.natAbs : Int) := by omega
     rw [decide_eq_false hx, decide_eq_true hy, if_neg (by decide)]
     conv => lhs; rw [ex, ey, timesE_negr]
   · have ey : y = (y.natAbs : Int) := by omega
     rw [decide_eq_false hx, decide_eq_false hy, if_pos (show (false == false) = true from rfl)]
     conv => lhs; rw [ex, ey]
theorem side_ext {b : Bool} (g : IvN 32 P.1 P.2) : Ext bigZ (wN 32) (sideP P b).1 ∧ Ext bigZ (wN 32) (sideP P b).2 := by
 have e : wN 1 = 18446744073709551616 := rfl
 have e2 := wN_mono (show 1 ≤ 32 by omega)
 have c1 : Ext bigZ (wN 32) 1 := .inr (.inr (by omega))
 cases b
 · exact ⟨ext_max g.lo c1, g.hi⟩
 · exact ⟨ext_max g.hi.neg c1, g.lo.neg⟩
theorem round_mem {e : IvP} (he : e ∈ roundP P Q i) : ((sideP P (i % 2 == 1)).1 ≤ (sideP P (i % 2 == 1)).2 ∧ (sideP Q (i / 2 == 1)).1 ≤ (sideP Q (i / 2 == 1)).2) ∧ e = if i = 1 ∨ i = 2 then ivNg (ivPr (sideP P (i % 2 == 1)) (sideP Q (i / 2 == 1))) else ivPr (sideP P (i % 2 == 1)) (sideP Q (i / 2 == 1)) := by
 unfold roundP at he
 split at he
 · rename_i h
   exact ⟨h, List.mem_singleton.1 he⟩
 · cases he
theorem mem_times {e : IvP} : e ∈ timesL P Q ↔ (((P.1 ≤ 0 ∧ 0 ≤ P.2) ∨ (Q.1 ≤ 0 ∧ 0 ≤ Q.2)) ∧ e = (0, 0)) ∨ ∃ i, i < 4 ∧ e ∈ roundP P Q i := by
 unfold timesL
 rw [List.mem_append, List.mem_append, List.mem_append, List.mem_append]
 constructor
 · rintro (h | h | h | h | h)
   · split at h
     · rename_i h1; exact .inl ⟨h1, List.mem_singleton.1 h⟩
     · cases h
   · exact .inr ⟨0, by omega, h⟩
   · exact .inr ⟨1, by omega, h⟩
   · exact .inr ⟨2, by omega, h⟩
   · exact .inr ⟨3, by omega, h⟩
 · rintro (⟨h, rfl⟩ | ⟨i, hi, h⟩)
   · rw [if_pos h]; exact .inl (List.mem_singleton.2 rfl)
   · match i, hi, h with
     | 0, _, h => exact .inr (.inl h)
     | 1, _, h => exact .inr (.inr (.inl h))
     | 2, _, h => exact .inr (.inr (.inr (.inl h)))
     | 3, _, h => exact .inr (.inr (.inr (.inr h)))
theorem times_cover {a b : Int} (gP : IvN 32 P.1 P.2) (gQ : IvN 32 Q.1 Q.2) (ea : Ext bigZ (wN 32) a) (eb : Ext bigZ (wN 32) b) (h1 : P.1 ≤ a ∧ a ≤ P.2) (h2 : Q.1 ≤ b ∧ b ≤ Q.2) : ∃ e ∈ timesL P Q, e.1 ≤ timesE bigZ a b ∧ timesE bigZ a b ≤ e.2 := by
 by_cases h0 : a = 0 ∨ b = 0
 · refine ⟨(0, 0), mem_times.2 (.inl ⟨by omega, rfl⟩), ?_⟩
   rw [show timesE bigZ a b = 0 from if_pos h0]
   exact ⟨Int.le_refl _, Int.le_refl _⟩
 · have m1 := side_mem h1.1 h1.2 (by omega)
   have m2 := side_mem h2.1 h2.2 (by omega)
   have q1 := side_ext (b := decide (a < 0)) gP
   have q2 := side_ext (b := decide (b < 0)) gQ
   have z0 := bigZ_pos
   have w0 := wN_pos 32
   have w1 := wN_le (show 32 ≤ 64 by omega)
   have ea' : Ext bigZ (wN 32) (a.natAbs : Int) := by unfold Ext at *; omega
   have eb' : Ext bigZ (wN 32) (b.natAbs : Int) := by unfold Ext at *; omega
   have p1 := (side_in ⟨Int.le_refl _, Int.le_trans m1.1 m1.2⟩).1
   have p2 := (side_in ⟨Int.le_refl _, Int.le_trans m2.1 m2.2⟩).1
   have b1 : (sideP P (decide (a < 0))).2 ≤ bigZ := by have := q1.2; unfold Ext at this; omega
   have b2 : (sideP Q (decide (b < 0))).2 ≤ bigZ := by have := q2.2; unfold Ext at this; omega
   have k1 := timesE_up p1 p2 m1.1 m2.1 (by omega) (by omega) q1.1 q2.1 ea' eb'
   have k2 := timesE_up (x := a.natAbs) (y := b.natAbs) (by omega) (by omega) m1.2 m2.2 b1 b2 ea' eb' q1.2 q2.2
   have hab := timesE_abs a b
   obtain ⟨i, hi, hx, hy⟩ : ∃ i : Nat, i < 4 ∧ (i % 2 == 1) = decide (a < 0) ∧ (i / 2 == 1) = decide (b < 0) := by
    cases decide (a < 0) <;> cases decide (b < 0)
    · exact ⟨0, by omega, rfl, rfl⟩
    · exact ⟨2, by omega, rfl, rfl⟩
    · exact ⟨1, by omega, rfl, rfl⟩
    · exact ⟨3, by omega, rfl, rfl⟩
   have hle : (sideP P (i % 2 == 1)).1 ≤ (sideP P (i % 2 == 1)).2 ∧ (sideP Q (i / 2 == 1)).1 ≤ (sideP Q (i / 2 == 1)).2 := by rw [hx, hy]; exact ⟨Int.le_trans m1.1 m1.2, Int.le_trans m2.1 m2.2⟩
   refine ⟨_, mem_times.2 (.inr ⟨i, hi, by unfold roundP; rw [if_pos hle]; exact List.mem_singleton.2 rfl⟩), ?_⟩
   rw [hab, ← hx, ← hy]
   rw [← hx, ← hy] at k1 k2
   match i, hi with
   | 0, _ => exact ⟨k1, k2⟩
   | 1, _ => exact ⟨Int.neg_le_neg k2, Int.neg_le_neg k1⟩
   | 2, _ => exact ⟨Int.neg_le_neg k2, Int.neg_le_neg k1⟩
   | 3, _ => exact ⟨k1, k2⟩
theorem sign_times (x y : Int) (i : Nat) (hi : i < 4) : timesE bigZ (if (i % 2 == 1) = true then -x else x) (if (i / 2 == 1) = true then -y else y) = if i = 1 ∨ i = 2 then -timesE bigZ x y else timesE bigZ x y := by
 match i, hi with
 | 0, _ => rfl
 | 1, _ => exact timesE_negl x y
 | 2, _ => exact timesE_negr x y
 | 3, _ =>
   show timesE bigZ (-x) (-y) = timesE bigZ x y
   rw [timesE_negl, timesE_negr, Int.neg_neg]
theorem timesL_hull (gP : IvN 32 P.1 P.2) (gQ : IvN 32 Q.1 Q.2) : timesL P Q ≠ [] ∧ hullP (timesL P Q) = ivM P Q := by
 have hM : wN 32 * wN 32 ≤ bigZ := by rw [wN_mul]; exact Int.le_refl _
 have k := fun a b (ea : Ext bigZ (wN 32) a) (eb : Ext bigZ (wN 32) b) h1 h2 h3 h4 => timesE_in (x0 := P.1) (x := a) (x1 := P.2) (y0 := Q.1) (y := b) (y1 := Q.2) bigZ_pos hM (wN_le (by omega)) gP.lo ea gP.hi gQ.lo eb gQ.hi h1 h2 h3 h4
 have lp := gP.le
 have lq := gQ.le
 have w0 := wN_pos 32
 have zE : Ext bigZ (wN 32) 0 := .inr (.inr (by omega))
 refine hull_eq (fun e he => ?_) ?_ ?_
 · rcases mem_times.1 he with ⟨h, rfl⟩ | ⟨i, hi, h⟩
   · rcases h with h | h
     · have := k 0 Q.1 zE gQ.lo h.1 h.2 (Int.le_refl _) lq
       rw [(timesE_zero _).2] at this
       exact this
     · have := k P.1 0 gP.lo zE (Int.le_refl _) lp h.1 h.2
       rw [(timesE_zero _).1] at this
       exact this
   · obtain ⟨⟨l1, l2⟩, rfl⟩ := round_mem h
     have a1 := side_in (P := P) (b := i % 2 == 1) ⟨Int.le_refl _, l1⟩
     have a2 := side_in (P := P) (b := i % 2 == 1) ⟨l1, Int.le_refl _⟩
     have b1 := side_in (P := Q) (b := i / 2 == 1) ⟨Int.le_refl _, l2⟩
     have b2 := side_in (P := Q) (b := i / 2 == 1) ⟨l2, Int.le_refl _⟩
     have q1 := side_ext (b := i % 2 == 1) gP
     have q2 := side_ext (b := i / 2 == 1) gQ
     have sg : ∀ (c : Bool) (x : Int), Ext bigZ (wN 32) x → Ext bigZ (wN 32) (if c = true then -x else x) := fun c x hx => by cases c <;> first | exact hx | exact hx.neg
     have c1 := k _ _ (sg _ _ q1.1) (sg _ _ q2.1) a1.2.1 a1.2.2 b1.2.1 b1.2.2
     have c2 := k _ _ (sg _ _ q1.2) (sg _ _ q2.2) a2.2.1 a2.2.2 b2.2.1 b2.2.2
     rw [sign_times _ _ _ hi] at c1 c2
     have m1 : ivPr (sideP P (i % 2 == 1)) (sideP Q (i / 2 == 1)) = (timesE bigZ (sideP P (i % 2 == 1)).1 (sideP Q (i / 2 == 1)).1, timesE bigZ (sideP P (i % 2 == 1)).2 (sideP Q (i / 2 == 1)).2) := rfl
     by_cases h12 : i = 1 ∨ i = 2
     · rw [if_pos h12] at c1 c2 ⊢
       exact ⟨c2.1, c1.2⟩
     · rw [if_neg h12] at c1 c2 ⊢
       exact ⟨c1.1, c2.2⟩
 · have hl : mulLo P.1 P.2 Q.1 Q.2 = timesE bigZ P.1 Q.1 ∨ mulLo P.1 P.2 Q.1 Q.2 = timesE bigZ P.1 Q.2 ∨ mulLo P.1 P.2 Q.1 Q.2 = timesE bigZ P.2 Q.1 ∨ mulLo P.1 P.2 Q.1 Q.2 = timesE bigZ P.2 Q.2 := by unfold mulLo lo4; omega
   show ∃ e ∈ timesL P Q, e.1 ≤ mulLo P.1 P.2 Q.1 Q.2
   rcases hl with h | h | h | h
   · obtain ⟨e, he, h1, _⟩ := times_cover gP gQ gP.lo gQ.lo ⟨Int.le_refl _, lp⟩ ⟨Int.le_refl _, lq⟩; exact ⟨e, he, by rw [h]; exact h1⟩
   · obtain ⟨e, he, h1, _⟩ := times_cover gP gQ gP.lo gQ.hi ⟨Int.le_refl _, lp⟩ ⟨lq, Int.le_refl _⟩; exact ⟨e, he, by rw [h]; exact h1⟩
   · obtain ⟨e, he, h1, _⟩ := times_cover gP gQ gP.hi gQ.lo ⟨lp, Int.le_refl _⟩ ⟨Int.le_refl _, lq⟩; exact ⟨e, he, by rw [h]; exact h1⟩
   · obtain ⟨e, he, h1, _⟩ := times_cover gP gQ gP.hi gQ.hi ⟨lp, Int.le_refl _⟩ ⟨lq, Int.le_refl _⟩; exact ⟨e, he, by rw [h]; exact h1⟩
 · have hl : mulHi P.1 P.2 Q.1 Q.2 = timesE bigZ P.1 Q.1 ∨ mulHi P.1 P.2 Q.1 Q.2 = timesE bigZ P.1 Q.2 ∨ mulHi P.1 P.2 Q.1 Q.2 = timesE bigZ P.2 Q.1 ∨ mulHi P.1 P.2 Q.1 Q.2 = timesE bigZ P.2 Q.2 := by unfold mulHi hi4; omega
   show ∃ e ∈ timesL P Q, mulHi P.1 P.2 Q.1 Q.2 ≤ e.2
   rcases hl with h | h | h | h
   · obtain ⟨e, he, _, h1⟩ := times_cover gP gQ gP.lo gQ.lo ⟨Int.le_refl _, lp⟩ ⟨Int.le_refl _, lq⟩; exact ⟨e, he, by rw [h]; exact h1⟩
   · obtain ⟨e, he, _, h1⟩ := times_cover gP gQ gP.lo gQ.hi ⟨Int.le_refl _, lp⟩ ⟨lq, Int.le_refl _⟩; exact ⟨e, he, by rw [h]; exact h1⟩
   · obtain ⟨e, he, _, h1⟩ := times_cover gP gQ gP.hi gQ.lo ⟨lp, Int.le_refl _⟩ ⟨Int.le_refl _, lq⟩; exact ⟨e, he, by rw [h]; exact h1⟩
   · obtain ⟨e, he, _, h1⟩ := times_cover gP gQ gP.hi gQ.hi ⟨lp, Int.le_refl _⟩ ⟨lq, Int.le_refl _⟩; exact ⟨e, he, by rw [h]; exact h1⟩
theorem NoU.oth6 (u : NoU w h) (hn : g ≠ h) (x0 x1 x2 x3 x4 x5 : Value) : NoU ((((((w.setCell ⟨g, 0, none⟩ x0).setCell ⟨g, 1, none⟩ x1).setCell ⟨g, 2, none⟩ x2).setCell ⟨g, 3, none⟩ x3).setCell ⟨g, 4, none⟩ x4).setCell ⟨g, 5, none⟩ x5) h := fun o n e => by
 rw [World.cell?_setCell_other _ _ _ _ (fun h => hn (by injection h)), World.cell?_setCell_other _ _ _ _ (fun h => hn (by injection h)), World.cell?_setCell_other _ _ _ _ (fun h => hn (by injection h)), World.cell?_setCell_other _ _ _ _ (fun h => hn (by injection h)), World.cell?_setCell_other _ _ _ _ (fun h => hn (by injection h)), World.cell?_setCell_other _ _ _ _ (fun h => hn (by injection h))] at e
 exact u o n e
theorem NoU.one {u : Value} (h : NoU w g) (hc : w.cell? ⟨g, j, none⟩ = some u) (hv : ∀ n, v ≠ .int .u64 n) : NoU (w.setCell ⟨g, j, none⟩ v) g := fun o m e => by
 by_cases ho : o = j
 · subst ho
   rw [World.cell?_setCell_same _ _ _ hc] at e
   injection e with e
   exact hv _ e
 · rw [World.cell?_setCell_other _ _ _ _ (fun h => ho (by injection h with _ h; exact h.symm))] at e
   exact h o m e
theorem NoU.own6 (h : NoU w g) (hb : Box6 w g a0 a1 a2 a3 a4 a5) (n0 s0 n1 s1 : Bool) (A B : Option Addr) (a c b d : Nat) : NoU ((((((w.setCell ⟨g, 0, none⟩ (.bool n0)).setCell ⟨g, 1, none⟩ (.bool s0)).setCell ⟨g, 2, none⟩ (.slice A a c)).setCell ⟨g, 3, none⟩ (.bool n1)).setCell ⟨g, 4, none⟩ (.bool s1)).setCell ⟨g, 5, none⟩ (.slice B b d)) g :=
 ((((((h.one (((BoxL.of6 hb)).c 0 _ rfl) (v := (.bool n0)) (fun n e => by cases e)).one ((((BoxL.of6 hb).set 0 (.bool n0) rfl)).c 1 _ rfl) (v := (.bool s0)) (fun n e => by cases e)).one (((((BoxL.of6 hb).set 0 (.bool n0) rfl).set 1 (.bool s0) rfl)).c 2 _ rfl) (v := (.slice A a c)) (fun n e => by cases e)).one ((((((BoxL.of6 hb).set 0 (.bool n0) rfl).set 1 (.bool s0) rfl).set 2 (.slice A a c) rfl)).c 3 _ rfl) (v := (.bool n1)) (fun n e => by cases e)).one (((((((BoxL.of6 hb).set 0 (.bool n0) rfl).set 1 (.bool s0) rfl).set 2 (.slice A a c) rfl).set 3 (.bool n1) rfl)).c 4 _ rfl) (v := (.bool s1)) (fun n e => by cases e)).one ((((((((BoxL.of6 hb).set 0 (.bool n0) rfl).set 1 (.bool s0) rfl).set 2 (.slice A a c) rfl).set 3 (.bool n1) rfl).set 4 (.bool s1) rfl)).c 5 _ rfl) (v := (.slice B b d)) (fun n e => by cases e))
def gtJ (p : Iv) (K : Nat) : Bool := decide (K < p.l0.length) || decide (K < p.l1.length)
theorem gtJ_no (h : gtJ p K = false) : p.l0.length ≤ K ∧ p.l1.length ≤ K := by
 unfold gtJ at h
 rw [Bool.or_eq_false_iff] at h
 exact ⟨by have := of_decide_eq_false h.1; omega, by have := of_decide_eq_false h.2; omega⟩
theorem g16J_any {L0 L1 : Nat} (hK : K ≤ 1000) (h0 : L0 ≤ 9223372036854775807) (h1 : L1 ≤ 9223372036854775807) :
  Calls Tryz.prog 5 #[.agg #[.bool n0, .bool s0, .slice A L0 a, .bool n1, .bool s1, .slice B L1 b], .int .i64 (K : Int)] w fun e w' => e = .returned (.bool (decide (K < L0) || decide (K < L1))) ∧ Below w.heap.size w w' := by
 have hB : Below w.heap.size w (w.alloc (.cells #[.bool n0, .bool s0, .slice A L0 a, .bool n1, .bool s1, .slice B L1 b] 29)) := (Below.refl _ w).alloc (Nat.le_refl _) _
 obtain ⟨b0, b1, b2, b3, b4, b5, _⟩ := Box6.new w (.bool n0) (.bool s0) (.slice A L0 a) (.bool n1) (.bool s1) (.slice B L1 b) 29
 rcases (by omega : K < L0 ∨ ¬ (K < L0)) with g0 | g0
 · have d1 : decide ((K : Int) < (L0 : Int)) = true := decide_eq_true (by omega)
   have e1 : decide (K < L0) = true := decide_eq_true g0
   rw [e1, Bool.true_or]
   clear g0
   go_enter Tryz.func5, Tryz.ntmps5
   go_wp2
   go_ret
   exact ⟨rfl, hB⟩
 · have d1 : decide ((K : Int) < (L0 : Int)) = false := decide_eq_false (by omega)
   have e1 : decide (K < L0) = false := decide_eq_false g0
   rw [e1, Bool.false_or]
   clear g0
   go_enter Tryz.func5, Tryz.ntmps5
   go_wp2
   go_ret
   exact ⟨by simp, hB⟩
theorem g16J_w (u : U64s w Z1 A a p.l0) (v : U64s w Z2 B b p.l1) :
  Calls Tryz.prog 5 #[.agg #[.bool p.n0, .bool p.s0, .slice A p.l0.length a, .bool p.n1, .bool p.s1, .slice B p.l1.length b], .int .i64 4] w fun e w' => e = .returned (.bool (gtJ p 4)) ∧ Below w.heap.size w w' := by
 have h1 := g16J_any (w := w) (n0 := p.n0) (s0 := p.s0) (n1 := p.n1) (s1 := p.s1) (A := A) (B := B) (a := a) (b := b) (K := 4) (by omega) u.len v.len
 exact h1
theorem itwJ_of (h : p.ok = true) (m0 : Small p.l0) (m1 : Small p.l1) (q0 : p.l0.length ≤ N) (q1 : p.l1.length ≤ N) (hN : N ≤ 60) : IvW (p.lo, p.hi) p ∧ IvN N p.lo p.hi := by
 have hf : p.fine 60 := ⟨m0, m1, by omega, by omega⟩
 have e := Iv.is h hf
 obtain ⟨h1, h2⟩ := okA_ends h
 have r1 := lo_range (n := p.n0) (s := p.s0) m0 (show p.l0.length ≤ 60 by omega)
 have r2 := hi_range (n := p.n1) (s := p.s1) m1 (show p.l1.length ≤ 60 by omega)
 have hle := okA_le h m0 m1 (by omega) (by omega)
 obtain ⟨b, s', l', A', c', P⟩ := Plc.ex (-1) p.n0 p.s0 p.l0 none 0
 obtain ⟨d, t', k', B', e', Q⟩ := Plc.ex 1 p.n1 p.s1 p.l1 none 0
 have u := P.lo h1 m0 (show p.l0.length ≤ 60 by omega)
 have v := Q.hi h2 m1 (show p.l1.length ≤ 60 by omega)
 have g1 := P.len
 have g2 := Q.len
 refine ⟨?_, u.ext (by omega), v.ext (by omega), hle, r1.2, r2.1⟩
 have hk := IvW.mk (p.lo, p.hi)
 rw [show ivOf (p.lo, p.hi).1 (p.lo, p.hi).2 = p from e.symm] at hk
 exact hk
end Go.Proofs.YthpngihjcphigaaGreat
