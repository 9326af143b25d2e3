/- Linear forms: what they may be, plain. No conditions. -/
import Derived.Deep.DeepCutAuto
import Derived.Deep.RegionHeld3
import Derived.Test.YthpngihjcphigaaGreatVItvV
set_option linter.unusedVariables false
set_option linter.unusedSimpArgs false
set_option maxRecDepth 100000
set_option maxHeartbeats 40000000
namespace Go.Proofs.YthpngihjcphigaaGreat
open Go.Lib (hid)
open Go.RowKit
variable {A B C D rA : Option Addr} {M N a c d g h rc : Nat} {W W' W0 w : World} {Y Z Z1 Z2 Z3 Z4 : Zone} {a0 a1 a2 a3 a4 a5 b0 b1 b2 f x0 x1 x2 y0 y1 y2 : Value} {b e rb x y z z0 z1 : Int} {k0 k1 l l' l0 l1 m rl rl0 rl1 : List Nat} {m0 m1 n' n0 n1 p r rn0 rn1 rs rs0 rs1 s s' s0 s1 t t0 t1 : Bool} {ty : TypeId}
def EndL (z : Int) (n s : Bool) (l : List Nat) : Prop := n = nLo z ∧ s = sE z ∧ l = lE z
def EndH (z : Int) (n s : Bool) (l : List Nat) : Prop := n = nHi z ∧ s = sE z ∧ l = lE z
theorem okE_lo {n : Bool} (h : okE n s l = true) (hs : Small l) (hl : l.length ≤ 60) : EndL (loV n s l) n s l := by
 obtain ⟨b, s', l', A', c', P⟩ := Plc.ex (-1) n s l none 0
 have u := P.lo h hs hl
 have r := lo_range (n := n) (s := s) hs hl
 have nu := u.nlo r.2
 obtain ⟨hb, hs', hl'⟩ := u.uniq
 have e1 : n = true → s = false ∧ l = [] := fun hn => by subst hn; simpa [okE] using h
 unfold EndL
 rw [← nu, ← hs', ← hl']
 rcases P with ⟨rfl, rfl, rfl, rfl, _, _⟩ | ⟨rfl, rfl, rfl, rfl, _, _⟩
 · obtain ⟨f1, f2⟩ := e1 rfl
   exact ⟨rfl, f1, f2⟩
 · exact ⟨rfl, rfl, rfl⟩
theorem okE_hi {n : Bool} (h : okE n s l = true) (hs : Small l) (hl : l.length ≤ 60) : EndH (hiV n s l) n s l := by
 obtain ⟨b, s', l', A', c', P⟩ := Plc.ex 1 n s l none 0
 have u := P.hi h hs hl
 have r := hi_range (n := n) (s := s) hs hl
 have nu := u.nhi r.1
 obtain ⟨hb, hs', hl'⟩ := u.uniq
 have e1 : n = true → s = false ∧ l = [] := fun hn => by subst hn; simpa [okE] using h
 unfold EndH
 rw [← nu, ← hs', ← hl']
 rcases P with ⟨rfl, rfl, rfl, rfl, _, _⟩ | ⟨rfl, rfl, rfl, rfl, _, _⟩
 · obtain ⟨f1, f2⟩ := e1 rfl
   exact ⟨rfl, f1, f2⟩
 · exact ⟨rfl, rfl, rfl⟩
theorem EndL.same {n : Bool} (h : EndL z n s l) (h' : EndL x n' s' l') (e : z = x) : n' = n ∧ s' = s ∧ l' = l := by
 subst e
 obtain ⟨rfl, rfl, rfl⟩ := h
 obtain ⟨rfl, rfl, rfl⟩ := h'
 exact ⟨rfl, rfl, rfl⟩
theorem EndH.same {n : Bool} (h : EndH z n s l) (h' : EndH x n' s' l') (e : z = x) : n' = n ∧ s' = s ∧ l' = l := by
 subst e
 obtain ⟨rfl, rfl, rfl⟩ := h
 obtain ⟨rfl, rfl, rfl⟩ := h'
 exact ⟨rfl, rfl, rfl⟩
theorem Box6.lo3 {a b c d e : Value} (h : Box6 W g a b c d e f) (x y z : Value) : Box6 (((W.setCell ⟨g, 0, none⟩ x).setCell ⟨g, 1, none⟩ y).setCell ⟨g, 2, none⟩ z) g x y z d e f :=
 BoxL.six ((((BoxL.of6 h).set 0 x rfl).set 1 y rfl).set 2 z rfl)
theorem Box6.hi3 {a b c d e : Value} (h : Box6 W g a b c d e f) (x y z : Value) : Box6 (((W.setCell ⟨g, 3, none⟩ x).setCell ⟨g, 4, none⟩ y).setCell ⟨g, 5, none⟩ z) g a b c x y z :=
 BoxL.six ((((BoxL.of6 h).set 3 x rfl).set 4 y rfl).set 5 z rfl)
theorem Box6.oth3 {a b c d e : Value} (h : Box6 W g a b c d e f) (g' i j k : Nat) (hn : g' ≠ g) (x y z : Value) : Box6 (((W.setCell ⟨g', i, none⟩ x).setCell ⟨g', j, none⟩ y).setCell ⟨g', k, none⟩ z) g a b c d e f :=
 BoxL.six ((((BoxL.of6 h).other g' i hn x).other g' j hn y).other g' k hn z)
theorem Below.set3 (h : Below w.heap.size w W) (g i j k : Nat) (hg : w.heap.size ≤ g) (x y z : Value) : Below w.heap.size w (((W.setCell ⟨g, i, none⟩ x).setCell ⟨g, j, none⟩ y).setCell ⟨g, k, none⟩ z) :=
 ((h.setCell (p := ⟨g, i, none⟩) hg _).setCell (p := ⟨g, j, none⟩) hg _).setCell (p := ⟨g, k, none⟩) hg _
theorem boxW (w : World) (a0 a1 a2 a3 a4 a5 b0 b1 b2 b3 b4 b5 r0 r1 r2 r3 r4 r5 o0 o1 o2 o3 o4 o5 : Value) (t : TypeId) :
  Box6 ((((w.alloc (.cells #[a0, a1, a2, a3, a4, a5] t)).alloc (.cells #[b0, b1, b2, b3, b4, b5] t)).alloc (.cells #[r0, r1, r2, r3, r4, r5] t)).alloc (.cells #[o0, o1, o2, o3, o4, o5] t)) w.heap.size a0 a1 a2 a3 a4 a5 ∧
  Box6 ((((w.alloc (.cells #[a0, a1, a2, a3, a4, a5] t)).alloc (.cells #[b0, b1, b2, b3, b4, b5] t)).alloc (.cells #[r0, r1, r2, r3, r4, r5] t)).alloc (.cells #[o0, o1, o2, o3, o4, o5] t)) (w.heap.size + 1) b0 b1 b2 b3 b4 b5 ∧
  Box6 ((((w.alloc (.cells #[a0, a1, a2, a3, a4, a5] t)).alloc (.cells #[b0, b1, b2, b3, b4, b5] t)).alloc (.cells #[r0, r1, r2, r3, r4, r5] t)).alloc (.cells #[o0, o1, o2, o3, o4, o5] t)) (w.heap.size + 2) r0 r1 r2 r3 r4 r5 ∧
  Box6 ((((w.alloc (.cells #[a0, a1, a2, a3, a4, a5] t)).alloc (.cells #[b0, b1, b2, b3, b4, b5] t)).alloc (.cells #[r0, r1, r2, r3, r4, r5] t)).alloc (.cells #[o0, o1, o2, o3, o4, o5] t)) (w.heap.size + 3) o0 o1 o2 o3 o4 o5 ∧
  Below w.heap.size w ((((w.alloc (.cells #[a0, a1, a2, a3, a4, a5] t)).alloc (.cells #[b0, b1, b2, b3, b4, b5] t)).alloc (.cells #[r0, r1, r2, r3, r4, r5] t)).alloc (.cells #[o0, o1, o2, o3, o4, o5] t)) := by
 obtain ⟨h1, h2, hb⟩ := boxT w a0 a1 a2 a3 a4 a5 b0 b1 b2 b3 b4 b5 t
 have h3 := Box6.new ((w.alloc (.cells #[a0, a1, a2, a3, a4, a5] t)).alloc (.cells #[b0, b1, b2, b3, b4, b5] t)) r0 r1 r2 r3 r4 r5 t
 rw [show ((w.alloc (.cells #[a0, a1, a2, a3, a4, a5] t)).alloc (.cells #[b0, b1, b2, b3, b4, b5] t)).heap.size = w.heap.size + 2 by simp] at h3
 have h4 := Box6.new (((w.alloc (.cells #[a0, a1, a2, a3, a4, a5] t)).alloc (.cells #[b0, b1, b2, b3, b4, b5] t)).alloc (.cells #[r0, r1, r2, r3, r4, r5] t)) o0 o1 o2 o3 o4 o5 t
 rw [show (((w.alloc (.cells #[a0, a1, a2, a3, a4, a5] t)).alloc (.cells #[b0, b1, b2, b3, b4, b5] t)).alloc (.cells #[r0, r1, r2, r3, r4, r5] t)).heap.size = w.heap.size + 3 by simp] at h4
 exact ⟨(h1.alloc _).alloc _, (h2.alloc _).alloc _, h3.alloc _, h4, (hb.alloc (by simp; omega) _).alloc (by simp; omega) _⟩
theorem r16either_w {b : Nat}
  (u1 : U64s w Z1 A a l0) (u2 : U64s w Z2 B b l1) (u3 : U64s w Z3 C c k0) (u4 : U64s w Z4 D d k1) (h1 : okE n0 s0 l0 = true) (h2 : okE n1 s1 l1 = true) (h3 : okE m0 t0 k0 = true) (h4 : okE m1 t1 k1 = true)
  (q1 : l0.length ≤ 60) (q2 : l1.length ≤ 60) (q3 : k0.length ≤ 60) (q4 : k1.length ≤ 60) (hz0 : z0 = min (loV n0 s0 l0) (loV m0 t0 k0)) (hz1 : z1 = max (hiV n1 s1 l1) (hiV m1 t1 k1)) (e0 : EndL z0 rn0 rs0 rl0) (e1 : EndH z1 rn1 rs1 rl1) :
  Calls Tryz.prog 51 #[.agg #[.bool n0, .bool s0, .slice A l0.length a, .bool n1, .bool s1, .slice B l1.length b], .agg #[.bool m0, .bool t0, .slice C k0.length c, .bool m1, .bool t1, .slice D k1.length d]] w fun e w' => ∃ rA ra rB rb, e = .returned (.agg #[.bool rn0, .bool rs0, .slice rA rl0.length ra, .bool rn1, .bool rs1, .slice rB rl1.length rb]) ∧ U64s w' old rA ra rl0 ∧ U64s w' old rB rb rl1 ∧ Below w.heap.size w w' := by
 have x0 := okE_lo h1 u1.small q1
 have x1 := okE_hi h2 u2.small q2
 have y0 := okE_lo h3 u3.small q3
 have y1 := okE_hi h4 u4.small q4
 have i0 := lo_range (n := n0) (s := s0) u1.small q1
 have i1 := hi_range (n := n1) (s := s1) u2.small q2
 have j0 := lo_range (n := m0) (s := t0) u3.small q3
 have j1 := hi_range (n := m1) (s := t1) u4.small q4
 obtain ⟨bA, bB, bR, bO, hB0⟩ := boxW w (.bool n0) (.bool s0) (.slice A l0.length a) (.bool n1) (.bool s1) (.slice B l1.length b) (.bool m0) (.bool t0) (.slice C k0.length c) (.bool m1) (.bool t1) (.slice D k1.length d) (.bool false) (.bool false) (.slice none 0 0) (.bool false) (.bool false) (.slice none 0 0) (.bool n0) (.bool s0) (.slice A l0.length a) (.bool n1) (.bool s1) (.slice B l1.length b) 29
 obtain ⟨g1, hg1⟩ : ∃ g, sgn (zof t0 k0 - zof s0 l0) = g := ⟨_, rfl⟩
 obtain ⟨g2, hg2⟩ : ∃ g, sgn (zof t1 k1 - zof s1 l1) = g := ⟨_, rfl⟩
 have o1 : (g1 ≤ 0 ↔ zof t0 k0 ≤ zof s0 l0) ∧ (0 ≤ g1 ↔ zof s0 l0 ≤ zof t0 k0) := by rw [← hg1]; unfold sgn; constructor <;> (split <;> (try split) <;> omega)
 have o2 : (g2 ≤ 0 ↔ zof t1 k1 ≤ zof s1 l1) ∧ (0 ≤ g2 ↔ zof s1 l1 ≤ zof t1 k1) := by rw [← hg2]; unfold sgn; constructor <;> (split <;> (try split) <;> omega)
 obtain ⟨C1, C2⟩ := hid2 (fun (W : World) (h : Below w.heap.size w W) (hn : n0 = false) (hm : m0 = false) => cmp5_w (u3.below h) (u1.below h) (by rw [hm] at h3; exact h3) (by rw [hn] at h1; exact h1) q3 q1 hg1) (fun (W : World) (h : Below w.heap.size w W) (hn : n1 = false) (hm : m1 = false) => cmp5_w (u4.below h) (u2.below h) (by rw [hm] at h4; exact h4) (by rw [hn] at h2; exact h2) q4 q2 hg2)
 obtain ⟨bL, hbL⟩ : ∃ b, (m0 || (!n0 && decide (g1 < 0))) = b := ⟨_, rfl⟩
 obtain ⟨bH, hbH⟩ : ∃ b, (m1 || (!n1 && decide (0 < g2))) = b := ⟨_, rfl⟩
 have HL := hid (show (bL = true → (rn0 = m0 ∧ rs0 = t0 ∧ rl0 = k0)) ∧ (bL = false → (rn0 = n0 ∧ rs0 = s0 ∧ rl0 = l0)) from by
  refine ⟨fun h => ?_, fun h => ?_⟩
  · obtain ⟨p, q, r⟩ := y0.same e0 (by rw [hz0]; rw [h] at hbL; cases m0 <;> cases n0 <;> simp only [Bool.true_or, Bool.false_or, Bool.not_true, Bool.not_false, Bool.false_and, Bool.true_and, decide_eq_true_eq, decide_eq_false_iff_not, loV, cond_true, cond_false, reduceCtorEq] at hbL i0 j0 ⊢ <;> omega)
    exact ⟨p, q, r⟩
  · obtain ⟨p, q, r⟩ := x0.same e0 (by rw [hz0]; rw [h] at hbL; cases m0 <;> cases n0 <;> simp only [Bool.true_or, Bool.false_or, Bool.not_true, Bool.not_false, Bool.false_and, Bool.true_and, decide_eq_true_eq, decide_eq_false_iff_not, loV, cond_true, cond_false, reduceCtorEq] at hbL i0 j0 ⊢ <;> omega)
    exact ⟨p, q, r⟩)
 have HH := hid (show (bH = true → (rn1 = m1 ∧ rs1 = t1 ∧ rl1 = k1)) ∧ (bH = false → (rn1 = n1 ∧ rs1 = s1 ∧ rl1 = l1)) from by
  refine ⟨fun h => ?_, fun h => ?_⟩
  · obtain ⟨p, q, r⟩ := y1.same e1 (by rw [hz1]; rw [h] at hbH; cases m1 <;> cases n1 <;> simp only [Bool.true_or, Bool.false_or, Bool.not_true, Bool.not_false, Bool.false_and, Bool.true_and, decide_eq_true_eq, decide_eq_false_iff_not, hiV, cond_true, cond_false, reduceCtorEq] at hbH i1 j1 ⊢ <;> omega)
    exact ⟨p, q, r⟩
  · obtain ⟨p, q, r⟩ := x1.same e1 (by rw [hz1]; rw [h] at hbH; cases m1 <;> cases n1 <;> simp only [Bool.true_or, Bool.false_or, Bool.not_true, Bool.not_false, Bool.false_and, Bool.true_and, decide_eq_true_eq, decide_eq_false_iff_not, hiV, cond_true, cond_false, reduceCtorEq] at hbH i1 j1 ⊢ <;> omega)
    exact ⟨p, q, r⟩)
 obtain ⟨HA, HBb, HR, HO, HB, HbL⟩ := hid6 bA bB bR bO hB0 hbL
 obtain ⟨HbH, U1, U2, U3, U4⟩ := hid5 hbH (u1.mono (le_old _)) (u2.mono (le_old _)) (u3.mono (le_old _)) (u4.mono (le_old _))
 clear x0 x1 y0 y1 i0 i1 j0 j1 bA bB bR bO hB0 hg1 hg2 o1 o2 hbL hbH u1 u2 u3 u4 h1 h2 h3 h4 q1 q2 q3 q4 hz0 hz1 e0 e1
 obtain ⟨gO, hgO⟩ : ∃ g, g = w.heap.size + 3 := ⟨_, rfl⟩
 obtain ⟨gR, hgR⟩ : ∃ g, g = w.heap.size + 2 := ⟨_, rfl⟩
 rw [← hgO] at HO
 rw [← hgR] at HR
 obtain ⟨N1, N2, N3, N4, N5⟩ := hid5 (show gO ≠ w.heap.size by omega) (show gO ≠ w.heap.size + 1 by omega) (show gO ≠ gR by omega) (show w.heap.size ≤ gO by omega) (show w.heap.size ≤ gR by omega)
 go_enter Tryz.func51, Tryz.ntmps51
 go_upto_region 2 with fail
 (try simp only [show w.heap.size + 1 + 1 = w.heap.size + 2 from rfl, show w.heap.size + 2 + 1 = w.heap.size + 3 from rfl])
 simp only [show w.heap.size + 2 = gR from hgR.symm, show w.heap.size + 3 = gO from hgO.symm]
 clear hgR hgO
 generalize ((((w.alloc (.cells #[.bool n0, .bool s0, .slice A l0.length a, .bool n1, .bool s1, .slice B l1.length b] 29)).alloc (.cells #[.bool m0, .bool t0, .slice C k0.length c, .bool m1, .bool t1, .slice D k1.length d] 29)).alloc (.cells #[.bool false, .bool false, .slice none 0 0, .bool false, .bool false, .slice none 0 0] 29)).alloc (.cells #[.bool n0, .bool s0, .slice A l0.length a, .bool n1, .bool s1, .slice B l1.length b] 29)) = W1 at *
 obtain ⟨fv, hfv⟩ : ∃ b, m0 = b := ⟨_, rfl⟩
 obtain ⟨sv, hsv⟩ : ∃ b, n0 = b := ⟨_, rfl⟩
 have HbX := HbL.out
 rw [hfv, hsv] at HbX
 obtain ⟨CX, HX2⟩ := hid2 (fun (W : World) (h : Below w.heap.size w W) (hf : fv = false) (hs : sv = false) => C1.out W h (hsv.trans hs) (hfv.trans hf)) HbX
 clear HbX
 obtain ⟨x0, x1, x2, x3, x4, x5, _, _, _, _, _, _, _⟩ := id HBb.out
 obtain ⟨y0, y1, y2, y3, y4, y5, _, _, _, _, _, _, _⟩ := id HA.out
 rw [hfv] at x0
 rw [hsv] at y0
 clear hfv hsv C1 HbL
 go_upto_region 2 with fail
 go_cut [25] (fun s25 wx => s25 = .bool bL ∧ Below W1.heap.size W1 wx)
 case first =>
  cases fv with
  | true =>
    obtain rfl : true = bL := HX2.out
    go_wp2_with fail
    go_meet
    exact ⟨rfl, Below.refl _ _⟩
  | false =>
    cases sv with
    | true =>
      obtain rfl : false = bL := HX2.out
      go_wp2_with fail
      go_meet
      exact ⟨rfl, Below.refl _ _⟩
    | false =>
      replace CX := hid (fun (W : World) (h : Below w.heap.size w W) => CX.out W h rfl rfl)
      obtain rfl : decide (g1 < 0) = bL := HX2.out
      go_wp2_with fail
      refine (CX.out _ HB.out).mono ?_
      rintro e w2 ⟨rfl, hc⟩
      have Hc := hid hc
      clear hc
      go_wp2_with fail
      go_meet
      exact ⟨rfl, Hc.out⟩
 case rest =>
  clear x0 x1 x2 x3 x4 x5 y0 y1 y2 y3 y4 y5 CX HX2 fv sv
  obtain ⟨rfl, hc⟩ := hcut
  replace HA := hid (HA.out.below hc)
  replace HBb := hid (HBb.out.below hc)
  replace HR := hid (HR.out.below hc)
  replace HO := hid (HO.out.below hc)
  replace HB := hid (from_ HB.out hc)
  clear hc
  obtain ⟨W2, hren⟩ : ∃ W, W = wc := ⟨_, rfl⟩
  subst hren
  go_upto_if 25 with fail
  go_cut [] (fun wx => ∃ (E : Option Addr) (e : Nat), Box6 wx gO (.bool rn0) (.bool rs0) (.slice E rl0.length e) (.bool n1) (.bool s1) (.slice B l1.length b) ∧ U64s w old E e rl0 ∧ Box6 wx w.heap.size (.bool n0) (.bool s0) (.slice A l0.length a) (.bool n1) (.bool s1) (.slice B l1.length b) ∧ Box6 wx (w.heap.size + 1) (.bool m0) (.bool t0) (.slice C k0.length c) (.bool m1) (.bool t1) (.slice D k1.length d) ∧ Box6 wx gR (.bool false) (.bool false) (.slice none 0 0) (.bool false) (.bool false) (.slice none 0 0) ∧ Below w.heap.size w wx)
  case first =>
   cases bL with
   | false =>
     obtain ⟨e1, e2, e3⟩ := HL.out.2 rfl
     have He := hid (And.intro e1 (And.intro e2 e3))
     clear e1 e2 e3
     go_wp2_with fail
     go_meet
     exact ⟨_, _, by rw [He.out.1, He.out.2.1, He.out.2.2]; exact HO.out, by rw [He.out.2.2]; exact U1.out, HA.out, HBb.out, HR.out, HB.out⟩
   | true =>
     obtain ⟨e1, e2, e3⟩ := HL.out.1 rfl
     have He := hid (And.intro e1 (And.intro e2 e3))
     clear e1 e2 e3
     obtain ⟨y0, y1, y2, y3, y4, y5, _, _, _, _, _, _, _⟩ := id HBb.out
     obtain ⟨p0, p1, p2, p3, p4, p5, f0, f1, f2, f3, f4, f5, _⟩ := id HO.out
     obtain ⟨KO, KA, KB, KR, KW⟩ := hid5 (HO.out.lo3 (.bool m0) (.bool t0) (.slice C k0.length c)) (HA.out.oth3 gO 0 1 2 N1.out (.bool m0) (.bool t0) (.slice C k0.length c)) (HBb.out.oth3 gO 0 1 2 N2.out (.bool m0) (.bool t0) (.slice C k0.length c)) (HR.out.oth3 gO 0 1 2 N3.out (.bool m0) (.bool t0) (.slice C k0.length c)) (Below.set3 HB.out gO 0 1 2 N4.out (.bool m0) (.bool t0) (.slice C k0.length c))
     go_wp2_with fail
     go_meet
     exact ⟨_, _, by rw [He.out.1, He.out.2.1, He.out.2.2]; exact KO.out, by rw [He.out.2.2]; exact U3.out, KA.out, KB.out, KR.out, KW.out⟩
  case rest =>
   clear HO HA HBb HR HB HL
   obtain ⟨E0, e0, ho, hu, ha, hb, hr, hw⟩ := hcut
   obtain ⟨HO, V0, HA, HBb, HR, HB⟩ := hid6 ho hu ha hb hr hw
   clear ho hu ha hb hr hw
   obtain ⟨X0, hren⟩ : ∃ W, W = wc := ⟨_, rfl⟩
   subst hren
   obtain ⟨fv, hfv⟩ : ∃ b, m1 = b := ⟨_, rfl⟩
   obtain ⟨sv, hsv⟩ : ∃ b, n1 = b := ⟨_, rfl⟩
   have HbX := HbH.out
   rw [hfv, hsv] at HbX
   obtain ⟨CX, HX2⟩ := hid2 (fun (W : World) (h : Below w.heap.size w W) (hf : fv = false) (hs : sv = false) => C2.out W h (hsv.trans hs) (hfv.trans hf)) HbX
   clear HbX
   obtain ⟨x0, x1, x2, x3, x4, x5, _, _, _, _, _, _, _⟩ := id HBb.out
   obtain ⟨y0, y1, y2, y3, y4, y5, _, _, _, _, _, _, _⟩ := id HA.out
   rw [hfv] at x3
   rw [hsv] at y3
   clear hfv hsv C2 HbH
   go_upto_region 4 with fail
   go_cut [47] (fun s47 wx => s47 = .bool bH ∧ Below X0.heap.size X0 wx)
   case first =>
    cases fv with
    | true =>
      obtain rfl : true = bH := HX2.out
      go_wp2_with fail
      go_meet
      exact ⟨rfl, Below.refl _ _⟩
    | false =>
      cases sv with
      | true =>
        obtain rfl : false = bH := HX2.out
        go_wp2_with fail
        go_meet
        exact ⟨rfl, Below.refl _ _⟩
      | false =>
        replace CX := hid (fun (W : World) (h : Below w.heap.size w W) => CX.out W h rfl rfl)
        obtain rfl : decide (0 < g2) = bH := HX2.out
        go_wp2_with fail
        refine (CX.out _ HB.out).mono ?_
        rintro e w2 ⟨rfl, hc⟩
        have Hc := hid hc
        clear hc
        go_wp2_with fail
        go_meet
        exact ⟨rfl, Hc.out⟩
   case rest =>
    clear x0 x1 x2 x3 x4 x5 y0 y1 y2 y3 y4 y5 CX HX2 fv sv
    obtain ⟨rfl, hc⟩ := hcut
    replace HA := hid (HA.out.below hc)
    replace HBb := hid (HBb.out.below hc)
    replace HR := hid (HR.out.below hc)
    replace HO := hid (HO.out.below hc)
    replace HB := hid (from_ HB.out hc)
    clear hc
    obtain ⟨W3, hren⟩ : ∃ W, W = wc := ⟨_, rfl⟩
    subst hren
    go_upto_if 47 with fail
    go_cut [] (fun wx => ∃ (E : Option Addr) (e : Nat), Box6 wx gO (.bool rn0) (.bool rs0) (.slice E0 rl0.length e0) (.bool rn1) (.bool rs1) (.slice E rl1.length e) ∧ U64s w old E e rl1 ∧ Box6 wx w.heap.size (.bool n0) (.bool s0) (.slice A l0.length a) (.bool n1) (.bool s1) (.slice B l1.length b) ∧ Box6 wx (w.heap.size + 1) (.bool m0) (.bool t0) (.slice C k0.length c) (.bool m1) (.bool t1) (.slice D k1.length d) ∧ Box6 wx gR (.bool false) (.bool false) (.slice none 0 0) (.bool false) (.bool false) (.slice none 0 0) ∧ Below w.heap.size w wx)
    case first =>
     cases bH with
     | false =>
       obtain ⟨e1, e2, e3⟩ := HH.out.2 rfl
       have He := hid (And.intro e1 (And.intro e2 e3))
       clear e1 e2 e3
       go_wp2_with fail
       go_meet
       exact ⟨_, _, by rw [He.out.1, He.out.2.1, He.out.2.2]; exact HO.out, by rw [He.out.2.2]; exact U2.out, HA.out, HBb.out, HR.out, HB.out⟩
     | true =>
       obtain ⟨e1, e2, e3⟩ := HH.out.1 rfl
       have He := hid (And.intro e1 (And.intro e2 e3))
       clear e1 e2 e3
       obtain ⟨y0, y1, y2, y3, y4, y5, _, _, _, _, _, _, _⟩ := id HBb.out
       obtain ⟨p0, p1, p2, p3, p4, p5, f0, f1, f2, f3, f4, f5, _⟩ := id HO.out
       obtain ⟨KO, KA, KB, KR, KW⟩ := hid5 (HO.out.hi3 (.bool m1) (.bool t1) (.slice D k1.length d)) (HA.out.oth3 gO 3 4 5 N1.out (.bool m1) (.bool t1) (.slice D k1.length d)) (HBb.out.oth3 gO 3 4 5 N2.out (.bool m1) (.bool t1) (.slice D k1.length d)) (HR.out.oth3 gO 3 4 5 N3.out (.bool m1) (.bool t1) (.slice D k1.length d)) (Below.set3 HB.out gO 3 4 5 N4.out (.bool m1) (.bool t1) (.slice D k1.length d))
       go_wp2_with fail
       go_meet
       exact ⟨_, _, by rw [He.out.1, He.out.2.1, He.out.2.2]; exact KO.out, by rw [He.out.2.2]; exact U4.out, KA.out, KB.out, KR.out, KW.out⟩
    case rest =>
     clear HO HA HBb HR HB HH
     obtain ⟨E1, e1, ho, hu, ha, hb, hr, hw⟩ := hcut
     obtain ⟨HO, V1, HA, HBb, HR, HB⟩ := hid6 ho hu ha hb hr hw
     clear ho hu ha hb hr hw
     obtain ⟨X1, hren⟩ : ∃ W, W = wc := ⟨_, rfl⟩
     subst hren
     go_upto_region 6 with fail
     have KR := hid (HR.out.put (w := w) HB.out N5.out (.bool rn0) (.bool rs0) (.slice E0 rl0.length e0) (.bool rn1) (.bool rs1) (.slice E1 rl1.length e1))
     obtain ⟨p0, p1, p2, p3, p4, p5, _, _, _, _, _, _, _⟩ := id HO.out
     have d0 := HR.out.cf
     go_cut [] (fun wx => Put6 w wx gR (.bool rn0) (.bool rs0) (.slice E0 rl0.length e0) (.bool rn1) (.bool rs1) (.slice E1 rl1.length e1))
     case first =>
      go_wp2_with fail
      go_meet
      exact KR.out
     case rest =>
      have hP := hcut
      have HP := hid hP
      clear hP KR p0 p1 p2 p3 p4 p5 d0
      refine (‹∀ (a : Act) (w : World), Code.wp Tryz.prog Code.ret _ a w → _›) _ _ ?_
      refine wp_ret ?_
      (try simp only [Exit.then])
      change bodyPost _ _ _ _ _ _
      refine bodyPost_ret (res_itv rfl _ gR rfl HP.out.box) rfl ?_
      exact ⟨E0, e0, E1, e1, rfl, V0.out.below HP.out.bel, V1.out.below HP.out.bel, HP.out.bel⟩
theorem okA_le (h : okA n0 s0 l0 n1 s1 l1 = true) (m0 : Small l0) (m1 : Small l1) (q0 : l0.length ≤ 60) (q1 : l1.length ≤ 60) : loV n0 s0 l0 ≤ hiV n1 s1 l1 := by
 have i0 := lo_range (n := n0) (s := s0) m0 q0
 have i1 := hi_range (n := n1) (s := s1) m1 q1
 unfold okA at h
 simp only [Bool.and_eq_true, Bool.or_eq_true, decide_eq_true_eq] at h
 obtain ⟨_, _, h⟩ := h
 rcases h with rfl | rfl | h
 · show -bigZ ≤ _; omega
 · show _ ≤ bigZ; omega
 · cases n0
   · cases n1
     · exact h
     · show _ ≤ bigZ; omega
   · show -bigZ ≤ _; omega
theorem given4 {p q r s : Pq} {b : Nat} (h1 : Pl p.x p.b p.s p.l) (h2 : Pl q.x q.b q.s q.l) (h3 : Pl r.x r.b r.s r.l) (h4 : Pl s.x s.b s.s s.l) (u1 : U64s W Z1 A a p.l) (u2 : U64s W Z2 B b q.l) (u3 : U64s W Z3 C c r.l) (u4 : U64s W Z4 D d s.l) (q1 : p.l.length ≤ 9000) (q2 : q.l.length ≤ 9000) (q3 : r.l.length ≤ 9000) (q4 : s.l.length ≤ 9000) :
  GivenP (W.alloc (.cells #[.int .i64 p.b, .bool p.s, .slice A p.l.length a, .int .i64 q.b, .bool q.s, .slice B q.l.length b, .int .i64 r.b, .bool r.s, .slice C r.l.length c, .int .i64 s.b, .bool s.s, .slice D s.l.length d] ty)) W.heap.size [p, q, r, s] := fun j hj => by
 have hb0 : Below W.heap.size W (W.alloc (.cells #[.int .i64 p.b, .bool p.s, .slice A p.l.length a, .int .i64 q.b, .bool q.s, .slice B q.l.length b, .int .i64 r.b, .bool r.s, .slice C r.l.length c, .int .i64 s.b, .bool s.s, .slice D s.l.length d] ty)) := (Below.refl _ W).alloc (Nat.le_refl _) _
 match j, hj with
 | 0, _ => exact ⟨A, a, cell_newest rfl rfl, cell_newest rfl rfl, cell_newest rfl rfl, h1, (u1.below hb0).mono (le_old _), q1⟩
 | 1, _ => exact ⟨B, b, cell_newest rfl rfl, cell_newest rfl rfl, cell_newest rfl rfl, h2, (u2.below hb0).mono (le_old _), q2⟩
 | 2, _ => exact ⟨C, c, cell_newest rfl rfl, cell_newest rfl rfl, cell_newest rfl rfl, h3, (u3.below hb0).mono (le_old _), q3⟩
 | 3, _ => exact ⟨D, d, cell_newest rfl rfl, cell_newest rfl rfl, cell_newest rfl rfl, h4, (u4.below hb0).mono (le_old _), q4⟩
theorem given2 {p q : Pq} {b : Nat} (h1 : Pl p.x p.b p.s p.l) (h2 : Pl q.x q.b q.s q.l) (u1 : U64s W Z1 A a p.l) (u2 : U64s W Z2 B b q.l) (q1 : p.l.length ≤ 9000) (q2 : q.l.length ≤ 9000) :
  GivenP (W.alloc (.cells #[.int .i64 p.b, .bool p.s, .slice A p.l.length a, .int .i64 q.b, .bool q.s, .slice B q.l.length b] ty)) W.heap.size [p, q] := fun j hj => by
 have hb0 : Below W.heap.size W (W.alloc (.cells #[.int .i64 p.b, .bool p.s, .slice A p.l.length a, .int .i64 q.b, .bool q.s, .slice B q.l.length b] ty)) := (Below.refl _ W).alloc (Nat.le_refl _) _
 match j, hj with
 | 0, _ => exact ⟨A, a, cell_newest rfl rfl, cell_newest rfl rfl, cell_newest rfl rfl, h1, (u1.below hb0).mono (le_old _), q1⟩
 | 1, _ => exact ⟨B, b, cell_newest rfl rfl, cell_newest rfl rfl, cell_newest rfl rfl, h2, (u2.below hb0).mono (le_old _), q2⟩
theorem min4 {a c d m : Int} (h : m = lo4 a b c d) : (∀ x ∈ [a, b, c, d], m ≤ x) ∧ m ∈ [a, b, c, d] := by
 subst h
 unfold lo4
 constructor
 · intro x hx
   simp only [List.mem_cons, List.not_mem_nil, or_false] at hx
   rcases hx with rfl | rfl | rfl | rfl <;> omega
 · simp only [List.mem_cons, List.not_mem_nil, or_false]
   omega
theorem max4 {a c d m : Int} (h : m = hi4 a b c d) : (∀ x ∈ [a, b, c, d], x ≤ m) ∧ m ∈ [a, b, c, d] := by
 subst h
 unfold hi4
 constructor
 · intro x hx
   simp only [List.mem_cons, List.not_mem_nil, or_false] at hx
   rcases hx with rfl | rfl | rfl | rfl <;> omega
 · simp only [List.mem_cons, List.not_mem_nil, or_false]
   omega
theorem ends_of {ps : List Pq} {m : Int} (h : (∀ x ∈ ps.map Pq.x, m ≤ x) ∧ m ∈ ps.map Pq.x) : (∀ j (hj : j < ps.length), m ≤ ps[j].x) ∧ ∃ j, ∃ (hj : j < ps.length), ps[j].x = m := by
 refine ⟨fun j hj => h.1 _ (List.mem_map.2 ⟨_, List.getElem_mem hj, rfl⟩), ?_⟩
 obtain ⟨p, hp, e⟩ := List.mem_map.1 h.2
 obtain ⟨j, hj, rfl⟩ := List.getElem_of_mem hp
 exact ⟨j, hj, e⟩
theorem ends_of' {ps : List Pq} {m : Int} (h : (∀ x ∈ ps.map Pq.x, x ≤ m) ∧ m ∈ ps.map Pq.x) : (∀ j (hj : j < ps.length), ps[j].x ≤ m) ∧ ∃ j, ∃ (hj : j < ps.length), ps[j].x = m := by
 refine ⟨fun j hj => h.1 _ (List.mem_map.2 ⟨_, List.getElem_mem hj, rfl⟩), ?_⟩
 obtain ⟨p, hp, e⟩ := List.mem_map.1 h.2
 obtain ⟨j, hj, rfl⟩ := List.getElem_of_mem hp
 exact ⟨j, hj, e⟩
theorem icorners4 {p q r s : Pq} {b : Nat} (h1 : Pl p.x p.b p.s p.l) (h2 : Pl q.x q.b q.s q.l) (h3 : Pl r.x r.b r.s r.l) (h4 : Pl s.x s.b s.s s.l) (u1 : U64s W Z1 A a p.l) (u2 : U64s W Z2 B b q.l) (u3 : U64s W Z3 C c r.l) (u4 : U64s W Z4 D d s.l) (q1 : p.l.length ≤ 9000) (q2 : q.l.length ≤ 9000) (q3 : r.l.length ≤ 9000) (q4 : s.l.length ≤ 9000)
  {m M : Int} (hm : m = lo4 p.x q.x r.x s.x) (hM : M = hi4 p.x q.x r.x s.x) (gm : m < bigZ) (gM : -bigZ < M) (e0 : EndL m n0 s0 l0) (e1 : EndH M n1 s1 l1) :
  Calls Tryz.prog 71 #[.slice (some ⟨W.heap.size, 0, none⟩) 4 4] (W.alloc (.cells #[.int .i64 p.b, .bool p.s, .slice A p.l.length a, .int .i64 q.b, .bool q.s, .slice B q.l.length b, .int .i64 r.b, .bool r.s, .slice C r.l.length c, .int .i64 s.b, .bool s.s, .slice D s.l.length d] ty)) fun e w' => ∃ A1 c1 A2 c2, e = .returned (.agg #[.bool n0, .bool s0, .slice A1 l0.length c1, .bool n1, .bool s1, .slice A2 l1.length c2]) ∧ U64s w' (new W.heap.size) A1 c1 l0 ∧ U64s w' (new W.heap.size) A2 c2 l1 ∧ Below W.heap.size W w' := by
 have x1 := ends_of (ps := [p, q, r, s]) (min4 hm)
 have x2 := ends_of' (ps := [p, q, r, s]) (max4 hM)
 have hb0 : Below W.heap.size W (W.alloc (.cells #[.int .i64 p.b, .bool p.s, .slice A p.l.length a, .int .i64 q.b, .bool q.s, .slice B q.l.length b, .int .i64 r.b, .bool r.s, .slice C r.l.length c, .int .i64 s.b, .bool s.s, .slice D s.l.length d] ty)) := (Below.refl _ W).alloc (Nat.le_refl _) _
 refine (icorners_p (n := 4) (c := 4) (given4 h1 h2 h3 h4 u1 u2 u3 u4 q1 q2 q3 q4) rfl (by simp) x1.1 x1.2 x2.1 x2.2 gm gM e0 e1).mono ?_
 rintro e w' ⟨A1, c1, A2, c2, rfl, v1, v2, hb⟩
 exact ⟨A1, c1, A2, c2, rfl, v1.mono (new_le hb0.size), v2.mono (new_le hb0.size), from_ hb0 hb⟩
theorem boxX (w : World) (a0 a1 a2 a3 a4 a5 b0 b1 b2 b3 b4 b5 r0 r1 r2 r3 r4 r5 : Value) (t : TypeId) :
  Box6 (((w.alloc (.cells #[a0, a1, a2, a3, a4, a5] t)).alloc (.cells #[b0, b1, b2, b3, b4, b5] t)).alloc (.cells #[r0, r1, r2, r3, r4, r5] t)) w.heap.size a0 a1 a2 a3 a4 a5 ∧
  Box6 (((w.alloc (.cells #[a0, a1, a2, a3, a4, a5] t)).alloc (.cells #[b0, b1, b2, b3, b4, b5] t)).alloc (.cells #[r0, r1, r2, r3, r4, r5] t)) (w.heap.size + 1) b0 b1 b2 b3 b4 b5 ∧
  Box6 (((w.alloc (.cells #[a0, a1, a2, a3, a4, a5] t)).alloc (.cells #[b0, b1, b2, b3, b4, b5] t)).alloc (.cells #[r0, r1, r2, r3, r4, r5] t)) (w.heap.size + 2) r0 r1 r2 r3 r4 r5 ∧
  Below w.heap.size w (((w.alloc (.cells #[a0, a1, a2, a3, a4, a5] t)).alloc (.cells #[b0, b1, b2, b3, b4, b5] t)).alloc (.cells #[r0, r1, r2, r3, r4, r5] t)) := by
 obtain ⟨h1, h2, hb⟩ := boxT w a0 a1 a2 a3 a4 a5 b0 b1 b2 b3 b4 b5 t
 have h3 := Box6.new ((w.alloc (.cells #[a0, a1, a2, a3, a4, a5] t)).alloc (.cells #[b0, b1, b2, b3, b4, b5] t)) r0 r1 r2 r3 r4 r5 t
 rw [show ((w.alloc (.cells #[a0, a1, a2, a3, a4, a5] t)).alloc (.cells #[b0, b1, b2, b3, b4, b5] t)).heap.size = w.heap.size + 2 by simp] at h3
 exact ⟨h1.alloc _, h2.alloc _, h3, hb.alloc (by simp; omega) _⟩
theorem boxT_st6 {r : Nat} {b3 b4 b5 x0 x1 x2 x3 x4 x5 : Value} (hg : r ≠ g) (hh : r ≠ h)
  (hs : D6 W g a0 a1 a2 a3 a4 a5 (C6 W h b0 b1 b2 b3 b4 b5)) :
  let V := ((((((W.setCell ⟨r, 0, none⟩ x0).setCell ⟨r, 1, none⟩ x1).setCell ⟨r, 2, none⟩ x2).setCell ⟨r, 3, none⟩ x3).setCell ⟨r, 4, none⟩ x4).setCell ⟨r, 5, none⟩ x5)
  D6 V g a0 a1 a2 a3 a4 a5 (C6 V h b0 b1 b2 b3 b4 b5) := by
 obtain ⟨h0, h1, h2, h3, h4, h5, h6, h7, h8, h9, h10, h11⟩ := hs
 exact ⟨st6 h0 hg, st6 h1 hg, st6 h2 hg, st6 h3 hg, st6 h4 hg, st6 h5 hg, st6 h6 hh, st6 h7 hh, st6 h8 hh, st6 h9 hh, st6 h10 hh, st6 h11 hh⟩
theorem ijoin_p {b : Nat}
  (u1 : U64s w Z1 A a l0) (u2 : U64s w Z2 B b l1) (u3 : U64s w Z3 C c k0) (u4 : U64s w Z4 D d k1) (h1 : okA n0 s0 l0 n1 s1 l1 = true) (h2 : okA m0 t0 k0 m1 t1 k1 = true)
  (q1 : l0.length ≤ 60) (q2 : l1.length ≤ 60) (q3 : k0.length ≤ 60) (q4 : k1.length ≤ 60)
  (hz0 : z0 = min (loV n0 s0 l0) (loV m0 t0 k0)) (hz1 : z1 = max (hiV n1 s1 l1) (hiV m1 t1 k1)) (e0 : EndL z0 rn0 rs0 rl0) (e1 : EndH z1 rn1 rs1 rl1) :
  Calls Tryz.prog 37 #[.agg #[.bool n0, .bool s0, .slice A l0.length a, .bool n1, .bool s1, .slice B l1.length b], .agg #[.bool m0, .bool t0, .slice C k0.length c, .bool m1, .bool t1, .slice D k1.length d]] w fun e w' => ∃ rA ra rB rb, e = .returned (.agg #[.bool rn0, .bool rs0, .slice rA rl0.length ra, .bool rn1, .bool rs1, .slice rB rl1.length rb]) ∧ U64s w' (new w.heap.size) rA ra rl0 ∧ U64s w' (new w.heap.size) rB rb rl1 ∧ Below w.heap.size w w' := by
 obtain ⟨bA, bB, bR, hB0⟩ := boxX w (.bool n0) (.bool s0) (.slice A l0.length a) (.bool n1) (.bool s1) (.slice B l1.length b) (.bool m0) (.bool t0) (.slice C k0.length c) (.bool m1) (.bool t1) (.slice D k1.length d) (.bool false) (.bool false) (.slice none 0 0) (.bool false) (.bool false) (.slice none 0 0) 29
 obtain ⟨ea1, ea2⟩ := okA_ends h1
 obtain ⟨eb1, eb2⟩ := okA_ends h2
 obtain ⟨x1, xs1, xl1, xA1, xc1, P1⟩ := Plc.ex (-1) n0 s0 l0 A a
 obtain ⟨x2, xs2, xl2, xA2, xc2, P2⟩ := Plc.ex 1 n1 s1 l1 B b
 obtain ⟨x3, xs3, xl3, xA3, xc3, P3⟩ := Plc.ex (-1) m0 t0 k0 C c
 obtain ⟨x4, xs4, xl4, xA4, xc4, P4⟩ := Plc.ex 1 m1 t1 k1 D d
 have p1 := P1.lo ea1 u1.small q1
 have p2 := P2.hi ea2 u2.small q2
 have p3 := P3.lo eb1 u3.small q3
 have p4 := P4.hi eb2 u4.small q4
 have r1 := P1.len
 have r2 := P2.len
 have r3 := P3.len
 have r4 := P4.len
 have v1 := P1.u64s u1
 have v2 := P2.u64s u2
 have v3 := P3.u64s u3
 have v4 := P4.u64s u4
 have i1 := lo_range (n := n0) (s := s0) u1.small q1
 have i2 := hi_range (n := n1) (s := s1) u2.small q2
 have i3 := lo_range (n := m0) (s := t0) u3.small q3
 have i4 := hi_range (n := m1) (s := t1) u4.small q4
 obtain ⟨L1, L2, L3, L4⟩ := hid4 (fun (W : World) => ilow_p (w := W) (v3 := .bool n1) (v4 := .bool s1) (v5 := .slice B l1.length b) P1) (fun (W : World) => ihigh_p (w := W) (v3 := .bool n0) (v4 := .bool s0) (v5 := .slice A l0.length a) P2) (fun (W : World) => ilow_p (w := W) (v3 := .bool m1) (v4 := .bool t1) (v5 := .slice D k1.length d) P3) (fun (W : World) => ihigh_p (w := W) (v3 := .bool m0) (v4 := .bool t0) (v5 := .slice C k0.length c) P4)
 have w1 := okA_le h1 u1.small u2.small q1 q2
 have w2 := okA_le h2 u3.small u4.small q3 q4
 generalize loV n0 s0 l0 = X1 at *
 generalize hiV n1 s1 l1 = X2 at *
 generalize loV m0 t0 k0 = X3 at *
 generalize hiV m1 t1 k1 = X4 at *
 have COR := hid (fun (W : World) (ty : TypeId) (h : Below w.heap.size w W) => icorners4 (W := W) (ty := ty) (p := ⟨_, x1, xs1, xl1⟩) (q := ⟨_, x2, xs2, xl2⟩) (r := ⟨_, x3, xs3, xl3⟩) (s := ⟨_, x4, xs4, xl4⟩) p1 p2 p3 p4 (v1.below h) (v2.below h) (v3.below h) (v4.below h) (by dsimp only; omega) (by dsimp only; omega) (by dsimp only; omega) (by dsimp only; omega) (m := z0) (M := z1) (by dsimp only [lo4]; omega) (by dsimp only [hi4]; omega) (by omega) (by omega) e0 e1)
 dsimp only at COR
 have hs := boxT_of bA bB
 replace hs := boxT_keep hs bdr_
 have Hc := hid hB0.drew
 have bR' : Box6 _ (w.heap.size + 1 + 1) _ _ _ _ _ _ := bR
 obtain ⟨HR, HL⟩ := hid2 (bR'.below bdr_) bR.lt
 clear w1 w2 bA bB bR bR' hB0 hz0 hz1 e0 e1
 clear u1 u2 u3 u4 ea1 ea2 eb1 eb2 P1 P2 P3 P4 p1 p2 p3 p4 r1 r2 r3 r4 v1 v2 v3 v4 i1 i2 i3 i4 q1 q2 q3 q4 h1 h2
 go_enter Tryz.func37, Tryz.ntmps37
 go_wp2
 generalize hgR : w.heap.size + 1 + 1 = gR at *
 have n1 : gR ≠ w.heap.size := by omega
 have n2 : gR ≠ w.heap.size + 1 := by omega
 have n3 : w.heap.size ≤ gR := by omega
 obtain ⟨N1, N2, N3⟩ := hid3 n1 n2 n3
 clear hgR n1 n2 n3
 go_region_held3 (fun w' => D6 w' w.heap.size (.bool n0) (.bool s0) (.slice A l0.length a) (.bool n1) (.bool s1) (.slice B l1.length b) (C6 w' (w.heap.size + 1) (.bool m0) (.bool t0) (.slice C k0.length c) (.bool m1) (.bool t1) (.slice D k1.length d)))
  (first
   | with_reducible exact hs
   | with_reducible exact boxT_st6 N1.out N2.out hs
   | exact boxT_keep hs bal_)
  (first
   | (go_at_call 28; (first | (with_reducible refine (L1.out _).mono ?_) | (with_reducible refine (L3.out _).mono ?_)); rintro e w2 ⟨rfl, hc2⟩; replace hs := boxT_keep hs hc2; replace HR := hid (HR.out.below hc2); replace Hc := hid (from_ Hc.out hc2))
   | (go_at_call 29; (first | (with_reducible refine (L2.out _).mono ?_) | (with_reducible refine (L4.out _).mono ?_)); rintro e w2 ⟨rfl, hc2⟩; replace hs := boxT_keep hs hc2; replace HR := hid (HR.out.below hc2); replace Hc := hid (from_ Hc.out hc2))
   | (go_at_call 71; with_reducible refine (COR.out _ _ Hc.out).mono ?_; rintro e w3 ⟨A1, c1, A2, c2, rfl, o1, o2, hc2⟩; replace hs := boxT_keep hs hc2; have zl := HR.out.lt; replace HR := hid (HR.out.below hc2); have Hp := Hc; replace Hc := hid (from_ Hc.out hc2); have g0 := HR.out.cf))
 all_goals
  obtain ⟨HP, U1, U2⟩ := hid3 (HR.out.put Hc.out N3.out (.bool rn0) (.bool rs0) (.slice A1 rl0.length c1) (.bool rn1) (.bool rs1) (.slice A2 rl1.length c2)) ((o1.set6 (g := gR) (fun (h : _ ≤ gR) => by omega) (.bool rn0) (.bool rs0) (.slice A1 rl0.length c1) (.bool rn1) (.bool rs1) (.slice A2 rl1.length c2)).mono (new_le Hp.out.size)) ((o2.set6 (g := gR) (fun (h : _ ≤ gR) => by omega) (.bool rn0) (.bool rs0) (.slice A1 rl0.length c1) (.bool rn1) (.bool rs1) (.slice A2 rl1.length c2)).mono (new_le Hp.out.size))
  clear o1 o2
  go_wp2
  refine bodyPost_ret (res_itv rfl _ gR rfl HP.out.box) rfl ?_
  exact ⟨_, _, _, _, rfl, U1.out, U2.out, HP.out.bel⟩
theorem r16both_w {b : Nat}
  (u1 : U64s w Z1 A a l0) (u2 : U64s w Z2 B b l1) (u3 : U64s w Z3 C c k0) (u4 : U64s w Z4 D d k1) (h1 : okE n0 s0 l0 = true) (h2 : okE n1 s1 l1 = true) (h3 : okE m0 t0 k0 = true) (h4 : okE m1 t1 k1 = true)
  (q1 : l0.length ≤ 60) (q2 : l1.length ≤ 60) (q3 : k0.length ≤ 60) (q4 : k1.length ≤ 60) (hz0 : z0 = max (loV n0 s0 l0) (loV m0 t0 k0)) (hz1 : z1 = min (hiV n1 s1 l1) (hiV m1 t1 k1)) (e0 : EndL z0 rn0 rs0 rl0) (e1 : EndH z1 rn1 rs1 rl1) {g : Bool} (hg : okA rn0 rs0 rl0 rn1 rs1 rl1 = g) :
  Calls Tryz.prog 47 #[.agg #[.bool n0, .bool s0, .slice A l0.length a, .bool n1, .bool s1, .slice B l1.length b], .agg #[.bool m0, .bool t0, .slice C k0.length c, .bool m1, .bool t1, .slice D k1.length d]] w fun e w' => ∃ rA ra rB rb, e = .returned (.tuple #[bif g then .agg #[.bool rn0, .bool rs0, .slice rA rl0.length ra, .bool rn1, .bool rs1, .slice rB rl1.length rb] else .agg #[.bool false, .bool false, .slice none 0 0, .bool false, .bool false, .slice none 0 0], .bool g]) ∧ U64s w' old rA ra rl0 ∧ U64s w' old rB rb rl1 ∧ Below w.heap.size w w' := by
 have x0 := okE_lo h1 u1.small q1
 have x1 := okE_hi h2 u2.small q2
 have y0 := okE_lo h3 u3.small q3
 have y1 := okE_hi h4 u4.small q4
 have i0 := lo_range (n := n0) (s := s0) u1.small q1
 have i1 := hi_range (n := n1) (s := s1) u2.small q2
 have j0 := lo_range (n := m0) (s := t0) u3.small q3
 have j1 := hi_range (n := m1) (s := t1) u4.small q4
 obtain ⟨bA, bB, bR, bO, hB0⟩ := boxW w (.bool n0) (.bool s0) (.slice A l0.length a) (.bool n1) (.bool s1) (.slice B l1.length b) (.bool m0) (.bool t0) (.slice C k0.length c) (.bool m1) (.bool t1) (.slice D k1.length d) (.bool false) (.bool false) (.slice none 0 0) (.bool false) (.bool false) (.slice none 0 0) (.bool n0) (.bool s0) (.slice A l0.length a) (.bool n1) (.bool s1) (.slice B l1.length b) 29
 obtain ⟨g1, hg1⟩ : ∃ g, sgn (zof t0 k0 - zof s0 l0) = g := ⟨_, rfl⟩
 obtain ⟨g2, hg2⟩ : ∃ g, sgn (zof t1 k1 - zof s1 l1) = g := ⟨_, rfl⟩
 have o1 : (g1 ≤ 0 ↔ zof t0 k0 ≤ zof s0 l0) ∧ (0 ≤ g1 ↔ zof s0 l0 ≤ zof t0 k0) := by rw [← hg1]; unfold sgn; constructor <;> (split <;> (try split) <;> omega)
 have o2 : (g2 ≤ 0 ↔ zof t1 k1 ≤ zof s1 l1) ∧ (0 ≤ g2 ↔ zof s1 l1 ≤ zof t1 k1) := by rw [← hg2]; unfold sgn; constructor <;> (split <;> (try split) <;> omega)
 obtain ⟨C1, C2⟩ := hid2 (fun (W : World) (h : Below w.heap.size w W) (hn : n0 = false) (hm : m0 = false) => cmp5_w (u3.below h) (u1.below h) (by rw [hm] at h3; exact h3) (by rw [hn] at h1; exact h1) q3 q1 hg1) (fun (W : World) (h : Below w.heap.size w W) (hn : n1 = false) (hm : m1 = false) => cmp5_w (u4.below h) (u2.below h) (by rw [hm] at h4; exact h4) (by rw [hn] at h2; exact h2) q4 q2 hg2)
 obtain ⟨bL, hbL⟩ : ∃ b, (n0 || (!m0 && decide (0 < g1))) = b := ⟨_, rfl⟩
 obtain ⟨bH, hbH⟩ : ∃ b, (n1 || (!m1 && decide (g2 < 0))) = b := ⟨_, rfl⟩
 have HL := hid (show (bL = true → (rn0 = m0 ∧ rs0 = t0 ∧ rl0 = k0)) ∧ (bL = false → (rn0 = n0 ∧ rs0 = s0 ∧ rl0 = l0)) from by
  refine ⟨fun h => ?_, fun h => ?_⟩
  · obtain ⟨p, q, r⟩ := y0.same e0 (by rw [hz0]; rw [h] at hbL; cases m0 <;> cases n0 <;> simp only [Bool.true_or, Bool.false_or, Bool.not_true, Bool.not_false, Bool.false_and, Bool.true_and, decide_eq_true_eq, decide_eq_false_iff_not, loV, cond_true, cond_false, reduceCtorEq] at hbL i0 j0 ⊢ <;> omega)
    exact ⟨p, q, r⟩
  · obtain ⟨p, q, r⟩ := x0.same e0 (by rw [hz0]; rw [h] at hbL; cases m0 <;> cases n0 <;> simp only [Bool.true_or, Bool.false_or, Bool.not_true, Bool.not_false, Bool.false_and, Bool.true_and, decide_eq_true_eq, decide_eq_false_iff_not, loV, cond_true, cond_false, reduceCtorEq] at hbL i0 j0 ⊢ <;> omega)
    exact ⟨p, q, r⟩)
 have HH := hid (show (bH = true → (rn1 = m1 ∧ rs1 = t1 ∧ rl1 = k1)) ∧ (bH = false → (rn1 = n1 ∧ rs1 = s1 ∧ rl1 = l1)) from by
  refine ⟨fun h => ?_, fun h => ?_⟩
  · obtain ⟨p, q, r⟩ := y1.same e1 (by rw [hz1]; rw [h] at hbH; cases m1 <;> cases n1 <;> simp only [Bool.true_or, Bool.false_or, Bool.not_true, Bool.not_false, Bool.false_and, Bool.true_and, decide_eq_true_eq, decide_eq_false_iff_not, hiV, cond_true, cond_false, reduceCtorEq] at hbH i1 j1 ⊢ <;> omega)
    exact ⟨p, q, r⟩
  · obtain ⟨p, q, r⟩ := x1.same e1 (by rw [hz1]; rw [h] at hbH; cases m1 <;> cases n1 <;> simp only [Bool.true_or, Bool.false_or, Bool.not_true, Bool.not_false, Bool.false_and, Bool.true_and, decide_eq_true_eq, decide_eq_false_iff_not, hiV, cond_true, cond_false, reduceCtorEq] at hbH i1 j1 ⊢ <;> omega)
    exact ⟨p, q, r⟩)
 obtain ⟨HA, HBb, HR, HO, HB, HbL⟩ := hid6 bA bB bR bO hB0 hbL
 obtain ⟨HbH, U1, U2, U3, U4⟩ := hid5 hbH (u1.mono (le_old _)) (u2.mono (le_old _)) (u3.mono (le_old _)) (u4.mono (le_old _))
 have l0_ : rl0.length ≤ 60 := by cases bL with
  | true => rw [(HL.out.1 rfl).2.2]; exact q3
  | false => rw [(HL.out.2 rfl).2.2]; exact q1
 have l1_ : rl1.length ≤ 60 := by cases bH with
  | true => rw [(HH.out.1 rfl).2.2]; exact q4
  | false => rw [(HH.out.2 rfl).2.2]; exact q2
 have MY := hid (fun (W : World) (Z Y : Zone) (E F : Option Addr) (e f : Nat) (x : U64s W Z E e rl0) (y : U64s W Y F f rl1) => r16may_any (n0 := rn0) (s0 := rs0) (n1 := rn1) (s1 := rs1) x y (by omega) (by omega))
 rw [hg] at MY
 clear l0_ l1_ hg
 clear x0 x1 y0 y1 i0 i1 j0 j1 bA bB bR bO hB0 hg1 hg2 o1 o2 hbL hbH u1 u2 u3 u4 h1 h2 h3 h4 q1 q2 q3 q4 hz0 hz1 e0 e1
 obtain ⟨gO, hgO⟩ : ∃ g, g = w.heap.size + 3 := ⟨_, rfl⟩
 obtain ⟨gR, hgR⟩ : ∃ g, g = w.heap.size + 2 := ⟨_, rfl⟩
 rw [← hgO] at HO
 rw [← hgR] at HR
 obtain ⟨N1, N2, N3, N4, N5⟩ := hid5 (show gO ≠ w.heap.size by omega) (show gO ≠ w.heap.size + 1 by omega) (show gO ≠ gR by omega) (show w.heap.size ≤ gO by omega) (show w.heap.size ≤ gR by omega)
 go_enter Tryz.func47, Tryz.ntmps47
 go_upto_region 2 with fail
 (try simp only [show w.heap.size + 1 + 1 = w.heap.size + 2 from rfl, show w.heap.size + 2 + 1 = w.heap.size + 3 from rfl])
 simp only [show w.heap.size + 2 = gR from hgR.symm, show w.heap.size + 3 = gO from hgO.symm]
 clear hgR hgO
 generalize ((((w.alloc (.cells #[.bool n0, .bool s0, .slice A l0.length a, .bool n1, .bool s1, .slice B l1.length b] 29)).alloc (.cells #[.bool m0, .bool t0, .slice C k0.length c, .bool m1, .bool t1, .slice D k1.length d] 29)).alloc (.cells #[.bool false, .bool false, .slice none 0 0, .bool false, .bool false, .slice none 0 0] 29)).alloc (.cells #[.bool n0, .bool s0, .slice A l0.length a, .bool n1, .bool s1, .slice B l1.length b] 29)) = W1 at *
 obtain ⟨fv, hfv⟩ : ∃ b, n0 = b := ⟨_, rfl⟩
 obtain ⟨sv, hsv⟩ : ∃ b, m0 = b := ⟨_, rfl⟩
 have HbX := HbL.out
 rw [hfv, hsv] at HbX
 obtain ⟨CX, HX2⟩ := hid2 (fun (W : World) (h : Below w.heap.size w W) (hf : fv = false) (hs : sv = false) => C1.out W h (hfv.trans hf) (hsv.trans hs)) HbX
 clear HbX
 obtain ⟨x0, x1, x2, x3, x4, x5, _, _, _, _, _, _, _⟩ := id HA.out
 obtain ⟨y0, y1, y2, y3, y4, y5, _, _, _, _, _, _, _⟩ := id HBb.out
 rw [hfv] at x0
 rw [hsv] at y0
 clear hfv hsv C1 HbL
 go_upto_region 2 with fail
 go_cut [26] (fun s26 wx => s26 = .bool bL ∧ Below W1.heap.size W1 wx)
 case first =>
  cases fv with
  | true =>
    obtain rfl : true = bL := HX2.out
    go_wp2_with fail
    go_meet
    exact ⟨rfl, Below.refl _ _⟩
  | false =>
    cases sv with
    | true =>
      obtain rfl : false = bL := HX2.out
      go_wp2_with fail
      go_meet
      exact ⟨rfl, Below.refl _ _⟩
    | false =>
      replace CX := hid (fun (W : World) (h : Below w.heap.size w W) => CX.out W h rfl rfl)
      obtain rfl : decide (0 < g1) = bL := HX2.out
      go_wp2_with fail
      refine (CX.out _ HB.out).mono ?_
      rintro e w2 ⟨rfl, hc⟩
      have Hc := hid hc
      clear hc
      go_wp2_with fail
      go_meet
      exact ⟨rfl, Hc.out⟩
 case rest =>
  clear x0 x1 x2 x3 x4 x5 y0 y1 y2 y3 y4 y5 CX HX2 fv sv
  obtain ⟨rfl, hc⟩ := hcut
  replace HA := hid (HA.out.below hc)
  replace HBb := hid (HBb.out.below hc)
  replace HR := hid (HR.out.below hc)
  replace HO := hid (HO.out.below hc)
  replace HB := hid (from_ HB.out hc)
  clear hc
  obtain ⟨W2, hren⟩ : ∃ W, W = wc := ⟨_, rfl⟩
  subst hren
  go_upto_if 26 with fail
  go_cut [] (fun wx => ∃ (E : Option Addr) (e : Nat), Box6 wx gO (.bool rn0) (.bool rs0) (.slice E rl0.length e) (.bool n1) (.bool s1) (.slice B l1.length b) ∧ U64s w old E e rl0 ∧ Box6 wx w.heap.size (.bool n0) (.bool s0) (.slice A l0.length a) (.bool n1) (.bool s1) (.slice B l1.length b) ∧ Box6 wx (w.heap.size + 1) (.bool m0) (.bool t0) (.slice C k0.length c) (.bool m1) (.bool t1) (.slice D k1.length d) ∧ Box6 wx gR (.bool false) (.bool false) (.slice none 0 0) (.bool false) (.bool false) (.slice none 0 0) ∧ Below w.heap.size w wx)
  case first =>
   cases bL with
   | false =>
     obtain ⟨e1, e2, e3⟩ := HL.out.2 rfl
     have He := hid (And.intro e1 (And.intro e2 e3))
     clear e1 e2 e3
     go_wp2_with fail
     go_meet
     exact ⟨_, _, by rw [He.out.1, He.out.2.1, He.out.2.2]; exact HO.out, by rw [He.out.2.2]; exact U1.out, HA.out, HBb.out, HR.out, HB.out⟩
   | true =>
     obtain ⟨e1, e2, e3⟩ := HL.out.1 rfl
     have He := hid (And.intro e1 (And.intro e2 e3))
     clear e1 e2 e3
     obtain ⟨y0, y1, y2, y3, y4, y5, _, _, _, _, _, _, _⟩ := id HBb.out
     obtain ⟨p0, p1, p2, p3, p4, p5, f0, f1, f2, f3, f4, f5, _⟩ := id HO.out
     obtain ⟨KO, KA, KB, KR, KW⟩ := hid5 (HO.out.lo3 (.bool m0) (.bool t0) (.slice C k0.length c)) (HA.out.oth3 gO 0 1 2 N1.out (.bool m0) (.bool t0) (.slice C k0.length c)) (HBb.out.oth3 gO 0 1 2 N2.out (.bool m0) (.bool t0) (.slice C k0.length c)) (HR.out.oth3 gO 0 1 2 N3.out (.bool m0) (.bool t0) (.slice C k0.length c)) (Below.set3 HB.out gO 0 1 2 N4.out (.bool m0) (.bool t0) (.slice C k0.length c))
     go_wp2_with fail
     go_meet
     exact ⟨_, _, by rw [He.out.1, He.out.2.1, He.out.2.2]; exact KO.out, by rw [He.out.2.2]; exact U3.out, KA.out, KB.out, KR.out, KW.out⟩
  case rest =>
   clear HO HA HBb HR HB HL
   obtain ⟨E0, e0, ho, hu, ha, hb, hr, hw⟩ := hcut
   obtain ⟨HO, V0, HA, HBb, HR, HB⟩ := hid6 ho hu ha hb hr hw
   clear ho hu ha hb hr hw
   obtain ⟨X0, hren⟩ : ∃ W, W = wc := ⟨_, rfl⟩
   subst hren
   obtain ⟨fv, hfv⟩ : ∃ b, n1 = b := ⟨_, rfl⟩
   obtain ⟨sv, hsv⟩ : ∃ b, m1 = b := ⟨_, rfl⟩
   have HbX := HbH.out
   rw [hfv, hsv] at HbX
   obtain ⟨CX, HX2⟩ := hid2 (fun (W : World) (h : Below w.heap.size w W) (hf : fv = false) (hs : sv = false) => C2.out W h (hfv.trans hf) (hsv.trans hs)) HbX
   clear HbX
   obtain ⟨x0, x1, x2, x3, x4, x5, _, _, _, _, _, _, _⟩ := id HA.out
   obtain ⟨y0, y1, y2, y3, y4, y5, _, _, _, _, _, _, _⟩ := id HBb.out
   rw [hfv] at x3
   rw [hsv] at y3
   clear hfv hsv C2 HbH
   go_upto_region 4 with fail
   go_cut [48] (fun s48 wx => s48 = .bool bH ∧ Below X0.heap.size X0 wx)
   case first =>
    cases fv with
    | true =>
      obtain rfl : true = bH := HX2.out
      go_wp2_with fail
      go_meet
      exact ⟨rfl, Below.refl _ _⟩
    | false =>
      cases sv with
      | true =>
        obtain rfl : false = bH := HX2.out
        go_wp2_with fail
        go_meet
        exact ⟨rfl, Below.refl _ _⟩
      | false =>
        replace CX := hid (fun (W : World) (h : Below w.heap.size w W) => CX.out W h rfl rfl)
        obtain rfl : decide (g2 < 0) = bH := HX2.out
        go_wp2_with fail
        refine (CX.out _ HB.out).mono ?_
        rintro e w2 ⟨rfl, hc⟩
        have Hc := hid hc
        clear hc
        go_wp2_with fail
        go_meet
        exact ⟨rfl, Hc.out⟩
   case rest =>
    clear x0 x1 x2 x3 x4 x5 y0 y1 y2 y3 y4 y5 CX HX2 fv sv
    obtain ⟨rfl, hc⟩ := hcut
    replace HA := hid (HA.out.below hc)
    replace HBb := hid (HBb.out.below hc)
    replace HR := hid (HR.out.below hc)
    replace HO := hid (HO.out.below hc)
    replace HB := hid (from_ HB.out hc)
    clear hc
    obtain ⟨W3, hren⟩ : ∃ W, W = wc := ⟨_, rfl⟩
    subst hren
    go_upto_if 48 with fail
    go_cut [] (fun wx => ∃ (E : Option Addr) (e : Nat), Box6 wx gO (.bool rn0) (.bool rs0) (.slice E0 rl0.length e0) (.bool rn1) (.bool rs1) (.slice E rl1.length e) ∧ U64s w old E e rl1 ∧ Box6 wx w.heap.size (.bool n0) (.bool s0) (.slice A l0.length a) (.bool n1) (.bool s1) (.slice B l1.length b) ∧ Box6 wx (w.heap.size + 1) (.bool m0) (.bool t0) (.slice C k0.length c) (.bool m1) (.bool t1) (.slice D k1.length d) ∧ Box6 wx gR (.bool false) (.bool false) (.slice none 0 0) (.bool false) (.bool false) (.slice none 0 0) ∧ Below w.heap.size w wx)
    case first =>
     cases bH with
     | false =>
       obtain ⟨e1, e2, e3⟩ := HH.out.2 rfl
       have He := hid (And.intro e1 (And.intro e2 e3))
       clear e1 e2 e3
       go_wp2_with fail
       go_meet
       exact ⟨_, _, by rw [He.out.1, He.out.2.1, He.out.2.2]; exact HO.out, by rw [He.out.2.2]; exact U2.out, HA.out, HBb.out, HR.out, HB.out⟩
     | true =>
       obtain ⟨e1, e2, e3⟩ := HH.out.1 rfl
       have He := hid (And.intro e1 (And.intro e2 e3))
       clear e1 e2 e3
       obtain ⟨y0, y1, y2, y3, y4, y5, _, _, _, _, _, _, _⟩ := id HBb.out
       obtain ⟨p0, p1, p2, p3, p4, p5, f0, f1, f2, f3, f4, f5, _⟩ := id HO.out
       obtain ⟨KO, KA, KB, KR, KW⟩ := hid5 (HO.out.hi3 (.bool m1) (.bool t1) (.slice D k1.length d)) (HA.out.oth3 gO 3 4 5 N1.out (.bool m1) (.bool t1) (.slice D k1.length d)) (HBb.out.oth3 gO 3 4 5 N2.out (.bool m1) (.bool t1) (.slice D k1.length d)) (HR.out.oth3 gO 3 4 5 N3.out (.bool m1) (.bool t1) (.slice D k1.length d)) (Below.set3 HB.out gO 3 4 5 N4.out (.bool m1) (.bool t1) (.slice D k1.length d))
       go_wp2_with fail
       go_meet
       exact ⟨_, _, by rw [He.out.1, He.out.2.1, He.out.2.2]; exact KO.out, by rw [He.out.2.2]; exact U4.out, KA.out, KB.out, KR.out, KW.out⟩
    case rest =>
     clear HO HA HBb HR HB HH
     obtain ⟨E1, e1, ho, hu, ha, hb, hr, hw⟩ := hcut
     obtain ⟨HO, V1, HA, HBb, HR, HB⟩ := hid6 ho hu ha hb hr hw
     clear ho hu ha hb hr hw
     obtain ⟨X1, hren⟩ : ∃ W, W = wc := ⟨_, rfl⟩
     subst hren
     obtain ⟨p0, p1, p2, p3, p4, p5, _, _, _, _, _, _, _⟩ := id HO.out
     go_wp2_with fail
     refine (MY.out _ _ _ _ _ _ _ (V0.out.below HB.out) (V1.out.below HB.out)).mono ?_
     rintro e w9 ⟨rfl, hc⟩
     replace HR := hid (HR.out.below hc)
     replace HO := hid (HO.out.below hc)
     replace HB := hid (from_ HB.out hc)
     clear hc p0 p1 p2 p3 p4 p5 MY
     cases g with
     | false =>
       go_upto_region 7 with fail
       have KR := hid (HR.out.put (w := w) HB.out N5.out (.bool false) (.bool false) (.slice none 0 0) (.bool false) (.bool false) (.slice none 0 0))
       obtain ⟨p0, p1, p2, p3, p4, p5, _, _, _, _, _, _, _⟩ := id HO.out
       obtain ⟨d0, d1, d2, d3, d4, d5, f0, f1, f2, f3, f4, f5, _⟩ := id HR.out
       go_cut [5] (fun s5 wx => s5 = .bool false ∧ Put6 w wx gR (.bool false) (.bool false) (.slice none 0 0) (.bool false) (.bool false) (.slice none 0 0))
       case first =>
        go_wp2_with fail
        go_meet
        exact ⟨rfl, KR.out⟩
       case rest =>
        obtain ⟨rfl, hP⟩ := hcut
        have HP := hid hP
        clear hP KR p0 p1 p2 p3 p4 p5 d0 d1 d2 d3 d4 d5 f0 f1 f2 f3 f4 f5
        refine (‹∀ (a : Act) (w : World), Code.wp Tryz.prog Code.ret _ a w → _›) _ _ ?_
        refine wp_ret ?_
        (try simp only [Exit.then])
        change bodyPost _ _ _ _ _ _
        refine bodyPost_ret (res_itv2 rfl _ gR rfl HP.out.box) rfl ?_
        exact ⟨E0, e0, E1, e1, by first | rfl | trivial, V0.out.below HP.out.bel, V1.out.below HP.out.bel, HP.out.bel⟩
     | true =>
       go_upto_region 8 with fail
       have KR := hid (HR.out.put (w := w) HB.out N5.out (.bool rn0) (.bool rs0) (.slice E0 rl0.length e0) (.bool rn1) (.bool rs1) (.slice E1 rl1.length e1))
       obtain ⟨p0, p1, p2, p3, p4, p5, _, _, _, _, _, _, _⟩ := id HO.out
       have d0 := HR.out.cf
       go_cut [5] (fun s5 wx => s5 = .bool true ∧ Put6 w wx gR (.bool rn0) (.bool rs0) (.slice E0 rl0.length e0) (.bool rn1) (.bool rs1) (.slice E1 rl1.length e1))
       case first =>
        go_wp2_with fail
        go_meet
        exact ⟨rfl, KR.out⟩
       case rest =>
        obtain ⟨rfl, hP⟩ := hcut
        have HP := hid hP
        clear hP KR p0 p1 p2 p3 p4 p5 d0
        refine (‹∀ (a : Act) (w : World), Code.wp Tryz.prog Code.ret _ a w → _›) _ _ ?_
        refine wp_ret ?_
        (try simp only [Exit.then])
        change bodyPost _ _ _ _ _ _
        refine bodyPost_ret (res_itv2 rfl _ gR rfl HP.out.box) rfl ?_
        exact ⟨E0, e0, E1, e1, by first | rfl | trivial, V0.out.below HP.out.bel, V1.out.below HP.out.bel, HP.out.bel⟩
theorem iJoin_good {b : Nat}
  (u1 : U64s w Z1 A a l0) (u2 : U64s w Z2 B b l1) (u3 : U64s w Z3 C c k0) (u4 : U64s w Z4 D d k1) (h1 : okA n0 s0 l0 n1 s1 l1 = true) (h2 : okA m0 t0 k0 m1 t1 k1 = true)
  (q1 : l0.length ≤ 60) (q2 : l1.length ≤ 60) (q3 : k0.length ≤ 60) (q4 : k1.length ≤ 60)
  (hz0 : z0 = min (loV n0 s0 l0) (loV m0 t0 k0)) (hz1 : z1 = max (hiV n1 s1 l1) (hiV m1 t1 k1)) (e0 : EndL z0 rn0 rs0 rl0) (e1 : EndH z1 rn1 rs1 rl1) :
  Calls Tryz.prog 57 #[.agg #[.bool n0, .bool s0, .slice A l0.length a, .bool n1, .bool s1, .slice B l1.length b], .agg #[.bool m0, .bool t0, .slice C k0.length c, .bool m1, .bool t1, .slice D k1.length d]] w fun e w' => ∃ rA ra rB rb, e = .returned (.tuple #[.agg #[.bool rn0, .bool rs0, .slice rA rl0.length ra, .bool rn1, .bool rs1, .slice rB rl1.length rb], .int .i64 0]) ∧ U64s w' (new w.heap.size) rA ra rl0 ∧ U64s w' (new w.heap.size) rB rb rl1 ∧ Below w.heap.size w w' := by
 obtain ⟨bA, bB, bR, hB0⟩ := boxX w (.bool n0) (.bool s0) (.slice A l0.length a) (.bool n1) (.bool s1) (.slice B l1.length b) (.bool m0) (.bool t0) (.slice C k0.length c) (.bool m1) (.bool t1) (.slice D k1.length d) (.bool false) (.bool false) (.slice none 0 0) (.bool false) (.bool false) (.slice none 0 0) 29
 have hb1 := hB0.alloc hB0.size (.cells #[.bool n0, .bool s0, .slice A l0.length a, .bool n1, .bool s1, .slice B l1.length b, .bool m0, .bool t0, .slice C k0.length c, .bool m1, .bool t1, .slice D k1.length d] 29)
 have hg := given_twoA (p := ⟨n0, s0, l0, n1, s1, l1⟩) (q := ⟨m0, t0, k0, m1, t1, k1⟩) (ty := 29) (u1.below hB0) (u2.below hB0) (u3.below hB0) (u4.below hB0)
 rw [show (((w.alloc (.cells #[.bool n0, .bool s0, .slice A l0.length a, .bool n1, .bool s1, .slice B l1.length b] 29)).alloc (.cells #[.bool m0, .bool t0, .slice C k0.length c, .bool m1, .bool t1, .slice D k1.length d] 29)).alloc (.cells #[.bool false, .bool false, .slice none 0 0, .bool false, .bool false, .slice none 0 0] 29)).heap.size = w.heap.size + 3 by simp] at hg
 have hck := ichecked_any (n := 2) (c := 2) hg rfl (by simp) (by intro p hp; simp only [List.mem_cons, List.not_mem_nil, or_false] at hp; rcases hp with rfl | rfl <;> exact ⟨by dsimp only; omega, by dsimp only; omega⟩)
 rw [errAs_two, if_pos ⟨h1, h2⟩] at hck
 obtain ⟨HA, HBb, HR, Hck, Hb1⟩ := hid5 (bA.alloc (.cells #[.bool n0, .bool s0, .slice A l0.length a, .bool n1, .bool s1, .slice B l1.length b, .bool m0, .bool t0, .slice C k0.length c, .bool m1, .bool t1, .slice D k1.length d] 29)) (bB.alloc (.cells #[.bool n0, .bool s0, .slice A l0.length a, .bool n1, .bool s1, .slice B l1.length b, .bool m0, .bool t0, .slice C k0.length c, .bool m1, .bool t1, .slice D k1.length d] 29)) (bR.alloc (.cells #[.bool n0, .bool s0, .slice A l0.length a, .bool n1, .bool s1, .slice B l1.length b, .bool m0, .bool t0, .slice C k0.length c, .bool m1, .bool t1, .slice D k1.length d] 29)) hck hb1
 obtain ⟨a0, a1, a2, a3, a4, a5, _, _, _, _, _, _, _⟩ := bA
 obtain ⟨b0, b1, b2, b3, b4, b5, _, _, _, _, _, _, _⟩ := bB
 have J := hid (fun (W : World) (h : Below w.heap.size w W) => ijoin_p (u1.below h) (u2.below h) (u3.below h) (u4.below h) h1 h2 q1 q2 q3 q4 hz0 hz1 e0 e1)
 clear hck hb1 hg u1 u2 u3 u4 h1 h2 q1 q2 q3 q4 hz0 hz1 e0 e1 bR hB0
 go_enter Tryz.func57, Tryz.ntmps57
 go_wp2_with fail
 refine Hck.out.mono ?_
 rintro e w1 ⟨rfl, hc⟩
 obtain ⟨H1, R1⟩ := hid2 (from_ Hb1.out hc) (HR.out.below hc)
 clear a0 a1 a2 a3 a4 a5 b0 b1 b2 b3 b4 b5
 have a0 := (HA.out.below hc).all
 have b0 := (HBb.out.below hc).all
 clear hc
 go_wp2_with fail
 refine (J.out _ H1.out).mono ?_
 rintro e w2 ⟨A1, c1, A2, c2, rfl, o1, o2, hc⟩
 have z1 := R1.out.lt
 have R2 := R1.out.below hc
 obtain ⟨HP, U1, U2⟩ := hid3 (R2.put (from_ H1.out hc) (by omega) (.bool rn0) (.bool rs0) (.slice A1 rl0.length c1) (.bool rn1) (.bool rs1) (.slice A2 rl1.length c2)) ((o1.set6 (g := w.heap.size + 2) (fun (h : w1.heap.size ≤ w.heap.size + 2) => by omega) (.bool rn0) (.bool rs0) (.slice A1 rl0.length c1) (.bool rn1) (.bool rs1) (.slice A2 rl1.length c2)).mono (new_le H1.out.size)) ((o2.set6 (g := w.heap.size + 2) (fun (h : w1.heap.size ≤ w.heap.size + 2) => by omega) (.bool rn0) (.bool rs0) (.slice A1 rl0.length c1) (.bool rn1) (.bool rs1) (.slice A2 rl1.length c2)).mono (new_le H1.out.size))
 have g0 := R2.cf
 clear o1 o2 hc z1 a0 b0
 go_wp2
 refine bodyPost_ret (res_itv2 rfl _ (w.heap.size + 2) rfl HP.out.box) rfl ?_
 exact ⟨_, _, _, _, rfl, U1.out, U2.out, HP.out.bel⟩
theorem Pick.pl {d : Int} {k : List Nat} {e : Nat} (h : Pick p b s l A c d t k B e rb rs rl rA rc) (h1 : Pl x b s l) (h2 : Pl y d t k) : Pl (bif p then x else y) rb rs rl := by
 rcases h with ⟨rfl, rfl, rfl, rfl, rfl, rfl⟩ | ⟨rfl, rfl, rfl, rfl, rfl, rfl⟩
 · exact h1
 · exact h2
theorem Pick.u64s {d : Int} {k : List Nat} {e : Nat} (h : Pick p b s l A c d t k B e rb rs rl rA rc) (h1 : U64s w Z A c l) (h2 : U64s w Y B e k) : U64s w old rA rc rl := by
 rcases h with ⟨rfl, rfl, rfl, rfl, rfl, rfl⟩ | ⟨rfl, rfl, rfl, rfl, rfl, rfl⟩
 · exact h1.mono (le_old _)
 · exact h2.mono (le_old _)
theorem Pick.len {d : Int} {k : List Nat} {e : Nat} (h : Pick p b s l A c d t k B e rb rs rl rA rc) (h1 : l.length ≤ N) (h2 : k.length ≤ N) : rl.length ≤ N := by
 rcases h with ⟨rfl, rfl, rfl, rfl, rfl, rfl⟩ | ⟨rfl, rfl, rfl, rfl, rfl, rfl⟩
 · exact h1
 · exact h2
structure Two3 (W0 V : World) (gx gy : Nat) (x0 x1 x2 y0 y1 y2 : Value) : Prop where
 bx : Box3 V gx x0 x1 x2
 by_ : Box3 V gy y0 y1 y2
 lx : W0.heap.size ≤ gx
 ly : W0.heap.size ≤ gy
 bel : Below W0.heap.size W0 V
theorem set3_below (Hc : Below W0.heap.size W0 w) (hg : W0.heap.size ≤ g) (x0 x1 x2 : Value) : Below W0.heap.size W0 (((w.setCell ⟨g, 0, none⟩ x0).setCell ⟨g, 1, none⟩ x1).setCell ⟨g, 2, none⟩ x2) := Below.set3 Hc g 0 1 2 hg x0 x1 x2
theorem Two3.on {a b c : Value} {t : TypeId} (Hc : Below W0.heap.size W0 w) (H : Box3 w g a b c) (hg : W0.heap.size ≤ g) : Two3 W0 ((((w.setCell ⟨g, 0, none⟩ x0).setCell ⟨g, 1, none⟩ x1).setCell ⟨g, 2, none⟩ x2).alloc (.cells #[y0, y1, y2] t)) g w.heap.size x0 x1 x2 y0 y1 y2 := by
 have hz : (((w.setCell ⟨g, 0, none⟩ x0).setCell ⟨g, 1, none⟩ x1).setCell ⟨g, 2, none⟩ x2).heap.size = w.heap.size := by simp
 have h2 := Box3.new (((w.setCell ⟨g, 0, none⟩ x0).setCell ⟨g, 1, none⟩ x1).setCell ⟨g, 2, none⟩ x2) y0 y1 y2 t
 rw [hz] at h2
 exact ⟨(H.set3 x0 x1 x2).below bal_, h2, hg, Hc.size, from_ (set3_below Hc hg x0 x1 x2) bal_⟩
theorem Two3.no {a b c : Value} {t : TypeId} (Hc : Below W0.heap.size W0 w) (H : Box3 w g a b c) (hg : W0.heap.size ≤ g) : Two3 W0 ((((w.setCell ⟨g, 0, none⟩ y0).setCell ⟨g, 1, none⟩ y1).setCell ⟨g, 2, none⟩ y2).alloc (.cells #[x0, x1, x2] t)) w.heap.size g x0 x1 x2 y0 y1 y2 := by
 have h := Two3.on (x0 := y0) (x1 := y1) (x2 := y2) (y0 := x0) (y1 := x1) (y2 := x2) (t := t) Hc H hg
 exact ⟨h.by_, h.bx, h.ly, h.lx, h.bel⟩
def wN (N : Nat) : Int := 18446744073709551616 ^ N
theorem wN_cast (N : Nat) : wN N = ((18446744073709551616 ^ N : Nat) : Int) := by unfold wN; rw [Int.natCast_pow]; rfl
theorem wN_pos (N : Nat) : 0 < wN N := by unfold wN; exact Int.pow_pos (by decide)
theorem wN_mono (h : N ≤ M) : wN N ≤ wN M := by
 rw [wN_cast, wN_cast]
 exact Int.ofNat_le.2 (Nat.pow_le_pow_right (by decide) h)
theorem wN_mul (N M : Nat) : wN N * wN M = wN (N + M) := (Int.pow_add _ _ _).symm
theorem wN_big : wN 64 = bigZ := rfl
theorem wN_le (h : N ≤ 64) : wN N ≤ bigZ := by rw [← wN_big]; exact wN_mono h
theorem wN_two (N : Nat) : wN N + wN N ≤ wN (N + 1) := by
 rw [← wN_mul]
 have h1 : wN 1 = 18446744073709551616 := rfl
 have h2 := wN_pos N
 rw [h1]
 omega
theorem Pl.ext (h : Pl x b s l) (hl : l.length ≤ N) : Ext bigZ (wN N) x := by
 rcases h with ⟨rfl, ⟨rfl, rfl⟩, _, _⟩ | ⟨_, _, _, h⟩ | ⟨_, _, _, h⟩
 · right; right
   have h1 := val_lt (small_limbs x.natAbs)
   rw [val_limbs] at h1
   have h2 : x.natAbs < 18446744073709551616 ^ N := Nat.lt_of_lt_of_le h1 (Nat.pow_le_pow_right (by decide) hl)
   have h3 : (x.natAbs : Int) < wN N := by rw [wN_cast]; exact Int.ofNat_lt.2 h2
   omega
 · exact .inl h
 · exact .inr (.inl h)
theorem Pl.len_of (h : Pl z e r m) (hz : Ext bigZ (wN N) z) : m.length ≤ N := by
 rcases h with ⟨rfl, ⟨rfl, rfl⟩, h1, h2⟩ | ⟨_, _, rfl, h⟩ | ⟨_, _, rfl, h⟩
 · refine len_limbs_le ?_
   have h3 : -wN N < z ∧ z < wN N := by
    unfold Ext at hz
    omega
   rw [wN_cast] at h3
   have h4 : (z.natAbs : Int) < ((18446744073709551616 ^ N : Nat) : Int) := by omega
   exact Int.ofNat_lt.1 h4
 · simp
 · simp
theorem Ext.range (h : Ext bigZ (wN N) x) (hN : N ≤ 64) : -bigZ ≤ x ∧ x ≤ bigZ := by
 have h1 := wN_le hN
 have h2 := bigZ_pos
 unfold Ext at h
 omega
theorem Ext.up (h : Ext bigZ (wN N) x) (hN : N ≤ M) : Ext bigZ (wN M) x := by
 have h1 := wN_mono hN
 unfold Ext at *
 omega
theorem ext_plus (hx : Ext bigZ (wN N) x) (hy : Ext bigZ (wN N) y) : Ext bigZ (wN (N + 1)) (plusE bigZ x y) := by
 have h1 := wN_two N
 unfold plusE
 unfold Ext at *
 split
 · simp
 · split
   · simp
   · omega
theorem ext_times (hx : Ext bigZ (wN N) x) (hy : Ext bigZ (wN M) y) : Ext bigZ (wN (N + M)) (timesE bigZ x y) := by
 have h0 := wN_pos (N + M)
 unfold timesE
 split
 · right; right; omega
 · split
   · split
     · simp [Ext]
     · simp [Ext]
   · rename_i h1 h2
     have hx2 : -wN N < x ∧ x < wN N := by unfold Ext at hx; omega
     have hy2 : -wN M < y ∧ y < wN M := by unfold Ext at hy; omega
     right; right
     have a1 : (x * y).natAbs = x.natAbs * y.natAbs := Int.natAbs_mul x y
     have a2 : x.natAbs < 18446744073709551616 ^ N := by rw [wN_cast] at hx2; omega
     have a3 : y.natAbs < 18446744073709551616 ^ M := by rw [wN_cast] at hy2; omega
     have a4 : x.natAbs * y.natAbs < 18446744073709551616 ^ (N + M) := by
      rw [Nat.pow_add]
      exact Nat.mul_lt_mul_of_lt_of_lt a2 a3
     have a5 : ((x * y).natAbs : Int) < wN (N + M) := by rw [wN_cast, a1]; exact Int.ofNat_lt.2 a4
     omega
structure IvN (N : Nat) (x y : Int) : Prop where
 lo : Ext bigZ (wN N) x
 hi : Ext bigZ (wN N) y
 le : x ≤ y
 nlo : x < bigZ
 nhi : -bigZ < y
theorem IvN.up (h : IvN N x y) (hN : N ≤ M) : IvN M x y := ⟨h.lo.up hN, h.hi.up hN, h.le, h.nlo, h.nhi⟩
theorem ivn_neg (h : IvN N x y) : IvN N (-y) (-x) := ⟨h.hi.neg, h.lo.neg, by have := h.le; omega, by have := h.nhi; omega, by have := h.nlo; omega⟩
theorem ivn_plus {t : Int} (h : IvN N x y) (g : IvN N z t) (hN : N ≤ 60) : IvN (N + 1) (plusE bigZ x z) (plusE bigZ y t) := by
 obtain ⟨a1, a2, a3, a4, a5⟩ := h
 obtain ⟨b1, b2, b3, b4, b5⟩ := g
 have h1 := wN_two N
 have h2 := wN_le (show N + 1 ≤ 64 by omega)
 have h3 := bigZ_pos
 have h4 := wN_pos N
 refine ⟨ext_plus a1 b1, ext_plus a2 b2, ?_, ?_, ?_⟩
 all_goals
  unfold plusE
  unfold Ext at *
  split <;> (try split) <;> (try split) <;> (try split) <;> omega
theorem timesE_fin {a : Int} (ha : -bigZ < a ∧ a < bigZ) (hb : -bigZ < b ∧ b < bigZ) : timesE bigZ a b = a * b := by
 unfold timesE
 split
 · rename_i h
   rcases h with rfl | rfl <;> simp
 · rw [if_neg (by omega)]
theorem timesE_np {a : Int} (h : (a ≤ 0 ∧ 0 ≤ b) ∨ (0 ≤ a ∧ b ≤ 0)) : timesE bigZ a b ≤ 0 := by
 have h3 := bigZ_pos
 unfold timesE
 split
 · omega
 · split
   · rw [if_neg (by omega)]; omega
   · rcases h with h | h
     · exact Int.mul_nonpos_of_nonpos_of_nonneg h.1 h.2
     · exact Int.mul_nonpos_of_nonneg_of_nonpos h.1 h.2
theorem timesE_nn {a : Int} (h : (0 ≤ a ∧ 0 ≤ b) ∨ (a ≤ 0 ∧ b ≤ 0)) : 0 ≤ timesE bigZ a b := by
 have h3 := bigZ_pos
 unfold timesE
 split
 · omega
 · split
   · rw [if_pos (by omega)]; omega
   · rcases h with h | h
     · exact Int.mul_nonneg h.1 h.2
     · exact Int.mul_nonneg_of_nonpos_of_nonpos h.1 h.2
theorem timesE_small {a : Int} (ha : Ext bigZ (wN N) a) (hb : Ext bigZ (wN M) b) (hN : N + M ≤ 64) (h1 : -bigZ < a ∧ a < bigZ) (h2 : -bigZ < b ∧ b < bigZ) : -bigZ < timesE bigZ a b ∧ timesE bigZ a b < bigZ := by
 have h4 := wN_le hN
 have h5 := wN_mul N M
 have h6 := wN_pos N
 have h7 := wN_pos M
 have ha2 : -wN N < a ∧ a < wN N := by unfold Ext at ha; omega
 have hb2 : -wN M < b ∧ b < wN M := by unfold Ext at hb; omega
 rw [timesE_fin h1 h2]
 have a1 : (a * b).natAbs = a.natAbs * b.natAbs := Int.natAbs_mul a b
 have a2 : a.natAbs < 18446744073709551616 ^ N := by rw [wN_cast] at ha2; omega
 have a3 : b.natAbs < 18446744073709551616 ^ M := by rw [wN_cast] at hb2; omega
 have a4 : a.natAbs * b.natAbs < 18446744073709551616 ^ (N + M) := by
  rw [Nat.pow_add]
  exact Nat.mul_lt_mul_of_lt_of_lt a2 a3
 have a5 : ((a * b).natAbs : Int) < wN (N + M) := by rw [wN_cast, a1]; exact Int.ofNat_lt.2 a4
 omega
theorem ext_min {a : Int} (ha : Ext bigZ (wN N) a) (hb : Ext bigZ (wN N) b) : Ext bigZ (wN N) (min a b) := by
 rcases Int.le_total a b with h | h
 · rw [Int.min_eq_left h]; exact ha
 · rw [Int.min_eq_right h]; exact hb
theorem ext_max {a : Int} (ha : Ext bigZ (wN N) a) (hb : Ext bigZ (wN N) b) : Ext bigZ (wN N) (max a b) := by
 rcases Int.le_total a b with h | h
 · rw [Int.max_eq_right h]; exact hb
 · rw [Int.max_eq_left h]; exact ha
def mulLo (x y z t : Int) : Int := lo4 (timesE bigZ x z) (timesE bigZ x t) (timesE bigZ y z) (timesE bigZ y t)
def mulHi (x y z t : Int) : Int := hi4 (timesE bigZ x z) (timesE bigZ x t) (timesE bigZ y z) (timesE bigZ y t)
theorem ivn_times {t : Int} (h : IvN N x y) (g : IvN M z t) (hN : N + M ≤ 64) : IvN (N + M) (mulLo x y z t) (mulHi x y z t) := by
 obtain ⟨a1, a2, a3, a4, a5⟩ := h
 obtain ⟨b1, b2, b3, b4, b5⟩ := g
 have h3 := bigZ_pos
 refine ⟨?_, ?_, ?_, ?_, ?_⟩
 · exact ext_min (ext_min (ext_times a1 b1) (ext_times a1 b2)) (ext_min (ext_times a2 b1) (ext_times a2 b2))
 · exact ext_max (ext_max (ext_times a1 b1) (ext_times a1 b2)) (ext_max (ext_times a2 b1) (ext_times a2 b2))
 · unfold mulLo mulHi lo4 hi4; omega
 · unfold mulLo lo4
   have c1 : timesE bigZ x z < bigZ ∨ timesE bigZ x t < bigZ ∨ timesE bigZ y t < bigZ := by
    by_cases hx : 0 ≤ x
    · by_cases hz : 0 ≤ z
      · exact .inl (timesE_small a1 b1 hN ⟨by omega, a4⟩ ⟨by omega, b4⟩).2
      · have := timesE_np (a := x) (b := z) (.inr ⟨hx, by omega⟩)
        exact .inl (by omega)
    · by_cases ht : 0 ≤ t
      · have := timesE_np (a := x) (b := t) (.inl ⟨by omega, ht⟩)
        exact .inr (.inl (by omega))
      · by_cases hy : 0 ≤ y
        · have := timesE_np (a := y) (b := t) (.inr ⟨hy, by omega⟩)
          exact .inr (.inr (by omega))
        · exact .inr (.inr (timesE_small a2 b2 hN ⟨a5, by omega⟩ ⟨b5, by omega⟩).2)
   omega
 · unfold mulHi hi4
   have c1 : -bigZ < timesE bigZ x z ∨ -bigZ < timesE bigZ y z ∨ -bigZ < timesE bigZ x t ∨ -bigZ < timesE bigZ y t := by
    by_cases hx : 0 ≤ x
    · by_cases ht : 0 ≤ t
      · have := timesE_nn (a := x) (b := t) (.inl ⟨hx, ht⟩)
        exact .inr (.inr (.inl (by omega)))
      · exact .inr (.inr (.inl (timesE_small a1 b2 hN ⟨by omega, a4⟩ ⟨b5, by omega⟩).1))
    · by_cases hz : 0 ≤ z
      · by_cases hy : 0 ≤ y
        · have := timesE_nn (a := y) (b := z) (.inl ⟨hy, hz⟩)
          exact .inr (.inl (by omega))
        · exact .inr (.inl (timesE_small a2 b1 hN ⟨a5, by omega⟩ ⟨by omega, b4⟩).1)
      · have := timesE_nn (a := x) (b := z) (.inr ⟨by omega, by omega⟩)
        exact .inl (by omega)
   omega
theorem Pl.fin (h : Pl z e r m) (hz : -bigZ < z ∧ z < bigZ) : e = 0 ∧ Nm z r m := by
 rcases h with ⟨rfl, n, _⟩ | ⟨_, _, _, h⟩ | ⟨_, _, _, h⟩
 · exact ⟨rfl, n⟩
 · omega
 · omega
theorem Pl.top (h : Pl z e r m) (hz : z = bigZ) : e = 1 ∧ r = false ∧ m = [] := by
 have h0 := bigZ_pos
 rcases h with ⟨_, _, h1, h2⟩ | ⟨h1, h2, h3, _⟩ | ⟨_, _, _, h⟩
 · omega
 · exact ⟨h1, h2, h3⟩
 · omega
theorem Pl.bot (h : Pl z e r m) (hz : z = -bigZ) : e = -1 ∧ r = false ∧ m = [] := by
 have h0 := bigZ_pos
 rcases h with ⟨_, _, h1, h2⟩ | ⟨_, _, _, h⟩ | ⟨h1, h2, h3, _⟩
 · omega
 · omega
 · exact ⟨h1, h2, h3⟩
theorem boxD_of (h1 : Box3 W g a0 a1 a2) (h2 : Box3 W h b0 b1 b2) :
 D3 W g a0 a1 a2 (C3 W h b0 b1 b2) := ⟨h1.c0, h1.c1, h1.c2, h2.c0, h2.c1, h2.c2⟩
theorem boxD_keep (hs : D3 W g a0 a1 a2 (C3 W h b0 b1 b2)) (hb : Below W.heap.size W W') :
  D3 W' g a0 a1 a2 (C3 W' h b0 b1 b2) :=
 ⟨keepC hb hs.1, keepC hb hs.2.1, keepC hb hs.2.2.1, keepC hb hs.2.2.2.1, keepC hb hs.2.2.2.2.1, keepC hb hs.2.2.2.2.2⟩
theorem ext_sum (hx : Ext bigZ (wN 62) x) (hy : Ext bigZ (wN 62) y) (fx : -bigZ < x ∧ x < bigZ) (fy : -bigZ < y ∧ y < bigZ) : -bigZ < x + y ∧ x + y < bigZ := by
 have h1 : 2 * wN 62 ≤ wN 63 := wN_two 62
 have h2 := wN_le (show 63 ≤ 64 by omega)
 have h3 := wN_pos 62
 unfold Ext at hx hy
 omega
theorem iplus_p {d : Int} {k : List Nat} {f : Nat} (h1 : Pl x b s l) (h2 : Pl y d t k) (h3 : Pl z e r m) (hz : plusE bigZ x y = z) (hno : ¬ (x = bigZ ∧ y = -bigZ) ∧ ¬ (x = -bigZ ∧ y = bigZ)) (hu : U64s w Z A c l) (hv : U64s w Y B f k) (hl : l.length ≤ 62) (hl2 : k.length ≤ 62) :
  Calls Tryz.prog 27 #[.agg #[.int .i64 b, .bool s, .slice A l.length c], .agg #[.int .i64 d, .bool t, .slice B k.length f]] w fun e' w' => ∃ A' c', e' = .returned (.agg #[.int .i64 e, .bool r, .slice A' m.length c']) ∧ U64s w' (new w.heap.size) A' c' m ∧ Below w.heap.size w w' := by
 have hbz := bigZ_pos
 have ex := h1.ext hl
 have ey := h2.ext hl2
 rcases h1 with ⟨rfl, n1, r1, r2⟩ | ⟨rfl, rfl, rfl, hx⟩ | ⟨rfl, rfl, rfl, hx⟩
 · rcases h2 with ⟨rfl, n2, g1, g2⟩ | ⟨rfl, rfl, rfl, hy⟩ | ⟨rfl, rfl, rfl, hy⟩
   · have ez : x + y = z := by
      rw [← hz]
      unfold plusE
      rw [if_neg (by omega), if_neg (by omega)]
     obtain ⟨rfl, n3⟩ := h3.fin (by rw [← ez]; exact ext_sum ex ey ⟨r1, r2⟩ ⟨g1, g2⟩)
     clear hz hno ex ey h3
     obtain ⟨bA, bB, bR, hB0⟩ := boxS w (.int .i64 0) (.bool s) (.slice A l.length c) (.int .i64 0) (.bool t) (.slice B k.length f) (.int .i64 0) (.bool false) (.slice none 0 0) 53
     obtain ⟨HA, HBx, HR, HB⟩ := hid4 bA bB bR hB0
     obtain ⟨a0, a1, a2, _, _, _, _⟩ := bA
     obtain ⟨b0, b1, b2, _, _, _, _⟩ := bB
     have CA := hid (wadd_n n1 n2 n3 ez (by omega) (by omega) (hu.below hB0) (hv.below hB0))
     clear hu hv hl hl2 n1 n2 n3 bR hB0
     go_enter Tryz.func27, Tryz.ntmps27
     go_wp2_with fail
     refine CA.out.mono ?_
     rintro e' w1 ⟨Av, cv, rfl, u1, hc⟩
     have hB1 := from_ HB.out hc
     have bR1 := HR.out.below hc
     have hP := bR1.put hB1 (by omega) (.int .i64 0) (.bool r) (.slice Av m.length cv)
     obtain ⟨HP, hal⟩ := hid2 hP ((Below.refl _ (((w1.setCell ⟨w.heap.size + 2, 0, none⟩ (.int .i64 0)).setCell ⟨w.heap.size + 2, 1, none⟩ (.bool r)).setCell ⟨w.heap.size + 2, 2, none⟩ (.slice Av m.length cv))).alloc (Nat.le_refl _) (.cells #[.bool r, .slice Av m.length cv] 25))
     have U1 := hid (((hP.keep (fun (h : _ ≤ w.heap.size + 2) => by have h8 := HR.out.lt; omega) u1).mono (new_le HB.out.size)).below hal.out)
     obtain ⟨q0, q1, q2, f0, f1, f2, z1⟩ := bR1
     obtain ⟨p0, p1, p2, _⟩ := HA.out.below hc
     obtain ⟨p3, p4, p5, _⟩ := HBx.out.below hc
     have y1 : ¬ w1.heap.size = w.heap.size + 2 := by omega
     have y2 : ¬ w.heap.size + 2 = w1.heap.size := by omega
     clear hP u1 hc hB1
     go_wp2
     refine bodyPost_ret (res_place rfl _ (w.heap.size + 2) rfl (keepC hal.out HP.out.c0) (keepC hal.out HP.out.c1) (keepC hal.out HP.out.c2)) rfl ?_
     exact ⟨_, _, rfl, U1.out, from_ HP.out.bel hal.out⟩
   · obtain ⟨rfl, rfl, rfl⟩ := h3.top (by
      rw [← hz]
      unfold plusE
      rw [if_neg (by omega), if_pos (by omega)])
     clear hz hno ex ey h3 hu hv
     generalize l.length = L1 at *
     obtain ⟨bA, bB, bR, hB0⟩ := boxS w (.int .i64 0) (.bool s) (.slice A L1 c) (.int .i64 1) (.bool false) (.slice B 0 f) (.int .i64 0) (.bool false) (.slice none 0 0) 53
     obtain ⟨HA, HBx, HR, HB⟩ := hid4 bA bB bR hB0
     obtain ⟨a0, a1, a2, _, _, _, _⟩ := bA
     obtain ⟨b0, b1, b2, _, _, _, _⟩ := bB
     obtain ⟨_, _, cR, hC0⟩ := boxS w (.int .i64 0) (.bool s) (.slice A L1 c) (.int .i64 1) (.bool false) (.slice B 0 f) (.int .i64 (1)) (.bool false) (.slice none 0 0) 53
     obtain ⟨q0, q1, q2, f0, f1, f2, _⟩ := bR
     obtain ⟨CR, HC⟩ := hid2 cR hC0
     clear hB0 HA HBx HR HB cR hC0
     go_enter Tryz.func27, Tryz.ntmps27
     go_wp2
     refine bodyPost_ret (res_place rfl _ (w.heap.size + 2) rfl CR.out.c0 CR.out.c1 CR.out.c2) rfl ?_
     exact ⟨none, 0, rfl, U64s.nil _ _, HC.out⟩
   · obtain ⟨rfl, rfl, rfl⟩ := h3.bot (by
      rw [← hz]
      unfold plusE
      rw [if_pos (by omega)])
     clear hz hno ex ey h3 hu hv
     generalize l.length = L1 at *
     obtain ⟨bA, bB, bR, hB0⟩ := boxS w (.int .i64 0) (.bool s) (.slice A L1 c) (.int .i64 (-1)) (.bool false) (.slice B 0 f) (.int .i64 0) (.bool false) (.slice none 0 0) 53
     obtain ⟨HA, HBx, HR, HB⟩ := hid4 bA bB bR hB0
     obtain ⟨a0, a1, a2, _, _, _, _⟩ := bA
     obtain ⟨b0, b1, b2, _, _, _, _⟩ := bB
     obtain ⟨_, _, cR, hC0⟩ := boxS w (.int .i64 0) (.bool s) (.slice A L1 c) (.int .i64 (-1)) (.bool false) (.slice B 0 f) (.int .i64 (-1)) (.bool false) (.slice none 0 0) 53
     obtain ⟨q0, q1, q2, f0, f1, f2, _⟩ := bR
     obtain ⟨CR, HC⟩ := hid2 cR hC0
     clear hB0 HA HBx HR HB cR hC0
     go_enter Tryz.func27, Tryz.ntmps27
     go_wp2
     refine bodyPost_ret (res_place rfl _ (w.heap.size + 2) rfl CR.out.c0 CR.out.c1 CR.out.c2) rfl ?_
     exact ⟨none, 0, rfl, U64s.nil _ _, HC.out⟩
 · rcases h2 with ⟨rfl, n2, g1, g2⟩ | ⟨rfl, rfl, rfl, hy⟩ | ⟨rfl, rfl, rfl, hy⟩
   · obtain ⟨rfl, rfl, rfl⟩ := h3.top (by
      rw [← hz]
      unfold plusE
      rw [if_neg (by omega), if_pos (by omega)])
     clear hz hno ex ey h3 hu hv
     generalize k.length = L2 at *
     obtain ⟨bA, bB, bR, hB0⟩ := boxS w (.int .i64 1) (.bool false) (.slice A 0 c) (.int .i64 0) (.bool t) (.slice B L2 f) (.int .i64 0) (.bool false) (.slice none 0 0) 53
     obtain ⟨HA, HBx, HR, HB⟩ := hid4 bA bB bR hB0
     obtain ⟨a0, a1, a2, _, _, _, _⟩ := bA
     obtain ⟨b0, b1, b2, _, _, _, _⟩ := bB
     obtain ⟨_, _, cR, hC0⟩ := boxS w (.int .i64 1) (.bool false) (.slice A 0 c) (.int .i64 0) (.bool t) (.slice B L2 f) (.int .i64 (1)) (.bool false) (.slice none 0 0) 53
     obtain ⟨q0, q1, q2, f0, f1, f2, _⟩ := bR
     obtain ⟨CR, HC⟩ := hid2 cR hC0
     clear hB0 HA HBx HR HB cR hC0
     go_enter Tryz.func27, Tryz.ntmps27
     go_wp2
     refine bodyPost_ret (res_place rfl _ (w.heap.size + 2) rfl CR.out.c0 CR.out.c1 CR.out.c2) rfl ?_
     exact ⟨none, 0, rfl, U64s.nil _ _, HC.out⟩
   · obtain ⟨rfl, rfl, rfl⟩ := h3.top (by
      rw [← hz]
      unfold plusE
      rw [if_neg (by omega), if_pos (by omega)])
     clear hz hno ex ey h3 hu hv
     obtain ⟨bA, bB, bR, hB0⟩ := boxS w (.int .i64 1) (.bool false) (.slice A 0 c) (.int .i64 1) (.bool false) (.slice B 0 f) (.int .i64 0) (.bool false) (.slice none 0 0) 53
     obtain ⟨HA, HBx, HR, HB⟩ := hid4 bA bB bR hB0
     obtain ⟨a0, a1, a2, _, _, _, _⟩ := bA
     obtain ⟨b0, b1, b2, _, _, _, _⟩ := bB
     obtain ⟨_, _, cR, hC0⟩ := boxS w (.int .i64 1) (.bool false) (.slice A 0 c) (.int .i64 1) (.bool false) (.slice B 0 f) (.int .i64 (1)) (.bool false) (.slice none 0 0) 53
     obtain ⟨q0, q1, q2, f0, f1, f2, _⟩ := bR
     obtain ⟨CR, HC⟩ := hid2 cR hC0
     clear hB0 HA HBx HR HB cR hC0
     go_enter Tryz.func27, Tryz.ntmps27
     go_wp2
     refine bodyPost_ret (res_place rfl _ (w.heap.size + 2) rfl CR.out.c0 CR.out.c1 CR.out.c2) rfl ?_
     exact ⟨none, 0, rfl, U64s.nil _ _, HC.out⟩
   · exact absurd ⟨hx, hy⟩ hno.1
 · rcases h2 with ⟨rfl, n2, g1, g2⟩ | ⟨rfl, rfl, rfl, hy⟩ | ⟨rfl, rfl, rfl, hy⟩
   · obtain ⟨rfl, rfl, rfl⟩ := h3.bot (by
      rw [← hz]
      unfold plusE
      rw [if_pos (by omega)])
     clear hz hno ex ey h3 hu hv
     generalize k.length = L2 at *
     obtain ⟨bA, bB, bR, hB0⟩ := boxS w (.int .i64 (-1)) (.bool false) (.slice A 0 c) (.int .i64 0) (.bool t) (.slice B L2 f) (.int .i64 0) (.bool false) (.slice none 0 0) 53
     obtain ⟨HA, HBx, HR, HB⟩ := hid4 bA bB bR hB0
     obtain ⟨a0, a1, a2, _, _, _, _⟩ := bA
     obtain ⟨b0, b1, b2, _, _, _, _⟩ := bB
     obtain ⟨_, _, cR, hC0⟩ := boxS w (.int .i64 (-1)) (.bool false) (.slice A 0 c) (.int .i64 0) (.bool t) (.slice B L2 f) (.int .i64 (-1)) (.bool false) (.slice none 0 0) 53
     obtain ⟨q0, q1, q2, f0, f1, f2, _⟩ := bR
     obtain ⟨CR, HC⟩ := hid2 cR hC0
     clear hB0 HA HBx HR HB cR hC0
     go_enter Tryz.func27, Tryz.ntmps27
     go_wp2
     refine bodyPost_ret (res_place rfl _ (w.heap.size + 2) rfl CR.out.c0 CR.out.c1 CR.out.c2) rfl ?_
     exact ⟨none, 0, rfl, U64s.nil _ _, HC.out⟩
   · exact absurd ⟨hx, hy⟩ hno.2
   · obtain ⟨rfl, rfl, rfl⟩ := h3.bot (by
      rw [← hz]
      unfold plusE
      rw [if_pos (by omega)])
     clear hz hno ex ey h3 hu hv
     obtain ⟨bA, bB, bR, hB0⟩ := boxS w (.int .i64 (-1)) (.bool false) (.slice A 0 c) (.int .i64 (-1)) (.bool false) (.slice B 0 f) (.int .i64 0) (.bool false) (.slice none 0 0) 53
     obtain ⟨HA, HBx, HR, HB⟩ := hid4 bA bB bR hB0
     obtain ⟨a0, a1, a2, _, _, _, _⟩ := bA
     obtain ⟨b0, b1, b2, _, _, _, _⟩ := bB
     obtain ⟨_, _, cR, hC0⟩ := boxS w (.int .i64 (-1)) (.bool false) (.slice A 0 c) (.int .i64 (-1)) (.bool false) (.slice B 0 f) (.int .i64 (-1)) (.bool false) (.slice none 0 0) 53
     obtain ⟨q0, q1, q2, f0, f1, f2, _⟩ := bR
     obtain ⟨CR, HC⟩ := hid2 cR hC0
     clear hB0 HA HBx HR HB cR hC0
     go_enter Tryz.func27, Tryz.ntmps27
     go_wp2
     refine bodyPost_ret (res_place rfl _ (w.heap.size + 2) rfl CR.out.c0 CR.out.c1 CR.out.c2) rfl ?_
     exact ⟨none, 0, rfl, U64s.nil _ _, HC.out⟩
theorem isign_p {g : Int} (h1 : Pl x b s l) (hg : sgn x = g) (hu : U64s w Z A c l) :
  Calls Tryz.prog 43 #[.agg #[.int .i64 b, .bool s, .slice A l.length c]] w fun e' w' => e' = .returned (.int .i64 g) ∧ Below w.heap.size w w' := by
 have hbz := bigZ_pos
 have hB0 : Below w.heap.size w (w.alloc (.cells #[.int .i64 b, .bool s, .slice A l.length c] 53)) := (Below.refl _ _).alloc (Nat.le_refl _) _
 have bA := Box3.new w (.int .i64 b) (.bool s) (.slice A l.length c) 53
 have HB := hid hB0
 obtain ⟨a0, a1, a2, _, _, _, _⟩ := bA
 rcases h1 with ⟨rfl, n1, r1, r2⟩ | ⟨rfl, rfl, rfl, hx⟩ | ⟨rfl, rfl, rfl, hx⟩
 · have CA := hid (sign_n n1 hg (hu.below hB0))
   clear hu n1 hB0 hg
   go_enter Tryz.func43, Tryz.ntmps43
   go_wp2_with fail
   refine CA.out.mono ?_
   rintro e' w1 ⟨rfl, hc⟩
   have hB1 := from_ HB.out hc
   go_wp2
   go_ret
   exact ⟨rfl, hB1⟩
 · obtain rfl : g = 1 := by rw [← hg]; unfold sgn; rw [if_neg (by omega), if_neg (by omega)]
   clear hu hB0 hg
   go_enter Tryz.func43, Tryz.ntmps43
   go_wp2
   go_ret
   exact ⟨rfl, HB.out⟩
 · obtain rfl : g = -1 := by rw [← hg]; unfold sgn; rw [if_neg (by omega), if_pos (by omega)]
   clear hu hB0 hg
   go_enter Tryz.func43, Tryz.ntmps43
   go_wp2
   go_ret
   exact ⟨rfl, HB.out⟩
theorem sgn3 (x : Int) : (sgn x = 0 ∧ x = 0) ∨ (sgn x = -1 ∧ x < 0) ∨ (sgn x = 1 ∧ 0 < x) := by
 unfold sgn
 split
 · exact .inl ⟨rfl, by assumption⟩
 · split
   · exact .inr (.inl ⟨rfl, by assumption⟩)
   · exact .inr (.inr ⟨rfl, by omega⟩)
theorem itimes_p {d : Int} {k : List Nat} {f : Nat} (h1 : Pl x b s l) (h2 : Pl y d t k) (h3 : Pl z e r m) (hz : timesE bigZ x y = z) (hu : U64s w Z A c l) (hv : U64s w Y B f k) (hl : l.length ≤ 32) (hl2 : k.length ≤ 32) :
  Calls Tryz.prog 33 #[.agg #[.int .i64 b, .bool s, .slice A l.length c], .agg #[.int .i64 d, .bool t, .slice B k.length f]] w fun e' w' => ∃ A' c', e' = .returned (.agg #[.int .i64 e, .bool r, .slice A' m.length c']) ∧ U64s w' (new w.heap.size) A' c' m ∧ Below w.heap.size w w' := by
 have hbz := bigZ_pos
 have ex := h1.ext hl
 have ey := h2.ext hl2
 obtain ⟨bA, bB, bR, hB0⟩ := boxS w (.int .i64 b) (.bool s) (.slice A l.length c) (.int .i64 d) (.bool t) (.slice B k.length f) (.int .i64 0) (.bool false) (.slice none 0 0) 53
 obtain ⟨g, hg⟩ : ∃ g, sgn x = g := ⟨_, rfl⟩
 obtain ⟨h, hh⟩ : ∃ h, sgn y = h := ⟨_, rfl⟩
 obtain ⟨S1, S2⟩ := hid2 (fun (W : World) (q : Below w.heap.size w W) => isign_p h1 hg (hu.below q)) (fun (W : World) (q : Below w.heap.size w W) => isign_p h2 hh (hv.below q))
 have hg3 := sgn3 x
 have hh3 := sgn3 y
 rw [hg] at hg3
 rw [hh] at hh3
 obtain ⟨v, hv_⟩ : ∃ v, g * h = v := ⟨_, rfl⟩
 have hv3 : (v = 0 ∧ (x = 0 ∨ y = 0)) ∨ (v = 1 ∧ x ≠ 0 ∧ y ≠ 0 ∧ (0 < x ↔ 0 < y)) ∨ (v = -1 ∧ x ≠ 0 ∧ y ≠ 0 ∧ ¬ (0 < x ↔ 0 < y)) := by
  rw [← hv_]
  rcases hg3 with ⟨rfl, a⟩ | ⟨rfl, a⟩ | ⟨rfl, a⟩ <;> rcases hh3 with ⟨rfl, b⟩ | ⟨rfl, b⟩ | ⟨rfl, b⟩ <;> simp <;> omega
 obtain ⟨v1, hv1⟩ : ∃ u, (v != 0) = u := ⟨_, rfl⟩
 obtain ⟨v2, hv2⟩ : ∃ u, (b != 0) = u := ⟨_, rfl⟩
 obtain ⟨v3, hv3'⟩ : ∃ u, (d != 0) = u := ⟨_, rfl⟩
 have hv4 : (v == 0) = !v1 := by rw [← hv1]; cases h : (v == 0) <;> simp [bne, h]
 have fl : ∀ u : Bool, (v != 0) = u → (u = false ↔ v = 0) := fun u h => by rw [← h]; simp
 have HD : (v1 = false ∧ e = 0 ∧ r = false ∧ m = []) ∨ (v1 = true ∧ (v2 = true ∨ (v2 = false ∧ v3 = true)) ∧ e = v ∧ r = false ∧ m = []) ∨ (v1 = true ∧ v2 = false ∧ v3 = false ∧ e = 0 ∧ Nm x s l ∧ Nm y t k ∧ Nm z r m ∧ x * y = z) := by
  by_cases h0 : v = 0
  · have hxy : x = 0 ∨ y = 0 := by omega
    have ez : z = 0 := by rw [← hz]; unfold timesE; rw [if_pos hxy]
    obtain ⟨e1, n3⟩ := h3.fin (by omega)
    exact .inl ⟨by rw [← hv1, h0]; rfl, e1, n3.1.trans (by rw [ez]; rfl), n3.2.trans (by rw [ez]; exact limbs_eq_nil.2 rfl)⟩
  · have hv1' : v1 = true := by rw [← hv1]; simp [h0]
    have hn : ¬ (x = 0 ∨ y = 0) := by omega
    by_cases hbd : b = 0 ∧ d = 0
    · obtain ⟨n1, r1⟩ : Nm x s l ∧ (-bigZ < x ∧ x < bigZ) := by rcases h1 with ⟨_, n, q⟩ | ⟨q, _⟩ | ⟨q, _⟩ <;> first | exact ⟨n, q⟩ | omega
      obtain ⟨n2, r2⟩ : Nm y t k ∧ (-bigZ < y ∧ y < bigZ) := by rcases h2 with ⟨_, n, q⟩ | ⟨q, _⟩ | ⟨q, _⟩ <;> first | exact ⟨n, q⟩ | omega
      have ez : x * y = z := by rw [← hz, timesE_fin r1 r2]
      obtain ⟨e0, n3⟩ := h3.fin (by rw [← hz]; exact timesE_small ex ey (by omega) r1 r2)
      exact .inr (.inr ⟨hv1', by rw [← hv2, hbd.1]; rfl, by rw [← hv3', hbd.2]; rfl, e0, n1, n2, n3, ez⟩)
    · have hq : x = bigZ ∨ x = -bigZ ∨ y = bigZ ∨ y = -bigZ := by
       rcases h1 with ⟨q, _⟩ | ⟨_, _, _, q⟩ | ⟨_, _, _, q⟩
       · rcases h2 with ⟨q2, _⟩ | ⟨_, _, _, q2⟩ | ⟨_, _, _, q2⟩
         · exact absurd ⟨q, q2⟩ hbd
         · exact .inr (.inr (.inl q2))
         · exact .inr (.inr (.inr q2))
       · exact .inl q
       · exact .inr (.inl q)
      have hb2 : v2 = true ∨ (v2 = false ∧ v3 = true) := by
       rw [← hv2, ← hv3']
       by_cases hb0 : b = 0
       · exact .inr ⟨by simp [hb0], by simp; omega⟩
       · exact .inl (by simp [hb0])
      unfold timesE at hz
      rw [if_neg hn, if_pos hq] at hz
      rcases hv3 with ⟨q, _⟩ | ⟨q, _, _, q3⟩ | ⟨q, _, _, q3⟩
      · exact absurd q h0
      · rw [if_pos q3] at hz
        obtain ⟨a1, a2, a3⟩ := h3.top hz.symm
        exact .inr (.inl ⟨hv1', hb2, a1.trans q.symm, a2, a3⟩)
      · rw [if_neg q3] at hz
        obtain ⟨a1, a2, a3⟩ := h3.bot hz.symm
        exact .inr (.inl ⟨hv1', hb2, a1.trans q.symm, a2, a3⟩)
 obtain ⟨HA, HBx, HR, HB, Hg3⟩ := hid5 bA bB bR hB0 (And.intro hg3 (And.intro hh3 hv_))
 clear bA bB bR hB0 hg3 hh3 hv_ hg hh fl hv3 ex ey h1 h2 h3 hz hbz
 obtain ⟨Hd, He⟩ := hid2 HD (And.intro hv1 (And.intro hv2 (And.intro hv3' hv4)))
 clear HD hv1 hv2 hv3' hv4
 go_enter Tryz.func33, Tryz.ntmps33
 go_upto_region 1 with fail
 generalize hW : (((w.alloc (.cells #[.int .i64 b, .bool s, .slice A l.length c] 53)).alloc (.cells #[.int .i64 d, .bool t, .slice B k.length f] 53)).alloc (.cells #[.int .i64 0, .bool false, .slice none 0 0] 53)) = W1 at *
 clear hW
 go_upto_region 1 with fail
 have hs := boxD_keep (boxD_of HA.out HBx.out) bdr_
 have Hc := hid (Below.refl W1.heap.size W1).drew
 go_cut [5] (fun sx wx => sx = .int .i64 v ∧ Below W1.heap.size W1 wx)
 case first =>
  obtain ⟨hg3, hh3, hv_⟩ := Hg3.out
  have hw : IntKind.i64.wrap (g * h) = v := by
   rw [← hv_]
   rcases hg3 with ⟨rfl, a⟩ | ⟨rfl, a⟩ | ⟨rfl, a⟩ <;> rcases hh3 with ⟨rfl, b⟩ | ⟨rfl, b⟩ | ⟨rfl, b⟩ <;> decide
  have Hw := hid hw
  clear hg3 hh3 hv_ hw
  first | go_region_held3 (fun w' => D3 w' w.heap.size (.int .i64 b) (.bool s) (.slice A l.length c) (C3 w' (w.heap.size + 1) (.int .i64 d) (.bool t) (.slice B k.length f)))
   (first | with_reducible exact hs | (go_keep; done))
   ((go_at_call 43; (first | (with_reducible refine (S1.out _ (from_ HB.out Hc.out)).mono ?_) | (with_reducible refine (S2.out _ (from_ HB.out Hc.out)).mono ?_)); rintro e' w2 ⟨rfl, hc2⟩; replace hs := boxD_keep hs hc2; replace Hc := hid (from_ Hc.out hc2))) | fail
  all_goals
   clear hs
   have hw := Hw.out
   go_wp2_with fail
   go_meet
   exact ⟨by first | rfl | trivial | (rw [hw]) | (simp [hw]), Hc.out⟩
 case rest =>
  clear hs Hc
  obtain ⟨rfl, hc⟩ := hcut
  replace HA := hid (HA.out.below hc)
  replace HBx := hid (HBx.out.below hc)
  replace HR := hid (HR.out.below hc)
  replace HB := hid (from_ HB.out hc)
  clear hc
  obtain ⟨W2, hren⟩ : ∃ W, W = wc := ⟨_, rfl⟩
  subst hren
  obtain ⟨hv1, hv2, hv3, hv4⟩ := He.out
  rcases Hd.out with ⟨rfl, rfl, rfl, rfl⟩ | ⟨rfl, rfl | ⟨rfl, rfl⟩, rfl, rfl, rfl⟩ | ⟨rfl, rfl, rfl, rfl, n1, n2, n3, hz⟩
  · clear S1 S2 Hg3 He Hd hu hv hl hl2
    have HP := hid (HR.out.put (w := w) HB.out (by omega) (.int .i64 0) (.bool false) (.slice none 0 0))
    obtain ⟨p0, p1, p2, _⟩ := HA.out
    obtain ⟨p3, p4, p5, _⟩ := HBx.out
    obtain ⟨q0, q1, q2, f0, f1, f2, _⟩ := HR.out
    go_wp2
    refine bodyPost_ret (res_place rfl _ (w.heap.size + 2) rfl HP.out.c0 HP.out.c1 HP.out.c2) rfl ?_
    exact ⟨none, 0, rfl, U64s.nil _ _, HP.out.bel⟩
  · clear S1 S2 Hg3 He Hd hu hv hl hl2
    have HP := hid (HR.out.put (w := w) HB.out (by omega) (.int .i64 e) (.bool false) (.slice none 0 0))
    obtain ⟨p0, p1, p2, _⟩ := HA.out
    obtain ⟨p3, p4, p5, _⟩ := HBx.out
    obtain ⟨q0, q1, q2, f0, f1, f2, _⟩ := HR.out
    go_wp2
    refine bodyPost_ret (res_place rfl _ (w.heap.size + 2) rfl HP.out.c0 HP.out.c1 HP.out.c2) rfl ?_
    exact ⟨none, 0, rfl, U64s.nil _ _, HP.out.bel⟩
  · clear S1 S2 Hg3 He Hd hu hv hl hl2
    have HP := hid (HR.out.put (w := w) HB.out (by omega) (.int .i64 e) (.bool false) (.slice none 0 0))
    obtain ⟨p0, p1, p2, _⟩ := HA.out
    obtain ⟨p3, p4, p5, _⟩ := HBx.out
    obtain ⟨q0, q1, q2, f0, f1, f2, _⟩ := HR.out
    go_wp2
    refine bodyPost_ret (res_place rfl _ (w.heap.size + 2) rfl HP.out.c0 HP.out.c1 HP.out.c2) rfl ?_
    exact ⟨none, 0, rfl, U64s.nil _ _, HP.out.bel⟩
  · have CA := hid (fun (W : World) (q : Below w.heap.size w W) => wmul_n n1 n2 n3 hz (by omega) (by omega) (hu.below q) (hv.below q))
    clear S1 S2 Hg3 He Hd hu hv hl hl2 n1 n2 n3 hz
    obtain ⟨p0, p1, p2, _⟩ := HA.out
    obtain ⟨p3, p4, p5, _⟩ := HBx.out
    go_wp2_with fail
    refine (CA.out _ HB.out).mono ?_
    rintro e' w1 ⟨Av, cv, rfl, u1, hc⟩
    clear p0 p1 p2 p3 p4 p5
    have hB1 := from_ HB.out hc
    have bR1 := HR.out.below hc
    have hP := bR1.put hB1 (by omega) (.int .i64 0) (.bool r) (.slice Av m.length cv)
    obtain ⟨HP, hal⟩ := hid2 hP ((Below.refl _ (((w1.setCell ⟨w.heap.size + 2, 0, none⟩ (.int .i64 0)).setCell ⟨w.heap.size + 2, 1, none⟩ (.bool r)).setCell ⟨w.heap.size + 2, 2, none⟩ (.slice Av m.length cv))).alloc (Nat.le_refl _) (.cells #[.bool r, .slice Av m.length cv] 25))
    have U1 := hid (((hP.keep (fun (h : _ ≤ w.heap.size + 2) => by have h8 := HR.out.lt; omega) u1).mono (new_le HB.out.size)).below hal.out)
    obtain ⟨q0, q1, q2, f0, f1, f2, z1⟩ := bR1
    obtain ⟨p0, p1, p2, _⟩ := HA.out.below hc
    obtain ⟨p3, p4, p5, _⟩ := HBx.out.below hc
    have y1 : ¬ w1.heap.size = w.heap.size + 2 := by omega
    have y2 : ¬ w.heap.size + 2 = w1.heap.size := by omega
    clear hP u1 hc hB1
    go_wp2
    refine bodyPost_ret (res_place rfl _ (w.heap.size + 2) rfl (keepC hal.out HP.out.c0) (keepC hal.out HP.out.c1) (keepC hal.out HP.out.c2)) rfl ?_
    exact ⟨_, _, rfl, U1.out, from_ HP.out.bel hal.out⟩
theorem icrossed_any {n : Nat} (hn : n ≤ 60) {F : Nat} (hF : F = 33 ∨ F = 36 ∨ F = 53) {op : Int → Int → Int} {b : Nat}
  (u1 : U64s w Z1 A a l0) (u2 : U64s w Z2 B b l1) (u3 : U64s w Z3 C c k0) (u4 : U64s w Z4 D d k1) (h1 : okA n0 s0 l0 n1 s1 l1 = true) (h2 : okA m0 t0 k0 m1 t1 k1 = true)
  (q1 : l0.length ≤ n) (q2 : l1.length ≤ n) (q3 : k0.length ≤ n) (q4 : k1.length ≤ n)
  (hx : ∀ {x y b d : Int} {s t : Bool} {l k : List Nat}, (y = loV m0 t0 k0 ∨ y = hiV m1 t1 k1) → Pl x b s l → Pl y d t k → l.length ≤ n → k.length ≤ n → (x = loV n0 s0 l0 ∨ x = hiV n1 s1 l1) → Ext bigZ (wN 64) (op x y))
  (hC : ∀ {W : World} {Z Y : Zone} {x y z b d e : Int} {s t r : Bool} {l k m : List Nat} {A B : Option Addr} {c f : Nat}, (x = loV n0 s0 l0 ∨ x = hiV n1 s1 l1) → (y = loV m0 t0 k0 ∨ y = hiV m1 t1 k1) → Pl x b s l → Pl y d t k → Pl z e r m → op x y = z → U64s W Z A c l → U64s W Y B f k → l.length ≤ n → k.length ≤ n → Calls Tryz.prog F #[.agg #[.int .i64 b, .bool s, .slice A l.length c], .agg #[.int .i64 d, .bool t, .slice B k.length f]] W fun e' w' => ∃ A' c', e' = .returned (.agg #[.int .i64 e, .bool r, .slice A' m.length c']) ∧ U64s w' (new W.heap.size) A' c' m ∧ Below W.heap.size W w')
  (hz0 : z0 = lo4 (op (loV n0 s0 l0) (loV m0 t0 k0)) (op (loV n0 s0 l0) (hiV m1 t1 k1)) (op (hiV n1 s1 l1) (loV m0 t0 k0)) (op (hiV n1 s1 l1) (hiV m1 t1 k1))) (hz1 : z1 = hi4 (op (loV n0 s0 l0) (loV m0 t0 k0)) (op (loV n0 s0 l0) (hiV m1 t1 k1)) (op (hiV n1 s1 l1) (loV m0 t0 k0)) (op (hiV n1 s1 l1) (hiV m1 t1 k1))) (gm : z0 < bigZ) (gM : -bigZ < z1) (e0 : EndL z0 rn0 rs0 rl0) (e1 : EndH z1 rn1 rs1 rl1) :
  Calls Tryz.prog 32 #[.agg #[.bool n0, .bool s0, .slice A l0.length a, .bool n1, .bool s1, .slice B l1.length b], .agg #[.bool m0, .bool t0, .slice C k0.length c, .bool m1, .bool t1, .slice D k1.length d], .func (.func F) #[] #[]] w fun e w' => ∃ rA ra rB rb, e = .returned (.agg #[.bool rn0, .bool rs0, .slice rA rl0.length ra, .bool rn1, .bool rs1, .slice rB rl1.length rb]) ∧ U64s w' (new w.heap.size) rA ra rl0 ∧ U64s w' (new w.heap.size) rB rb rl1 ∧ Below w.heap.size w w' := by
 obtain ⟨bA, bB, bR, hB0⟩ := boxX w (.bool n0) (.bool s0) (.slice A l0.length a) (.bool n1) (.bool s1) (.slice B l1.length b) (.bool m0) (.bool t0) (.slice C k0.length c) (.bool m1) (.bool t1) (.slice D k1.length d) (.bool false) (.bool false) (.slice none 0 0) (.bool false) (.bool false) (.slice none 0 0) 29
 obtain ⟨ea1, ea2⟩ := okA_ends h1
 obtain ⟨eb1, eb2⟩ := okA_ends h2
 obtain ⟨x1, xs1, xl1, xA1, xc1, P1⟩ := Plc.ex (-1) n0 s0 l0 A a
 obtain ⟨x2, xs2, xl2, xA2, xc2, P2⟩ := Plc.ex 1 n1 s1 l1 B b
 obtain ⟨x3, xs3, xl3, xA3, xc3, P3⟩ := Plc.ex (-1) m0 t0 k0 C c
 obtain ⟨x4, xs4, xl4, xA4, xc4, P4⟩ := Plc.ex 1 m1 t1 k1 D d
 have p1 := P1.lo ea1 u1.small (by omega)
 have p2 := P2.hi ea2 u2.small (by omega)
 have p3 := P3.lo eb1 u3.small (by omega)
 have p4 := P4.hi eb2 u4.small (by omega)
 have r1 := P1.len
 have r2 := P2.len
 have r3 := P3.len
 have r4 := P4.len
 have v1 := P1.u64s u1
 have v2 := P2.u64s u2
 have v3 := P3.u64s u3
 have v4 := P4.u64s u4
 have i1 := lo_range (n := n0) (s := s0) u1.small (by omega)
 have i2 := hi_range (n := n1) (s := s1) u2.small (by omega)
 have i3 := lo_range (n := m0) (s := t0) u3.small (by omega)
 have i4 := hi_range (n := m1) (s := t1) u4.small (by omega)
 obtain ⟨L1, L2, L3, L4⟩ := hid4 (fun (W : World) => ilow_p (w := W) (v3 := .bool n1) (v4 := .bool s1) (v5 := .slice B l1.length b) P1) (fun (W : World) => ihigh_p (w := W) (v3 := .bool n0) (v4 := .bool s0) (v5 := .slice A l0.length a) P2) (fun (W : World) => ilow_p (w := W) (v3 := .bool m1) (v4 := .bool t1) (v5 := .slice D k1.length d) P3) (fun (W : World) => ihigh_p (w := W) (v3 := .bool m0) (v4 := .bool t0) (v5 := .slice C k0.length c) P4)
 generalize loV n0 s0 l0 = X1 at *
 generalize hiV n1 s1 l1 = X2 at *
 generalize loV m0 t0 k0 = X3 at *
 generalize hiV m1 t1 k1 = X4 at *
 obtain ⟨Y1, hY1⟩ : ∃ Y, op X1 X3 = Y := ⟨_, rfl⟩
 have xx1 : Ext bigZ (wN 64) Y1 := by rw [← hY1]; exact hx (.inl rfl) p1 p3 (by omega) (by omega) (.inl rfl)
 obtain ⟨y1, ys1, yl1, py1⟩ : ∃ b s l, Pl Y1 b s l := ⟨_, _, _, Pl.all (xx1.range (by omega))⟩
 have yn1 := py1.len_of xx1
 have T1 : Hid (∀ W, Below w.heap.size w W → Calls Tryz.prog F #[.agg #[.int .i64 x1, .bool xs1, .slice xA1 xl1.length xc1], .agg #[.int .i64 x3, .bool xs3, .slice xA3 xl3.length xc3]] W fun e' w' => ∃ A' c', e' = .returned (.agg #[.int .i64 y1, .bool ys1, .slice A' yl1.length c']) ∧ U64s w' (new W.heap.size) A' c' yl1 ∧ Below W.heap.size W w') := fun W g => hC (.inl rfl) (.inl rfl) p1 p3 py1 hY1 (v1.below g) (v3.below g) (by omega) (by omega)
 obtain ⟨Y2, hY2⟩ : ∃ Y, op X1 X4 = Y := ⟨_, rfl⟩
 have xx2 : Ext bigZ (wN 64) Y2 := by rw [← hY2]; exact hx (.inr rfl) p1 p4 (by omega) (by omega) (.inl rfl)
 obtain ⟨y2, ys2, yl2, py2⟩ : ∃ b s l, Pl Y2 b s l := ⟨_, _, _, Pl.all (xx2.range (by omega))⟩
 have yn2 := py2.len_of xx2
 have T2 : Hid (∀ W, Below w.heap.size w W → Calls Tryz.prog F #[.agg #[.int .i64 x1, .bool xs1, .slice xA1 xl1.length xc1], .agg #[.int .i64 x4, .bool xs4, .slice xA4 xl4.length xc4]] W fun e' w' => ∃ A' c', e' = .returned (.agg #[.int .i64 y2, .bool ys2, .slice A' yl2.length c']) ∧ U64s w' (new W.heap.size) A' c' yl2 ∧ Below W.heap.size W w') := fun W g => hC (.inl rfl) (.inr rfl) p1 p4 py2 hY2 (v1.below g) (v4.below g) (by omega) (by omega)
 obtain ⟨Y3, hY3⟩ : ∃ Y, op X2 X3 = Y := ⟨_, rfl⟩
 have xx3 : Ext bigZ (wN 64) Y3 := by rw [← hY3]; exact hx (.inl rfl) p2 p3 (by omega) (by omega) (.inr rfl)
 obtain ⟨y3, ys3, yl3, py3⟩ : ∃ b s l, Pl Y3 b s l := ⟨_, _, _, Pl.all (xx3.range (by omega))⟩
 have yn3 := py3.len_of xx3
 have T3 : Hid (∀ W, Below w.heap.size w W → Calls Tryz.prog F #[.agg #[.int .i64 x2, .bool xs2, .slice xA2 xl2.length xc2], .agg #[.int .i64 x3, .bool xs3, .slice xA3 xl3.length xc3]] W fun e' w' => ∃ A' c', e' = .returned (.agg #[.int .i64 y3, .bool ys3, .slice A' yl3.length c']) ∧ U64s w' (new W.heap.size) A' c' yl3 ∧ Below W.heap.size W w') := fun W g => hC (.inr rfl) (.inl rfl) p2 p3 py3 hY3 (v2.below g) (v3.below g) (by omega) (by omega)
 obtain ⟨Y4, hY4⟩ : ∃ Y, op X2 X4 = Y := ⟨_, rfl⟩
 have xx4 : Ext bigZ (wN 64) Y4 := by rw [← hY4]; exact hx (.inr rfl) p2 p4 (by omega) (by omega) (.inr rfl)
 obtain ⟨y4, ys4, yl4, py4⟩ : ∃ b s l, Pl Y4 b s l := ⟨_, _, _, Pl.all (xx4.range (by omega))⟩
 have yn4 := py4.len_of xx4
 have T4 : Hid (∀ W, Below w.heap.size w W → Calls Tryz.prog F #[.agg #[.int .i64 x2, .bool xs2, .slice xA2 xl2.length xc2], .agg #[.int .i64 x4, .bool xs4, .slice xA4 xl4.length xc4]] W fun e' w' => ∃ A' c', e' = .returned (.agg #[.int .i64 y4, .bool ys4, .slice A' yl4.length c']) ∧ U64s w' (new W.heap.size) A' c' yl4 ∧ Below W.heap.size W w') := fun W g => hC (.inr rfl) (.inr rfl) p2 p4 py4 hY4 (v2.below g) (v4.below g) (by omega) (by omega)
 have COR : Hid (∀ (W : World) (ty : TypeId) (Z5 Z6 Z7 Z8 : Zone) (D1 D2 D3 D4 : Option Addr) (d1 d2 d3 d4 : Nat), U64s W Z5 D1 d1 yl1 → U64s W Z6 D2 d2 yl2 → U64s W Z7 D3 d3 yl3 → U64s W Z8 D4 d4 yl4 → Calls Tryz.prog 71 #[.slice (some ⟨W.heap.size, 0, none⟩) 4 4] (W.alloc (.cells #[.int .i64 y1, .bool ys1, .slice D1 yl1.length d1, .int .i64 y2, .bool ys2, .slice D2 yl2.length d2, .int .i64 y3, .bool ys3, .slice D3 yl3.length d3, .int .i64 y4, .bool ys4, .slice D4 yl4.length d4] ty)) fun e w' => ∃ A1 c1 A2 c2, e = .returned (.agg #[.bool rn0, .bool rs0, .slice A1 rl0.length c1, .bool rn1, .bool rs1, .slice A2 rl1.length c2]) ∧ U64s w' (new W.heap.size) A1 c1 rl0 ∧ U64s w' (new W.heap.size) A2 c2 rl1 ∧ Below W.heap.size W w') := fun W ty Z5 Z6 Z7 Z8 D1 D2 D3 D4 d1 d2 d3 d4 g1 g2 g3 g4 => by
  have h9 := icorners4 (W := W) (ty := ty) (p := ⟨_, y1, ys1, yl1⟩) (q := ⟨_, y2, ys2, yl2⟩) (r := ⟨_, y3, ys3, yl3⟩) (s := ⟨_, y4, ys4, yl4⟩) py1 py2 py3 py4 g1 g2 g3 g4 (by dsimp only; omega) (by dsimp only; omega) (by dsimp only; omega) (by dsimp only; omega) (m := z0) (M := z1) (by dsimp only; rw [hz0, ← hY1, ← hY2, ← hY3, ← hY4]) (by dsimp only; rw [hz1, ← hY1, ← hY2, ← hY3, ← hY4]) gm gM e0 e1
  exact h9
 have hs := boxT_of bA bB
 replace hs := boxT_keep hs bdr_
 have Hc := hid hB0.drew
 have bR' : Box6 _ (w.heap.size + 1 + 1) _ _ _ _ _ _ := bR
 have HR := hid (bR'.below bdr_)
 clear hx hC bA bB bR bR' hB0 hz0 hz1 e0 e1 gm gM
 clear hY1 xx1 py1 yn1 hY2 xx2 py2 yn2 hY3 xx3 py3 yn3 hY4 xx4 py4 yn4
 clear u1 u2 u3 u4 ea1 ea2 eb1 eb2 P1 P2 P3 P4 p1 p2 p3 p4 r1 r2 r3 r4 v1 v2 v3 v4 i1 i2 i3 i4 q1 q2 q3 q4 h1 h2
 rcases hF with rfl | rfl | rfl
 all_goals
  go_enter Tryz.func32, Tryz.ntmps32
  go_wp2
  generalize hgR : w.heap.size + 1 + 1 = gR at *
  have n1 : gR ≠ w.heap.size := by omega
  have n2 : gR ≠ w.heap.size + 1 := by omega
  have n3 : w.heap.size ≤ gR := by omega
  obtain ⟨N1, N2, N3⟩ := hid3 n1 n2 n3
  clear hgR n1 n2 n3
  first | go_region_held3 (fun w' => D6 w' w.heap.size (.bool n0) (.bool s0) (.slice A l0.length a) (.bool n1) (.bool s1) (.slice B l1.length b) (C6 w' (w.heap.size + 1) (.bool m0) (.bool t0) (.slice C k0.length c) (.bool m1) (.bool t1) (.slice D k1.length d)))
   (first
    | with_reducible exact hs
    | with_reducible exact boxT_st6 N1.out N2.out hs
    | exact boxT_keep hs bal_)
   (first
    | (go_at_call 28; (first | (with_reducible refine (L1.out _).mono ?_) | (with_reducible refine (L3.out _).mono ?_)); rintro e w2 ⟨rfl, hc2⟩; (try replace vv1 := vv1.below hc2); (try replace vv2 := vv2.below hc2); (try replace vv3 := vv3.below hc2); replace hs := boxT_keep hs hc2; replace HR := hid (HR.out.below hc2); replace Hc := hid (from_ Hc.out hc2))
    | (go_at_call 29; (first | (with_reducible refine (L2.out _).mono ?_) | (with_reducible refine (L4.out _).mono ?_)); rintro e w2 ⟨rfl, hc2⟩; (try replace vv1 := vv1.below hc2); (try replace vv2 := vv2.below hc2); (try replace vv3 := vv3.below hc2); replace hs := boxT_keep hs hc2; replace HR := hid (HR.out.below hc2); replace Hc := hid (from_ Hc.out hc2))
    | ((first | go_at_call 33 | go_at_call 36 | go_at_call 53); with_reducible refine (T1.out _ Hc.out).mono ?_; rintro e w2 ⟨D1, d1, rfl, vv1, hc2⟩; replace hs := boxT_keep hs hc2; replace HR := hid (HR.out.below hc2); replace Hc := hid (from_ Hc.out hc2))
    | ((first | go_at_call 33 | go_at_call 36 | go_at_call 53); with_reducible refine (T2.out _ Hc.out).mono ?_; rintro e w2 ⟨D2, d2, rfl, vv2, hc2⟩; (try replace vv1 := vv1.below hc2); replace hs := boxT_keep hs hc2; replace HR := hid (HR.out.below hc2); replace Hc := hid (from_ Hc.out hc2))
    | ((first | go_at_call 33 | go_at_call 36 | go_at_call 53); with_reducible refine (T3.out _ Hc.out).mono ?_; rintro e w2 ⟨D3, d3, rfl, vv3, hc2⟩; (try replace vv1 := vv1.below hc2); (try replace vv2 := vv2.below hc2); replace hs := boxT_keep hs hc2; replace HR := hid (HR.out.below hc2); replace Hc := hid (from_ Hc.out hc2))
    | ((first | go_at_call 33 | go_at_call 36 | go_at_call 53); with_reducible refine (T4.out _ Hc.out).mono ?_; rintro e w2 ⟨D4, d4, rfl, vv4, hc2⟩; (try replace vv1 := vv1.below hc2); (try replace vv2 := vv2.below hc2); (try replace vv3 := vv3.below hc2); replace hs := boxT_keep hs hc2; replace HR := hid (HR.out.below hc2); replace Hc := hid (from_ Hc.out hc2))
    | (go_at_call 71; with_reducible refine (COR.out _ _ _ _ _ _ _ _ _ _ _ _ _ _ vv1 vv2 vv3 vv4).mono ?_; rintro e w3 ⟨A1, c1, A2, c2, rfl, o1, o2, hc2⟩; replace hs := boxT_keep hs hc2; have zl := HR.out.lt; replace HR := hid (HR.out.below hc2); have Hp := Hc; replace Hc := hid (from_ Hc.out hc2); have g0 := HR.out.cf)) | fail
  all_goals
   obtain ⟨HP, U1, U2⟩ := hid3 (HR.out.put Hc.out N3.out (.bool rn0) (.bool rs0) (.slice A1 rl0.length c1) (.bool rn1) (.bool rs1) (.slice A2 rl1.length c2)) ((o1.set6 (g := gR) (fun (h : _ ≤ gR) => by omega) (.bool rn0) (.bool rs0) (.slice A1 rl0.length c1) (.bool rn1) (.bool rs1) (.slice A2 rl1.length c2)).mono (new_le Hp.out.size)) ((o2.set6 (g := gR) (fun (h : _ ≤ gR) => by omega) (.bool rn0) (.bool rs0) (.slice A1 rl0.length c1) (.bool rn1) (.bool rs1) (.slice A2 rl1.length c2)).mono (new_le Hp.out.size))
   clear o1 o2
   go_wp2
   refine bodyPost_ret (res_itv rfl _ gR rfl HP.out.box) rfl ?_
   exact ⟨_, _, _, _, rfl, U1.out, U2.out, HP.out.bel⟩
theorem icrossed_times {b : Nat}
  (u1 : U64s w Z1 A a l0) (u2 : U64s w Z2 B b l1) (u3 : U64s w Z3 C c k0) (u4 : U64s w Z4 D d k1) (h1 : okA n0 s0 l0 n1 s1 l1 = true) (h2 : okA m0 t0 k0 m1 t1 k1 = true)
  (q1 : l0.length ≤ 32) (q2 : l1.length ≤ 32) (q3 : k0.length ≤ 32) (q4 : k1.length ≤ 32)
  (hz0 : z0 = mulLo (loV n0 s0 l0) (hiV n1 s1 l1) (loV m0 t0 k0) (hiV m1 t1 k1)) (hz1 : z1 = mulHi (loV n0 s0 l0) (hiV n1 s1 l1) (loV m0 t0 k0) (hiV m1 t1 k1)) (gm : z0 < bigZ) (gM : -bigZ < z1) (e0 : EndL z0 rn0 rs0 rl0) (e1 : EndH z1 rn1 rs1 rl1) :
  Calls Tryz.prog 32 #[.agg #[.bool n0, .bool s0, .slice A l0.length a, .bool n1, .bool s1, .slice B l1.length b], .agg #[.bool m0, .bool t0, .slice C k0.length c, .bool m1, .bool t1, .slice D k1.length d], .func (.func 33) #[] #[]] w fun e w' => ∃ rA ra rB rb, e = .returned (.agg #[.bool rn0, .bool rs0, .slice rA rl0.length ra, .bool rn1, .bool rs1, .slice rB rl1.length rb]) ∧ U64s w' (new w.heap.size) rA ra rl0 ∧ U64s w' (new w.heap.size) rB rb rl1 ∧ Below w.heap.size w w' :=
 icrossed_any (n := 32) (by omega) (by simp) (op := timesE bigZ) u1 u2 u3 u4 h1 h2 (by omega) (by omega) (by omega) (by omega) (fun _ p q hl hk _ => ext_times (N := 32) (M := 32) (p.ext hl) (q.ext hk)) (fun _ _ p q r hz u v hl hk => itimes_p p q r hz u v hl hk) hz0 hz1 gm gM e0 e1
theorem iMul_good {b : Nat}
  (u1 : U64s w Z1 A a l0) (u2 : U64s w Z2 B b l1) (u3 : U64s w Z3 C c k0) (u4 : U64s w Z4 D d k1) (h1 : okA n0 s0 l0 n1 s1 l1 = true) (h2 : okA m0 t0 k0 m1 t1 k1 = true)
  (q1 : l0.length ≤ 32) (q2 : l1.length ≤ 32) (q3 : k0.length ≤ 32) (q4 : k1.length ≤ 32)
  (hz0 : z0 = mulLo (loV n0 s0 l0) (hiV n1 s1 l1) (loV m0 t0 k0) (hiV m1 t1 k1)) (hz1 : z1 = mulHi (loV n0 s0 l0) (hiV n1 s1 l1) (loV m0 t0 k0) (hiV m1 t1 k1)) (gm : z0 < bigZ) (gM : -bigZ < z1) (e0 : EndL z0 rn0 rs0 rl0) (e1 : EndH z1 rn1 rs1 rl1) :
  Calls Tryz.prog 8 #[.agg #[.bool n0, .bool s0, .slice A l0.length a, .bool n1, .bool s1, .slice B l1.length b], .agg #[.bool m0, .bool t0, .slice C k0.length c, .bool m1, .bool t1, .slice D k1.length d]] w fun e w' => ∃ rA ra rB rb, e = .returned (.tuple #[.agg #[.bool rn0, .bool rs0, .slice rA rl0.length ra, .bool rn1, .bool rs1, .slice rB rl1.length rb], .int .i64 0]) ∧ U64s w' (new w.heap.size) rA ra rl0 ∧ U64s w' (new w.heap.size) rB rb rl1 ∧ Below w.heap.size w w' := by
 obtain ⟨bA, bB, bR, hB0⟩ := boxX w (.bool n0) (.bool s0) (.slice A l0.length a) (.bool n1) (.bool s1) (.slice B l1.length b) (.bool m0) (.bool t0) (.slice C k0.length c) (.bool m1) (.bool t1) (.slice D k1.length d) (.bool false) (.bool false) (.slice none 0 0) (.bool false) (.bool false) (.slice none 0 0) 29
 have hb1 := hB0.alloc hB0.size (.cells #[.bool n0, .bool s0, .slice A l0.length a, .bool n1, .bool s1, .slice B l1.length b, .bool m0, .bool t0, .slice C k0.length c, .bool m1, .bool t1, .slice D k1.length d] 29)
 have hg := given_twoA (p := ⟨n0, s0, l0, n1, s1, l1⟩) (q := ⟨m0, t0, k0, m1, t1, k1⟩) (ty := 29) (u1.below hB0) (u2.below hB0) (u3.below hB0) (u4.below hB0)
 rw [show (((w.alloc (.cells #[.bool n0, .bool s0, .slice A l0.length a, .bool n1, .bool s1, .slice B l1.length b] 29)).alloc (.cells #[.bool m0, .bool t0, .slice C k0.length c, .bool m1, .bool t1, .slice D k1.length d] 29)).alloc (.cells #[.bool false, .bool false, .slice none 0 0, .bool false, .bool false, .slice none 0 0] 29)).heap.size = w.heap.size + 3 by simp] at hg
 have hck := ichecked_any (n := 2) (c := 2) hg rfl (by simp) (by intro p hp; simp only [List.mem_cons, List.not_mem_nil, or_false] at hp; rcases hp with rfl | rfl <;> exact ⟨by dsimp only; omega, by dsimp only; omega⟩)
 rw [errAs_two, if_pos ⟨h1, h2⟩] at hck
 obtain ⟨HA, HBb, HR, Hck, Hb1⟩ := hid5 (bA.alloc (.cells #[.bool n0, .bool s0, .slice A l0.length a, .bool n1, .bool s1, .slice B l1.length b, .bool m0, .bool t0, .slice C k0.length c, .bool m1, .bool t1, .slice D k1.length d] 29)) (bB.alloc (.cells #[.bool n0, .bool s0, .slice A l0.length a, .bool n1, .bool s1, .slice B l1.length b, .bool m0, .bool t0, .slice C k0.length c, .bool m1, .bool t1, .slice D k1.length d] 29)) (bR.alloc (.cells #[.bool n0, .bool s0, .slice A l0.length a, .bool n1, .bool s1, .slice B l1.length b, .bool m0, .bool t0, .slice C k0.length c, .bool m1, .bool t1, .slice D k1.length d] 29)) hck hb1
 obtain ⟨a0, a1, a2, a3, a4, a5, _, _, _, _, _, _, _⟩ := bA
 obtain ⟨b0, b1, b2, b3, b4, b5, _, _, _, _, _, _, _⟩ := bB
 have J := hid (fun (W : World) (h : Below w.heap.size w W) => icrossed_times (u1.below h) (u2.below h) (u3.below h) (u4.below h) h1 h2 q1 q2 q3 q4 hz0 hz1 gm gM e0 e1)
 clear gm gM hck hb1 hg u1 u2 u3 u4 h1 h2 q1 q2 q3 q4 hz0 hz1 e0 e1 bR hB0
 go_enter Tryz.func8, Tryz.ntmps8
 go_wp2_with fail
 refine Hck.out.mono ?_
 rintro e w1 ⟨rfl, hc⟩
 obtain ⟨H1, R1⟩ := hid2 (from_ Hb1.out hc) (HR.out.below hc)
 clear a0 a1 a2 a3 a4 a5 b0 b1 b2 b3 b4 b5
 have a0 := (HA.out.below hc).all
 have b0 := (HBb.out.below hc).all
 clear hc
 go_wp2_with fail
 refine (J.out _ H1.out).mono ?_
 rintro e w2 ⟨A1, c1, A2, c2, rfl, o1, o2, hc⟩
 have z1 := R1.out.lt
 have R2 := R1.out.below hc
 obtain ⟨HP, U1, U2⟩ := hid3 (R2.put (from_ H1.out hc) (by omega) (.bool rn0) (.bool rs0) (.slice A1 rl0.length c1) (.bool rn1) (.bool rs1) (.slice A2 rl1.length c2)) ((o1.set6 (g := w.heap.size + 2) (fun (h : w1.heap.size ≤ w.heap.size + 2) => by omega) (.bool rn0) (.bool rs0) (.slice A1 rl0.length c1) (.bool rn1) (.bool rs1) (.slice A2 rl1.length c2)).mono (new_le H1.out.size)) ((o2.set6 (g := w.heap.size + 2) (fun (h : w1.heap.size ≤ w.heap.size + 2) => by omega) (.bool rn0) (.bool rs0) (.slice A1 rl0.length c1) (.bool rn1) (.bool rs1) (.slice A2 rl1.length c2)).mono (new_le H1.out.size))
 have g0 := R2.cf
 clear o1 o2 hc z1 a0 b0
 go_wp2
 refine bodyPost_ret (res_itv2 rfl _ (w.heap.size + 2) rfl HP.out.box) rfl ?_
 exact ⟨_, _, _, _, rfl, U1.out, U2.out, HP.out.bel⟩
theorem iAdd_good {b : Nat}
  (u1 : U64s w Z1 A a l0) (u2 : U64s w Z2 B b l1) (u3 : U64s w Z3 C c k0) (u4 : U64s w Z4 D d k1) (h1 : okA n0 s0 l0 n1 s1 l1 = true) (h2 : okA m0 t0 k0 m1 t1 k1 = true)
  (q1 : l0.length ≤ 60) (q2 : l1.length ≤ 60) (q3 : k0.length ≤ 60) (q4 : k1.length ≤ 60)
  (hz0 : z0 = plusE bigZ (loV n0 s0 l0) (loV m0 t0 k0)) (hz1 : z1 = plusE bigZ (hiV n1 s1 l1) (hiV m1 t1 k1)) (gm : z0 < bigZ) (gM : -bigZ < z1) (e0 : EndL z0 rn0 rs0 rl0) (e1 : EndH z1 rn1 rs1 rl1) :
  Calls Tryz.prog 6 #[.agg #[.bool n0, .bool s0, .slice A l0.length a, .bool n1, .bool s1, .slice B l1.length b], .agg #[.bool m0, .bool t0, .slice C k0.length c, .bool m1, .bool t1, .slice D k1.length d]] w fun e w' => ∃ rA ra rB rb, e = .returned (.tuple #[.agg #[.bool rn0, .bool rs0, .slice rA rl0.length ra, .bool rn1, .bool rs1, .slice rB rl1.length rb], .int .i64 0]) ∧ U64s w' (new w.heap.size) rA ra rl0 ∧ U64s w' (new w.heap.size) rB rb rl1 ∧ Below w.heap.size w w' := by
 obtain ⟨bA, bB, bR, hB0⟩ := boxX w (.bool n0) (.bool s0) (.slice A l0.length a) (.bool n1) (.bool s1) (.slice B l1.length b) (.bool m0) (.bool t0) (.slice C k0.length c) (.bool m1) (.bool t1) (.slice D k1.length d) (.bool false) (.bool false) (.slice none 0 0) (.bool false) (.bool false) (.slice none 0 0) 29
 have hb1 := hB0.alloc hB0.size (.cells #[.bool n0, .bool s0, .slice A l0.length a, .bool n1, .bool s1, .slice B l1.length b, .bool m0, .bool t0, .slice C k0.length c, .bool m1, .bool t1, .slice D k1.length d] 29)
 have hg := given_twoA (p := ⟨n0, s0, l0, n1, s1, l1⟩) (q := ⟨m0, t0, k0, m1, t1, k1⟩) (ty := 29) (u1.below hB0) (u2.below hB0) (u3.below hB0) (u4.below hB0)
 rw [show (((w.alloc (.cells #[.bool n0, .bool s0, .slice A l0.length a, .bool n1, .bool s1, .slice B l1.length b] 29)).alloc (.cells #[.bool m0, .bool t0, .slice C k0.length c, .bool m1, .bool t1, .slice D k1.length d] 29)).alloc (.cells #[.bool false, .bool false, .slice none 0 0, .bool false, .bool false, .slice none 0 0] 29)).heap.size = w.heap.size + 3 by simp] at hg
 have hck := ichecked_any (n := 2) (c := 2) hg rfl (by simp) (by intro p hp; simp only [List.mem_cons, List.not_mem_nil, or_false] at hp; rcases hp with rfl | rfl <;> exact ⟨by dsimp only; omega, by dsimp only; omega⟩)
 rw [errAs_two, if_pos ⟨h1, h2⟩] at hck
 obtain ⟨HA, HBb, HR, Hck, Hb1⟩ := hid5 (bA.alloc (.cells #[.bool n0, .bool s0, .slice A l0.length a, .bool n1, .bool s1, .slice B l1.length b, .bool m0, .bool t0, .slice C k0.length c, .bool m1, .bool t1, .slice D k1.length d] 29)) (bB.alloc (.cells #[.bool n0, .bool s0, .slice A l0.length a, .bool n1, .bool s1, .slice B l1.length b, .bool m0, .bool t0, .slice C k0.length c, .bool m1, .bool t1, .slice D k1.length d] 29)) (bR.alloc (.cells #[.bool n0, .bool s0, .slice A l0.length a, .bool n1, .bool s1, .slice B l1.length b, .bool m0, .bool t0, .slice C k0.length c, .bool m1, .bool t1, .slice D k1.length d] 29)) hck hb1
 have a0 := bA.all
 have b0 := bB.all
 obtain ⟨ea1, ea2⟩ := okA_ends h1
 obtain ⟨eb1, eb2⟩ := okA_ends h2
 obtain ⟨x1, xs1, xl1, xA1, xc1, P1⟩ := Plc.ex (-1) n0 s0 l0 A a
 obtain ⟨x2, xs2, xl2, xA2, xc2, P2⟩ := Plc.ex 1 n1 s1 l1 B b
 obtain ⟨x3, xs3, xl3, xA3, xc3, P3⟩ := Plc.ex (-1) m0 t0 k0 C c
 obtain ⟨x4, xs4, xl4, xA4, xc4, P4⟩ := Plc.ex 1 m1 t1 k1 D d
 have p1 := P1.lo ea1 u1.small (by omega)
 have p2 := P2.hi ea2 u2.small (by omega)
 have p3 := P3.lo eb1 u3.small (by omega)
 have p4 := P4.hi eb2 u4.small (by omega)
 have r1 := P1.len
 have r2 := P2.len
 have r3 := P3.len
 have r4 := P4.len
 have v1 := P1.u64s u1
 have v2 := P2.u64s u2
 have v3 := P3.u64s u3
 have v4 := P4.u64s u4
 have i1 := lo_range (n := n0) (s := s0) u1.small (by omega)
 have i2 := hi_range (n := n1) (s := s1) u2.small (by omega)
 have i3 := lo_range (n := m0) (s := t0) u3.small (by omega)
 have i4 := hi_range (n := m1) (s := t1) u4.small (by omega)
 obtain ⟨L1, L2, L3, L4⟩ := hid4 (fun (W : World) => ilow_p (w := W) (v3 := .bool n1) (v4 := .bool s1) (v5 := .slice B l1.length b) P1) (fun (W : World) => ihigh_p (w := W) (v3 := .bool n0) (v4 := .bool s0) (v5 := .slice A l0.length a) P2) (fun (W : World) => ilow_p (w := W) (v3 := .bool m1) (v4 := .bool t1) (v5 := .slice D k1.length d) P3) (fun (W : World) => ihigh_p (w := W) (v3 := .bool m0) (v4 := .bool t0) (v5 := .slice C k0.length c) P4)
 generalize loV n0 s0 l0 = X1 at *
 generalize hiV n1 s1 l1 = X2 at *
 generalize loV m0 t0 k0 = X3 at *
 generalize hiV m1 t1 k1 = X4 at *
 have xx1 : Ext bigZ (wN 61) z0 := by rw [hz0]; exact ext_plus (p1.ext (by omega)) (p3.ext (by omega))
 obtain ⟨y1, ys1, yl1, py1⟩ : ∃ b s l, Pl z0 b s l := ⟨_, _, _, Pl.all (xx1.range (by omega))⟩
 have yn1 := py1.len_of xx1
 obtain ⟨eq1, er1, es1⟩ := e0
 obtain rfl : ys1 = rs0 := py1.uniq.2.1.trans er1.symm
 obtain rfl : yl1 = rl0 := py1.uniq.2.2.trans es1.symm
 have PL1 : Hid (∀ W, Below w.heap.size w W → Calls Tryz.prog 27 #[.agg #[.int .i64 x1, .bool xs1, .slice xA1 xl1.length xc1], .agg #[.int .i64 x3, .bool xs3, .slice xA3 xl3.length xc3]] W fun e' w' => ∃ A' c', e' = .returned (.agg #[.int .i64 y1, .bool ys1, .slice A' yl1.length c']) ∧ U64s w' (new W.heap.size) A' c' yl1 ∧ Below W.heap.size W w') := fun W g => iplus_p p1 p3 py1 hz0.symm ⟨by omega, by omega⟩ (v1.below g) (v3.below g) (by omega) (by omega)
 have BD1 : Hid (∀ W Y D d, U64s W Y D d yl1 → Calls Tryz.prog 26 #[.agg #[.int .i64 y1, .bool ys1, .slice D yl1.length d]] W fun e' w' => ∃ A' c', e' = .returned (.agg #[.bool rn0, .bool ys1, .slice A' yl1.length c']) ∧ U64s w' (new W.heap.size) A' c' yl1 ∧ Below W.heap.size W w') := fun W Y D d g => ibound_p py1 ((py1.nlo gm).trans eq1.symm) g (by omega)
 have xx2 : Ext bigZ (wN 61) z1 := by rw [hz1]; exact ext_plus (p2.ext (by omega)) (p4.ext (by omega))
 obtain ⟨y2, ys2, yl2, py2⟩ : ∃ b s l, Pl z1 b s l := ⟨_, _, _, Pl.all (xx2.range (by omega))⟩
 have yn2 := py2.len_of xx2
 obtain ⟨eq2, er2, es2⟩ := e1
 obtain rfl : ys2 = rs1 := py2.uniq.2.1.trans er2.symm
 obtain rfl : yl2 = rl1 := py2.uniq.2.2.trans es2.symm
 have PL2 : Hid (∀ W, Below w.heap.size w W → Calls Tryz.prog 27 #[.agg #[.int .i64 x2, .bool xs2, .slice xA2 xl2.length xc2], .agg #[.int .i64 x4, .bool xs4, .slice xA4 xl4.length xc4]] W fun e' w' => ∃ A' c', e' = .returned (.agg #[.int .i64 y2, .bool ys2, .slice A' yl2.length c']) ∧ U64s w' (new W.heap.size) A' c' yl2 ∧ Below W.heap.size W w') := fun W g => iplus_p p2 p4 py2 hz1.symm ⟨by omega, by omega⟩ (v2.below g) (v4.below g) (by omega) (by omega)
 have BD2 : Hid (∀ W Y D d, U64s W Y D d yl2 → Calls Tryz.prog 26 #[.agg #[.int .i64 y2, .bool ys2, .slice D yl2.length d]] W fun e' w' => ∃ A' c', e' = .returned (.agg #[.bool rn1, .bool ys2, .slice A' yl2.length c']) ∧ U64s w' (new W.heap.size) A' c' yl2 ∧ Below W.heap.size W w') := fun W Y D d g => ibound_p py2 ((py2.nhi gM).trans eq2.symm) g (by omega)
 clear hck hb1 hg bR hB0 hz0 hz1 gm gM
 clear xx1 py1 yn1 eq1 er1 es1 xx2 py2 yn2 eq2 er2 es2
 clear u1 u2 u3 u4 ea1 ea2 eb1 eb2 P1 P2 P3 P4 p1 p2 p3 p4 r1 r2 r3 r4 v1 v2 v3 v4 i1 i2 i3 i4 q1 q2 q3 q4 h1 h2
 go_enter Tryz.func6, Tryz.ntmps6
 go_wp2_with fail
 refine Hck.out.mono ?_
 rintro e w1 ⟨rfl, hc⟩
 have H1 := hid (from_ Hb1.out hc)
 clear a0 b0
 have hs := boxT_of (HA.out.below hc) (HBb.out.below hc)
 replace hs := boxT_keep hs bdr_
 have Hc := hid H1.out.drew
 obtain ⟨gR, hgR⟩ : ∃ gR, gR = w.heap.size + 2 := ⟨_, rfl⟩
 replace HR := hid ((HR.out.below hc).below bdr_)
 rw [← hgR] at HR
 clear hc H1 Hb1 HA HBb Hck
 go_upto_region 4 with fail
 simp only [show w.heap.size + 2 = gR from hgR.symm, show w.heap.size + 1 + 1 = gR from hgR.symm]
 have n1 : gR ≠ w.heap.size := by omega
 have n2 : gR ≠ w.heap.size + 1 := by omega
 have n3 : w.heap.size ≤ gR := by omega
 obtain ⟨N1, N2, N3⟩ := hid3 n1 n2 n3
 clear hgR n1 n2 n3
 first | go_region_held3 (fun w' => D6 w' w.heap.size (.bool n0) (.bool s0) (.slice A l0.length a) (.bool n1) (.bool s1) (.slice B l1.length b) (C6 w' (w.heap.size + 1) (.bool m0) (.bool t0) (.slice C k0.length c) (.bool m1) (.bool t1) (.slice D k1.length d)))
  (first
   | with_reducible exact hs
   | with_reducible exact boxT_st6 N1.out N2.out hs
   | exact boxT_keep hs bal_)
  (first
   | (go_at_call 28; (first | (with_reducible refine (L1.out _).mono ?_) | (with_reducible refine (L3.out _).mono ?_)); rintro e w2 ⟨rfl, hc2⟩; (try replace vv1 := vv1.below hc2); (try replace vv2 := vv2.below hc2); (try replace o1 := o1.below hc2); replace hs := boxT_keep hs hc2; replace HR := hid (HR.out.below hc2); replace Hc := hid (from_ Hc.out hc2))
   | (go_at_call 29; (first | (with_reducible refine (L2.out _).mono ?_) | (with_reducible refine (L4.out _).mono ?_)); rintro e w2 ⟨rfl, hc2⟩; (try replace vv1 := vv1.below hc2); (try replace vv2 := vv2.below hc2); (try replace o1 := o1.below hc2); replace hs := boxT_keep hs hc2; replace HR := hid (HR.out.below hc2); replace Hc := hid (from_ Hc.out hc2))
   | (go_at_call 27; with_reducible refine (PL1.out _ Hc.out).mono ?_; rintro e w2 ⟨D1, d1, rfl, vv1, hc2⟩; replace hs := boxT_keep hs hc2; replace HR := hid (HR.out.below hc2); replace Hc := hid (from_ Hc.out hc2))
   | (go_at_call 26; with_reducible refine (BD1.out _ _ _ _ vv1).mono ?_; rintro e w2 ⟨A1, c1, rfl, o1, hc2⟩; replace o1 := o1.mono (Y := new (gR + 1)) (new_le (Nat.succ_le_of_lt HR.out.lt)); replace hs := boxT_keep hs hc2; replace HR := hid (HR.out.below hc2); replace Hc := hid (from_ Hc.out hc2))
   | (go_at_call 27; with_reducible refine (PL2.out _ Hc.out).mono ?_; rintro e w2 ⟨D2, d2, rfl, vv2, hc2⟩; (try replace o1 := o1.below hc2); replace hs := boxT_keep hs hc2; replace HR := hid (HR.out.below hc2); replace Hc := hid (from_ Hc.out hc2))
   | (go_at_call 26; with_reducible refine (BD2.out _ _ _ _ vv2).mono ?_; rintro e w2 ⟨A2, c2, rfl, o2, hc2⟩; replace o2 := o2.mono (Y := new (gR + 1)) (new_le (Nat.succ_le_of_lt HR.out.lt)); (try replace o1 := o1.below hc2); replace hs := boxT_keep hs hc2; replace HR := hid (HR.out.below hc2); replace Hc := hid (from_ Hc.out hc2); have g0 := HR.out.cf)) | fail
 all_goals
  obtain ⟨HP, U1, U2⟩ := hid3 (HR.out.put Hc.out N3.out (.bool rn0) (.bool ys1) (.slice A1 yl1.length c1) (.bool rn1) (.bool ys2) (.slice A2 yl2.length c2)) ((o1.set6 (g := gR) (fun (h : gR + 1 ≤ gR) => by omega) (.bool rn0) (.bool ys1) (.slice A1 yl1.length c1) (.bool rn1) (.bool ys2) (.slice A2 yl2.length c2)).mono (new_le (show w.heap.size ≤ gR + 1 from Nat.le_succ_of_le N3.out))) ((o2.set6 (g := gR) (fun (h : gR + 1 ≤ gR) => by omega) (.bool rn0) (.bool ys1) (.slice A1 yl1.length c1) (.bool rn1) (.bool ys2) (.slice A2 yl2.length c2)).mono (new_le (show w.heap.size ≤ gR + 1 from Nat.le_succ_of_le N3.out)))
  clear o1 o2
  go_wp2
  refine bodyPost_ret (res_itv2 rfl _ gR rfl HP.out.box) rfl ?_
  exact ⟨_, _, _, _, rfl, U1.out, U2.out, HP.out.bel⟩
theorem box6_keep (hs : C6 W g a0 a1 a2 a3 a4 a5) (hb : Below W.heap.size W W') :
  C6 W' g a0 a1 a2 a3 a4 a5 := by
 obtain ⟨h0, h1, h2, h3, h4, h5⟩ := hs
 exact ⟨keepC hb h0, keepC hb h1, keepC hb h2, keepC hb h3, keepC hb h4, keepC hb h5⟩
theorem box6_st6 {r : Nat} {x0 x1 x2 x3 x4 x5 : Value} (hg : r ≠ g)
  (hs : C6 W g a0 a1 a2 a3 a4 a5) :
  let V := ((((((W.setCell ⟨r, 0, none⟩ x0).setCell ⟨r, 1, none⟩ x1).setCell ⟨r, 2, none⟩ x2).setCell ⟨r, 3, none⟩ x3).setCell ⟨r, 4, none⟩ x4).setCell ⟨r, 5, none⟩ x5)
  C6 V g a0 a1 a2 a3 a4 a5 := by
 obtain ⟨h0, h1, h2, h3, h4, h5⟩ := hs
 exact ⟨st6 h0 hg, st6 h1 hg, st6 h2 hg, st6 h3 hg, st6 h4 hg, st6 h5 hg⟩
theorem iNeg_good {b : Nat} (u1 : U64s w Z1 A a l0) (u2 : U64s w Z2 B b l1) (h1 : okA n0 s0 l0 n1 s1 l1 = true) (q1 : l0.length ≤ 60) (q2 : l1.length ≤ 60)
  (hz0 : z0 = -hiV n1 s1 l1) (hz1 : z1 = -loV n0 s0 l0) (e0 : EndL z0 rn0 rs0 rl0) (e1 : EndH z1 rn1 rs1 rl1) :
  Calls Tryz.prog 61 #[.agg #[.bool n0, .bool s0, .slice A l0.length a, .bool n1, .bool s1, .slice B l1.length b]] w fun e w' => ∃ rA ra rB rb, e = .returned (.tuple #[.agg #[.bool rn0, .bool rs0, .slice rA rl0.length ra, .bool rn1, .bool rs1, .slice rB rl1.length rb], .int .i64 0]) ∧ U64s w' (new w.heap.size) rA ra rl0 ∧ U64s w' (new w.heap.size) rB rb rl1 ∧ Below w.heap.size w w' := by
 obtain ⟨bA, bR, hB0⟩ := boxT w (.bool n0) (.bool s0) (.slice A l0.length a) (.bool n1) (.bool s1) (.slice B l1.length b) (.bool false) (.bool false) (.slice none 0 0) (.bool false) (.bool false) (.slice none 0 0) 29
 have hck := icheck_any (n0 := n0) (s0 := s0) (n1 := n1) (s1 := s1) (u1.below hB0) (u2.below hB0) (by omega) (by omega)
 rw [show errA n0 s0 l0 n1 s1 l1 = 0 by unfold errA; rw [if_pos h1]] at hck
 obtain ⟨ea1, ea2⟩ := okA_ends h1
 obtain ⟨x1, xs1, xl1, xA1, xc1, P1⟩ := Plc.ex (-1) n0 s0 l0 A a
 obtain ⟨x2, xs2, xl2, xA2, xc2, P2⟩ := Plc.ex 1 n1 s1 l1 B b
 have p1 := P1.lo ea1 u1.small q1
 have p2 := P2.hi ea2 u2.small q2
 have r1 := P1.len
 have r2 := P2.len
 have v1 := P1.u64s u1
 have v2 := P2.u64s u2
 have i1 := lo_range (n := n0) (s := s0) u1.small q1
 have i2 := hi_range (n := n1) (s := s1) u2.small q2
 obtain ⟨L1, L2⟩ := hid2 (fun (W : World) => ilow_p (w := W) (v3 := .bool n1) (v4 := .bool s1) (v5 := .slice B l1.length b) P1) (fun (W : World) => ihigh_p (w := W) (v3 := .bool n0) (v4 := .bool s0) (v5 := .slice A l0.length a) P2)
 have w1 := okA_le h1 u1.small u2.small q1 q2
 generalize loV n0 s0 l0 = X1 at *
 generalize hiV n1 s1 l1 = X2 at *
 obtain ⟨y1, ys1, yl1, py1⟩ : ∃ b s l, Pl (-X1) b s l := ⟨_, _, _, Pl.all (by omega)⟩
 obtain ⟨y2, ys2, yl2, py2⟩ : ∃ b s l, Pl (-X2) b s l := ⟨_, _, _, Pl.all (by omega)⟩
 have yn1 := py1.len_of ((p1.ext (N := 60) (by omega)).neg)
 have yn2 := py2.len_of ((p2.ext (N := 60) (by omega)).neg)
 have TU1 : Hid (∀ W, Below w.heap.size w W → Calls Tryz.prog 40 #[.agg #[.int .i64 x1, .bool xs1, .slice xA1 xl1.length xc1]] W fun e' w' => ∃ A' c', e' = .returned (.agg #[.int .i64 y1, .bool ys1, .slice A' yl1.length c']) ∧ U64s w' (new W.heap.size) A' c' yl1 ∧ Below W.heap.size W w') := fun W g => iturned_p p1 py1 (v1.below g) (by omega)
 have TU2 : Hid (∀ W, Below w.heap.size w W → Calls Tryz.prog 40 #[.agg #[.int .i64 x2, .bool xs2, .slice xA2 xl2.length xc2]] W fun e' w' => ∃ A' c', e' = .returned (.agg #[.int .i64 y2, .bool ys2, .slice A' yl2.length c']) ∧ U64s w' (new W.heap.size) A' c' yl2 ∧ Below W.heap.size W w') := fun W g => iturned_p p2 py2 (v2.below g) (by omega)
 have COR : Hid (∀ (W : World) (ty : TypeId) (Z5 Z6 : Zone) (D1 D2 : Option Addr) (d1 d2 : Nat), U64s W Z5 D1 d1 yl1 → U64s W Z6 D2 d2 yl2 → Calls Tryz.prog 71 #[.slice (some ⟨W.heap.size, 0, none⟩) 2 2] (W.alloc (.cells #[.int .i64 y1, .bool ys1, .slice D1 yl1.length d1, .int .i64 y2, .bool ys2, .slice D2 yl2.length d2] ty)) fun e w' => ∃ A1 c1 A2 c2, e = .returned (.agg #[.bool rn0, .bool rs0, .slice A1 rl0.length c1, .bool rn1, .bool rs1, .slice A2 rl1.length c2]) ∧ U64s w' (new W.heap.size) A1 c1 rl0 ∧ U64s w' (new W.heap.size) A2 c2 rl1 ∧ Below W.heap.size W w') := fun W ty Z5 Z6 D1 D2 d1 d2 g1 g2 => by
  have hb0 : Below W.heap.size W (W.alloc (.cells #[.int .i64 y1, .bool ys1, .slice D1 yl1.length d1, .int .i64 y2, .bool ys2, .slice D2 yl2.length d2] ty)) := (Below.refl _ W).alloc (Nat.le_refl _) _
  have m1 := ends_of (ps := [⟨-X1, y1, ys1, yl1⟩, ⟨-X2, y2, ys2, yl2⟩]) (m := z0) ⟨fun x hx => by simp only [List.map_cons, List.map_nil, List.mem_cons, List.not_mem_nil, or_false] at hx; omega, by simp only [List.map_cons, List.map_nil, List.mem_cons, List.not_mem_nil, or_false]; omega⟩
  have m2 := ends_of' (ps := [⟨-X1, y1, ys1, yl1⟩, ⟨-X2, y2, ys2, yl2⟩]) (m := z1) ⟨fun x hx => by simp only [List.map_cons, List.map_nil, List.mem_cons, List.not_mem_nil, or_false] at hx; omega, by simp only [List.map_cons, List.map_nil, List.mem_cons, List.not_mem_nil, or_false]; omega⟩
  refine (icorners_p (n := 2) (c := 2) (given2 (p := ⟨-X1, y1, ys1, yl1⟩) (q := ⟨-X2, y2, ys2, yl2⟩) py1 py2 g1 g2 (by dsimp only; omega) (by dsimp only; omega)) rfl (by simp) m1.1 m1.2 m2.1 m2.2 (by omega) (by omega) e0 e1).mono ?_
  rintro e w' ⟨A1, c1, A2, c2, rfl, v1, v2, hb⟩
  exact ⟨A1, c1, A2, c2, rfl, v1.mono (new_le hb0.size), v2.mono (new_le hb0.size), from_ hb0 hb⟩
 obtain ⟨Hck, HB, HA, HR⟩ := hid4 hck hB0 bA bR
 have a0 := bA.all
 clear hck hB0 bR u1 u2 h1 q1 q2 hz0 hz1 e0 e1 ea1 ea2 P1 P2 p1 p2 r1 r2 v1 v2 i1 i2 w1 py1 py2 yn1 yn2
 go_enter Tryz.func61, Tryz.ntmps61
 go_wp2_with fail
 refine Hck.out.mono ?_
 rintro e w1 ⟨rfl, hc⟩
 have H1 := hid (from_ HB.out hc)
 clear a0
 have hs := (HA.out.below hc).all
 replace hs := box6_keep hs bdr_
 have Hc := hid H1.out.drew
 obtain ⟨gR, hgR⟩ : ∃ gR, gR = w.heap.size + 1 := ⟨_, rfl⟩
 replace HR := hid ((HR.out.below hc).below bdr_)
 rw [← hgR] at HR
 clear hc H1 HB HA Hck
 go_upto_region 4 with fail
 simp only [show w.heap.size + 1 = gR from hgR.symm]
 have n1 : gR ≠ w.heap.size := by omega
 have n3 : w.heap.size ≤ gR := by omega
 obtain ⟨N1, N3⟩ := hid2 n1 n3
 clear hgR n1 n3
 first | go_region_held3 (fun w' => C6 w' w.heap.size (.bool n0) (.bool s0) (.slice A l0.length a) (.bool n1) (.bool s1) (.slice B l1.length b))
  (first
   | with_reducible exact hs
   | with_reducible exact box6_st6 N1.out hs
   | exact box6_keep hs bal_)
  (first
   | (go_at_call 28; with_reducible refine (L1.out _).mono ?_; rintro e w2 ⟨rfl, hc2⟩; replace hs := box6_keep hs hc2; replace HR := hid (HR.out.below hc2); replace Hc := hid (from_ Hc.out hc2))
   | (go_at_call 29; with_reducible refine (L2.out _).mono ?_; rintro e w2 ⟨rfl, hc2⟩; (try replace vv1 := vv1.below hc2); replace hs := box6_keep hs hc2; replace HR := hid (HR.out.below hc2); replace Hc := hid (from_ Hc.out hc2))
   | (go_at_call 40; with_reducible refine (TU1.out _ Hc.out).mono ?_; rintro e w2 ⟨D1, d1, rfl, vv1, hc2⟩; replace hs := box6_keep hs hc2; replace HR := hid (HR.out.below hc2); replace Hc := hid (from_ Hc.out hc2))
   | (go_at_call 40; with_reducible refine (TU2.out _ Hc.out).mono ?_; rintro e w2 ⟨D2, d2, rfl, vv2, hc2⟩; (try replace vv1 := vv1.below hc2); replace hs := box6_keep hs hc2; replace HR := hid (HR.out.below hc2); replace Hc := hid (from_ Hc.out hc2))
   | (go_at_call 71; with_reducible refine (COR.out _ _ _ _ _ _ _ _ vv1 vv2).mono ?_; rintro e w3 ⟨A1, c1, A2, c2, rfl, o1, o2, hc2⟩; replace hs := box6_keep hs hc2; have zl := HR.out.lt; replace HR := hid (HR.out.below hc2); have Hp := Hc; replace Hc := hid (from_ Hc.out hc2); have g0 := HR.out.cf)) | fail
 all_goals
  obtain ⟨HP, U1, U2⟩ := hid3 (HR.out.put Hc.out N3.out (.bool rn0) (.bool rs0) (.slice A1 rl0.length c1) (.bool rn1) (.bool rs1) (.slice A2 rl1.length c2)) ((o1.set6 (g := gR) (fun (h : _ ≤ gR) => by omega) (.bool rn0) (.bool rs0) (.slice A1 rl0.length c1) (.bool rn1) (.bool rs1) (.slice A2 rl1.length c2)).mono (new_le Hp.out.size)) ((o2.set6 (g := gR) (fun (h : _ ≤ gR) => by omega) (.bool rn0) (.bool rs0) (.slice A1 rl0.length c1) (.bool rn1) (.bool rs1) (.slice A2 rl1.length c2)).mono (new_le Hp.out.size))
  clear o1 o2
  go_wp2
  refine bodyPost_ret (res_itv2 rfl _ gR rfl HP.out.box) rfl ?_
  exact ⟨_, _, _, _, rfl, U1.out, U2.out, HP.out.bel⟩
def ivJ (p q : Int × Int) : Int × Int := (min p.1 q.1, max p.2 q.2)
theorem ivJ_ok {p q : Int × Int} (h : IvN N p.1 p.2) (g : IvN N q.1 q.2) : IvN N (ivJ p q).1 (ivJ p q).2 := by
 obtain ⟨a1, a2, a3, a4, a5⟩ := h
 obtain ⟨b1, b2, b3, b4, b5⟩ := g
 exact ⟨ext_min a1 b1, ext_max a2 b2, by dsimp only [ivJ]; omega, by dsimp only [ivJ]; omega, by dsimp only [ivJ]; omega⟩
abbrev IvP := Int × Int
variable {q : IvP}
def ivA (p q : IvP) : IvP := (plusE bigZ p.1 q.1, plusE bigZ p.2 q.2)
def ivM (p q : IvP) : IvP := (mulLo p.1 p.2 q.1 q.2, mulHi p.1 p.2 q.1 q.2)
def ivNg (p : IvP) : IvP := (-p.2, -p.1)
def valL (out : IvP) (fb : List (IvP × IvP)) : IvP := fb.foldl (fun o q => ivA o (ivM q.1 q.2)) out
theorem ivA_ok {p : IvP} (h : IvN N p.1 p.2) (g : IvN N q.1 q.2) (hN : N ≤ 60) : IvN (N + 1) (ivA p q).1 (ivA p q).2 := ivn_plus h g hN
theorem ivM_ok {p : IvP} (h : IvN N p.1 p.2) (g : IvN M q.1 q.2) (hN : N + M ≤ 64) : IvN (N + M) (ivM p q).1 (ivM p q).2 := ivn_times h g hN
theorem ivNg_ok {p : IvP} (h : IvN N p.1 p.2) : IvN N (ivNg p).1 (ivNg p).2 := ivn_neg h
end Go.Proofs.YthpngihjcphigaaGreat
