/-
  Intervals, the program's: Div. No conditions but bounds on lengths.
  Intervals, the program's: Mod. No conditions but bounds on lengths.
  Intervals, the program's: shifts. No conditions but bounds on lengths.
  Intervals, the program's Shl and Shr; the law's of, is, has, small. No conditions but bounds on lengths.
  facetroomlaw16.alive is true. No conditions.
  Intervals, the program's: Div by 0, shifts by nothing that may be; the law's on. No conditions but bounds on lengths.
  Intervals: what comes of a number of one and one of another lies in the answer; plain. No conditions.
  Intervals of four limbs: the document's Great; what such words are; bounds of what comes of two numbers. No conditions but bounds on lengths.
  Intervals: the answers of lesser ones lie in those of greater ones, plain. No conditions.
  Intervals, the program's: Mod by 0, Shr by nothing that may be; In, Meet by their ends' numbers. No conditions but bounds on lengths.
-/
import Derived.Test.YtennphechbngcaaMItwN
import Derived.Test.YtennphechbngcaaMRefE
import Derived.Test.YtennphechbngcaaMHeldL
import Derived.Test.YtennphechbngcaaMItvR
import Derived.Test.YtennphechbngcaaMLinB
namespace Go.Proofs.Ytennphechbngcaa
open Go.RowKit
set_option linter.unusedVariables false
set_option linter.unusedSimpArgs false

theorem anyL_one {P : Program} {ops : Array Oper} {Q : Exit → Act → World → Prop} {md : Region.Mode} {A T : World → Prop} {k i : Nat} {fuel : Nat} {listed : Array Bool} {a : Act} {w : World} (hr : Region.ready md ops listed = [i])
    (h : wpOp P ops Q i (fun a' w' => TillK A T k (listed.setIfInBounds i true) w' ∧ wpAnyL P md ops Q A T k fuel (listed.setIfInBounds i true) a' w') a w) : wpAnyL P md ops Q A T k (fuel + 1) listed a w :=
  ⟨fun h0 => (by rw [hr] at h0; cases h0), fun j hj => by
    rw [hr] at hj
    obtain rfl := List.mem_singleton.1 hj
    exact h⟩

-- what comes of the first parts
def dK (P : Int × Int) (L : List (Int × Int)) (k : Nat) : Int × Int := (L.tail.take k).foldl (fun o q => ivJ o (ivD1 P q)) (ivD1 P (L.headD (0, 0)))
theorem dK_zero {P : Int × Int} {L : List (Int × Int)} (h : 0 < L.length) : dK P L 0 = ivD1 P L[0] := by
  cases L with
  | nil => cases h
  | cons a t => rfl
theorem dK_succ {P : Int × Int} {L : List (Int × Int)} {k : Nat} (h : k + 1 < L.length) : dK P L (k + 1) = ivJ (dK P L k) (ivD1 P L[k + 1]) := by
  unfold dK
  rw [List.take_succ_eq_append_getElem (by rw [List.length_tail]; omega), List.foldl_append, List.getElem_tail]
  rfl
theorem dK_all {P Q : Int × Int} {k : Nat} (h : (partsP Q).length = k + 1) : dK P (partsP Q) k = ivD P Q := by
  unfold dK ivD
  rw [List.take_of_length_le (by rw [List.length_tail]; omega)]
  cases e : partsP Q with
  | nil => rw [e] at h; simp at h
  | cons a t => rfl
theorem ivD1_ok {N M : Nat} {P Q : Int × Int} (h : IvN N P.1 P.2) (g : IvN M Q.1 Q.2) (h0 : 0 < Q.1 ∨ Q.2 < 0) (hN : N ≤ 60) : IvN N (ivD1 P Q).1 (ivD1 P Q).2 := ivn_over h g h0 hN
theorem dK_ok {N M : Nat} {P : Int × Int} {L : List (Int × Int)} (h : IvN N P.1 P.2) (hN : N ≤ 60) (hL : ∀ Q ∈ L, IvN M Q.1 Q.2 ∧ (0 < Q.1 ∨ Q.2 < 0)) (h0 : 0 < L.length) : ∀ k, k < L.length → IvN N (dK P L k).1 (dK P L k).2 := by
  intro k
  induction k with
  | zero =>
    intro hk
    rw [dK_zero h0]
    have := hL _ (List.getElem_mem h0)
    exact ivD1_ok h this.1 this.2 hN
  | succ k ih =>
    intro hk
    rw [dK_succ hk]
    have := hL _ (List.getElem_mem hk)
    exact ivJ_ok (ih (by omega)) (ivD1_ok h this.1 this.2 hN)

theorem ijoin2_w {w : World} {Z1 Z2 Z3 Z4 : Zone} {p q r : Iv} {P Q : IvP} {N M : Nat} {A B C D : Option Addr} {a b c d : Nat} (hp : IvW P p) (gp : IvN N P.1 P.2) (hN : N ≤ 60) (hq : IvW Q q) (gq : IvN M Q.1 Q.2) (hM : M ≤ 60) (hr : IvW (ivJ P Q) r) (u1 : U64s w Z1 A a p.l0) (u2 : U64s w Z2 B b p.l1) (u3 : U64s w Z3 C c q.l0) (u4 : U64s w Z4 D d q.l1) :
    Calls Try.prog 33 #[.agg #[.bool p.n0, .bool p.s0, .slice A p.l0.length a, .bool p.n1, .bool p.s1, .slice B p.l1.length b], .agg #[.bool q.n0, .bool q.s0, .slice C q.l0.length c, .bool q.n1, .bool q.s1, .slice D q.l1.length d]] w fun e w' => ∃ rA ra rB rb, e = .returned (.agg #[.bool r.n0, .bool r.s0, .slice rA r.l0.length ra, .bool r.n1, .bool r.s1, .slice rB r.l1.length rb]) ∧ U64s w' (new w.heap.size) rA ra r.l0 ∧ U64s w' (new w.heap.size) rB rb r.l1 ∧ Below w.heap.size w w' := by
  have kp := hp.k gp (by omega)
  have kq := hq.k gq (by omega)
  exact ijoin_p u1 u2 u3 u4 kp.ok kq.ok (by have := kp.q0; omega) (by have := kp.q1; omega) (by have := kq.q0; omega) (by have := kq.q1; omega) (z0 := (ivJ P Q).1) (z1 := (ivJ P Q).2) (by rw [kp.lo, kq.lo]; rfl) (by rw [kp.hi, kq.hi]; rfl) hr.1 hr.2
theorem icover_w {w : World} {Z1 Z2 Z3 Z4 : Zone} {p q r : Iv} {P Q : IvP} {A B C D : Option Addr} {a b c d : Nat} (hp : IvW P p) (gp : IvN 60 P.1 P.2) (hq : IvW Q q) (gq : IvN 60 Q.1 Q.2) (h0 : 0 < Q.1 ∨ Q.2 < 0) (hr : IvW (ivD1 P Q) r) (u1 : U64s w Z1 A a p.l0) (u2 : U64s w Z2 B b p.l1) (u3 : U64s w Z3 C c q.l0) (u4 : U64s w Z4 D d q.l1) :
    Calls Try.prog 59 #[.agg #[.bool p.n0, .bool p.s0, .slice A p.l0.length a, .bool p.n1, .bool p.s1, .slice B p.l1.length b], .agg #[.bool q.n0, .bool q.s0, .slice C q.l0.length c, .bool q.n1, .bool q.s1, .slice D q.l1.length d], .func (.func 62) #[] #[]] w fun e w' => ∃ rA ra rB rb, e = .returned (.agg #[.bool r.n0, .bool r.s0, .slice rA r.l0.length ra, .bool r.n1, .bool r.s1, .slice rB r.l1.length rb]) ∧ U64s w' (new w.heap.size) rA ra r.l0 ∧ U64s w' (new w.heap.size) rB rb r.l1 ∧ Below w.heap.size w w' := by
  have kp := hp.k gp (by omega)
  have kq := hq.k gq (by omega)
  have g := ivD1_ok gp gq h0 (by omega)
  have hle := gq.le
  exact icrossed_over u1 u2 u3 u4 kp.ok kq.ok (by have := kp.q0; omega) (by have := kp.q1; omega) (by have := kq.q0; omega) (by have := kq.q1; omega) (by rw [kq.lo, kq.hi]; omega) (z0 := (ivD1 P Q).1) (z1 := (ivD1 P Q).2) (by rw [kp.lo, kq.lo, kp.hi, kq.hi]; rfl) (by rw [kp.lo, kq.lo, kp.hi, kq.hi]; rfl) g.nlo g.nhi hr.1 hr.2
theorem cc_keep {W W' : World} {g b o : Nat} {a0 a1 a2 a3 a4 a5 b0 b1 b2 b3 b4 b5 : Value} (h : (W.cell? ⟨g, 0, none⟩ = some a0 ∧ W.cell? ⟨g, 1, none⟩ = some a1 ∧ W.cell? ⟨g, 2, none⟩ = some a2 ∧ W.cell? ⟨g, 3, none⟩ = some a3 ∧ W.cell? ⟨g, 4, none⟩ = some a4 ∧ W.cell? ⟨g, 5, none⟩ = some a5) ∧ (W.cell? ⟨b, o, none⟩ = some b0 ∧ W.cell? ⟨b, o + 1, none⟩ = some b1 ∧ W.cell? ⟨b, o + 2, none⟩ = some b2 ∧ W.cell? ⟨b, o + 3, none⟩ = some b3 ∧ W.cell? ⟨b, o + 4, none⟩ = some b4 ∧ W.cell? ⟨b, o + 5, none⟩ = some b5)) (hb : Below W.heap.size W W') : (W'.cell? ⟨g, 0, none⟩ = some a0 ∧ W'.cell? ⟨g, 1, none⟩ = some a1 ∧ W'.cell? ⟨g, 2, none⟩ = some a2 ∧ W'.cell? ⟨g, 3, none⟩ = some a3 ∧ W'.cell? ⟨g, 4, none⟩ = some a4 ∧ W'.cell? ⟨g, 5, none⟩ = some a5) ∧ (W'.cell? ⟨b, o, none⟩ = some b0 ∧ W'.cell? ⟨b, o + 1, none⟩ = some b1 ∧ W'.cell? ⟨b, o + 2, none⟩ = some b2 ∧ W'.cell? ⟨b, o + 3, none⟩ = some b3 ∧ W'.cell? ⟨b, o + 4, none⟩ = some b4 ∧ W'.cell? ⟨b, o + 5, none⟩ = some b5) := ⟨six_keep0 h.1 hb, six_keep h.2 hb⟩
theorem cc_st6 {W V : World} {g b o r : Nat} {a0 a1 a2 a3 a4 a5 b0 b1 b2 b3 b4 b5 x0 x1 x2 x3 x4 x5 : Value} (e : V = ((((((W.setCell ⟨r, 0, none⟩ x0).setCell ⟨r, 1, none⟩ x1).setCell ⟨r, 2, none⟩ x2).setCell ⟨r, 3, none⟩ x3).setCell ⟨r, 4, none⟩ x4).setCell ⟨r, 5, none⟩ x5)) (hg : r ≠ g) (hh : r ≠ b) (h : (W.cell? ⟨g, 0, none⟩ = some a0 ∧ W.cell? ⟨g, 1, none⟩ = some a1 ∧ W.cell? ⟨g, 2, none⟩ = some a2 ∧ W.cell? ⟨g, 3, none⟩ = some a3 ∧ W.cell? ⟨g, 4, none⟩ = some a4 ∧ W.cell? ⟨g, 5, none⟩ = some a5) ∧ (W.cell? ⟨b, o, none⟩ = some b0 ∧ W.cell? ⟨b, o + 1, none⟩ = some b1 ∧ W.cell? ⟨b, o + 2, none⟩ = some b2 ∧ W.cell? ⟨b, o + 3, none⟩ = some b3 ∧ W.cell? ⟨b, o + 4, none⟩ = some b4 ∧ W.cell? ⟨b, o + 5, none⟩ = some b5)) : (V.cell? ⟨g, 0, none⟩ = some a0 ∧ V.cell? ⟨g, 1, none⟩ = some a1 ∧ V.cell? ⟨g, 2, none⟩ = some a2 ∧ V.cell? ⟨g, 3, none⟩ = some a3 ∧ V.cell? ⟨g, 4, none⟩ = some a4 ∧ V.cell? ⟨g, 5, none⟩ = some a5) ∧ (V.cell? ⟨b, o, none⟩ = some b0 ∧ V.cell? ⟨b, o + 1, none⟩ = some b1 ∧ V.cell? ⟨b, o + 2, none⟩ = some b2 ∧ V.cell? ⟨b, o + 3, none⟩ = some b3 ∧ V.cell? ⟨b, o + 4, none⟩ = some b4 ∧ V.cell? ⟨b, o + 5, none⟩ = some b5) := by
  subst e
  exact ⟨⟨st6 h.1.1 hg, st6 h.1.2.1 hg, st6 h.1.2.2.1 hg, st6 h.1.2.2.2.1 hg, st6 h.1.2.2.2.2.1 hg, st6 h.1.2.2.2.2.2 hg⟩, six_st6 hh h.2⟩
theorem six_just0 {W W' : World} {b g : Nat} {a0 a1 a2 a3 a4 a5 : Value} (h : Just g W W') (hb : b ≠ g) (hc : W.cell? ⟨b, 0, none⟩ = some a0 ∧ W.cell? ⟨b, 1, none⟩ = some a1 ∧ W.cell? ⟨b, 2, none⟩ = some a2 ∧ W.cell? ⟨b, 3, none⟩ = some a3 ∧ W.cell? ⟨b, 4, none⟩ = some a4 ∧ W.cell? ⟨b, 5, none⟩ = some a5) : W'.cell? ⟨b, 0, none⟩ = some a0 ∧ W'.cell? ⟨b, 1, none⟩ = some a1 ∧ W'.cell? ⟨b, 2, none⟩ = some a2 ∧ W'.cell? ⟨b, 3, none⟩ = some a3 ∧ W'.cell? ⟨b, 4, none⟩ = some a4 ∧ W'.cell? ⟨b, 5, none⟩ = some a5 := ⟨h.cell hb hc.1, h.cell hb hc.2.1, h.cell hb hc.2.2.1, h.cell hb hc.2.2.2.1, h.cell hb hc.2.2.2.2.1, h.cell hb hc.2.2.2.2.2⟩
theorem six_just {W W' : World} {b o g : Nat} {a0 a1 a2 a3 a4 a5 : Value} (h : Just g W W') (hb : b ≠ g) (hc : W.cell? ⟨b, o, none⟩ = some a0 ∧ W.cell? ⟨b, o + 1, none⟩ = some a1 ∧ W.cell? ⟨b, o + 2, none⟩ = some a2 ∧ W.cell? ⟨b, o + 3, none⟩ = some a3 ∧ W.cell? ⟨b, o + 4, none⟩ = some a4 ∧ W.cell? ⟨b, o + 5, none⟩ = some a5) : W'.cell? ⟨b, o, none⟩ = some a0 ∧ W'.cell? ⟨b, o + 1, none⟩ = some a1 ∧ W'.cell? ⟨b, o + 2, none⟩ = some a2 ∧ W'.cell? ⟨b, o + 3, none⟩ = some a3 ∧ W'.cell? ⟨b, o + 4, none⟩ = some a4 ∧ W'.cell? ⟨b, o + 5, none⟩ = some a5 := ⟨h.cell hb hc.1, h.cell hb hc.2.1, h.cell hb hc.2.2.1, h.cell hb hc.2.2.2.1, h.cell hb hc.2.2.2.2.1, h.cell hb hc.2.2.2.2.2⟩
theorem st6_0 {W : World} {b r : Nat} {a0 a1 a2 a3 a4 a5 x0 x1 x2 x3 x4 x5 : Value} (hn : r ≠ b) (h : W.cell? ⟨b, 0, none⟩ = some a0 ∧ W.cell? ⟨b, 1, none⟩ = some a1 ∧ W.cell? ⟨b, 2, none⟩ = some a2 ∧ W.cell? ⟨b, 3, none⟩ = some a3 ∧ W.cell? ⟨b, 4, none⟩ = some a4 ∧ W.cell? ⟨b, 5, none⟩ = some a5) :
    let V := ((((((W.setCell ⟨r, 0, none⟩ x0).setCell ⟨r, 1, none⟩ x1).setCell ⟨r, 2, none⟩ x2).setCell ⟨r, 3, none⟩ x3).setCell ⟨r, 4, none⟩ x4).setCell ⟨r, 5, none⟩ x5)
    V.cell? ⟨b, 0, none⟩ = some a0 ∧ V.cell? ⟨b, 1, none⟩ = some a1 ∧ V.cell? ⟨b, 2, none⟩ = some a2 ∧ V.cell? ⟨b, 3, none⟩ = some a3 ∧ V.cell? ⟨b, 4, none⟩ = some a4 ∧ V.cell? ⟨b, 5, none⟩ = some a5 := ⟨st6 h.1 hn, st6 h.2.1 hn, st6 h.2.2.1 hn, st6 h.2.2.2.1 hn, st6 h.2.2.2.2.1 hn, st6 h.2.2.2.2.2 hn⟩

set_option maxRecDepth 100000 in
set_option maxHeartbeats 8000000 in
theorem idiv_w {w : World} {Z1 Z2 Z3 Z4 : Zone} {p q : Iv} {P Q : IvP} {A B C D : Option Addr} {a b c d : Nat} (hp : IvW P p) (gp : IvN 60 P.1 P.2) (hq : IvW Q q) (gq : IvN 60 Q.1 Q.2) (u1 : U64s w Z1 A a p.l0) (u2 : U64s w Z2 B b p.l1) (u3 : U64s w Z3 C c q.l0) (u4 : U64s w Z4 D d q.l1) {r : Iv} (hne : partsP Q ≠ []) (hr : IvW (ivD P Q) r) :
    Calls Try.prog 29 #[.agg #[.bool p.n0, .bool p.s0, .slice A p.l0.length a, .bool p.n1, .bool p.s1, .slice B p.l1.length b], .agg #[.bool q.n0, .bool q.s0, .slice C q.l0.length c, .bool q.n1, .bool q.s1, .slice D q.l1.length d]] w fun e w' => ∃ rA ra rB rb, e = .returned (.tuple #[.agg #[.bool r.n0, .bool r.s0, .slice rA r.l0.length ra, .bool r.n1, .bool r.s1, .slice rB r.l1.length rb], .int .i64 0]) ∧ U64s w' (new w.heap.size) rA ra r.l0 ∧ U64s w' (new w.heap.size) rB rb r.l1 ∧ Below w.heap.size w w' := by
  obtain ⟨bA, bB, bR, hB0⟩ := boxX w (.bool p.n0) (.bool p.s0) (.slice A p.l0.length a) (.bool p.n1) (.bool p.s1) (.slice B p.l1.length b) (.bool q.n0) (.bool q.s0) (.slice C q.l0.length c) (.bool q.n1) (.bool q.s1) (.slice D q.l1.length d) (.bool false) (.bool false) (.slice none 0 0) (.bool false) (.bool false) (.slice none 0 0) 29
  have hb1 := hB0.alloc hB0.size (.cells #[.bool p.n0, .bool p.s0, .slice A p.l0.length a, .bool p.n1, .bool p.s1, .slice B p.l1.length b, .bool q.n0, .bool q.s0, .slice C q.l0.length c, .bool q.n1, .bool q.s1, .slice D q.l1.length d] 29)
  have hg := given_twoA (p := p) (q := q) (ty := 29) (u1.below hB0) (u2.below hB0) (u3.below hB0) (u4.below hB0)
  rw [show (((w.alloc (.cells #[.bool p.n0, .bool p.s0, .slice A p.l0.length a, .bool p.n1, .bool p.s1, .slice B p.l1.length b] 29)).alloc (.cells #[.bool q.n0, .bool q.s0, .slice C q.l0.length c, .bool q.n1, .bool q.s1, .slice D q.l1.length d] 29)).alloc (.cells #[.bool false, .bool false, .slice none 0 0, .bool false, .bool false, .slice none 0 0] 29)).heap.size = w.heap.size + 3 by simp] at hg
  have kp := hp.k gp (by omega)
  have kq := hq.k gq (by omega)
  have hck := ichecked_any (n := 2) (c := 2) hg rfl (by simp) (by intro p' hp'; simp only [List.mem_cons, List.not_mem_nil, or_false] at hp'; rcases hp' with rfl | rfl <;> exact ⟨by have := kp.q0; have := kq.q0; omega, by have := kp.q1; have := kq.q1; omega⟩)
  rw [errAs_two, if_pos ⟨kp.ok, kq.ok⟩] at hck
  have HA := Lib.hid (bA.alloc (.cells #[.bool p.n0, .bool p.s0, .slice A p.l0.length a, .bool p.n1, .bool p.s1, .slice B p.l1.length b, .bool q.n0, .bool q.s0, .slice C q.l0.length c, .bool q.n1, .bool q.s1, .slice D q.l1.length d] 29))
  have HBb := Lib.hid (bB.alloc (.cells #[.bool p.n0, .bool p.s0, .slice A p.l0.length a, .bool p.n1, .bool p.s1, .slice B p.l1.length b, .bool q.n0, .bool q.s0, .slice C q.l0.length c, .bool q.n1, .bool q.s1, .slice D q.l1.length d] 29))
  have HR := Lib.hid (bR.alloc (.cells #[.bool p.n0, .bool p.s0, .slice A p.l0.length a, .bool p.n1, .bool p.s1, .slice B p.l1.length b, .bool q.n0, .bool q.s0, .slice C q.l0.length c, .bool q.n1, .bool q.s1, .slice D q.l1.length d] 29))
  have Hck := Lib.hid hck
  have Hb1 := Lib.hid hb1
  obtain ⟨a0, a1, a2, a3, a4, a5, _, _, _, _, _, _, _⟩ := bA
  obtain ⟨b0, b1, b2, b3, b4, b5, _, _, _, _, _, _, _⟩ := bB
  have PT := Lib.hid (fun (W : World) (h : Below w.heap.size w W) => iparted_w hq gq (by omega) (u3.below h) (u4.below h))
  have hpos : 0 < (partsP Q).length := List.length_pos_iff.2 hne
  have hLok := parts_ok gq (by omega)
  have hdk := dK_ok gp (by omega) hLok hpos
  have hfl := fmOf_len (partsP Q)
  have hda : ∀ k, (partsP Q).length = k + 1 → dK P (partsP Q) k = ivD P Q := fun k h => dK_all h
  have hfg : ∀ j (h : j < (fmOf (partsP Q)).length) (h' : j < (partsP Q).length), (fmOf (partsP Q))[j] = ivOf (partsP Q)[j].1 (partsP Q)[j].2 := fun j h h' => fmOf_get h h'
  have CR := Lib.hid (fun (W : World) (h : Below w.heap.size w W) (Q' : IvP) (q' r' : Iv) (Y1 Y2 : Zone) (E F : Option Addr) (e f : Nat) (h1 : IvW Q' q') (h2 : IvN 60 Q'.1 Q'.2) (h3 : 0 < Q'.1 ∨ Q'.2 < 0) (h4 : IvW (ivD1 P Q') r') (v1 : U64s W Y1 E e q'.l0) (v2 : U64s W Y2 F f q'.l1) => icover_w hp gp h1 h2 h3 h4 (u1.below h) (u2.below h) v1 v2)
  obtain ⟨L, hL⟩ : ∃ L, L = partsP Q := ⟨_, rfl⟩
  rw [← hL] at PT hpos hLok hdk hfl hda hfg hne
  obtain ⟨n, hn⟩ : ∃ n, L.length = n := ⟨_, rfl⟩
  rw [hn] at PT hpos hfl hdk
  have hn2 : n ≤ 2 := by
    rw [← hn, hL]
    unfold partsP
    split <;> split <;> simp
  have HLok := Lib.hid hLok
  have Hdk := Lib.hid hdk
  have Hfl := Lib.hid hfl
  have Hda := Lib.hid hda
  have Hfg := Lib.hid hfg
  have Hn := Lib.hid hn
  have Hr := Lib.hid hr
  have Hgp := Lib.hid gp
  have Hdz := Lib.hid (fun (h : 0 < L.length) => dK_zero (P := P) h)
  have Hds := Lib.hid (fun (k : Nat) (h : k + 1 < L.length) => dK_succ (P := P) h)
  have hnz : ((n : Int) == 0) = false := beq_eq_false_iff_ne.2 (by omega)
  clear hg hck hb1 bR hB0 u1 u2 u3 u4 hp hq gp gq hL hLok hdk hfl hda hfg hn hr hne kp kq
  go_enter Try.func29, Try.ntmps29
  go_wp2_with fail
  refine Hck.out.mono ?_
  rintro e w1 ⟨rfl, hc⟩
  have H1 := Lib.hid (from_ Hb1.out hc)
  replace HR := Lib.hid (HR.out.below hc)
  replace HA := Lib.hid (HA.out.below hc)
  replace HBb := Lib.hid (HBb.out.below hc)
  clear a0 a1 a2 a3 a4 a5 b0 b1 b2 b3 b4 b5 Hck Hb1
  obtain ⟨b0, b1, b2, b3, b4, b5, _, _, _, _, _, _, _⟩ := id HBb.out
  clear hc
  go_wp2_with fail
  refine (PT.out _ H1.out).mono ?_
  rintro e w2 ⟨Av, cv, rfl, hat, hbv, hc⟩
  have W2 := Lib.hid (from_ H1.out hc)
  have hlt1 := HR.out.lt
  replace HR := Lib.hid (HR.out.below hc)
  replace HA := Lib.hid (HA.out.below hc)
  have hcap := hat.cap
  have hmax := hat.max
  rw [Hfl.out] at hcap
  have HROW : Hid (∀ j, j < n → ∃ (b o : Nat) (q' : Iv) (F0 : Option Addr) (f0 : Nat) (F1 : Option Addr) (f1 : Nat), Av = some ⟨b, o, none⟩ ∧ w.heap.size + 3 ≤ b ∧ b < w2.heap.size ∧ (w2.cell? ⟨b, o + j * 6, none⟩ = some (.bool q'.n0) ∧ w2.cell? ⟨b, o + j * 6 + 1, none⟩ = some (.bool q'.s0) ∧ w2.cell? ⟨b, o + j * 6 + 2, none⟩ = some (.slice F0 q'.l0.length f0) ∧ w2.cell? ⟨b, o + j * 6 + 3, none⟩ = some (.bool q'.n1) ∧ w2.cell? ⟨b, o + j * 6 + 4, none⟩ = some (.bool q'.s1) ∧ w2.cell? ⟨b, o + j * 6 + 5, none⟩ = some (.slice F1 q'.l1.length f1)) ∧ U64s w2 (new (w.heap.size + 3)) F0 f0 q'.l0 ∧ U64s w2 (new (w.heap.size + 3)) F1 f1 q'.l1 ∧ ∃ h : j < L.length, IvW L[j] q' ∧ IvN 60 L[j].1 L[j].2 ∧ (0 < L[j].1 ∨ L[j].2 < 0)) := fun j hj => by
    obtain ⟨b, o, F0, f0, F1, f1, e, hb, hcc, v0, v1⟩ := hat.at (j := j) (by rw [Hfl.out]; exact hj)
    have hjl : j < L.length := by rw [Hn.out]; exact hj
    have hbb := hbv b o e
    have h3 := HLok.out _ (List.getElem_mem hjl)
    refine ⟨b, o, _, F0, f0, F1, f1, e, by omega, hb, hcc, v0.mono (new_le (by omega)), v1.mono (new_le (by omega)), hjl, ?_, h3.1, h3.2⟩
    rw [Hfg.out j (by rw [Hfl.out]; exact hj) hjl]
    exact IvW.mk _
  obtain ⟨bl, ol, q0, F0, f0, F1, f1, rfl, hbl, hbl2, c6, v0, v1, hL0, hq0, gq0, sq0⟩ := HROW.out 0 hpos
  simp only [Nat.zero_mul, Nat.add_zero] at c6
  obtain ⟨r0, hr0⟩ : ∃ r0, IvW (ivD1 P L[0]) r0 := ⟨_, IvW.mk _⟩
  have HC0 := Lib.hid (fun (W : World) (h : Below w2.heap.size w2 W) => CR.out W (from_ W2.out h) _ _ _ _ _ _ _ _ _ hq0 gq0 sq0 hr0 (v0.below h) (v1.below h))
  have Hr0 := Lib.hid (show IvW (dK P L 0) r0 by rw [Hdz.out hL0]; exact hr0)
  have hi0 : (0 : Int) < (n : Int) := by omega
  have hs0 := And.intro HA.out.all c6
  have hs := cc_keep hs0 (Below.refl _ _).drew
  have Hc := Lib.hid (Below.refl w2.heap.size w2).drew
  obtain ⟨gR, hgR⟩ : ∃ gR, gR = w.heap.size + 2 := ⟨_, rfl⟩
  rw [← hgR] at HR hlt1
  have n1 : gR ≠ w.heap.size := by omega
  have n2 : gR ≠ bl := by omega
  have N1 := Lib.hid n1
  have N2 := Lib.hid n2
  have Hnz := Lib.hid hnz
  clear b0 b1 b2 b3 b4 b5 hat hbv hc c6 v0 v1 hq0 gq0 sq0 hr0 PT HBb HLok Hfl Hfg
  go_upto_region 6 with fail
  simp only [show w.heap.size + 2 = gR from hgR.symm, show w.heap.size + 1 + 1 = gR from hgR.symm]
  have HGR := Lib.hid hgR
  clear hgR n1 n2
  replace HR := Lib.hid (HR.out.below (Below.refl _ _).drew)
  have Hlt2 := Lib.hid HR.out.lt
  first | go_region_held3 (fun w' => (w'.cell? ⟨w.heap.size, 0, none⟩ = some (.bool p.n0) ∧ w'.cell? ⟨w.heap.size, 1, none⟩ = some (.bool p.s0) ∧ w'.cell? ⟨w.heap.size, 2, none⟩ = some (.slice A p.l0.length a) ∧ w'.cell? ⟨w.heap.size, 3, none⟩ = some (.bool p.n1) ∧ w'.cell? ⟨w.heap.size, 4, none⟩ = some (.bool p.s1) ∧ w'.cell? ⟨w.heap.size, 5, none⟩ = some (.slice B p.l1.length b)) ∧ (w'.cell? ⟨bl, ol, none⟩ = some (.bool q0.n0) ∧ w'.cell? ⟨bl, ol + 1, none⟩ = some (.bool q0.s0) ∧ w'.cell? ⟨bl, ol + 2, none⟩ = some (.slice F0 q0.l0.length f0) ∧ w'.cell? ⟨bl, ol + 3, none⟩ = some (.bool q0.n1) ∧ w'.cell? ⟨bl, ol + 4, none⟩ = some (.bool q0.s1) ∧ w'.cell? ⟨bl, ol + 5, none⟩ = some (.slice F1 q0.l1.length f1)))
    (first
      | with_reducible exact hs
      | (with_reducible apply cc_st6 rfl <;> (first | with_reducible exact hs | with_reducible exact N1.out | with_reducible exact N2.out)))
    ((go_at_call 59; with_reducible refine (HC0.out _ Hc.out).mono ?_; rintro e w3 ⟨E0, e0, E1, e1, rfl, o0, o1, hc2⟩; replace hs := cc_keep hs hc2; replace HR := Lib.hid (HR.out.below hc2); replace Hc := Lib.hid (from_ Hc.out hc2); obtain ⟨g0, g1, g2, g3, g4, g5, f0', f1', f2', f3', f4', f5', _⟩ := id HR.out)) | fail
  all_goals
    have hgr := HGR.out
    have hw0 : w.heap.size ≤ gR := by omega
    have hP := HR.out.put (w := w) (from_ W2.out Hc.out) hw0 (.bool r0.n0) (.bool r0.s0) (.slice E0 r0.l0.length e0) (.bool r0.n1) (.bool r0.s1) (.slice E1 r0.l1.length e1)
    have HPb := Lib.hid hP.box
    have HPl := Lib.hid hP.bel
    have hl2 := Hlt2.out
    have U0 := Lib.hid (And.intro ((o0.set6 (g := gR) (fun (h : _ ≤ gR) => by omega) (.bool r0.n0) (.bool r0.s0) (.slice E0 r0.l0.length e0) (.bool r0.n1) (.bool r0.s1) (.slice E1 r0.l1.length e1)).mono (new_le (show gR + 1 ≤ _ by omega))) ((o1.set6 (g := gR) (fun (h : _ ≤ gR) => by omega) (.bool r0.n0) (.bool r0.s0) (.slice E0 r0.l0.length e0) (.bool r0.n1) (.bool r0.s1) (.slice E1 r0.l1.length e1)).mono (new_le (show gR + 1 ≤ _ by omega))))
    have HJ0 := Lib.hid (((((((((Just.refl gR w2).step Hc.out).setCell 0 (.bool r0.n0)).setCell 1 (.bool r0.s0)).setCell 2 (.slice E0 r0.l0.length e0)).setCell 3 (.bool r0.n1)).setCell 4 (.bool r0.s1)).setCell 5 (.slice E1 r0.l1.length e1)))
    obtain ⟨m, rfl⟩ : ∃ m, n = m + 1 := ⟨n - 1, by omega⟩
    have Hn1 := Lib.hid N1.out
    have hcap2 : m + 1 ≤ cv := hcap
    clear hP hl2 o0 o1 hgr hw0 hs Hc HR HC0 g0 g1 g2 g3 g4 g5 f0' f1' f2' f3' f4' f5'
    generalize ((((((w3.setCell ⟨gR, 0, none⟩ (.bool r0.n0)).setCell ⟨gR, 1, none⟩ (.bool r0.s0)).setCell ⟨gR, 2, none⟩ (.slice E0 r0.l0.length e0)).setCell ⟨gR, 3, none⟩ (.bool r0.n1)).setCell ⟨gR, 4, none⟩ (.bool r0.s1)).setCell ⟨gR, 5, none⟩ (.slice E1 r0.l1.length e1)) = W6 at *
    by_cases hcv1 : cv = 1
    · have hm0 : m = 0 := by omega
      have Hm0 := Lib.hid hm0
      clear hm0
      go_wp2
      have Hcv1 := Lib.hid hcv1
      subst hcv1
      go_loopw [29] (fun i wr => ∃ (k : Nat) (s : Iv) (E0 : Option Addr) (e0 : Nat) (E1 : Option Addr) (e1 : Nat), k ≤ m ∧ i = .int .i64 (k : Int) ∧ Hid (IvW (dK P L k) s) ∧ Hid (Box6 wr gR (.bool s.n0) (.bool s.s0) (.slice E0 s.l0.length e0) (.bool s.n1) (.bool s.s1) (.slice E1 s.l1.length e1)) ∧ Hid (U64s wr (new (gR + 1)) E0 e0 s.l0 ∧ U64s wr (new (gR + 1)) E1 e1 s.l1) ∧ Hid (Just gR w2 wr) ∧ Below w.heap.size w wr) (fun i _ => m - (intOf i).toNat)
      case atStart => exact ⟨0, r0, _, _, _, _, Nat.zero_le _, rfl, Hr0, HPb, U0, HJ0, HPl.out⟩
      case round =>
        clear HPb HPl U0 HJ0
        obtain ⟨k, s, E0, e0, E1, e1, hk, rfl, Hs, HB7, HU, HJ, hbel⟩ := hrel
        by_cases hlt : k < m
        · exfalso; have := Hm0.out; omega
        · obtain rfl : k = m := by omega
          have hsr : IvW (ivD P Q) s := by rw [← Hda.out k Hn.out]; exact Hs.out
          obtain rfl := IvW.uniq Hr.out hsr
          have hgr := HGR.out
          have hw0 : w.heap.size ≤ gR := by omega
          have HP := Lib.hid (HB7.out.put (w := w) hbel hw0 (.bool r.n0) (.bool r.s0) (.slice E0 r.l0.length e0) (.bool r.n1) (.bool r.s1) (.slice E1 r.l1.length e1))
          have U1 := Lib.hid ((HU.out.1.set6 (g := gR) (fun (h : gR + 1 ≤ gR) => by omega) (.bool r.n0) (.bool r.s0) (.slice E0 r.l0.length e0) (.bool r.n1) (.bool r.s1) (.slice E1 r.l1.length e1)).mono (new_le (show w.heap.size ≤ gR + 1 by omega)))
          have U2 := Lib.hid ((HU.out.2.set6 (g := gR) (fun (h : gR + 1 ≤ gR) => by omega) (.bool r.n0) (.bool r.s0) (.slice E0 r.l0.length e0) (.bool r.n1) (.bool r.s1) (.slice E1 r.l1.length e1)).mono (new_le (show w.heap.size ≤ gR + 1 by omega)))
          obtain ⟨g0, g1, g2, g3, g4, g5, f0', f1', f2', f3', f4', f5', _⟩ := id HB7.out
          clear hgr hw0 hsr
          go_wp2
          refine bodyPost_ret (res_itv2 rfl _ gR rfl HP.out.box) rfl ?_
          exact ⟨_, _, _, _, rfl, U1.out, U2.out, HP.out.bel⟩
    · have hcvn : ¬ (cv - 1 = 0) := by omega
      go_wp2
      have Hcv1 := Lib.hid hcv1
      clear hcv1 hcvn
      go_loopw [29] (fun i wr => ∃ (k : Nat) (s : Iv) (E0 : Option Addr) (e0 : Nat) (E1 : Option Addr) (e1 : Nat), k ≤ m ∧ i = .int .i64 (k : Int) ∧ Hid (IvW (dK P L k) s) ∧ Hid (Box6 wr gR (.bool s.n0) (.bool s.s0) (.slice E0 s.l0.length e0) (.bool s.n1) (.bool s.s1) (.slice E1 s.l1.length e1)) ∧ Hid (U64s wr (new (gR + 1)) E0 e0 s.l0 ∧ U64s wr (new (gR + 1)) E1 e1 s.l1) ∧ Hid (Just gR w2 wr) ∧ Below w.heap.size w wr) (fun i _ => m - (intOf i).toNat)
      case atStart => exact ⟨0, r0, _, _, _, _, Nat.zero_le _, rfl, Hr0, HPb, U0, HJ0, HPl.out⟩
      case round =>
        clear HPb HPl U0 HJ0
        obtain ⟨k, s, E0, e0, E1, e1, hk, rfl, Hs, HB7, HU, HJ, hbel⟩ := hrel
        by_cases hlt : k < m
        · obtain ⟨b, o, q1, G0, d0, G1, d1, e, hb3, hblt, c6, v0, v1, hLk, hqk, gqk, sqk⟩ := HROW.out (k + 1) (by omega)
          injection e with e
          injection e with e1 e2
          subst e1 e2
          rw [show ol + (k + 1) * 6 = ol + 6 + k * 6 by omega] at c6
          have hgr := HGR.out
          obtain ⟨r1, hr1⟩ : ∃ r1, IvW (ivD1 P L[k + 1]) r1 := ⟨_, IvW.mk _⟩
          obtain ⟨s2, hs2⟩ : ∃ s2, IvW (dK P L (k + 1)) s2 := ⟨_, IvW.mk _⟩
          have hgs := Hdk.out k (by omega)
          have hJ := HJ.out
          have c7 := six_just hJ (show bl ≠ gR by omega) c6
          have a7 := six_just0 hJ (show w.heap.size ≠ gR by omega) HA.out.all
          have w0 := hJ.words (show ¬ (new (w.heap.size + 3)).blk gR from fun (h : w.heap.size + 3 ≤ gR) => by omega) v0
          have w1' := hJ.words (show ¬ (new (w.heap.size + 3)).blk gR from fun (h : w.heap.size + 3 ≤ gR) => by omega) v1
          have hi3 : (k : Int) < (m : Int) := by omega
          obtain ⟨x0, x1, x2, x3, x4, x5⟩ := id c7
          have CRk := Lib.hid (fun (W : World) (h : Below wr.heap.size wr W) => CR.out W (from_ hbel h) _ _ _ _ _ _ _ _ _ hqk gqk sqk hr1 (w0.below h) (w1'.below h))
          have JNk := Lib.hid (fun (W : World) (Z5 Z6 : Zone) (E F : Option Addr) (e f : Nat) (h : Below wr.heap.size wr W) (g0 : U64s W Z5 E e r1.l0) (g1 : U64s W Z6 F f r1.l1) => ijoin2_w Hs.out hgs (by omega) hr1 (ivD1_ok Hgp.out gqk sqk (by omega)) (by omega) (by rw [← Hds.out k hLk]; exact hs2) (HU.out.1.below h) (HU.out.2.below h) g0 g1)
          have Ha7 := Lib.hid a7
          have Hs2 := Lib.hid hs2
          have hax : Below wr.heap.size wr (wr.alloc (.cells #[.bool q1.n0, .bool q1.s0, .slice G0 q1.l0.length d0, .bool q1.n1, .bool q1.s1, .slice G1 q1.l1.length d1] 29)) := (Below.refl _ _).alloc (Nat.le_refl _) _
          have Hgb := Lib.hid (HB7.out.lt)
          have Hwr := Lib.hid hbel.size
          clear c6 v0 v1 hqk gqk sqk hr1 hs2 hgs hJ c7 a7 w0 w1' hgr
          go_upto_region 10 with fail
          have B8 := Lib.hid (Box6.new wr (.bool q1.n0) (.bool q1.s0) (.slice G0 q1.l0.length d0) (.bool q1.n1) (.bool q1.s1) (.slice G1 q1.l1.length d1) 29)
          obtain ⟨g8, hg8⟩ : ∃ g8, g8 = wr.heap.size := ⟨_, rfl⟩
          rw [← hg8] at B8
          have ne8 : gR ≠ g8 := by have := Hgb.out; omega
          have Hne8 := Lib.hid ne8
          have Hax := Lib.hid hax
          have Ha8 := Lib.hid (six_keep0 Ha7.out hax)
          have HB8 := Lib.hid (HB7.out.below hax)
          clear hax ne8 Ha7
          generalize hV : wr.alloc (.cells #[.bool q1.n0, .bool q1.s0, .slice G0 q1.l0.length d0, .bool q1.n1, .bool q1.s1, .slice G1 q1.l1.length d1] 29) = V at *
          try simp only [← hg8]
          clear hV hg8 x0 x1 x2 x3 x4 x5
          have HT := And.intro (And.intro (six_keep0 Ha8.out (Below.refl _ _).drew) (B8.out.below (Below.refl _ _).drew).all) (HB8.out.below (Below.refl _ _).drew).all
          have Hc := Lib.hid (from_ Hax.out (Below.refl V.heap.size V).drew)
          have Hcv := Lib.hid (Below.refl V.heap.size V).drew
          refine wp_region_L (fun w' : World => (w'.cell? ⟨w.heap.size, 0, none⟩ = some (.bool p.n0) ∧ w'.cell? ⟨w.heap.size, 1, none⟩ = some (.bool p.s0) ∧ w'.cell? ⟨w.heap.size, 2, none⟩ = some (.slice A p.l0.length a) ∧ w'.cell? ⟨w.heap.size, 3, none⟩ = some (.bool p.n1) ∧ w'.cell? ⟨w.heap.size, 4, none⟩ = some (.bool p.s1) ∧ w'.cell? ⟨w.heap.size, 5, none⟩ = some (.slice B p.l1.length b)) ∧ (w'.cell? ⟨g8, 0, none⟩ = some (.bool q1.n0) ∧ w'.cell? ⟨g8, 1, none⟩ = some (.bool q1.s0) ∧ w'.cell? ⟨g8, 2, none⟩ = some (.slice G0 q1.l0.length d0) ∧ w'.cell? ⟨g8, 3, none⟩ = some (.bool q1.n1) ∧ w'.cell? ⟨g8, 4, none⟩ = some (.bool q1.s1) ∧ w'.cell? ⟨g8, 5, none⟩ = some (.slice G1 q1.l1.length d1))) (fun w' : World => w'.cell? ⟨gR, 0, none⟩ = some (.bool s.n0) ∧ w'.cell? ⟨gR, 1, none⟩ = some (.bool s.s0) ∧ w'.cell? ⟨gR, 2, none⟩ = some (.slice E0 s.l0.length e0) ∧ w'.cell? ⟨gR, 3, none⟩ = some (.bool s.n1) ∧ w'.cell? ⟨gR, 4, none⟩ = some (.bool s.s1) ∧ w'.cell? ⟨gR, 5, none⟩ = some (.slice E1 s.l1.length e1)) 4 (by kernel_rfl) ?_
          show wpAnyL _ _ _ _ _ _ _ 6 _ _ _
          refine wpAnyL_take (i := 0) (v := ?_) rfl (by kernel_rfl) (by kernel_rfl) (by kernel_rfl) (fun _ _ _ h => h) (by kernel_rfl) (by rfl) (by rfl) (Or.inl ⟨by rfl, ?_⟩) HT ?_
          rotate_left
          · intro w' hSw; (try dsimp only at hSw); go_simp; (try with_reducible rfl)
          try simp only [Act.put, List.setIfInBounds_toArray, List.set_cons_zero, List.set_cons_succ]
          refine wpAnyL_takeA (i := 1) (v := ?_) rfl (by kernel_rfl) (by kernel_rfl) (by kernel_rfl) (fun _ _ _ h => h) (by rfl) (Or.inl ⟨by rfl, ?_⟩) HT ?_
          rotate_left
          · intro w' hSw; (try dsimp only at hSw); go_simp; (try with_reducible rfl)
          try simp only [Act.put, List.setIfInBounds_toArray, List.set_cons_zero, List.set_cons_succ]
          refine wpAnyL_takeA (i := 2) (v := ?_) rfl (by kernel_rfl) (by kernel_rfl) (by kernel_rfl) (fun _ _ _ h => h) (by rfl) (Or.inl ⟨by rfl, ?_⟩) HT ?_
          rotate_left
          · intro w' hSw; (try dsimp only at hSw); go_simp; (try with_reducible rfl)
          try simp only [Act.put, List.setIfInBounds_toArray, List.set_cons_zero, List.set_cons_succ]
          refine anyL_one (i := 3) (by kernel_rfl) (wpOp_step rfl (by rfl) fun K hK => ?_)
          go_simp
          refine (CRk.out _ Hc.out).mono ?_
          rintro e w4 ⟨X0, t0, X1, t1, rfl, o0, o1, hc2⟩
          have tA := And.intro (six_keep0 HT.1.1 hc2) (six_keep0 HT.1.2 hc2)
          have tT := six_keep0 HT.2 hc2
          replace HB8 := Lib.hid ((HB8.out.below (Below.refl _ _).drew).below hc2)
          replace Hc := Lib.hid (from_ Hc.out hc2)
          refine hK _ _ ⟨⟨tA, fun _ => tT⟩, ?_⟩
          clear hK K hc2 HT tT
          try simp only [Act.put, List.setIfInBounds_toArray, List.set_cons_zero, List.set_cons_succ]
          refine anyL_last (by kernel_rfl) (by rfl) (wpOp_step rfl (by rfl) fun K hK => ?_)
          go_simp
          refine (JNk.out _ _ _ _ _ _ _ Hc.out o0 o1).mono ?_
          rintro e w5 ⟨Y0, y0, Y1, y1, rfl, n0, n1, hc2⟩
          have tB := And.intro (six_keep0 tA.1 hc2) (six_keep0 tA.2 hc2)
          replace HB8 := Lib.hid (HB8.out.below hc2)
          have Hc5 := Lib.hid (from_ Hc.out hc2)
          have hsz4 := Hc.out.size
          obtain ⟨g0, g1, g2, g3, g4, g5, f0', f1', f2', f3', f4', f5', _⟩ := id HB8.out
          refine hK _ _ ⟨tB, ?_⟩
          clear hK K hc2 tA o0 o1
          try simp only [Act.put, List.setIfInBounds_toArray, List.set_cons_zero, List.set_cons_succ]
          refine anyH_one (i := 5) (by kernel_rfl) (wpOp_step rfl (by rfl) fun K hK => ?_)
          go_simp
          refine hK _ _ ⟨⟨st6_0 Hn1.out tB.1, st6_0 Hne8.out tB.2⟩, ?_⟩
          clear hK K tB g0 g1 g2 g3 g4 g5 f0' f1' f2' f3' f4' f5'
          try simp only [Act.put, List.setIfInBounds_toArray, List.set_cons_zero, List.set_cons_succ]
          refine wpAnyH_done (by kernel_rfl) ?_ _
          all_goals
            have hgr := HGR.out
            have hw0 : w.heap.size ≤ gR := by omega
            have hP := HB8.out.put (w := w) (from_ hbel Hc5.out) hw0 (.bool s2.n0) (.bool s2.s0) (.slice Y0 s2.l0.length y0) (.bool s2.n1) (.bool s2.s1) (.slice Y1 s2.l1.length y1)
            have HPb := Lib.hid hP.box
            have HPl := Lib.hid hP.bel
            have hgw : ¬ (w4.heap.size ≤ gR) := by have := Hgb.out; omega
            have hgw2 : gR + 1 ≤ w4.heap.size := by have := Hgb.out; omega
            have Un := Lib.hid (And.intro ((n0.set6 (g := gR) hgw (.bool s2.n0) (.bool s2.s0) (.slice Y0 s2.l0.length y0) (.bool s2.n1) (.bool s2.s1) (.slice Y1 s2.l1.length y1)).mono (new_le hgw2)) ((n1.set6 (g := gR) hgw (.bool s2.n0) (.bool s2.s0) (.slice Y0 s2.l0.length y0) (.bool s2.n1) (.bool s2.s1) (.slice Y1 s2.l1.length y1)).mono (new_le hgw2)))
            have HJ2 := Lib.hid ((((((((HJ.out.step Hc5.out).setCell 0 (.bool s2.n0)).setCell 1 (.bool s2.s0)).setCell 2 (.slice Y0 s2.l0.length y0)).setCell 3 (.bool s2.n1)).setCell 4 (.bool s2.s1)).setCell 5 (.slice Y1 s2.l1.length y1)))
            clear hP hgw hgw2 n0 n1 hgr hw0 hsz4
            go_wp2
            go_roundw
            case rel => exact ⟨k + 1, by omega, by go_num, s2, Hs2, _, _, _, _, HPb, Un, HPl.out⟩
            case measure => simp [intOf]; omega
        · obtain rfl : k = m := by omega
          have hsr : IvW (ivD P Q) s := by rw [← Hda.out k Hn.out]; exact Hs.out
          obtain rfl := IvW.uniq Hr.out hsr
          have hgr := HGR.out
          have hw0 : w.heap.size ≤ gR := by omega
          have HP := Lib.hid (HB7.out.put (w := w) hbel hw0 (.bool r.n0) (.bool r.s0) (.slice E0 r.l0.length e0) (.bool r.n1) (.bool r.s1) (.slice E1 r.l1.length e1))
          have U1 := Lib.hid ((HU.out.1.set6 (g := gR) (fun (h : gR + 1 ≤ gR) => by omega) (.bool r.n0) (.bool r.s0) (.slice E0 r.l0.length e0) (.bool r.n1) (.bool r.s1) (.slice E1 r.l1.length e1)).mono (new_le (show w.heap.size ≤ gR + 1 by omega)))
          have U2 := Lib.hid ((HU.out.2.set6 (g := gR) (fun (h : gR + 1 ≤ gR) => by omega) (.bool r.n0) (.bool r.s0) (.slice E0 r.l0.length e0) (.bool r.n1) (.bool r.s1) (.slice E1 r.l1.length e1)).mono (new_le (show w.heap.size ≤ gR + 1 by omega)))
          obtain ⟨g0, g1, g2, g3, g4, g5, f0', f1', f2', f3', f4', f5', _⟩ := id HB7.out
          clear hgr hw0 hsr
          go_wp2
          refine bodyPost_ret (res_itv2 rfl _ gR rfl HP.out.box) rfl ?_
          exact ⟨_, _, _, _, rfl, U1.out, U2.out, HP.out.bel⟩

end Go.Proofs.Ytennphechbngcaa

namespace Go.Proofs.Ytennphechbngcaa
open Go.RowKit
set_option linter.unusedVariables false
set_option linter.unusedSimpArgs false

theorem Box6.oth1 {W : World} {g : Nat} {a b c d e f : Value} (h : Box6 W g a b c d e f) {k j : Nat} (hn : k ≠ g) (v : Value) : Box6 (W.setCell ⟨k, j, none⟩ v) g a b c d e f := by
  obtain ⟨h0, h1, h2, h3, h4, h5, f0, f1, f2, f3, f4, f5, hl⟩ := h
  refine ⟨?_, ?_, ?_, ?_, ?_, ?_, ?_, ?_, ?_, ?_, ?_, ?_, ?_⟩
  · rw [World.cell?_setCell_other _ _ _ _ (fun e => hn (by injection e))]; exact h0
  · rw [World.cell?_setCell_other _ _ _ _ (fun e => hn (by injection e))]; exact h1
  · rw [World.cell?_setCell_other _ _ _ _ (fun e => hn (by injection e))]; exact h2
  · rw [World.cell?_setCell_other _ _ _ _ (fun e => hn (by injection e))]; exact h3
  · rw [World.cell?_setCell_other _ _ _ _ (fun e => hn (by injection e))]; exact h4
  · rw [World.cell?_setCell_other _ _ _ _ (fun e => hn (by injection e))]; exact h5
  · exact (World.frozen?_setCell _ _ _ _).trans f0
  · exact (World.frozen?_setCell _ _ _ _).trans f1
  · exact (World.frozen?_setCell _ _ _ _).trans f2
  · exact (World.frozen?_setCell _ _ _ _).trans f3
  · exact (World.frozen?_setCell _ _ _ _).trans f4
  · exact (World.frozen?_setCell _ _ _ _).trans f5
  · simpa [World.setCell] using hl

theorem Box6.other3 {W : World} {g h : Nat} {a b c d e f : Value} (H : Box6 W g a b c d e f) (hn : h ≠ g) (x y z : Value) : Box6 (((W.setCell ⟨h, 0, none⟩ x).setCell ⟨h, 1, none⟩ y).setCell ⟨h, 2, none⟩ z) g a b c d e f := ((H.oth1 hn x).oth1 hn y).oth1 hn z
theorem k6_keep {W V : World} {g : Nat} {a0 a1 a2 a3 a4 a5 : Value} (hs : W.cell? ⟨g, 0, none⟩ = some a0 ∧ W.cell? ⟨g, 1, none⟩ = some a1 ∧ W.cell? ⟨g, 2, none⟩ = some a2 ∧ W.cell? ⟨g, 3, none⟩ = some a3 ∧ W.cell? ⟨g, 4, none⟩ = some a4 ∧ W.cell? ⟨g, 5, none⟩ = some a5) (hb : Below W.heap.size W V) : V.cell? ⟨g, 0, none⟩ = some a0 ∧ V.cell? ⟨g, 1, none⟩ = some a1 ∧ V.cell? ⟨g, 2, none⟩ = some a2 ∧ V.cell? ⟨g, 3, none⟩ = some a3 ∧ V.cell? ⟨g, 4, none⟩ = some a4 ∧ V.cell? ⟨g, 5, none⟩ = some a5 := ⟨keepC hb hs.1, keepC hb hs.2.1, keepC hb hs.2.2.1, keepC hb hs.2.2.2.1, keepC hb hs.2.2.2.2.1, keepC hb hs.2.2.2.2.2⟩
theorem k6_al {W V : World} {g : Nat} {a0 a1 a2 a3 a4 a5 : Value} {o : Obj} (e : V = W.alloc o) (hs : W.cell? ⟨g, 0, none⟩ = some a0 ∧ W.cell? ⟨g, 1, none⟩ = some a1 ∧ W.cell? ⟨g, 2, none⟩ = some a2 ∧ W.cell? ⟨g, 3, none⟩ = some a3 ∧ W.cell? ⟨g, 4, none⟩ = some a4 ∧ W.cell? ⟨g, 5, none⟩ = some a5) : V.cell? ⟨g, 0, none⟩ = some a0 ∧ V.cell? ⟨g, 1, none⟩ = some a1 ∧ V.cell? ⟨g, 2, none⟩ = some a2 ∧ V.cell? ⟨g, 3, none⟩ = some a3 ∧ V.cell? ⟨g, 4, none⟩ = some a4 ∧ V.cell? ⟨g, 5, none⟩ = some a5 := by
  subst e
  exact k6_keep hs ((Below.refl _ _).alloc (Nat.le_refl _) _)
theorem k6_dr {W V : World} {g : Nat} {a0 a1 a2 a3 a4 a5 : Value} (e : V = W.drew) (hs : W.cell? ⟨g, 0, none⟩ = some a0 ∧ W.cell? ⟨g, 1, none⟩ = some a1 ∧ W.cell? ⟨g, 2, none⟩ = some a2 ∧ W.cell? ⟨g, 3, none⟩ = some a3 ∧ W.cell? ⟨g, 4, none⟩ = some a4 ∧ W.cell? ⟨g, 5, none⟩ = some a5) : V.cell? ⟨g, 0, none⟩ = some a0 ∧ V.cell? ⟨g, 1, none⟩ = some a1 ∧ V.cell? ⟨g, 2, none⟩ = some a2 ∧ V.cell? ⟨g, 3, none⟩ = some a3 ∧ V.cell? ⟨g, 4, none⟩ = some a4 ∧ V.cell? ⟨g, 5, none⟩ = some a5 := by
  subst e
  exact k6_keep hs (Below.refl _ _).drew
theorem k6_st3 {W V : World} {g : Nat} {a0 a1 a2 a3 a4 a5 : Value} {r : Nat} {x0 x1 x2 : Value} (e : V = (((W.setCell ⟨r, 0, none⟩ x0).setCell ⟨r, 1, none⟩ x1).setCell ⟨r, 2, none⟩ x2)) (hg : r ≠ g) (hs : W.cell? ⟨g, 0, none⟩ = some a0 ∧ W.cell? ⟨g, 1, none⟩ = some a1 ∧ W.cell? ⟨g, 2, none⟩ = some a2 ∧ W.cell? ⟨g, 3, none⟩ = some a3 ∧ W.cell? ⟨g, 4, none⟩ = some a4 ∧ W.cell? ⟨g, 5, none⟩ = some a5) : V.cell? ⟨g, 0, none⟩ = some a0 ∧ V.cell? ⟨g, 1, none⟩ = some a1 ∧ V.cell? ⟨g, 2, none⟩ = some a2 ∧ V.cell? ⟨g, 3, none⟩ = some a3 ∧ V.cell? ⟨g, 4, none⟩ = some a4 ∧ V.cell? ⟨g, 5, none⟩ = some a5 := by
  subst e
  exact ⟨st3 hs.1 hg, st3 hs.2.1 hg, st3 hs.2.2.1 hg, st3 hs.2.2.2.1 hg, st3 hs.2.2.2.2.1 hg, st3 hs.2.2.2.2.2 hg⟩
theorem k3_keep {W V : World} {h : Nat} {b0 b1 b2 : Value} (hs : W.cell? ⟨h, 0, none⟩ = some b0 ∧ W.cell? ⟨h, 1, none⟩ = some b1 ∧ W.cell? ⟨h, 2, none⟩ = some b2) (hb : Below W.heap.size W V) : V.cell? ⟨h, 0, none⟩ = some b0 ∧ V.cell? ⟨h, 1, none⟩ = some b1 ∧ V.cell? ⟨h, 2, none⟩ = some b2 := ⟨keepC hb hs.1, keepC hb hs.2.1, keepC hb hs.2.2⟩
theorem k3_al {W V : World} {h : Nat} {b0 b1 b2 : Value} {o : Obj} (e : V = W.alloc o) (hs : W.cell? ⟨h, 0, none⟩ = some b0 ∧ W.cell? ⟨h, 1, none⟩ = some b1 ∧ W.cell? ⟨h, 2, none⟩ = some b2) : V.cell? ⟨h, 0, none⟩ = some b0 ∧ V.cell? ⟨h, 1, none⟩ = some b1 ∧ V.cell? ⟨h, 2, none⟩ = some b2 := by
  subst e
  exact k3_keep hs ((Below.refl _ _).alloc (Nat.le_refl _) _)
theorem k3_dr {W V : World} {h : Nat} {b0 b1 b2 : Value} (e : V = W.drew) (hs : W.cell? ⟨h, 0, none⟩ = some b0 ∧ W.cell? ⟨h, 1, none⟩ = some b1 ∧ W.cell? ⟨h, 2, none⟩ = some b2) : V.cell? ⟨h, 0, none⟩ = some b0 ∧ V.cell? ⟨h, 1, none⟩ = some b1 ∧ V.cell? ⟨h, 2, none⟩ = some b2 := by
  subst e
  exact k3_keep hs (Below.refl _ _).drew
theorem k3_st3 {W V : World} {h : Nat} {b0 b1 b2 : Value} {r : Nat} {x0 x1 x2 : Value} (e : V = (((W.setCell ⟨r, 0, none⟩ x0).setCell ⟨r, 1, none⟩ x1).setCell ⟨r, 2, none⟩ x2)) (hh : r ≠ h) (hs : W.cell? ⟨h, 0, none⟩ = some b0 ∧ W.cell? ⟨h, 1, none⟩ = some b1 ∧ W.cell? ⟨h, 2, none⟩ = some b2) : V.cell? ⟨h, 0, none⟩ = some b0 ∧ V.cell? ⟨h, 1, none⟩ = some b1 ∧ V.cell? ⟨h, 2, none⟩ = some b2 := by
  subst e
  exact ⟨st3 hs.1 hh, st3 hs.2.1 hh, st3 hs.2.2 hh⟩
theorem k9_keep {W V : World} {g h : Nat} {a0 a1 a2 a3 a4 a5 b0 b1 b2 : Value} (hs : W.cell? ⟨g, 0, none⟩ = some a0 ∧ W.cell? ⟨g, 1, none⟩ = some a1 ∧ W.cell? ⟨g, 2, none⟩ = some a2 ∧ W.cell? ⟨g, 3, none⟩ = some a3 ∧ W.cell? ⟨g, 4, none⟩ = some a4 ∧ W.cell? ⟨g, 5, none⟩ = some a5 ∧ W.cell? ⟨h, 0, none⟩ = some b0 ∧ W.cell? ⟨h, 1, none⟩ = some b1 ∧ W.cell? ⟨h, 2, none⟩ = some b2) (hb : Below W.heap.size W V) : V.cell? ⟨g, 0, none⟩ = some a0 ∧ V.cell? ⟨g, 1, none⟩ = some a1 ∧ V.cell? ⟨g, 2, none⟩ = some a2 ∧ V.cell? ⟨g, 3, none⟩ = some a3 ∧ V.cell? ⟨g, 4, none⟩ = some a4 ∧ V.cell? ⟨g, 5, none⟩ = some a5 ∧ V.cell? ⟨h, 0, none⟩ = some b0 ∧ V.cell? ⟨h, 1, none⟩ = some b1 ∧ V.cell? ⟨h, 2, none⟩ = some b2 := ⟨keepC hb hs.1, keepC hb hs.2.1, keepC hb hs.2.2.1, keepC hb hs.2.2.2.1, keepC hb hs.2.2.2.2.1, keepC hb hs.2.2.2.2.2.1, keepC hb hs.2.2.2.2.2.2.1, keepC hb hs.2.2.2.2.2.2.2.1, keepC hb hs.2.2.2.2.2.2.2.2⟩
theorem k9_al {W V : World} {g h : Nat} {a0 a1 a2 a3 a4 a5 b0 b1 b2 : Value} {o : Obj} (e : V = W.alloc o) (hs : W.cell? ⟨g, 0, none⟩ = some a0 ∧ W.cell? ⟨g, 1, none⟩ = some a1 ∧ W.cell? ⟨g, 2, none⟩ = some a2 ∧ W.cell? ⟨g, 3, none⟩ = some a3 ∧ W.cell? ⟨g, 4, none⟩ = some a4 ∧ W.cell? ⟨g, 5, none⟩ = some a5 ∧ W.cell? ⟨h, 0, none⟩ = some b0 ∧ W.cell? ⟨h, 1, none⟩ = some b1 ∧ W.cell? ⟨h, 2, none⟩ = some b2) : V.cell? ⟨g, 0, none⟩ = some a0 ∧ V.cell? ⟨g, 1, none⟩ = some a1 ∧ V.cell? ⟨g, 2, none⟩ = some a2 ∧ V.cell? ⟨g, 3, none⟩ = some a3 ∧ V.cell? ⟨g, 4, none⟩ = some a4 ∧ V.cell? ⟨g, 5, none⟩ = some a5 ∧ V.cell? ⟨h, 0, none⟩ = some b0 ∧ V.cell? ⟨h, 1, none⟩ = some b1 ∧ V.cell? ⟨h, 2, none⟩ = some b2 := by
  subst e
  exact k9_keep hs ((Below.refl _ _).alloc (Nat.le_refl _) _)
theorem k9_dr {W V : World} {g h : Nat} {a0 a1 a2 a3 a4 a5 b0 b1 b2 : Value} (e : V = W.drew) (hs : W.cell? ⟨g, 0, none⟩ = some a0 ∧ W.cell? ⟨g, 1, none⟩ = some a1 ∧ W.cell? ⟨g, 2, none⟩ = some a2 ∧ W.cell? ⟨g, 3, none⟩ = some a3 ∧ W.cell? ⟨g, 4, none⟩ = some a4 ∧ W.cell? ⟨g, 5, none⟩ = some a5 ∧ W.cell? ⟨h, 0, none⟩ = some b0 ∧ W.cell? ⟨h, 1, none⟩ = some b1 ∧ W.cell? ⟨h, 2, none⟩ = some b2) : V.cell? ⟨g, 0, none⟩ = some a0 ∧ V.cell? ⟨g, 1, none⟩ = some a1 ∧ V.cell? ⟨g, 2, none⟩ = some a2 ∧ V.cell? ⟨g, 3, none⟩ = some a3 ∧ V.cell? ⟨g, 4, none⟩ = some a4 ∧ V.cell? ⟨g, 5, none⟩ = some a5 ∧ V.cell? ⟨h, 0, none⟩ = some b0 ∧ V.cell? ⟨h, 1, none⟩ = some b1 ∧ V.cell? ⟨h, 2, none⟩ = some b2 := by
  subst e
  exact k9_keep hs (Below.refl _ _).drew
theorem k9_st3 {W V : World} {g h : Nat} {a0 a1 a2 a3 a4 a5 b0 b1 b2 : Value} {r : Nat} {x0 x1 x2 : Value} (e : V = (((W.setCell ⟨r, 0, none⟩ x0).setCell ⟨r, 1, none⟩ x1).setCell ⟨r, 2, none⟩ x2)) (hg : r ≠ g) (hh : r ≠ h) (hs : W.cell? ⟨g, 0, none⟩ = some a0 ∧ W.cell? ⟨g, 1, none⟩ = some a1 ∧ W.cell? ⟨g, 2, none⟩ = some a2 ∧ W.cell? ⟨g, 3, none⟩ = some a3 ∧ W.cell? ⟨g, 4, none⟩ = some a4 ∧ W.cell? ⟨g, 5, none⟩ = some a5 ∧ W.cell? ⟨h, 0, none⟩ = some b0 ∧ W.cell? ⟨h, 1, none⟩ = some b1 ∧ W.cell? ⟨h, 2, none⟩ = some b2) : V.cell? ⟨g, 0, none⟩ = some a0 ∧ V.cell? ⟨g, 1, none⟩ = some a1 ∧ V.cell? ⟨g, 2, none⟩ = some a2 ∧ V.cell? ⟨g, 3, none⟩ = some a3 ∧ V.cell? ⟨g, 4, none⟩ = some a4 ∧ V.cell? ⟨g, 5, none⟩ = some a5 ∧ V.cell? ⟨h, 0, none⟩ = some b0 ∧ V.cell? ⟨h, 1, none⟩ = some b1 ∧ V.cell? ⟨h, 2, none⟩ = some b2 := by
  subst e
  exact ⟨st3 hs.1 hg, st3 hs.2.1 hg, st3 hs.2.2.1 hg, st3 hs.2.2.2.1 hg, st3 hs.2.2.2.2.1 hg, st3 hs.2.2.2.2.2.1 hg, st3 hs.2.2.2.2.2.2.1 hh, st3 hs.2.2.2.2.2.2.2.1 hh, st3 hs.2.2.2.2.2.2.2.2 hh⟩

set_option maxRecDepth 100000 in
set_option maxHeartbeats 40000000 in
theorem imod_w {w : World} {Z1 Z2 Z3 Z4 : Zone} {p q : Iv} {P Q : IvP} {A B C D : Option Addr} {a b c d : Nat} (hp : IvW P p) (gp : IvN 60 P.1 P.2) (hq : IvW Q q) (gq : IvN 60 Q.1 Q.2) (u1 : U64s w Z1 A a p.l0) (u2 : U64s w Z2 B b p.l1) (u3 : U64s w Z3 C c q.l0) (u4 : U64s w Z4 D d q.l1) {r : Iv} (hne : partsP Q ≠ []) (hr : IvW (modP P Q) r) :
    Calls Try.prog 30 #[.agg #[.bool p.n0, .bool p.s0, .slice A p.l0.length a, .bool p.n1, .bool p.s1, .slice B p.l1.length b], .agg #[.bool q.n0, .bool q.s0, .slice C q.l0.length c, .bool q.n1, .bool q.s1, .slice D q.l1.length d]] w fun e w' => ∃ rA ra rB rb, e = .returned (.tuple #[.agg #[.bool r.n0, .bool r.s0, .slice rA r.l0.length ra, .bool r.n1, .bool r.s1, .slice rB r.l1.length rb], .int .i64 0]) ∧ U64s w' (new w.heap.size) rA ra r.l0 ∧ U64s w' (new w.heap.size) rB rb r.l1 ∧ Below w.heap.size w w' := by
  obtain ⟨rn0, rs0, rl0, rn1, rs1, rl1⟩ := r
  dsimp only
  obtain ⟨bA, bB, bR, hB0⟩ := boxX w (.bool p.n0) (.bool p.s0) (.slice A p.l0.length a) (.bool p.n1) (.bool p.s1) (.slice B p.l1.length b) (.bool q.n0) (.bool q.s0) (.slice C q.l0.length c) (.bool q.n1) (.bool q.s1) (.slice D q.l1.length d) (.bool false) (.bool false) (.slice none 0 0) (.bool false) (.bool false) (.slice none 0 0) 29
  have hb1 := hB0.alloc hB0.size (.cells #[.bool p.n0, .bool p.s0, .slice A p.l0.length a, .bool p.n1, .bool p.s1, .slice B p.l1.length b, .bool q.n0, .bool q.s0, .slice C q.l0.length c, .bool q.n1, .bool q.s1, .slice D q.l1.length d] 29)
  have hg := given_twoA (p := p) (q := q) (ty := 29) (u1.below hB0) (u2.below hB0) (u3.below hB0) (u4.below hB0)
  rw [show (((w.alloc (.cells #[.bool p.n0, .bool p.s0, .slice A p.l0.length a, .bool p.n1, .bool p.s1, .slice B p.l1.length b] 29)).alloc (.cells #[.bool q.n0, .bool q.s0, .slice C q.l0.length c, .bool q.n1, .bool q.s1, .slice D q.l1.length d] 29)).alloc (.cells #[.bool false, .bool false, .slice none 0 0, .bool false, .bool false, .slice none 0 0] 29)).heap.size = w.heap.size + 3 by simp] at hg
  have kp := hp.k gp (by omega)
  have kq := hq.k gq (by omega)
  have hck := ichecked_any (n := 2) (c := 2) hg rfl (by simp) (by intro p' hp'; simp only [List.mem_cons, List.not_mem_nil, or_false] at hp'; rcases hp' with rfl | rfl <;> exact ⟨by have := kp.q0; have := kq.q0; omega, by have := kp.q1; have := kq.q1; omega⟩)
  rw [errAs_two, if_pos ⟨kp.ok, kq.ok⟩] at hck
  have HA := Lib.hid (bA.alloc (.cells #[.bool p.n0, .bool p.s0, .slice A p.l0.length a, .bool p.n1, .bool p.s1, .slice B p.l1.length b, .bool q.n0, .bool q.s0, .slice C q.l0.length c, .bool q.n1, .bool q.s1, .slice D q.l1.length d] 29))
  have HBb := Lib.hid (bB.alloc (.cells #[.bool p.n0, .bool p.s0, .slice A p.l0.length a, .bool p.n1, .bool p.s1, .slice B p.l1.length b, .bool q.n0, .bool q.s0, .slice C q.l0.length c, .bool q.n1, .bool q.s1, .slice D q.l1.length d] 29))
  have HR := Lib.hid (bR.alloc (.cells #[.bool p.n0, .bool p.s0, .slice A p.l0.length a, .bool p.n1, .bool p.s1, .slice B p.l1.length b, .bool q.n0, .bool q.s0, .slice C q.l0.length c, .bool q.n1, .bool q.s1, .slice D q.l1.length d] 29))
  have Hck := Lib.hid hck
  have Hb1 := Lib.hid hb1
  obtain ⟨a0, a1, a2, a3, a4, a5, _, _, _, _, _, _, _⟩ := bA
  obtain ⟨b0, b1, b2, b3, b4, b5, _, _, _, _, _, _, _⟩ := bB
  have PT := Lib.hid (fun (W : World) (h : Below w.heap.size w W) => iparted_w hq gq (by omega) (u3.below h) (u4.below h))
  have h1 := kp.ok
  have h2 := kq.ok
  have q1 : p.l0.length ≤ 60 := by have := kp.q0; omega
  have q2 : p.l1.length ≤ 60 := by have := kp.q1; omega
  have q3 : q.l0.length ≤ 60 := by have := kq.q0; omega
  have q4 : q.l1.length ≤ 60 := by have := kq.q1; omega
  obtain ⟨ea1, ea2⟩ := okA_ends h1
  obtain ⟨eb1, eb2⟩ := okA_ends h2
  obtain ⟨x1, xs1, xl1, xA1, xc1, P1⟩ := Plc.ex (-1) p.n0 p.s0 p.l0 A a
  obtain ⟨x2, xs2, xl2, xA2, xc2, P2⟩ := Plc.ex 1 p.n1 p.s1 p.l1 B b
  obtain ⟨x3, xs3, xl3, xA3, xc3, P3⟩ := Plc.ex (-1) q.n0 q.s0 q.l0 C c
  obtain ⟨x4, xs4, xl4, xA4, xc4, P4⟩ := Plc.ex 1 q.n1 q.s1 q.l1 D d
  have p1 := P1.lo ea1 u1.small q1
  have p2 := P2.hi ea2 u2.small q2
  have p3 := P3.lo eb1 u3.small q3
  have p4 := P4.hi eb2 u4.small q4
  have r1 := P1.len
  have r2 := P2.len
  have r3 := P3.len
  have r4 := P4.len
  have v1 := P1.u64s u1
  have v2 := P2.u64s u2
  have v3 := P3.u64s u3
  have v4 := P4.u64s u4
  have i1 := lo_range (n := p.n0) (s := p.s0) u1.small q1
  have i2 := hi_range (n := p.n1) (s := p.s1) u2.small q2
  have i3 := lo_range (n := q.n0) (s := q.s0) u3.small q3
  have i4 := hi_range (n := q.n1) (s := q.s1) u4.small q4
  have L1 := Lib.hid (fun (W : World) => ilow_p (w := W) (v3 := .bool p.n1) (v4 := .bool p.s1) (v5 := .slice B p.l1.length b) P1)
  have L2 := Lib.hid (fun (W : World) => ihigh_p (w := W) (v3 := .bool p.n0) (v4 := .bool p.s0) (v5 := .slice A p.l0.length a) P2)
  have L3 := Lib.hid (fun (W : World) => ilow_p (w := W) (v3 := .bool q.n1) (v4 := .bool q.s1) (v5 := .slice D q.l1.length d) P3)
  have L4 := Lib.hid (fun (W : World) => ihigh_p (w := W) (v3 := .bool q.n0) (v4 := .bool q.s0) (v5 := .slice C q.l0.length c) P4)
  rw [kp.lo] at p1
  rw [kp.hi] at p2
  rw [kq.lo] at p3
  rw [kq.hi] at p4
  have hn0 : ¬ (Q.1 = 0 ∧ Q.2 = 0) := fun h => hne ((parts_nil gq.le).2 h)
  obtain ⟨em, em0, ez, ez1⟩ := modM_ok gq hn0 (by omega)
  have gr := ivn_mod gp gq hn0 (by omega)
  obtain ⟨tb, ts, tl, pt⟩ : ∃ b s l, Pl (-Q.1) b s l := ⟨_, _, _, Pl.all (gq.lo.neg.range (by omega))⟩
  have tlen := pt.len_of gq.lo.neg
  obtain ⟨zb, zs, zl, pz⟩ : ∃ b s l, Pl (max (-Q.1) Q.2) b s l := ⟨_, _, _, Pl.all (ez.range (by omega))⟩
  have zlen := pz.len_of ez
  obtain ⟨mb, ms, ml, pm⟩ : ∃ b s l, Pl (modM Q) b s l := ⟨_, _, _, Pl.all (em.range (by omega))⟩
  have mlen := pm.len_of em
  obtain ⟨vb, vs, vl, pv⟩ : ∃ b s l, Pl (-modM Q) b s l := ⟨_, _, _, Pl.all (em.neg.range (by omega))⟩
  have vlen := pv.len_of em.neg
  have ex : Ext bigZ (wN 60) (max P.1 (-modM Q)) := ext_max gp.lo em.neg
  have ey : Ext bigZ (wN 60) (min P.2 (modM Q)) := ext_min gp.hi em
  obtain ⟨xb, xs, xl, px⟩ : ∃ b s l, Pl (max P.1 (-modM Q)) b s l := ⟨_, _, _, Pl.all (ex.range (by omega))⟩
  have xlen := px.len_of ex
  obtain ⟨yb, ys, yl, py⟩ : ∃ b s l, Pl (min P.2 (modM Q)) b s l := ⟨_, _, _, Pl.all (ey.range (by omega))⟩
  have ylen := py.len_of ey
  have hb1 := big_one
  obtain ⟨os, ol, onm⟩ : ∃ s l, Nm (-1 : Int) s l := ⟨_, _, rfl, rfl⟩
  have olen : ol.length ≤ 1 := by rw [onm.2]; exact len_limbs_le (by decide)
  have pone : Pl (-1) 0 os ol := .inl ⟨rfl, onm, by omega, by omega⟩
  have TN := Lib.hid (fun (W : World) (h : Below w.heap.size w W) => iturned_p p3 pt (v3.below h) (by omega))
  have GR := Lib.hid (fun (W : World) (Z : Zone) (D : Option Addr) (d : Nat) (h : Below w.heap.size w W) (u : U64s W Z D d tl) => igreatest_q pt p4 pz rfl u (v4.below h) (by omega) (by omega))
  have OF := Lib.hid (fun (W : World) => wof_p (w := W) onm (by omega))
  have PL := Lib.hid (fun (W : World) (Z1 Z2 : Zone) (D E : Option Addr) (d e : Nat) (u : U64s W Z1 D d zl) (v : U64s W Z2 E e ol) => iplus_p pz pone pm rfl ⟨by omega, by omega⟩ u v (by omega) (by omega))
  have TM := Lib.hid (fun (W : World) (Z : Zone) (D : Option Addr) (d : Nat) (u : U64s W Z D d ml) => iturned_p pm pv u (by omega))
  have GX := Lib.hid (fun (W : World) (Z : Zone) (D : Option Addr) (d : Nat) (h : Below w.heap.size w W) (u : U64s W Z D d vl) => igreatest_q p1 pv px rfl (v1.below h) u (by omega) (by omega))
  have LY := Lib.hid (fun (W : World) (Z : Zone) (D : Option Addr) (d : Nat) (h : Below w.heap.size w W) (u : U64s W Z D d ml) => ileast_q p2 pm py rfl (v2.below h) u (by omega) (by omega))
  obtain ⟨sg2, hsg2⟩ : ∃ g, sgn P.2 = g := ⟨_, rfl⟩
  obtain ⟨sg1, hsg1⟩ : ∃ g, sgn P.1 = g := ⟨_, rfl⟩
  have SG2 := Lib.hid (fun (W : World) (h : Below w.heap.size w W) => isign_p p2 hsg2 (v2.below h))
  have SG1 := Lib.hid (fun (W : World) (h : Below w.heap.size w W) => isign_p p1 hsg1 (v1.below h))
  have Hpx := Lib.hid px
  have Hpy := Lib.hid py
  have Hgr := Lib.hid gr
  have Hr := Lib.hid hr
  have Hs1 := Lib.hid hsg1
  have Hs2 := Lib.hid hsg2
  have HXl := Lib.hid xlen
  have HYl := Lib.hid ylen
  obtain ⟨n, hn⟩ : ∃ n, (partsP Q).length = n := ⟨_, rfl⟩
  have hpos : 0 < n := by rw [← hn]; exact List.length_pos_iff.2 hne
  have hnz : ((n : Int) == 0) = false := beq_eq_false_iff_ne.2 (by omega)
  have Hnz := Lib.hid hnz
  rw [hn] at PT
  clear hg hck hb1 bR hB0 u1 u2 u3 u4 hp hq gp gq hn hr hne kp kq h1 h2 q1 q2 q3 q4 ea1 ea2 eb1 eb2 P1 P2 P3 P4 p1 p2 p3 p4 r1 r2 r3 r4 v1 v2 v3 v4 i1 i2 i3 i4 hn0 em em0 ez ez1 gr pt tlen pz zlen pm mlen pv vlen ex ey px xlen py ylen pone onm olen hsg1 hsg2 hpos
  go_enter Try.func30, Try.ntmps30
  go_wp2_with fail
  refine Hck.out.mono ?_
  rintro e w1 ⟨rfl, hc⟩
  have H1 := Lib.hid (from_ Hb1.out hc)
  replace HR := Lib.hid (HR.out.below hc)
  replace HA := Lib.hid (HA.out.below hc)
  replace HBb := Lib.hid (HBb.out.below hc)
  clear a0 a1 a2 a3 a4 a5 b0 b1 b2 b3 b4 b5 Hck Hb1
  obtain ⟨b0, b1, b2, b3, b4, b5, _, _, _, _, _, _, _⟩ := id HBb.out
  clear hc
  go_wp2_with fail
  refine (PT.out _ H1.out).mono ?_
  rintro e w2 ⟨Av, cv, rfl, hat, hbv, hc⟩
  have W2 := Lib.hid (from_ H1.out hc)
  replace HR := Lib.hid (HR.out.below hc)
  replace HA := Lib.hid (HA.out.below hc)
  replace HBb := Lib.hid (HBb.out.below hc)
  clear b0 b1 b2 b3 b4 b5 hat hbv hc PT
  go_upto_region 6 with fail
  replace TN := Lib.hid (fun (W : World) (h : Below w2.heap.size w2 W) => TN.out W (from_ W2.out h))
  replace GR := Lib.hid (fun (W : World) (Z : Zone) (D : Option Addr) (d : Nat) (h : Below w2.heap.size w2 W) (u : U64s W Z D d tl) => GR.out W Z D d (from_ W2.out h) u)
  have hltb := HBb.out.lt
  have hs0 := HBb.out.all
  have hs := k6_keep hs0 (Below.refl _ _).drew
  have Hc0 := Lib.hid (Below.refl w2.heap.size w2)
  have Hc := Lib.hid (Below.refl w2.heap.size w2).drew
  go_cut [7] (fun s7 wx => ∃ (g : Nat) (A' : Option Addr) (c' : Nat), s7 = .pointer (some ⟨g, 0, none⟩) ∧ Res1 w2 wx g zb zs zl A' c')
  case first =>
    first | go_region_held3 (fun w' => w'.cell? ⟨w.heap.size + 1, 0, none⟩ = some (.bool q.n0) ∧ w'.cell? ⟨w.heap.size + 1, 1, none⟩ = some (.bool q.s0) ∧ w'.cell? ⟨w.heap.size + 1, 2, none⟩ = some (.slice C q.l0.length c) ∧ w'.cell? ⟨w.heap.size + 1, 3, none⟩ = some (.bool q.n1) ∧ w'.cell? ⟨w.heap.size + 1, 4, none⟩ = some (.bool q.s1) ∧ w'.cell? ⟨w.heap.size + 1, 5, none⟩ = some (.slice D q.l1.length d))
      ((repeat' (first | with_reducible apply k6_al rfl | with_reducible apply k6_st3 rfl)) <;> (first | with_reducible exact hs | (with_reducible apply k6_dr rfl; (repeat' (with_reducible apply k6_al rfl)); with_reducible exact hs0) | omega))
      (first
        | (go_at_call 37; (first | (with_reducible refine (L3.out _).mono ?_)); rintro e w2 ⟨rfl, hc2⟩; (first | (with_reducible have hx := k6_keep hs hc2; have hb := Lib.hid (from_ Hc.out hc2); (try replace HF1 := Lib.hid (HF1.out.below hc2)); (try replace HF2 := Lib.hid (HF2.out.below hc2)); skip) | (with_reducible have z1 := Hc.out.size; have hx := k6_keep (k6_keep hs ((Below.refl _ _).alloc (Nat.le_refl _) _)) hc2; have hb := Lib.hid (from_ (from_ Hc.out ((Below.refl _ _).alloc (Nat.le_refl _) _)) hc2); (first | (have ne1 := Nat.ne_of_lt HF1.out.box.lt; have ne2 := Ne.symm ne1; have HF2 := Lib.hid ((Bx3.new _ 64).below hc2); replace HF1 := Lib.hid ((HF1.out.below ((Below.refl _ _).alloc (Nat.le_refl _) _)).below hc2)) | (have HF1 := Lib.hid ((Bx3.new _ 64).below hc2))); skip) | (with_reducible have z1 := Hc.out.size; have hx := k6_keep (k6_keep (k6_keep hs ((Below.refl _ _).alloc (Nat.le_refl _) _)) ((Below.refl _ _).alloc (Nat.le_refl _) _)) hc2; have hb := Lib.hid (from_ (from_ (from_ Hc.out ((Below.refl _ _).alloc (Nat.le_refl _) _)) ((Below.refl _ _).alloc (Nat.le_refl _) _)) hc2); (have HF1 := Lib.hid (((Bx3.new _ 64).below ((Below.refl _ _).alloc (Nat.le_refl _) _)).below hc2)); (have HF2 := Lib.hid ((Bx3.new2 _ _ 64).below hc2)); skip) | (with_reducible have z1 := Hc0.out.size; have hx := k6_keep (k6_keep (k6_keep hs0 ((Below.refl _ _).alloc (Nat.le_refl _) _)) (Below.refl _ _).drew) hc2; have hb := Lib.hid (from_ (from_ (from_ Hc0.out ((Below.refl _ _).alloc (Nat.le_refl _) _)) (Below.refl _ _).drew) hc2); have HF1 := Lib.hid (((Bx3.new _ 64).below (Below.refl _ _).drew).below hc2)) | (with_reducible have z1 := Hc0.out.size; have hx := k6_keep (k6_keep (k6_keep (k6_keep hs0 ((Below.refl _ _).alloc (Nat.le_refl _) _)) ((Below.refl _ _).alloc (Nat.le_refl _) _)) (Below.refl _ _).drew) hc2; have hb := Lib.hid (from_ (from_ (from_ (from_ Hc0.out ((Below.refl _ _).alloc (Nat.le_refl _) _)) ((Below.refl _ _).alloc (Nat.le_refl _) _)) (Below.refl _ _).drew) hc2); (have HF1 := Lib.hid ((((Bx3.new _ 64).below ((Below.refl _ _).alloc (Nat.le_refl _) _)).below (Below.refl _ _).drew).below hc2)); (have HF2 := Lib.hid (((Bx3.new2 _ _ 64).below (Below.refl _ _).drew).below hc2)))); replace hs := hx; replace Hc := hb; clear hx hb; clear hc2)
        | (go_at_call 49; (first | (with_reducible refine (TN.out _ Hc.out).mono ?_) | (with_reducible refine (TN.out _ (from_ Hc.out ((Below.refl _ _).alloc (Nat.le_refl _) _))).mono ?_) | (with_reducible refine (TN.out _ (from_ (from_ Hc.out ((Below.refl _ _).alloc (Nat.le_refl _) _)) ((Below.refl _ _).alloc (Nat.le_refl _) _))).mono ?_)); rintro e w2 ⟨D3, d3, rfl, ut, hc2⟩; (first | (with_reducible have hx := k6_keep hs hc2; have hb := Lib.hid (from_ Hc.out hc2); (try replace HF1 := Lib.hid (HF1.out.below hc2)); (try replace HF2 := Lib.hid (HF2.out.below hc2)); skip) | (with_reducible have z1 := Hc.out.size; have hx := k6_keep (k6_keep hs ((Below.refl _ _).alloc (Nat.le_refl _) _)) hc2; have hb := Lib.hid (from_ (from_ Hc.out ((Below.refl _ _).alloc (Nat.le_refl _) _)) hc2); (first | (have ne1 := Nat.ne_of_lt HF1.out.box.lt; have ne2 := Ne.symm ne1; have HF2 := Lib.hid ((Bx3.new _ 64).below hc2); replace HF1 := Lib.hid ((HF1.out.below ((Below.refl _ _).alloc (Nat.le_refl _) _)).below hc2)) | (have HF1 := Lib.hid ((Bx3.new _ 64).below hc2))); skip) | (with_reducible have z1 := Hc.out.size; have hx := k6_keep (k6_keep (k6_keep hs ((Below.refl _ _).alloc (Nat.le_refl _) _)) ((Below.refl _ _).alloc (Nat.le_refl _) _)) hc2; have hb := Lib.hid (from_ (from_ (from_ Hc.out ((Below.refl _ _).alloc (Nat.le_refl _) _)) ((Below.refl _ _).alloc (Nat.le_refl _) _)) hc2); (have HF1 := Lib.hid (((Bx3.new _ 64).below ((Below.refl _ _).alloc (Nat.le_refl _) _)).below hc2)); (have HF2 := Lib.hid ((Bx3.new2 _ _ 64).below hc2)); skip)); replace hs := hx; replace Hc := hb; clear hx hb; clear hc2)
        | (go_at_call 38; (first | (with_reducible refine (L4.out _).mono ?_)); rintro e w2 ⟨rfl, hc2⟩; (first | (with_reducible have hx := k6_keep hs hc2; have hb := Lib.hid (from_ Hc.out hc2); (try replace HF1 := Lib.hid (HF1.out.below hc2)); (try replace HF2 := Lib.hid (HF2.out.below hc2)); (try replace ut := ut.below hc2); skip) | (with_reducible have z1 := Hc.out.size; have hx := k6_keep (k6_keep hs ((Below.refl _ _).alloc (Nat.le_refl _) _)) hc2; have hb := Lib.hid (from_ (from_ Hc.out ((Below.refl _ _).alloc (Nat.le_refl _) _)) hc2); (first | (have ne1 := Nat.ne_of_lt HF1.out.box.lt; have ne2 := Ne.symm ne1; have HF2 := Lib.hid ((Bx3.new _ 64).below hc2); replace HF1 := Lib.hid ((HF1.out.below ((Below.refl _ _).alloc (Nat.le_refl _) _)).below hc2)) | (have HF1 := Lib.hid ((Bx3.new _ 64).below hc2))); (try replace ut := (ut.below ((Below.refl _ _).alloc (Nat.le_refl _) _)).below hc2); skip) | (with_reducible have z1 := Hc.out.size; have hx := k6_keep (k6_keep (k6_keep hs ((Below.refl _ _).alloc (Nat.le_refl _) _)) ((Below.refl _ _).alloc (Nat.le_refl _) _)) hc2; have hb := Lib.hid (from_ (from_ (from_ Hc.out ((Below.refl _ _).alloc (Nat.le_refl _) _)) ((Below.refl _ _).alloc (Nat.le_refl _) _)) hc2); (have HF1 := Lib.hid (((Bx3.new _ 64).below ((Below.refl _ _).alloc (Nat.le_refl _) _)).below hc2)); (have HF2 := Lib.hid ((Bx3.new2 _ _ 64).below hc2)); (try replace ut := ((ut.below ((Below.refl _ _).alloc (Nat.le_refl _) _)).below ((Below.refl _ _).alloc (Nat.le_refl _) _)).below hc2); skip)); replace hs := hx; replace Hc := hb; clear hx hb; clear hc2)
        | (go_at_call 63; (first | (with_reducible refine (GR.out _ _ _ _ Hc.out ut).mono ?_) | (with_reducible refine (GR.out _ _ _ _ (from_ Hc.out ((Below.refl _ _).alloc (Nat.le_refl _) _)) (ut.below ((Below.refl _ _).alloc (Nat.le_refl _) _))).mono ?_) | (with_reducible refine (GR.out _ _ _ _ (from_ (from_ Hc.out ((Below.refl _ _).alloc (Nat.le_refl _) _)) ((Below.refl _ _).alloc (Nat.le_refl _) _)) ((ut.below ((Below.refl _ _).alloc (Nat.le_refl _) _)).below ((Below.refl _ _).alloc (Nat.le_refl _) _))).mono ?_)); rintro e w2 ⟨Dz, dz, rfl, uz, hc2⟩; (first | (with_reducible have hx := k6_keep hs hc2; have hb := Lib.hid (from_ Hc.out hc2); (try replace HF1 := Lib.hid (HF1.out.below hc2)); (try replace HF2 := Lib.hid (HF2.out.below hc2)); skip) | (with_reducible have z1 := Hc.out.size; have hx := k6_keep (k6_keep hs ((Below.refl _ _).alloc (Nat.le_refl _) _)) hc2; have hb := Lib.hid (from_ (from_ Hc.out ((Below.refl _ _).alloc (Nat.le_refl _) _)) hc2); (first | (have ne1 := Nat.ne_of_lt HF1.out.box.lt; have ne2 := Ne.symm ne1; have HF2 := Lib.hid ((Bx3.new _ 64).below hc2); replace HF1 := Lib.hid ((HF1.out.below ((Below.refl _ _).alloc (Nat.le_refl _) _)).below hc2)) | (have HF1 := Lib.hid ((Bx3.new _ 64).below hc2))); skip) | (with_reducible have z1 := Hc.out.size; have hx := k6_keep (k6_keep (k6_keep hs ((Below.refl _ _).alloc (Nat.le_refl _) _)) ((Below.refl _ _).alloc (Nat.le_refl _) _)) hc2; have hb := Lib.hid (from_ (from_ (from_ Hc.out ((Below.refl _ _).alloc (Nat.le_refl _) _)) ((Below.refl _ _).alloc (Nat.le_refl _) _)) hc2); (have HF1 := Lib.hid (((Bx3.new _ 64).below ((Below.refl _ _).alloc (Nat.le_refl _) _)).below hc2)); (have HF2 := Lib.hid ((Bx3.new2 _ _ 64).below hc2)); skip)); replace hs := hx; replace Hc := hb; clear hx hb; (try have ne3 := Nat.ne_of_lt HF1.out.box.lt); (try have ne4 := Ne.symm ne3); (try obtain ⟨x0, x1, x2, x3, x4, x5, _⟩ := id HF1.out.box); (try obtain ⟨x6, x7, x8, x9, x10, x11, _⟩ := id HF2.out.box); have lz := Hc.out.size; clear hc2)) | fail
    all_goals
      clear hs hs0
      go_wp2_with fail
      go_meet
      (first | exact ⟨_, _, _, rfl, by with_reducible exact Res1.nw Hc.out uz⟩ | exact ⟨_, _, _, rfl, by with_reducible exact Res1.ol Hc.out HF1.out (by omega) uz⟩)
  case rest =>
    obtain ⟨g7, A7, c7, rfl, hR7⟩ := hcut
    have W7b := hR7.bel
    have hB7 := hR7.box
    have u7 := hR7.u
    have W27 := Lib.hid (from_ W2.out W7b)
    clear hs hs0 Hc Hc0 hltb HBb TN GR L3 L4
    replace HA := Lib.hid (HA.out.below W7b)
    replace HR := Lib.hid (HR.out.below W7b)
    obtain ⟨W7, hren⟩ : ∃ W7, W7 = wc := ⟨_, rfl⟩
    subst hren
    clear hR7 W7b W2
    have hlt7 := hB7.lt
    go_upto_region 7 with fail
    have hs0 := (show W7.cell? ⟨g7, 0, none⟩ = some (.int .i64 zb) ∧ W7.cell? ⟨g7, 1, none⟩ = some (.bool zs) ∧ W7.cell? ⟨g7, 2, none⟩ = some (.slice A7 zl.length c7) from ⟨hB7.c0, hB7.c1, hB7.c2⟩)
    have hs := k3_keep hs0 (Below.refl _ _).drew
    have Hc0 := Lib.hid (Below.refl W7.heap.size W7)
    have Hc := Lib.hid (Below.refl W7.heap.size W7).drew
    go_cut [8] (fun s8 wx => ∃ (g : Nat) (A' : Option Addr) (c' : Nat), s8 = .pointer (some ⟨g, 0, none⟩) ∧ Res1 W7 wx g mb ms ml A' c')
    case first =>
      first | go_region_held3 (fun w' => w'.cell? ⟨g7, 0, none⟩ = some (.int .i64 zb) ∧ w'.cell? ⟨g7, 1, none⟩ = some (.bool zs) ∧ w'.cell? ⟨g7, 2, none⟩ = some (.slice A7 zl.length c7))
        ((repeat' (first | with_reducible apply k3_al rfl | with_reducible apply k3_st3 rfl)) <;> (first | with_reducible exact hs | (with_reducible apply k3_dr rfl; (repeat' (with_reducible apply k3_al rfl)); with_reducible exact hs0) | omega))
        (first
          | (go_at_call 52; (first | (with_reducible refine (OF.out _).mono ?_)); rintro e w2 ⟨C1, c1, rfl, uo, hc2⟩; (first | (with_reducible have hx := k3_keep hs hc2; have hb := Lib.hid (from_ Hc.out hc2); (try replace HF1 := Lib.hid (HF1.out.below hc2)); (try replace HF2 := Lib.hid (HF2.out.below hc2)); skip) | (with_reducible have z1 := Hc.out.size; have hx := k3_keep (k3_keep hs ((Below.refl _ _).alloc (Nat.le_refl _) _)) hc2; have hb := Lib.hid (from_ (from_ Hc.out ((Below.refl _ _).alloc (Nat.le_refl _) _)) hc2); (first | (have ne1 := Nat.ne_of_lt HF1.out.box.lt; have ne2 := Ne.symm ne1; have HF2 := Lib.hid ((Bx3.new _ 64).below hc2); replace HF1 := Lib.hid ((HF1.out.below ((Below.refl _ _).alloc (Nat.le_refl _) _)).below hc2)) | (have HF1 := Lib.hid ((Bx3.new _ 64).below hc2))); skip) | (with_reducible have z1 := Hc.out.size; have hx := k3_keep (k3_keep (k3_keep hs ((Below.refl _ _).alloc (Nat.le_refl _) _)) ((Below.refl _ _).alloc (Nat.le_refl _) _)) hc2; have hb := Lib.hid (from_ (from_ (from_ Hc.out ((Below.refl _ _).alloc (Nat.le_refl _) _)) ((Below.refl _ _).alloc (Nat.le_refl _) _)) hc2); (have HF1 := Lib.hid (((Bx3.new _ 64).below ((Below.refl _ _).alloc (Nat.le_refl _) _)).below hc2)); (have HF2 := Lib.hid ((Bx3.new2 _ _ 64).below hc2)); skip) | (with_reducible have z1 := Hc0.out.size; have hx := k3_keep (k3_keep (k3_keep hs0 ((Below.refl _ _).alloc (Nat.le_refl _) _)) (Below.refl _ _).drew) hc2; have hb := Lib.hid (from_ (from_ (from_ Hc0.out ((Below.refl _ _).alloc (Nat.le_refl _) _)) (Below.refl _ _).drew) hc2); have HF1 := Lib.hid (((Bx3.new _ 64).below (Below.refl _ _).drew).below hc2)) | (with_reducible have z1 := Hc0.out.size; have hx := k3_keep (k3_keep (k3_keep (k3_keep hs0 ((Below.refl _ _).alloc (Nat.le_refl _) _)) ((Below.refl _ _).alloc (Nat.le_refl _) _)) (Below.refl _ _).drew) hc2; have hb := Lib.hid (from_ (from_ (from_ (from_ Hc0.out ((Below.refl _ _).alloc (Nat.le_refl _) _)) ((Below.refl _ _).alloc (Nat.le_refl _) _)) (Below.refl _ _).drew) hc2); (have HF1 := Lib.hid ((((Bx3.new _ 64).below ((Below.refl _ _).alloc (Nat.le_refl _) _)).below (Below.refl _ _).drew).below hc2)); (have HF2 := Lib.hid (((Bx3.new2 _ _ 64).below (Below.refl _ _).drew).below hc2)))); replace hs := hx; replace Hc := hb; clear hx hb; clear hc2)
          | (go_at_call 64; (first | (with_reducible refine (PL.out _ _ _ _ _ _ _ (u7.below Hc.out) uo).mono ?_) | (with_reducible refine (PL.out _ _ _ _ _ _ _ (u7.below (from_ Hc.out ((Below.refl _ _).alloc (Nat.le_refl _) _))) (uo.below ((Below.refl _ _).alloc (Nat.le_refl _) _))).mono ?_) | (with_reducible refine (PL.out _ _ _ _ _ _ _ (u7.below (from_ (from_ Hc.out ((Below.refl _ _).alloc (Nat.le_refl _) _)) ((Below.refl _ _).alloc (Nat.le_refl _) _))) ((uo.below ((Below.refl _ _).alloc (Nat.le_refl _) _)).below ((Below.refl _ _).alloc (Nat.le_refl _) _))).mono ?_)); rintro e w2 ⟨Dm, dm, rfl, um, hc2⟩; (first | (with_reducible have hx := k3_keep hs hc2; have hb := Lib.hid (from_ Hc.out hc2); (try replace HF1 := Lib.hid (HF1.out.below hc2)); (try replace HF2 := Lib.hid (HF2.out.below hc2)); skip) | (with_reducible have z1 := Hc.out.size; have hx := k3_keep (k3_keep hs ((Below.refl _ _).alloc (Nat.le_refl _) _)) hc2; have hb := Lib.hid (from_ (from_ Hc.out ((Below.refl _ _).alloc (Nat.le_refl _) _)) hc2); (first | (have ne1 := Nat.ne_of_lt HF1.out.box.lt; have ne2 := Ne.symm ne1; have HF2 := Lib.hid ((Bx3.new _ 64).below hc2); replace HF1 := Lib.hid ((HF1.out.below ((Below.refl _ _).alloc (Nat.le_refl _) _)).below hc2)) | (have HF1 := Lib.hid ((Bx3.new _ 64).below hc2))); skip) | (with_reducible have z1 := Hc.out.size; have hx := k3_keep (k3_keep (k3_keep hs ((Below.refl _ _).alloc (Nat.le_refl _) _)) ((Below.refl _ _).alloc (Nat.le_refl _) _)) hc2; have hb := Lib.hid (from_ (from_ (from_ Hc.out ((Below.refl _ _).alloc (Nat.le_refl _) _)) ((Below.refl _ _).alloc (Nat.le_refl _) _)) hc2); (have HF1 := Lib.hid (((Bx3.new _ 64).below ((Below.refl _ _).alloc (Nat.le_refl _) _)).below hc2)); (have HF2 := Lib.hid ((Bx3.new2 _ _ 64).below hc2)); skip)); replace hs := hx; replace Hc := hb; clear hx hb; (try have ne3 := Nat.ne_of_lt HF1.out.box.lt); (try have ne4 := Ne.symm ne3); (try obtain ⟨x0, x1, x2, x3, x4, x5, _⟩ := id HF1.out.box); (try obtain ⟨x6, x7, x8, x9, x10, x11, _⟩ := id HF2.out.box); have lz := Hc.out.size; clear hc2)) | fail
      all_goals
        clear hs hs0
        go_wp2_with fail
        go_meet
        (first | exact ⟨_, _, _, rfl, by with_reducible exact Res1.nw Hc.out um⟩ | exact ⟨_, _, _, rfl, by with_reducible exact Res1.ol Hc.out HF1.out (by omega) um⟩)
    case rest =>
      clear hs hs0 Hc Hc0 hlt7 hB7 u7
      replace W27 := W27
      obtain ⟨g8, A8, c8, rfl, hR8⟩ := hcut
      have W8b := hR8.bel
      have hB8 := hR8.box
      have u8 := hR8.u
      have hl8 := hR8.lo
      have W28 := Lib.hid (from_ W27.out W8b)
      replace HA := Lib.hid (HA.out.below W8b)
      replace HR := Lib.hid (HR.out.below W8b)
      obtain ⟨W8, hren⟩ : ∃ W8, W8 = wc := ⟨_, rfl⟩
      subst hren
      clear hR8 W8b W27 PL OF
      go_upto_region 8 with fail
      replace GX := Lib.hid (fun (W : World) (Z : Zone) (D : Option Addr) (d : Nat) (h : Below W8.heap.size W8 W) (u : U64s W Z D d vl) => GX.out W Z D d (from_ W28.out h) u)
      replace LY := Lib.hid (fun (W : World) (Z : Zone) (D : Option Addr) (d : Nat) (h : Below W8.heap.size W8 W) (u : U64s W Z D d ml) => LY.out W Z D d (from_ W28.out h) u)
      have hltA := HA.out.lt
      have hlt8 := hB8.lt
      have hs0 := (show W8.cell? ⟨w.heap.size, 0, none⟩ = some (.bool p.n0) ∧ W8.cell? ⟨w.heap.size, 1, none⟩ = some (.bool p.s0) ∧ W8.cell? ⟨w.heap.size, 2, none⟩ = some (.slice A p.l0.length a) ∧ W8.cell? ⟨w.heap.size, 3, none⟩ = some (.bool p.n1) ∧ W8.cell? ⟨w.heap.size, 4, none⟩ = some (.bool p.s1) ∧ W8.cell? ⟨w.heap.size, 5, none⟩ = some (.slice B p.l1.length b) ∧ W8.cell? ⟨g8, 0, none⟩ = some (.int .i64 mb) ∧ W8.cell? ⟨g8, 1, none⟩ = some (.bool ms) ∧ W8.cell? ⟨g8, 2, none⟩ = some (.slice A8 ml.length c8) from ⟨HA.out.c0, HA.out.c1, HA.out.c2, HA.out.c3, HA.out.c4, HA.out.c5, hB8.c0, hB8.c1, hB8.c2⟩)
      have hs := k9_keep hs0 (Below.refl _ _).drew
      have Hc0 := Lib.hid (Below.refl W8.heap.size W8)
      have Hc := Lib.hid (Below.refl W8.heap.size W8).drew
      go_cut [9, 10] (fun s9 s10 wx => ∃ (gx gy : Nat) (A' : Option Addr) (c' : Nat) (B' : Option Addr) (d' : Nat), s9 = .pointer (some ⟨gx, 0, none⟩) ∧ s10 = .pointer (some ⟨gy, 0, none⟩) ∧ Res2 W8 wx gx gy xb xs xl A' c' yb ys yl B' d')
      case first =>
        first | go_region_held3 (fun w' => w'.cell? ⟨w.heap.size, 0, none⟩ = some (.bool p.n0) ∧ w'.cell? ⟨w.heap.size, 1, none⟩ = some (.bool p.s0) ∧ w'.cell? ⟨w.heap.size, 2, none⟩ = some (.slice A p.l0.length a) ∧ w'.cell? ⟨w.heap.size, 3, none⟩ = some (.bool p.n1) ∧ w'.cell? ⟨w.heap.size, 4, none⟩ = some (.bool p.s1) ∧ w'.cell? ⟨w.heap.size, 5, none⟩ = some (.slice B p.l1.length b) ∧ w'.cell? ⟨g8, 0, none⟩ = some (.int .i64 mb) ∧ w'.cell? ⟨g8, 1, none⟩ = some (.bool ms) ∧ w'.cell? ⟨g8, 2, none⟩ = some (.slice A8 ml.length c8))
          ((repeat' (first | with_reducible apply k9_al rfl | with_reducible apply k9_st3 rfl)) <;> (first | with_reducible exact hs | (with_reducible apply k9_dr rfl; (repeat' (with_reducible apply k9_al rfl)); with_reducible exact hs0) | omega))
          (first
            | (go_at_call 37; (first | (with_reducible refine (L1.out _).mono ?_)); rintro e w2 ⟨rfl, hc2⟩; (first | (with_reducible have hx := k9_keep hs hc2; have hb := Lib.hid (from_ Hc.out hc2); (try replace HF1 := Lib.hid (HF1.out.below hc2)); (try replace HF2 := Lib.hid (HF2.out.below hc2)); skip) | (with_reducible have z1 := Hc.out.size; have hx := k9_keep (k9_keep hs ((Below.refl _ _).alloc (Nat.le_refl _) _)) hc2; have hb := Lib.hid (from_ (from_ Hc.out ((Below.refl _ _).alloc (Nat.le_refl _) _)) hc2); (first | (have ne1 := Nat.ne_of_lt HF1.out.box.lt; have ne2 := Ne.symm ne1; have HF2 := Lib.hid ((Bx3.new _ 64).below hc2); replace HF1 := Lib.hid ((HF1.out.below ((Below.refl _ _).alloc (Nat.le_refl _) _)).below hc2)) | (have HF1 := Lib.hid ((Bx3.new _ 64).below hc2))); skip) | (with_reducible have z1 := Hc.out.size; have hx := k9_keep (k9_keep (k9_keep hs ((Below.refl _ _).alloc (Nat.le_refl _) _)) ((Below.refl _ _).alloc (Nat.le_refl _) _)) hc2; have hb := Lib.hid (from_ (from_ (from_ Hc.out ((Below.refl _ _).alloc (Nat.le_refl _) _)) ((Below.refl _ _).alloc (Nat.le_refl _) _)) hc2); (have HF1 := Lib.hid (((Bx3.new _ 64).below ((Below.refl _ _).alloc (Nat.le_refl _) _)).below hc2)); (have HF2 := Lib.hid ((Bx3.new2 _ _ 64).below hc2)); skip) | (with_reducible have z1 := Hc0.out.size; have hx := k9_keep (k9_keep (k9_keep hs0 ((Below.refl _ _).alloc (Nat.le_refl _) _)) (Below.refl _ _).drew) hc2; have hb := Lib.hid (from_ (from_ (from_ Hc0.out ((Below.refl _ _).alloc (Nat.le_refl _) _)) (Below.refl _ _).drew) hc2); have HF1 := Lib.hid (((Bx3.new _ 64).below (Below.refl _ _).drew).below hc2)) | (with_reducible have z1 := Hc0.out.size; have hx := k9_keep (k9_keep (k9_keep (k9_keep hs0 ((Below.refl _ _).alloc (Nat.le_refl _) _)) ((Below.refl _ _).alloc (Nat.le_refl _) _)) (Below.refl _ _).drew) hc2; have hb := Lib.hid (from_ (from_ (from_ (from_ Hc0.out ((Below.refl _ _).alloc (Nat.le_refl _) _)) ((Below.refl _ _).alloc (Nat.le_refl _) _)) (Below.refl _ _).drew) hc2); (have HF1 := Lib.hid ((((Bx3.new _ 64).below ((Below.refl _ _).alloc (Nat.le_refl _) _)).below (Below.refl _ _).drew).below hc2)); (have HF2 := Lib.hid (((Bx3.new2 _ _ 64).below (Below.refl _ _).drew).below hc2)))); replace hs := hx; replace Hc := hb; clear hx hb; clear hc2)
            | (go_at_call 49; (first | (with_reducible refine (TM.out _ _ _ _ (u8.below Hc.out)).mono ?_) | (with_reducible refine (TM.out _ _ _ _ (u8.below (from_ Hc.out ((Below.refl _ _).alloc (Nat.le_refl _) _)))).mono ?_) | (with_reducible refine (TM.out _ _ _ _ (u8.below (from_ (from_ Hc.out ((Below.refl _ _).alloc (Nat.le_refl _) _)) ((Below.refl _ _).alloc (Nat.le_refl _) _)))).mono ?_)); rintro e w2 ⟨D3, d3, rfl, ut, hc2⟩; (first | (with_reducible have hx := k9_keep hs hc2; have hb := Lib.hid (from_ Hc.out hc2); (try replace HF1 := Lib.hid (HF1.out.below hc2)); (try replace HF2 := Lib.hid (HF2.out.below hc2)); skip) | (with_reducible have z1 := Hc.out.size; have hx := k9_keep (k9_keep hs ((Below.refl _ _).alloc (Nat.le_refl _) _)) hc2; have hb := Lib.hid (from_ (from_ Hc.out ((Below.refl _ _).alloc (Nat.le_refl _) _)) hc2); (first | (have ne1 := Nat.ne_of_lt HF1.out.box.lt; have ne2 := Ne.symm ne1; have HF2 := Lib.hid ((Bx3.new _ 64).below hc2); replace HF1 := Lib.hid ((HF1.out.below ((Below.refl _ _).alloc (Nat.le_refl _) _)).below hc2)) | (have HF1 := Lib.hid ((Bx3.new _ 64).below hc2))); skip) | (with_reducible have z1 := Hc.out.size; have hx := k9_keep (k9_keep (k9_keep hs ((Below.refl _ _).alloc (Nat.le_refl _) _)) ((Below.refl _ _).alloc (Nat.le_refl _) _)) hc2; have hb := Lib.hid (from_ (from_ (from_ Hc.out ((Below.refl _ _).alloc (Nat.le_refl _) _)) ((Below.refl _ _).alloc (Nat.le_refl _) _)) hc2); (have HF1 := Lib.hid (((Bx3.new _ 64).below ((Below.refl _ _).alloc (Nat.le_refl _) _)).below hc2)); (have HF2 := Lib.hid ((Bx3.new2 _ _ 64).below hc2)); skip)); replace hs := hx; replace Hc := hb; clear hx hb; clear hc2)
            | (go_at_call 63; (first | (with_reducible refine (GX.out _ _ _ _ Hc.out ut).mono ?_) | (with_reducible refine (GX.out _ _ _ _ (from_ Hc.out ((Below.refl _ _).alloc (Nat.le_refl _) _)) (ut.below ((Below.refl _ _).alloc (Nat.le_refl _) _))).mono ?_) | (with_reducible refine (GX.out _ _ _ _ (from_ (from_ Hc.out ((Below.refl _ _).alloc (Nat.le_refl _) _)) ((Below.refl _ _).alloc (Nat.le_refl _) _)) ((ut.below ((Below.refl _ _).alloc (Nat.le_refl _) _)).below ((Below.refl _ _).alloc (Nat.le_refl _) _))).mono ?_)); rintro e w2 ⟨Dx, dx, rfl, ux, hc2⟩; (first | (with_reducible have hx := k9_keep hs hc2; have hb := Lib.hid (from_ Hc.out hc2); (try replace HF1 := Lib.hid (HF1.out.below hc2)); (try replace HF2 := Lib.hid (HF2.out.below hc2)); skip) | (with_reducible have z1 := Hc.out.size; have hx := k9_keep (k9_keep hs ((Below.refl _ _).alloc (Nat.le_refl _) _)) hc2; have hb := Lib.hid (from_ (from_ Hc.out ((Below.refl _ _).alloc (Nat.le_refl _) _)) hc2); (first | (have ne1 := Nat.ne_of_lt HF1.out.box.lt; have ne2 := Ne.symm ne1; have HF2 := Lib.hid ((Bx3.new _ 64).below hc2); replace HF1 := Lib.hid ((HF1.out.below ((Below.refl _ _).alloc (Nat.le_refl _) _)).below hc2)) | (have HF1 := Lib.hid ((Bx3.new _ 64).below hc2))); skip) | (with_reducible have z1 := Hc.out.size; have hx := k9_keep (k9_keep (k9_keep hs ((Below.refl _ _).alloc (Nat.le_refl _) _)) ((Below.refl _ _).alloc (Nat.le_refl _) _)) hc2; have hb := Lib.hid (from_ (from_ (from_ Hc.out ((Below.refl _ _).alloc (Nat.le_refl _) _)) ((Below.refl _ _).alloc (Nat.le_refl _) _)) hc2); (have HF1 := Lib.hid (((Bx3.new _ 64).below ((Below.refl _ _).alloc (Nat.le_refl _) _)).below hc2)); (have HF2 := Lib.hid ((Bx3.new2 _ _ 64).below hc2)); skip)); replace hs := hx; replace Hc := hb; clear hx hb; clear hc2)
            | (go_at_call 38; (first | (with_reducible refine (L2.out _).mono ?_)); rintro e w2 ⟨rfl, hc2⟩; (first | (with_reducible have hx := k9_keep hs hc2; have hb := Lib.hid (from_ Hc.out hc2); (try replace HF1 := Lib.hid (HF1.out.below hc2)); (try replace HF2 := Lib.hid (HF2.out.below hc2)); (try replace ux := ux.below hc2); skip) | (with_reducible have z1 := Hc.out.size; have hx := k9_keep (k9_keep hs ((Below.refl _ _).alloc (Nat.le_refl _) _)) hc2; have hb := Lib.hid (from_ (from_ Hc.out ((Below.refl _ _).alloc (Nat.le_refl _) _)) hc2); (first | (have ne1 := Nat.ne_of_lt HF1.out.box.lt; have ne2 := Ne.symm ne1; have HF2 := Lib.hid ((Bx3.new _ 64).below hc2); replace HF1 := Lib.hid ((HF1.out.below ((Below.refl _ _).alloc (Nat.le_refl _) _)).below hc2)) | (have HF1 := Lib.hid ((Bx3.new _ 64).below hc2))); (try replace ux := (ux.below ((Below.refl _ _).alloc (Nat.le_refl _) _)).below hc2); skip) | (with_reducible have z1 := Hc.out.size; have hx := k9_keep (k9_keep (k9_keep hs ((Below.refl _ _).alloc (Nat.le_refl _) _)) ((Below.refl _ _).alloc (Nat.le_refl _) _)) hc2; have hb := Lib.hid (from_ (from_ (from_ Hc.out ((Below.refl _ _).alloc (Nat.le_refl _) _)) ((Below.refl _ _).alloc (Nat.le_refl _) _)) hc2); (have HF1 := Lib.hid (((Bx3.new _ 64).below ((Below.refl _ _).alloc (Nat.le_refl _) _)).below hc2)); (have HF2 := Lib.hid ((Bx3.new2 _ _ 64).below hc2)); (try replace ux := ((ux.below ((Below.refl _ _).alloc (Nat.le_refl _) _)).below ((Below.refl _ _).alloc (Nat.le_refl _) _)).below hc2); skip)); replace hs := hx; replace Hc := hb; clear hx hb; clear hc2)
            | (go_at_call 65; (first | (with_reducible refine (LY.out _ _ _ _ Hc.out (u8.below Hc.out)).mono ?_) | (with_reducible refine (LY.out _ _ _ _ (from_ Hc.out ((Below.refl _ _).alloc (Nat.le_refl _) _)) (u8.below (from_ Hc.out ((Below.refl _ _).alloc (Nat.le_refl _) _)))).mono ?_) | (with_reducible refine (LY.out _ _ _ _ (from_ (from_ Hc.out ((Below.refl _ _).alloc (Nat.le_refl _) _)) ((Below.refl _ _).alloc (Nat.le_refl _) _)) (u8.below (from_ (from_ Hc.out ((Below.refl _ _).alloc (Nat.le_refl _) _)) ((Below.refl _ _).alloc (Nat.le_refl _) _)))).mono ?_)); rintro e w2 ⟨Dy, dy, rfl, uy, hc2⟩; (first | (with_reducible have hx := k9_keep hs hc2; have hb := Lib.hid (from_ Hc.out hc2); (try replace HF1 := Lib.hid (HF1.out.below hc2)); (try replace HF2 := Lib.hid (HF2.out.below hc2)); (try replace ux := ux.below hc2); skip) | (with_reducible have z1 := Hc.out.size; have hx := k9_keep (k9_keep hs ((Below.refl _ _).alloc (Nat.le_refl _) _)) hc2; have hb := Lib.hid (from_ (from_ Hc.out ((Below.refl _ _).alloc (Nat.le_refl _) _)) hc2); (first | (have ne1 := Nat.ne_of_lt HF1.out.box.lt; have ne2 := Ne.symm ne1; have HF2 := Lib.hid ((Bx3.new _ 64).below hc2); replace HF1 := Lib.hid ((HF1.out.below ((Below.refl _ _).alloc (Nat.le_refl _) _)).below hc2)) | (have HF1 := Lib.hid ((Bx3.new _ 64).below hc2))); (try replace ux := (ux.below ((Below.refl _ _).alloc (Nat.le_refl _) _)).below hc2); skip) | (with_reducible have z1 := Hc.out.size; have hx := k9_keep (k9_keep (k9_keep hs ((Below.refl _ _).alloc (Nat.le_refl _) _)) ((Below.refl _ _).alloc (Nat.le_refl _) _)) hc2; have hb := Lib.hid (from_ (from_ (from_ Hc.out ((Below.refl _ _).alloc (Nat.le_refl _) _)) ((Below.refl _ _).alloc (Nat.le_refl _) _)) hc2); (have HF1 := Lib.hid (((Bx3.new _ 64).below ((Below.refl _ _).alloc (Nat.le_refl _) _)).below hc2)); (have HF2 := Lib.hid ((Bx3.new2 _ _ 64).below hc2)); (try replace ux := ((ux.below ((Below.refl _ _).alloc (Nat.le_refl _) _)).below ((Below.refl _ _).alloc (Nat.le_refl _) _)).below hc2); skip)); replace hs := hx; replace Hc := hb; clear hx hb; (try have ne3 := Nat.ne_of_lt HF1.out.box.lt); (try have ne4 := Ne.symm ne3); (try obtain ⟨x0, x1, x2, x3, x4, x5, _⟩ := id HF1.out.box); (try obtain ⟨x6, x7, x8, x9, x10, x11, _⟩ := id HF2.out.box); have lz := Hc.out.size; clear hc2)) | fail
        all_goals
          clear hs hs0
          go_wp2_with fail
          go_meet
          (first | exact ⟨_, _, _, _, _, _, rfl, rfl, by with_reducible exact Res2.nn Hc.out ux uy⟩ | exact ⟨_, _, _, _, _, _, rfl, rfl, by with_reducible exact Res2.nm Hc.out ux uy⟩ | exact ⟨_, _, _, _, _, _, rfl, rfl, by with_reducible exact Res2.on Hc.out HF1.out (by omega) ux uy⟩ | exact ⟨_, _, _, _, _, _, rfl, rfl, by with_reducible exact Res2.no Hc.out HF1.out (by omega) ux uy⟩ | exact ⟨_, _, _, _, _, _, rfl, rfl, by with_reducible exact Res2.oo Hc.out HF1.out HF2.out (by omega) (by omega) (by first | exact ne1 | exact ne2 | omega) ux uy⟩ | exact ⟨_, _, _, _, _, _, rfl, rfl, by with_reducible exact Res2.oo Hc.out HF2.out HF1.out (by omega) (by omega) (by first | exact ne1 | exact ne2 | omega) ux uy⟩)
      case rest =>
        clear hs hs0 Hc Hc0 hltA hlt8 hB8 u8 hl8 TM GX LY
        obtain ⟨gx, gy, A9, c9, A10, c10, rfl, rfl, hR9⟩ := hcut
        have W9b := hR9.bel
        have BX := Lib.hid hR9.bx
        have BY := Lib.hid hR9.by_
        have hNX := Lib.hid hR9.nx
        have hNY := Lib.hid hR9.ny
        have UX := Lib.hid hR9.u
        have UY := Lib.hid hR9.v
        have HNE := Lib.hid hR9.ne
        have lx := hR9.lx
        have ly := hR9.ly
        have h82 := W28.out.size
        have HLX := Lib.hid (show w.heap.size ≤ gx by omega)
        have HLY := Lib.hid (show w.heap.size ≤ gy by omega)
        have hlr := HR.out.lt
        obtain ⟨gR, hgR⟩ : ∃ gR, gR = w.heap.size + 2 := ⟨_, rfl⟩
        rw [← hgR] at HR hlr
        have NX := Lib.hid (show gR ≠ gx by omega)
        have NY := Lib.hid (show gR ≠ gy by omega)
        have HRX := Lib.hid (show gx ≠ gR by omega)
        have HRY := Lib.hid (show gy ≠ gR by omega)
        have HGR := Lib.hid hgR
        have WB := Lib.hid (from_ W28.out W9b)
        replace HA := Lib.hid (HA.out.below W9b)
        replace HR := Lib.hid (HR.out.below W9b)
        clear hR9 lx ly h82 hlr W9b hgR W28
        obtain ⟨a0, a1, a2, a3, a4, a5, _, _, _, _, _, _, _⟩ := id HA.out
        go_wp2_with fail
        refine (L2.out _).mono ?_
        rintro e wa ⟨rfl, hc⟩
        clear a0 a1 a2 a3 a4 a5
        have hltx := BX.out.lt
        have hlty := BY.out.lt
        replace hNX := Lib.hid (hNX.out.below hltx hc)
        replace hNY := Lib.hid (hNY.out.below hlty hc)
        replace BX := Lib.hid (BX.out.below hc)
        replace BY := Lib.hid (BY.out.below hc)
        replace UX := Lib.hid (UX.out.below hc)
        replace UY := Lib.hid (UY.out.below hc)
        replace HA := Lib.hid (HA.out.below hc)
        replace HR := Lib.hid (HR.out.below hc)
        replace WB := Lib.hid (from_ WB.out hc)
        clear hc hltx hlty
        go_wp2_with fail
        refine (SG2.out _ WB.out).mono ?_
        rintro e wb ⟨rfl, hc⟩
        have hltx := BX.out.lt
        have hlty := BY.out.lt
        replace hNX := Lib.hid (hNX.out.below hltx hc)
        replace hNY := Lib.hid (hNY.out.below hlty hc)
        replace BX := Lib.hid (BX.out.below hc)
        replace BY := Lib.hid (BY.out.below hc)
        replace UX := Lib.hid (UX.out.below hc)
        replace UY := Lib.hid (UY.out.below hc)
        replace HA := Lib.hid (HA.out.below hc)
        replace HR := Lib.hid (HR.out.below hc)
        replace WB := Lib.hid (from_ WB.out hc)
        clear hc hltx hlty
        have hg := Hgr.out
        have er0 := Hr.out
        by_cases hp2 : P.2 ≤ 0
        · have hmod : modP P Q = (max P.1 (-modM Q), 0) := by unfold modP; rw [if_pos hp2]
          rw [hmod] at hg er0
          have er : EndL (max P.1 (-modM Q)) rn0 rs0 rl0 ∧ EndH 0 rn1 rs1 rl1 := er0
          have hd : decide (sg2 ≤ 0) = true := decide_eq_true (by rw [← Hs2.out]; unfold sgn; split <;> (try split) <;> omega)
          obtain rfl : xs = rs0 := Hpx.out.uniq.2.1.trans er.1.2.1.symm
          obtain rfl : xl = rl0 := Hpx.out.uniq.2.2.trans er.1.2.2.symm
          have hxl := HXl.out
          have BD1 := Lib.hid (fun (W : World) (Z : Zone) (D : Option Addr) (d : Nat) (u : U64s W Z D d xl) => ibound_p (w := W) Hpx.out ((Hpx.out.nlo hg.nlo).trans er.1.1.symm) u (by omega))
          clear hxl
          have zp : Pl 0 0 false [] := .inl ⟨rfl, ⟨rfl, (limbs_eq_nil.2 rfl).symm⟩, by have := bigZ_pos; omega, bigZ_pos⟩
          obtain rfl : false = rs1 := zp.uniq.2.1.trans er.2.2.1.symm
          obtain rfl : [] = rl1 := zp.uniq.2.2.trans er.2.2.2.symm
          have BD2 := Lib.hid (fun (W : World) (Z : Zone) (D : Option Addr) (d : Nat) (u : U64s W Z D d []) => ibound_p (w := W) zp ((zp.nhi hg.nhi).trans er.2.1.symm) u (by simp))
          rw [List.length_nil] at BD2
          clear zp
          clear er er0 hg hmod hp2 Hgr Hr Hpx Hpy Hs1 Hs2 SG1 SG2
          have NU := hNY.out
          have B' := BY.out.set3 (.int .i64 0) (.bool false) (.slice none 0 0)
          have O' := BX.out.oth3 gy (HNE.out.symm) (.int .i64 0) (.bool false) (.slice none 0 0)
          have U' := UX.out.set3n NU (.int .i64 0) (.bool false) (.slice none 0 0)
          have R' := (HR.out.other3 (h := gy) HRY.out (.int .i64 0) (.bool false) (.slice none 0 0))
          have W' := set3_below WB.out HLY.out (.int .i64 0) (.bool false) (.slice none 0 0)
          obtain ⟨k0, k1, k2, k3, k4, k5, _⟩ := id BY.out
          go_upto_region 13 with fail
          clear k0 k1 k2 k3 k4 k5 NU
          replace BY := Lib.hid B'
          replace BX := Lib.hid O'
          replace UX := Lib.hid U'
          replace HR := Lib.hid R'
          replace WB := Lib.hid W'
          clear B' O' U' R' W'
          generalize ((wb.setCell ⟨gy, 0, none⟩ (.int .i64 0)).setCell ⟨gy, 1, none⟩ (.bool false)).setCell ⟨gy, 2, none⟩ (.slice none 0 0) = wq at *
          have hs := And.intro BX.out.c0 (And.intro BX.out.c1 (And.intro BX.out.c2 (And.intro BY.out.c0 (And.intro BY.out.c1 BY.out.c2))))
          replace hs := two3_keep hs (Below.refl _ _).drew
          have Hc := Lib.hid (Below.refl wq.heap.size wq).drew
          replace HR := Lib.hid (HR.out.below (Below.refl _ _).drew)
          skip
          try simp only [show w.heap.size + 2 = gR from HGR.out.symm, show w.heap.size + 1 + 1 = gR from HGR.out.symm]
          first | go_region_held3 (fun w' => w'.cell? ⟨gx, 0, none⟩ = some (.int .i64 xb) ∧ w'.cell? ⟨gx, 1, none⟩ = some (.bool xs) ∧ w'.cell? ⟨gx, 2, none⟩ = some (.slice A9 xl.length c9) ∧ w'.cell? ⟨gy, 0, none⟩ = some (.int .i64 0) ∧ w'.cell? ⟨gy, 1, none⟩ = some (.bool false) ∧ w'.cell? ⟨gy, 2, none⟩ = some (.slice none 0 0))
            (first
              | with_reducible exact hs
              | (with_reducible apply two3_st6 rfl <;> (first | with_reducible exact hs | with_reducible exact NX.out | with_reducible exact NY.out)))
            (first
              | (go_at_call 67; with_reducible refine (BD1.out _ _ _ _ (UX.out.below Hc.out)).mono ?_; rintro e w3 ⟨A1, c1, rfl, o1, hc2⟩; replace o1 := o1.mono (Y := new (gR + 1)) (new_le (Nat.succ_le_of_lt HR.out.lt)); replace hs := two3_keep hs hc2; replace HR := Lib.hid (HR.out.below hc2); replace Hc := Lib.hid (from_ Hc.out hc2))
              | (go_at_call 67; with_reducible refine (BD2.out _ _ _ _ ((U64s.nil wq old).below Hc.out)).mono ?_; rintro e w3 ⟨A2, c2, rfl, o2, hc2⟩; replace o1 := o1.below hc2; replace o2 := o2.mono (Y := new (gR + 1)) (new_le (Nat.succ_le_of_lt HR.out.lt)); replace hs := two3_keep hs hc2; replace HR := Lib.hid (HR.out.below hc2); replace Hc := Lib.hid (from_ Hc.out hc2); obtain ⟨g0, g1, g2, g3, g4, g5, f0, f1, f2, f3, f4, f5, _⟩ := id HR.out)) | fail
          all_goals
            have hgr := HGR.out
            have hw0 : w.heap.size ≤ gR := by omega
            have HP := Lib.hid (HR.out.put (w := w) (from_ WB.out Hc.out) hw0 (.bool rn0) (.bool xs) (.slice A1 xl.length c1) (.bool rn1) (.bool false) (.slice A2 0 c2))
            have U1 := Lib.hid ((o1.set6 (g := gR) (fun (h : gR + 1 ≤ gR) => by omega) (.bool rn0) (.bool xs) (.slice A1 xl.length c1) (.bool rn1) (.bool false) (.slice A2 0 c2)).mono (new_le (show w.heap.size ≤ gR + 1 by omega)))
            have U2 := Lib.hid ((o2.set6 (g := gR) (fun (h : gR + 1 ≤ gR) => by omega) (.bool rn0) (.bool xs) (.slice A1 xl.length c1) (.bool rn1) (.bool false) (.slice A2 0 c2)).mono (new_le (show w.heap.size ≤ gR + 1 by omega)))
            clear o1 o2 hgr hw0
            simp only [Exit.then]
            refine (‹∀ (a : Act) (w : World), Code.wp Try.prog Code.ret _ a w → _›) _ _ ?_
            refine wp_ret ?_
            change bodyPost _ _ _ _ _ _
            refine bodyPost_ret (res_itv2 rfl _ gR rfl HP.out.box) rfl ?_
            exact ⟨_, _, _, _, rfl, U1.out, U2.out, HP.out.bel⟩
        · have hd : decide (sg2 ≤ 0) = false := decide_eq_false (by rw [← Hs2.out]; unfold sgn; split <;> (try split) <;> omega)
          obtain ⟨a0, a1, a2, a3, a4, a5, _, _, _, _, _, _, _⟩ := id HA.out
          go_wp2_with fail
          refine (L1.out _).mono ?_
          rintro e wd ⟨rfl, hc⟩
          clear a0 a1 a2 a3 a4 a5 hd
          have hltx := BX.out.lt
          have hlty := BY.out.lt
          replace hNX := Lib.hid (hNX.out.below hltx hc)
          replace hNY := Lib.hid (hNY.out.below hlty hc)
          replace BX := Lib.hid (BX.out.below hc)
          replace BY := Lib.hid (BY.out.below hc)
          replace UX := Lib.hid (UX.out.below hc)
          replace UY := Lib.hid (UY.out.below hc)
          replace HA := Lib.hid (HA.out.below hc)
          replace HR := Lib.hid (HR.out.below hc)
          replace WB := Lib.hid (from_ WB.out hc)
          clear hc hltx hlty
          go_wp2_with fail
          refine (SG1.out _ WB.out).mono ?_
          rintro e we ⟨rfl, hc⟩
          have hltx := BX.out.lt
          have hlty := BY.out.lt
          replace hNX := Lib.hid (hNX.out.below hltx hc)
          replace hNY := Lib.hid (hNY.out.below hlty hc)
          replace BX := Lib.hid (BX.out.below hc)
          replace BY := Lib.hid (BY.out.below hc)
          replace UX := Lib.hid (UX.out.below hc)
          replace UY := Lib.hid (UY.out.below hc)
          replace HA := Lib.hid (HA.out.below hc)
          replace HR := Lib.hid (HR.out.below hc)
          replace WB := Lib.hid (from_ WB.out hc)
          clear hc hltx hlty
          by_cases hp1 : 0 ≤ P.1
          · have hmod : modP P Q = (0, min P.2 (modM Q)) := by unfold modP; rw [if_neg (show ¬ P.2 ≤ 0 by omega), if_pos (show 0 ≤ P.1 by omega)]
            rw [hmod] at hg er0
            have er : EndL 0 rn0 rs0 rl0 ∧ EndH (min P.2 (modM Q)) rn1 rs1 rl1 := er0
            have hd : decide (0 ≤ sg1) = true := decide_eq_true (by rw [← Hs1.out]; unfold sgn; split <;> (try split) <;> omega)
            obtain rfl : ys = rs1 := Hpy.out.uniq.2.1.trans er.2.2.1.symm
            obtain rfl : yl = rl1 := Hpy.out.uniq.2.2.trans er.2.2.2.symm
            have hyl := HYl.out
            have BD2 := Lib.hid (fun (W : World) (Z : Zone) (D : Option Addr) (d : Nat) (u : U64s W Z D d yl) => ibound_p (w := W) Hpy.out ((Hpy.out.nhi hg.nhi).trans er.2.1.symm) u (by omega))
            clear hyl
            have zp : Pl 0 0 false [] := .inl ⟨rfl, ⟨rfl, (limbs_eq_nil.2 rfl).symm⟩, by have := bigZ_pos; omega, bigZ_pos⟩
            obtain rfl : false = rs0 := zp.uniq.2.1.trans er.1.2.1.symm
            obtain rfl : [] = rl0 := zp.uniq.2.2.trans er.1.2.2.symm
            have BD1 := Lib.hid (fun (W : World) (Z : Zone) (D : Option Addr) (d : Nat) (u : U64s W Z D d []) => ibound_p (w := W) zp ((zp.nlo hg.nlo).trans er.1.1.symm) u (by simp))
            rw [List.length_nil] at BD1
            clear zp
            clear er er0 hg hmod hp2 hp1 Hgr Hr Hpx Hpy Hs1 Hs2 SG1 SG2
            have NU := hNX.out
            have B' := BX.out.set3 (.int .i64 0) (.bool false) (.slice none 0 0)
            have O' := BY.out.oth3 gx (HNE.out) (.int .i64 0) (.bool false) (.slice none 0 0)
            have U' := UY.out.set3n NU (.int .i64 0) (.bool false) (.slice none 0 0)
            have R' := (HR.out.other3 (h := gx) HRX.out (.int .i64 0) (.bool false) (.slice none 0 0))
            have W' := set3_below WB.out HLX.out (.int .i64 0) (.bool false) (.slice none 0 0)
            obtain ⟨k0, k1, k2, k3, k4, k5, _⟩ := id BX.out
            go_upto_region 13 with fail
            clear k0 k1 k2 k3 k4 k5 NU
            replace BX := Lib.hid B'
            replace BY := Lib.hid O'
            replace UY := Lib.hid U'
            replace HR := Lib.hid R'
            replace WB := Lib.hid W'
            clear B' O' U' R' W'
            generalize ((we.setCell ⟨gx, 0, none⟩ (.int .i64 0)).setCell ⟨gx, 1, none⟩ (.bool false)).setCell ⟨gx, 2, none⟩ (.slice none 0 0) = wq at *
            have hs := And.intro BX.out.c0 (And.intro BX.out.c1 (And.intro BX.out.c2 (And.intro BY.out.c0 (And.intro BY.out.c1 BY.out.c2))))
            replace hs := two3_keep hs (Below.refl _ _).drew
            have Hc := Lib.hid (Below.refl wq.heap.size wq).drew
            replace HR := Lib.hid (HR.out.below (Below.refl _ _).drew)
            skip
            try simp only [show w.heap.size + 2 = gR from HGR.out.symm, show w.heap.size + 1 + 1 = gR from HGR.out.symm]
            first | go_region_held3 (fun w' => w'.cell? ⟨gx, 0, none⟩ = some (.int .i64 0) ∧ w'.cell? ⟨gx, 1, none⟩ = some (.bool false) ∧ w'.cell? ⟨gx, 2, none⟩ = some (.slice none 0 0) ∧ w'.cell? ⟨gy, 0, none⟩ = some (.int .i64 yb) ∧ w'.cell? ⟨gy, 1, none⟩ = some (.bool ys) ∧ w'.cell? ⟨gy, 2, none⟩ = some (.slice A10 yl.length c10))
              (first
                | with_reducible exact hs
                | (with_reducible apply two3_st6 rfl <;> (first | with_reducible exact hs | with_reducible exact NX.out | with_reducible exact NY.out)))
              (first
                | (go_at_call 67; with_reducible refine (BD1.out _ _ _ _ ((U64s.nil wq old).below Hc.out)).mono ?_; rintro e w3 ⟨A1, c1, rfl, o1, hc2⟩; replace o1 := o1.mono (Y := new (gR + 1)) (new_le (Nat.succ_le_of_lt HR.out.lt)); replace hs := two3_keep hs hc2; replace HR := Lib.hid (HR.out.below hc2); replace Hc := Lib.hid (from_ Hc.out hc2))
                | (go_at_call 67; with_reducible refine (BD2.out _ _ _ _ (UY.out.below Hc.out)).mono ?_; rintro e w3 ⟨A2, c2, rfl, o2, hc2⟩; replace o1 := o1.below hc2; replace o2 := o2.mono (Y := new (gR + 1)) (new_le (Nat.succ_le_of_lt HR.out.lt)); replace hs := two3_keep hs hc2; replace HR := Lib.hid (HR.out.below hc2); replace Hc := Lib.hid (from_ Hc.out hc2); obtain ⟨g0, g1, g2, g3, g4, g5, f0, f1, f2, f3, f4, f5, _⟩ := id HR.out)) | fail
            all_goals
              have hgr := HGR.out
              have hw0 : w.heap.size ≤ gR := by omega
              have HP := Lib.hid (HR.out.put (w := w) (from_ WB.out Hc.out) hw0 (.bool rn0) (.bool false) (.slice A1 0 c1) (.bool rn1) (.bool ys) (.slice A2 yl.length c2))
              have U1 := Lib.hid ((o1.set6 (g := gR) (fun (h : gR + 1 ≤ gR) => by omega) (.bool rn0) (.bool false) (.slice A1 0 c1) (.bool rn1) (.bool ys) (.slice A2 yl.length c2)).mono (new_le (show w.heap.size ≤ gR + 1 by omega)))
              have U2 := Lib.hid ((o2.set6 (g := gR) (fun (h : gR + 1 ≤ gR) => by omega) (.bool rn0) (.bool false) (.slice A1 0 c1) (.bool rn1) (.bool ys) (.slice A2 yl.length c2)).mono (new_le (show w.heap.size ≤ gR + 1 by omega)))
              clear o1 o2 hgr hw0
              simp only [Exit.then]
              refine (‹∀ (a : Act) (w : World), Code.wp Try.prog Code.ret _ a w → _›) _ _ ?_
              refine wp_ret ?_
              change bodyPost _ _ _ _ _ _
              refine bodyPost_ret (res_itv2 rfl _ gR rfl HP.out.box) rfl ?_
              exact ⟨_, _, _, _, rfl, U1.out, U2.out, HP.out.bel⟩
          · have hmod : modP P Q = (max P.1 (-modM Q), min P.2 (modM Q)) := by unfold modP; rw [if_neg (show ¬ P.2 ≤ 0 by omega), if_neg (show ¬ 0 ≤ P.1 by omega)]
            rw [hmod] at hg er0
            have er : EndL (max P.1 (-modM Q)) rn0 rs0 rl0 ∧ EndH (min P.2 (modM Q)) rn1 rs1 rl1 := er0
            have hd : decide (0 ≤ sg1) = false := decide_eq_false (by rw [← Hs1.out]; unfold sgn; split <;> (try split) <;> omega)
            obtain rfl : xs = rs0 := Hpx.out.uniq.2.1.trans er.1.2.1.symm
            obtain rfl : xl = rl0 := Hpx.out.uniq.2.2.trans er.1.2.2.symm
            have hxl := HXl.out
            have BD1 := Lib.hid (fun (W : World) (Z : Zone) (D : Option Addr) (d : Nat) (u : U64s W Z D d xl) => ibound_p (w := W) Hpx.out ((Hpx.out.nlo hg.nlo).trans er.1.1.symm) u (by omega))
            clear hxl
            obtain rfl : ys = rs1 := Hpy.out.uniq.2.1.trans er.2.2.1.symm
            obtain rfl : yl = rl1 := Hpy.out.uniq.2.2.trans er.2.2.2.symm
            have hyl := HYl.out
            have BD2 := Lib.hid (fun (W : World) (Z : Zone) (D : Option Addr) (d : Nat) (u : U64s W Z D d yl) => ibound_p (w := W) Hpy.out ((Hpy.out.nhi hg.nhi).trans er.2.1.symm) u (by omega))
            clear hyl
            clear er er0 hg hmod hp2 hp1 Hgr Hr Hpx Hpy Hs1 Hs2 SG1 SG2
            have hs := And.intro BX.out.c0 (And.intro BX.out.c1 (And.intro BX.out.c2 (And.intro BY.out.c0 (And.intro BY.out.c1 BY.out.c2))))
            replace hs := two3_keep hs (Below.refl _ _).drew
            have Hc := Lib.hid (Below.refl we.heap.size we).drew
            replace HR := Lib.hid (HR.out.below (Below.refl _ _).drew)
            go_upto_region 13 with fail
            try simp only [show w.heap.size + 2 = gR from HGR.out.symm, show w.heap.size + 1 + 1 = gR from HGR.out.symm]
            first | go_region_held3 (fun w' => w'.cell? ⟨gx, 0, none⟩ = some (.int .i64 xb) ∧ w'.cell? ⟨gx, 1, none⟩ = some (.bool xs) ∧ w'.cell? ⟨gx, 2, none⟩ = some (.slice A9 xl.length c9) ∧ w'.cell? ⟨gy, 0, none⟩ = some (.int .i64 yb) ∧ w'.cell? ⟨gy, 1, none⟩ = some (.bool ys) ∧ w'.cell? ⟨gy, 2, none⟩ = some (.slice A10 yl.length c10))
              (first
                | with_reducible exact hs
                | (with_reducible apply two3_st6 rfl <;> (first | with_reducible exact hs | with_reducible exact NX.out | with_reducible exact NY.out)))
              (first
                | (go_at_call 67; with_reducible refine (BD1.out _ _ _ _ (UX.out.below Hc.out)).mono ?_; rintro e w3 ⟨A1, c1, rfl, o1, hc2⟩; replace o1 := o1.mono (Y := new (gR + 1)) (new_le (Nat.succ_le_of_lt HR.out.lt)); replace hs := two3_keep hs hc2; replace HR := Lib.hid (HR.out.below hc2); replace Hc := Lib.hid (from_ Hc.out hc2))
                | (go_at_call 67; with_reducible refine (BD2.out _ _ _ _ (UY.out.below Hc.out)).mono ?_; rintro e w3 ⟨A2, c2, rfl, o2, hc2⟩; replace o1 := o1.below hc2; replace o2 := o2.mono (Y := new (gR + 1)) (new_le (Nat.succ_le_of_lt HR.out.lt)); replace hs := two3_keep hs hc2; replace HR := Lib.hid (HR.out.below hc2); replace Hc := Lib.hid (from_ Hc.out hc2); obtain ⟨g0, g1, g2, g3, g4, g5, f0, f1, f2, f3, f4, f5, _⟩ := id HR.out)) | fail
            all_goals
              have hgr := HGR.out
              have hw0 : w.heap.size ≤ gR := by omega
              have HP := Lib.hid (HR.out.put (w := w) (from_ WB.out Hc.out) hw0 (.bool rn0) (.bool xs) (.slice A1 xl.length c1) (.bool rn1) (.bool ys) (.slice A2 yl.length c2))
              have U1 := Lib.hid ((o1.set6 (g := gR) (fun (h : gR + 1 ≤ gR) => by omega) (.bool rn0) (.bool xs) (.slice A1 xl.length c1) (.bool rn1) (.bool ys) (.slice A2 yl.length c2)).mono (new_le (show w.heap.size ≤ gR + 1 by omega)))
              have U2 := Lib.hid ((o2.set6 (g := gR) (fun (h : gR + 1 ≤ gR) => by omega) (.bool rn0) (.bool xs) (.slice A1 xl.length c1) (.bool rn1) (.bool ys) (.slice A2 yl.length c2)).mono (new_le (show w.heap.size ≤ gR + 1 by omega)))
              clear o1 o2 hgr hw0
              simp only [Exit.then]
              refine (‹∀ (a : Act) (w : World), Code.wp Try.prog Code.ret _ a w → _›) _ _ ?_
              refine wp_ret ?_
              change bodyPost _ _ _ _ _ _
              refine bodyPost_ret (res_itv2 rfl _ gR rfl HP.out.box) rfl ?_
              exact ⟨_, _, _, _, rfl, U1.out, U2.out, HP.out.bel⟩

end Go.Proofs.Ytennphechbngcaa

namespace Go.Proofs.Ytennphechbngcaa
open Go.RowKit
set_option linter.unusedVariables false
set_option linter.unusedSimpArgs false

end Go.Proofs.Ytennphechbngcaa

namespace Go.Proofs.Ytennphechbngcaa
open Go.RowKit
set_option linter.unusedVariables false
set_option linter.unusedSimpArgs false


set_option maxRecDepth 100000 in
set_option maxHeartbeats 2000000 in
theorem l16of_w {w : World} {x y : Int} (hx : -9223372036854775808 ≤ x ∧ x ≤ 9223372036854775807) (hy : -9223372036854775808 ≤ y ∧ y ≤ 9223372036854775807) (h : x ≤ y) :
    Calls Try.prog 28 #[.int .i64 x, .int .i64 y] w fun e w' => ∃ A c B d, e = .returned (.agg #[.bool (nLo x), .bool (sE x), .slice A (lE x).length c, .bool (nHi y), .bool (sE y), .slice B (lE y).length d]) ∧ U64s w' (new w.heap.size) A c (lE x) ∧ U64s w' (new w.heap.size) B d (lE y) ∧ Below w.heap.size w w' := by
  have hB0 : Below w.heap.size w (w.alloc (.cells #[.bool false, .bool false, .slice none 0 0, .bool false, .bool false, .slice none 0 0] 29)) := (Below.refl _ w).alloc (Nat.le_refl _) _
  have HR := Lib.hid (Box6.new w (.bool false) (.bool false) (.slice none 0 0) (.bool false) (.bool false) (.slice none 0 0) 29)
  have HO := Lib.hid (iof_good (w := w.alloc (.cells #[.bool false, .bool false, .slice none 0 0, .bool false, .bool false, .slice none 0 0] 29)) hx hy h)
  have Hb0 := Lib.hid hB0
  clear hx hy h hB0
  generalize nLo x = n0 at *
  generalize nHi y = n1 at *
  generalize lE x = l0 at *
  generalize sE x = s0 at *
  generalize lE y = l1 at *
  generalize sE y = s1 at *
  go_enter Try.func28, Try.ntmps28
  go_wp2_with fail
  refine HO.out.mono ?_
  rintro e w1 ⟨A1, c1, B1, d1, rfl, o1, o2, hc⟩
  have hax := (Below.refl w1.heap.size w1).alloc (Nat.le_refl _) (.cells #[.bool n0, .bool s0, .slice A1 l0.length c1, .bool n1, .bool s1, .slice B1 l1.length d1] 29)
  have R := (HR.out.below hc).below hax
  have hz := HR.out.lt
  have HP := Lib.hid (R.put (w := w) (from_ (from_ Hb0.out hc) hax) (Nat.le_refl _) (.bool n0) (.bool s0) (.slice A1 l0.length c1) (.bool n1) (.bool s1) (.slice B1 l1.length d1))
  have U1 := Lib.hid (((o1.below hax).set6 (g := w.heap.size) (fun (h : _ ≤ w.heap.size) => by omega) (.bool n0) (.bool s0) (.slice A1 l0.length c1) (.bool n1) (.bool s1) (.slice B1 l1.length d1)).mono (new_le Hb0.out.size))
  have U2 := Lib.hid (((o2.below hax).set6 (g := w.heap.size) (fun (h : _ ≤ w.heap.size) => by omega) (.bool n0) (.bool s0) (.slice A1 l0.length c1) (.bool n1) (.bool s1) (.slice B1 l1.length d1)).mono (new_le Hb0.out.size))
  obtain ⟨m0, m1, m2, m3, m4, m5, _, _, _, _, _, _, _⟩ := Box6.new w1 (.bool n0) (.bool s0) (.slice A1 l0.length c1) (.bool n1) (.bool s1) (.slice B1 l1.length d1) 29
  obtain ⟨g0, g1, g2, g3, g4, g5, f0, f1, f2, f3, f4, f5, _⟩ := R
  clear o1 o2 hc hax hz
  go_wp2
  refine bodyPost_ret (res_itv rfl _ w.heap.size rfl HP.out.box) rfl ?_
  exact ⟨_, _, _, _, rfl, U1.out, U2.out, HP.out.bel⟩


set_option maxRecDepth 100000 in
set_option maxHeartbeats 8000000 in
theorem l16is_yes {w : World} {Z1 Z2 Z3 Z4 : Zone} {p : Iv} {A B C D : Option Addr} {a b c d : Nat} (u1 : U64s w Z1 A a p.l0) (u2 : U64s w Z2 B b p.l1) (u3 : U64s w Z3 C c p.l0) (u4 : U64s w Z4 D d p.l1) :
    Calls Try.prog 31 #[.agg #[.bool p.n0, .bool p.s0, .slice A p.l0.length a, .bool p.n1, .bool p.s1, .slice B p.l1.length b], .int .i64 0, .agg #[.bool p.n0, .bool p.s0, .slice C p.l0.length c, .bool p.n1, .bool p.s1, .slice D p.l1.length d]] w fun e w' => e = .returned (.bool true) ∧ Below w.heap.size w w' := by
  obtain ⟨bA, bB, _, _⟩ := boxX w (.bool p.n0) (.bool p.s0) (.slice A p.l0.length a) (.bool p.n1) (.bool p.s1) (.slice B p.l1.length b) (.bool p.n0) (.bool p.s0) (.slice C p.l0.length c) (.bool p.n1) (.bool p.s1) (.slice D p.l1.length d) (.bool false) (.bool false) (.slice none 0 0) (.bool false) (.bool false) (.slice none 0 0) 29
  have hb1 : Below w.heap.size w (w.alloc (.cells #[.bool p.n0, .bool p.s0, .slice A p.l0.length a, .bool p.n1, .bool p.s1, .slice B p.l1.length b] 29)) := (Below.refl _ _).alloc (Nat.le_refl _) _
  have hB0 : Below w.heap.size w ((w.alloc (.cells #[.bool p.n0, .bool p.s0, .slice A p.l0.length a, .bool p.n1, .bool p.s1, .slice B p.l1.length b] 29)).alloc (.cells #[.bool p.n0, .bool p.s0, .slice C p.l0.length c, .bool p.n1, .bool p.s1, .slice D p.l1.length d] 29)) := hb1.alloc hb1.size _
  have bA2 := (Box6.new w (.bool p.n0) (.bool p.s0) (.slice A p.l0.length a) (.bool p.n1) (.bool p.s1) (.slice B p.l1.length b) 29).alloc (.cells #[.bool p.n0, .bool p.s0, .slice C p.l0.length c, .bool p.n1, .bool p.s1, .slice D p.l1.length d] 29)
  have bB2 := Box6.new (w.alloc (.cells #[.bool p.n0, .bool p.s0, .slice A p.l0.length a, .bool p.n1, .bool p.s1, .slice B p.l1.length b] 29)) (.bool p.n0) (.bool p.s0) (.slice C p.l0.length c) (.bool p.n1) (.bool p.s1) (.slice D p.l1.length d) 29
  rw [World.size_alloc] at bB2
  have J := Lib.hid (same16_yes (u1.below hB0) (u2.below hB0) (u3.below hB0) (u4.below hB0))
  have HB := Lib.hid hB0
  obtain ⟨a0, a1, a2, a3, a4, a5, _, _, _, _, _, _, _⟩ := bA2
  obtain ⟨b0, b1, b2, b3, b4, b5, _, _, _, _, _, _, _⟩ := bB2
  clear bA bB hb1 hB0 u1 u2 u3 u4
  generalize p.l0.length = L0 at *
  generalize p.l1.length = L1 at *
  generalize p.n0 = n0 at *
  generalize p.s0 = s0 at *
  generalize p.n1 = n1 at *
  generalize p.s1 = s1 at *
  go_enter Try.func31, Try.ntmps31
  go_wp2_with fail
  refine J.out.mono ?_
  rintro e w1 ⟨rfl, hc⟩
  have HE := Lib.hid (from_ HB.out hc)
  clear hc a0 a1 a2 a3 a4 a5 b0 b1 b2 b3 b4 b5
  go_wp2
  go_ret
  exact ⟨by first | rfl | trivial, HE.out⟩

end Go.Proofs.Ytennphechbngcaa

namespace Go.Proofs.Ytennphechbngcaa
open Go.RowKit
set_option linter.unusedVariables false
set_option linter.unusedSimpArgs false

theorem ivn_int {x y : Int} (hx : -1000000 ≤ x) (hy : y ≤ 1000000) (h : x ≤ y) : IvN 1 x y := by
  have e : wN 1 = 18446744073709551616 := rfl
  have e2 := wN_le (show 1 ≤ 64 by omega)
  exact ⟨.inr (.inr (by omega)), .inr (.inr (by omega)), h, by omega, by omega⟩
theorem aM : ivM (-2, 3) (4, 5) = (-10, 15) := by decide +kernel
theorem aD : ivD (7, 9) (-2, 2) = (-9, 9) := by decide +kernel
theorem aP : partsP (-2, 2) ≠ [] := by decide +kernel
theorem aR : modP (-7, 9) (1, 4) = (-3, 3) := by decide +kernel
theorem aPm : partsP (1, 4) ≠ [] := by decide +kernel
theorem aL : (ivOf (-10) 15).l1.length = 1 := by decide +kernel
theorem ivof_w (x y : Int) : IvW (x, y) (ivOf x y) := IvW.mk (x, y)
theorem c18_keep {W V : World} {g h i : Nat} {a0 a1 a2 a3 a4 a5 b0 b1 b2 b3 b4 b5 c0 c1 c2 c3 c4 c5 : Value} (hs : (W.cell? ⟨g, 0, none⟩ = some a0 ∧ W.cell? ⟨g, 1, none⟩ = some a1 ∧ W.cell? ⟨g, 2, none⟩ = some a2 ∧ W.cell? ⟨g, 3, none⟩ = some a3 ∧ W.cell? ⟨g, 4, none⟩ = some a4 ∧ W.cell? ⟨g, 5, none⟩ = some a5) ∧ (W.cell? ⟨h, 0, none⟩ = some b0 ∧ W.cell? ⟨h, 1, none⟩ = some b1 ∧ W.cell? ⟨h, 2, none⟩ = some b2 ∧ W.cell? ⟨h, 3, none⟩ = some b3 ∧ W.cell? ⟨h, 4, none⟩ = some b4 ∧ W.cell? ⟨h, 5, none⟩ = some b5) ∧ W.cell? ⟨i, 0, none⟩ = some c0 ∧ W.cell? ⟨i, 1, none⟩ = some c1 ∧ W.cell? ⟨i, 2, none⟩ = some c2 ∧ W.cell? ⟨i, 3, none⟩ = some c3 ∧ W.cell? ⟨i, 4, none⟩ = some c4 ∧ W.cell? ⟨i, 5, none⟩ = some c5) (hb : Below W.heap.size W V) : (V.cell? ⟨g, 0, none⟩ = some a0 ∧ V.cell? ⟨g, 1, none⟩ = some a1 ∧ V.cell? ⟨g, 2, none⟩ = some a2 ∧ V.cell? ⟨g, 3, none⟩ = some a3 ∧ V.cell? ⟨g, 4, none⟩ = some a4 ∧ V.cell? ⟨g, 5, none⟩ = some a5) ∧ (V.cell? ⟨h, 0, none⟩ = some b0 ∧ V.cell? ⟨h, 1, none⟩ = some b1 ∧ V.cell? ⟨h, 2, none⟩ = some b2 ∧ V.cell? ⟨h, 3, none⟩ = some b3 ∧ V.cell? ⟨h, 4, none⟩ = some b4 ∧ V.cell? ⟨h, 5, none⟩ = some b5) ∧ V.cell? ⟨i, 0, none⟩ = some c0 ∧ V.cell? ⟨i, 1, none⟩ = some c1 ∧ V.cell? ⟨i, 2, none⟩ = some c2 ∧ V.cell? ⟨i, 3, none⟩ = some c3 ∧ V.cell? ⟨i, 4, none⟩ = some c4 ∧ V.cell? ⟨i, 5, none⟩ = some c5 := ⟨six_keep0 hs.1 hb, six_keep0 hs.2.1 hb, six_keep0 hs.2.2 hb⟩
theorem l16of_k {w : World} {x y : Int} {k : Iv} (hk : k = ivOf x y) (hx : -1000000 ≤ x) (hy : y ≤ 1000000) (h : x ≤ y) :
    Calls Try.prog 28 #[.int .i64 x, .int .i64 y] w fun e w' => ∃ A c B d, e = .returned (.agg #[.bool k.n0, .bool k.s0, .slice A k.l0.length c, .bool k.n1, .bool k.s1, .slice B k.l1.length d]) ∧ U64s w' (new w.heap.size) A c k.l0 ∧ U64s w' (new w.heap.size) B d k.l1 ∧ Below w.heap.size w w' := by
  rw [hk]
  exact l16of_w (by omega) (by omega) h

set_option maxRecDepth 100000 in
set_option maxHeartbeats 8000000 in
theorem alive16 (w : World) : Calls Try.prog 5 #[] w fun e w' => e = .returned (.bool true) ∧ Below w.heap.size w w' := by
  obtain ⟨k1, hk1⟩ : ∃ k, k = ivOf (-2) 3 := ⟨_, rfl⟩
  have Ok1 := Lib.hid (fun (W : World) => l16of_k (w := W) hk1 (by omega) (by omega) (by omega))
  have wk1 : IvW (-2, 3) k1 := by rw [hk1]; exact ivof_w _ _
  obtain ⟨k2, hk2⟩ : ∃ k, k = ivOf 4 5 := ⟨_, rfl⟩
  have Ok2 := Lib.hid (fun (W : World) => l16of_k (w := W) hk2 (by omega) (by omega) (by omega))
  have wk2 : IvW (4, 5) k2 := by rw [hk2]; exact ivof_w _ _
  obtain ⟨k3, hk3⟩ : ∃ k, k = ivOf 7 9 := ⟨_, rfl⟩
  have Ok3 := Lib.hid (fun (W : World) => l16of_k (w := W) hk3 (by omega) (by omega) (by omega))
  have wk3 : IvW (7, 9) k3 := by rw [hk3]; exact ivof_w _ _
  obtain ⟨k4, hk4⟩ : ∃ k, k = ivOf (-2) 2 := ⟨_, rfl⟩
  have Ok4 := Lib.hid (fun (W : World) => l16of_k (w := W) hk4 (by omega) (by omega) (by omega))
  have wk4 : IvW (-2, 2) k4 := by rw [hk4]; exact ivof_w _ _
  obtain ⟨k5, hk5⟩ : ∃ k, k = ivOf (-7) 9 := ⟨_, rfl⟩
  have Ok5 := Lib.hid (fun (W : World) => l16of_k (w := W) hk5 (by omega) (by omega) (by omega))
  have wk5 : IvW (-7, 9) k5 := by rw [hk5]; exact ivof_w _ _
  obtain ⟨k6, hk6⟩ : ∃ k, k = ivOf 1 4 := ⟨_, rfl⟩
  have Ok6 := Lib.hid (fun (W : World) => l16of_k (w := W) hk6 (by omega) (by omega) (by omega))
  have wk6 : IvW (1, 4) k6 := by rw [hk6]; exact ivof_w _ _
  obtain ⟨r1, hr1⟩ : ∃ k, k = ivOf (-10) 15 := ⟨_, rfl⟩
  have Or1 := Lib.hid (fun (W : World) => l16of_k (w := W) hr1 (by omega) (by omega) (by omega))
  have wr1 : IvW (-10, 15) r1 := by rw [hr1]; exact ivof_w _ _
  obtain ⟨r2, hr2⟩ : ∃ k, k = ivOf (-9) 9 := ⟨_, rfl⟩
  have Or2 := Lib.hid (fun (W : World) => l16of_k (w := W) hr2 (by omega) (by omega) (by omega))
  have wr2 : IvW (-9, 9) r2 := by rw [hr2]; exact ivof_w _ _
  obtain ⟨r3, hr3⟩ : ∃ k, k = ivOf (-3) 3 := ⟨_, rfl⟩
  have Or3 := Lib.hid (fun (W : World) => l16of_k (w := W) hr3 (by omega) (by omega) (by omega))
  have wr3 : IvW (-3, 3) r3 := by rw [hr3]; exact ivof_w _ _
  have hlen : ((r1.l1.length : Int) == 1) = true := by rw [hr1, aL]; rfl
  have Hlen := Lib.hid hlen
  have MU := Lib.hid (fun (W : World) (Z1 Z2 Z3 Z4 : Zone) (A B C D : Option Addr) (a b c d : Nat) (u1 : U64s W Z1 A a k1.l0) (u2 : U64s W Z2 B b k1.l1) (u3 : U64s W Z3 C c k2.l0) (u4 : U64s W Z4 D d k2.l1) => imul_w (r := r1) wk1 wk2 (by rw [aM]; exact wr1) (ivn_int (by omega) (by omega) (by omega)) (ivn_int (by omega) (by omega) (by omega)) (by omega) (by omega) u1 u2 u3 u4)
  have DI := Lib.hid (fun (W : World) (Z1 Z2 Z3 Z4 : Zone) (A B C D : Option Addr) (a b c d : Nat) (u1 : U64s W Z1 A a k3.l0) (u2 : U64s W Z2 B b k3.l1) (u3 : U64s W Z3 C c k4.l0) (u4 : U64s W Z4 D d k4.l1) => idiv_w (r := r2) wk3 ((ivn_int (by omega) (by omega) (by omega)).up (by omega)) wk4 ((ivn_int (by omega) (by omega) (by omega)).up (by omega)) u1 u2 u3 u4 aP (by rw [aD]; exact wr2))
  have MO := Lib.hid (fun (W : World) (Z1 Z2 Z3 Z4 : Zone) (A B C D : Option Addr) (a b c d : Nat) (u1 : U64s W Z1 A a k5.l0) (u2 : U64s W Z2 B b k5.l1) (u3 : U64s W Z3 C c k6.l0) (u4 : U64s W Z4 D d k6.l1) => imod_w (r := r3) wk5 ((ivn_int (by omega) (by omega) (by omega)).up (by omega)) wk6 ((ivn_int (by omega) (by omega) (by omega)).up (by omega)) u1 u2 u3 u4 aPm (by rw [aR]; exact wr3))
  clear hlen hk1 wk1 hk2 wk2 hk3 wk3 hk4 wk4 hk5 wk5 hk6 wk6 hr1 wr1 hr2 wr2 hr3 wr3
  go_enter Try.func5, Try.ntmps5
  have HB := Lib.hid (Below.refl w.heap.size w)
  go_wp2_with fail
  refine (Ok1.out _).mono ?_
  rintro e v1 ⟨A1, a1, B1, b1, rfl, p0, p1, hc⟩
  replace HB := Lib.hid (from_ HB.out hc)
  clear hc
  go_wp2_with fail
  refine (Ok2.out _).mono ?_
  rintro e x1 ⟨C1, c1, D1, d1, rfl, p2, p3, hc⟩
  replace p0 := p0.below hc
  replace p1 := p1.below hc
  replace HB := Lib.hid (from_ HB.out hc)
  clear hc
  go_wp2_with fail
  refine (MU.out _ _ _ _ _ _ _ _ _ _ _ _ _ p0 p1 p2 p3).mono ?_
  rintro e y1 ⟨E1, e1, F1, f1, rfl, q0, q1, hc⟩
  go_upto_region 2 with fail
  have hax : Below y1.heap.size y1 (y1.alloc (.cells #[.bool r1.n0, .bool r1.s0, .slice E1 r1.l0.length e1, .bool r1.n1, .bool r1.s1, .slice F1 r1.l1.length f1] 29)) := (Below.refl _ _).alloc (Nat.le_refl _) _
  have BX1 := Lib.hid (Box6.new y1 (.bool r1.n0) (.bool r1.s0) (.slice E1 r1.l0.length e1) (.bool r1.n1) (.bool r1.s1) (.slice F1 r1.l1.length f1) 29)
  obtain ⟨g1, hg1⟩ : ∃ g, g = y1.heap.size := ⟨_, rfl⟩
  rw [← hg1] at BX1
  replace hc := from_ hc hax
  have UBX1 := Lib.hid (q0.below hax)
  have VBX1 := Lib.hid (q1.below hax)
  clear hax q0 q1 p0 p1 p2 p3 MU Ok1 Ok2
  replace HB := Lib.hid (from_ HB.out hc)
  clear hc
  generalize hWx : y1.alloc (.cells #[.bool r1.n0, .bool r1.s0, .slice E1 r1.l0.length e1, .bool r1.n1, .bool r1.s1, .slice F1 r1.l1.length f1] 29) = W1 at *
  try simp only [← hg1]
  clear hWx hg1
  go_wp2_with fail
  refine (Ok3.out _).mono ?_
  rintro e v2 ⟨A2, a2, B2, b2, rfl, p0, p1, hc⟩
  replace BX1 := Lib.hid (BX1.out.below hc)
  replace UBX1 := Lib.hid (UBX1.out.below hc)
  replace VBX1 := Lib.hid (VBX1.out.below hc)
  replace HB := Lib.hid (from_ HB.out hc)
  clear hc
  go_wp2_with fail
  refine (Ok4.out _).mono ?_
  rintro e x2 ⟨C2, c2, D2, d2, rfl, p2, p3, hc⟩
  replace BX1 := Lib.hid (BX1.out.below hc)
  replace UBX1 := Lib.hid (UBX1.out.below hc)
  replace VBX1 := Lib.hid (VBX1.out.below hc)
  replace p0 := p0.below hc
  replace p1 := p1.below hc
  replace HB := Lib.hid (from_ HB.out hc)
  clear hc
  go_wp2_with fail
  refine (DI.out _ _ _ _ _ _ _ _ _ _ _ _ _ p0 p1 p2 p3).mono ?_
  rintro e y2 ⟨E2, e2, F2, f2, rfl, q0, q1, hc⟩
  go_upto_region 3 with fail
  have hax : Below y2.heap.size y2 (y2.alloc (.cells #[.bool r2.n0, .bool r2.s0, .slice E2 r2.l0.length e2, .bool r2.n1, .bool r2.s1, .slice F2 r2.l1.length f2] 29)) := (Below.refl _ _).alloc (Nat.le_refl _) _
  have BX2 := Lib.hid (Box6.new y2 (.bool r2.n0) (.bool r2.s0) (.slice E2 r2.l0.length e2) (.bool r2.n1) (.bool r2.s1) (.slice F2 r2.l1.length f2) 29)
  obtain ⟨g2, hg2⟩ : ∃ g, g = y2.heap.size := ⟨_, rfl⟩
  rw [← hg2] at BX2
  replace hc := from_ hc hax
  have UBX2 := Lib.hid (q0.below hax)
  have VBX2 := Lib.hid (q1.below hax)
  clear hax q0 q1 p0 p1 p2 p3 DI Ok3 Ok4
  replace BX1 := Lib.hid (BX1.out.below hc)
  replace UBX1 := Lib.hid (UBX1.out.below hc)
  replace VBX1 := Lib.hid (VBX1.out.below hc)
  replace HB := Lib.hid (from_ HB.out hc)
  clear hc
  generalize hWx : y2.alloc (.cells #[.bool r2.n0, .bool r2.s0, .slice E2 r2.l0.length e2, .bool r2.n1, .bool r2.s1, .slice F2 r2.l1.length f2] 29) = W2 at *
  try simp only [← hg2]
  clear hWx hg2
  go_wp2_with fail
  refine (Ok5.out _).mono ?_
  rintro e v3 ⟨A3, a3, B3, b3, rfl, p0, p1, hc⟩
  replace BX1 := Lib.hid (BX1.out.below hc)
  replace UBX1 := Lib.hid (UBX1.out.below hc)
  replace VBX1 := Lib.hid (VBX1.out.below hc)
  replace BX2 := Lib.hid (BX2.out.below hc)
  replace UBX2 := Lib.hid (UBX2.out.below hc)
  replace VBX2 := Lib.hid (VBX2.out.below hc)
  replace HB := Lib.hid (from_ HB.out hc)
  clear hc
  go_wp2_with fail
  refine (Ok6.out _).mono ?_
  rintro e x3 ⟨C3, c3, D3, d3, rfl, p2, p3, hc⟩
  replace BX1 := Lib.hid (BX1.out.below hc)
  replace UBX1 := Lib.hid (UBX1.out.below hc)
  replace VBX1 := Lib.hid (VBX1.out.below hc)
  replace BX2 := Lib.hid (BX2.out.below hc)
  replace UBX2 := Lib.hid (UBX2.out.below hc)
  replace VBX2 := Lib.hid (VBX2.out.below hc)
  replace p0 := p0.below hc
  replace p1 := p1.below hc
  replace HB := Lib.hid (from_ HB.out hc)
  clear hc
  go_wp2_with fail
  refine (MO.out _ _ _ _ _ _ _ _ _ _ _ _ _ p0 p1 p2 p3).mono ?_
  rintro e y3 ⟨E3, e3, F3, f3, rfl, q0, q1, hc⟩
  go_upto_region 4 with fail
  have hax : Below y3.heap.size y3 (y3.alloc (.cells #[.bool r3.n0, .bool r3.s0, .slice E3 r3.l0.length e3, .bool r3.n1, .bool r3.s1, .slice F3 r3.l1.length f3] 29)) := (Below.refl _ _).alloc (Nat.le_refl _) _
  have BX3 := Lib.hid (Box6.new y3 (.bool r3.n0) (.bool r3.s0) (.slice E3 r3.l0.length e3) (.bool r3.n1) (.bool r3.s1) (.slice F3 r3.l1.length f3) 29)
  obtain ⟨g3, hg3⟩ : ∃ g, g = y3.heap.size := ⟨_, rfl⟩
  rw [← hg3] at BX3
  replace hc := from_ hc hax
  have UBX3 := Lib.hid (q0.below hax)
  have VBX3 := Lib.hid (q1.below hax)
  clear hax q0 q1 p0 p1 p2 p3 MO Ok5 Ok6
  replace BX1 := Lib.hid (BX1.out.below hc)
  replace UBX1 := Lib.hid (UBX1.out.below hc)
  replace VBX1 := Lib.hid (VBX1.out.below hc)
  replace BX2 := Lib.hid (BX2.out.below hc)
  replace UBX2 := Lib.hid (UBX2.out.below hc)
  replace VBX2 := Lib.hid (VBX2.out.below hc)
  replace HB := Lib.hid (from_ HB.out hc)
  clear hc
  generalize hWx : y3.alloc (.cells #[.bool r3.n0, .bool r3.s0, .slice E3 r3.l0.length e3, .bool r3.n1, .bool r3.s1, .slice F3 r3.l1.length f3] 29) = W3 at *
  try simp only [← hg3]
  clear hWx hg3
  have hs := c18_keep (And.intro BX1.out.all (And.intro BX2.out.all BX3.out.all)) (Below.refl _ _).drew
  have Hc := Lib.hid (Below.refl W3.heap.size W3).drew
  have hl1 := Hlen.out
  first | go_region_held3 (fun w' => (w'.cell? ⟨g1, 0, none⟩ = some (.bool r1.n0) ∧ w'.cell? ⟨g1, 1, none⟩ = some (.bool r1.s0) ∧ w'.cell? ⟨g1, 2, none⟩ = some (.slice E1 r1.l0.length e1) ∧ w'.cell? ⟨g1, 3, none⟩ = some (.bool r1.n1) ∧ w'.cell? ⟨g1, 4, none⟩ = some (.bool r1.s1) ∧ w'.cell? ⟨g1, 5, none⟩ = some (.slice F1 r1.l1.length f1)) ∧ (w'.cell? ⟨g2, 0, none⟩ = some (.bool r2.n0) ∧ w'.cell? ⟨g2, 1, none⟩ = some (.bool r2.s0) ∧ w'.cell? ⟨g2, 2, none⟩ = some (.slice E2 r2.l0.length e2) ∧ w'.cell? ⟨g2, 3, none⟩ = some (.bool r2.n1) ∧ w'.cell? ⟨g2, 4, none⟩ = some (.bool r2.s1) ∧ w'.cell? ⟨g2, 5, none⟩ = some (.slice F2 r2.l1.length f2)) ∧ w'.cell? ⟨g3, 0, none⟩ = some (.bool r3.n0) ∧ w'.cell? ⟨g3, 1, none⟩ = some (.bool r3.s0) ∧ w'.cell? ⟨g3, 2, none⟩ = some (.slice E3 r3.l0.length e3) ∧ w'.cell? ⟨g3, 3, none⟩ = some (.bool r3.n1) ∧ w'.cell? ⟨g3, 4, none⟩ = some (.bool r3.s1) ∧ w'.cell? ⟨g3, 5, none⟩ = some (.slice F3 r3.l1.length f3))
    (first | with_reducible exact hs)
    (first
      | (go_at_call 28; (first | (with_reducible refine (Or1.out _).mono ?_) | (with_reducible refine (Or2.out _).mono ?_) | (with_reducible refine (Or3.out _).mono ?_)); rintro e w7 ⟨A5, c5, B5, d5, rfl, o5, o6, hc2⟩; replace hs := c18_keep hs hc2; replace Hc := Lib.hid (from_ Hc.out hc2))
      | (go_at_call 31; (first | (with_reducible refine (l16is_yes (UBX1.out.below Hc.out) (VBX1.out.below Hc.out) o5 o6).mono ?_) | (with_reducible refine (l16is_yes (UBX2.out.below Hc.out) (VBX2.out.below Hc.out) o5 o6).mono ?_) | (with_reducible refine (l16is_yes (UBX3.out.below Hc.out) (VBX3.out.below Hc.out) o5 o6).mono ?_)); rintro e w8 ⟨rfl, hc2⟩; replace hs := c18_keep hs hc2; replace Hc := Lib.hid (from_ Hc.out hc2); clear o5 o6)) | fail
  all_goals
    go_wp2
    go_ret
    exact ⟨by first | rfl | trivial, from_ HB.out Hc.out⟩

end Go.Proofs.Ytennphechbngcaa

namespace Go.Proofs.Ytennphechbngcaa
open Go.RowKit
set_option linter.unusedVariables false
set_option linter.unusedSimpArgs false


end Go.Proofs.Ytennphechbngcaa

namespace Go.Proofs.Ytennphechbngcaa
open Go.RowKit
set_option linter.unusedVariables false
set_option linter.unusedSimpArgs false

end Go.Proofs.Ytennphechbngcaa

namespace Go.Proofs.Ytennphechbngcaa
open Go.RowKit
set_option linter.unusedVariables false
set_option linter.unusedSimpArgs false

/-- Is an end longer than K? -/
def gtI (p : Iv) (K : Nat) : Bool := decide (K < p.l0.length) || decide (K < p.l1.length)
theorem gtI_no {p : Iv} {K : Nat} (h : gtI p K = false) : p.l0.length ≤ K ∧ p.l1.length ≤ K := by
  unfold gtI at h
  rw [Bool.or_eq_false_iff] at h
  exact ⟨by have := of_decide_eq_false h.1; omega, by have := of_decide_eq_false h.2; omega⟩
theorem g16_any {w : World} {n0 s0 n1 s1 : Bool} {L0 L1 : Nat} {A B : Option Addr} {a b K : Nat} (hK : K ≤ 1000) (h0 : L0 ≤ 9223372036854775807) (h1 : L1 ≤ 9223372036854775807) :
    Calls Try.prog 6 #[.agg #[.bool n0, .bool s0, .slice A L0 a, .bool n1, .bool s1, .slice B L1 b], .int .i64 (K : Int)] w fun e w' => e = .returned (.bool (decide (K < L0) || decide (K < L1))) ∧ Below w.heap.size w w' := by
  have hB : Below w.heap.size w (w.alloc (.cells #[.bool n0, .bool s0, .slice A L0 a, .bool n1, .bool s1, .slice B L1 b] 29)) := (Below.refl _ w).alloc (Nat.le_refl _) _
  obtain ⟨b0, b1, b2, b3, b4, b5, _⟩ := Box6.new w (.bool n0) (.bool s0) (.slice A L0 a) (.bool n1) (.bool s1) (.slice B L1 b) 29
  rcases (by omega : K < L0 ∨ ¬ (K < L0)) with g0 | g0
  · have d1 : decide ((K : Int) < (L0 : Int)) = true := decide_eq_true (by omega)
    have e1 : decide (K < L0) = true := decide_eq_true g0
    rw [e1, Bool.true_or]
    clear g0
    go_enter Try.func6, Try.ntmps6
    go_wp2
    go_ret
    exact ⟨rfl, hB⟩
  · have d1 : decide ((K : Int) < (L0 : Int)) = false := decide_eq_false (by omega)
    have e1 : decide (K < L0) = false := decide_eq_false g0
    rw [e1, Bool.false_or]
    clear g0
    go_enter Try.func6, Try.ntmps6
    go_wp2
    go_ret
    exact ⟨by simp, hB⟩
theorem g16_w {w : World} {Z1 Z2 : Zone} {p : Iv} {A B : Option Addr} {a b : Nat} (u : U64s w Z1 A a p.l0) (v : U64s w Z2 B b p.l1) :
    Calls Try.prog 6 #[.agg #[.bool p.n0, .bool p.s0, .slice A p.l0.length a, .bool p.n1, .bool p.s1, .slice B p.l1.length b], .int .i64 4] w fun e w' => e = .returned (.bool (gtI p 4)) ∧ Below w.heap.size w w' := by
  have h1 := g16_any (w := w) (n0 := p.n0) (s0 := p.s0) (n1 := p.n1) (s1 := p.s1) (A := A) (B := B) (a := a) (b := b) (K := 4) (by omega) u.len v.len
  exact h1
theorem itw_of {N : Nat} {p : Iv} (h : p.ok = true) (m0 : Small p.l0) (m1 : Small p.l1) (q0 : p.l0.length ≤ N) (q1 : p.l1.length ≤ N) (hN : N ≤ 60) : IvW (p.lo, p.hi) p ∧ IvN N p.lo p.hi := by
  have hf : p.fine 60 := ⟨m0, m1, by omega, by omega⟩
  have e := Iv.is h hf
  obtain ⟨h1, h2⟩ := okA_ends h
  have r1 := lo_range (n := p.n0) (s := p.s0) m0 (show p.l0.length ≤ 60 by omega)
  have r2 := hi_range (n := p.n1) (s := p.s1) m1 (show p.l1.length ≤ 60 by omega)
  have hle := okA_le h m0 m1 (by omega) (by omega)
  obtain ⟨b, s', l', A', c', P⟩ := Plc.ex (-1) p.n0 p.s0 p.l0 none 0
  obtain ⟨d, t', k', B', e', Q⟩ := Plc.ex 1 p.n1 p.s1 p.l1 none 0
  have u := P.lo h1 m0 (show p.l0.length ≤ 60 by omega)
  have v := Q.hi h2 m1 (show p.l1.length ≤ 60 by omega)
  have g1 := P.len
  have g2 := Q.len
  refine ⟨?_, u.ext (by omega), v.ext (by omega), hle, r1.2, r2.1⟩
  have hk := IvW.mk (p.lo, p.hi)
  rw [show ivOf (p.lo, p.hi).1 (p.lo, p.hi).2 = p from e.symm] at hk
  exact hk
theorem U64s.away {w : World} {Z : Zone} {A : Option Addr} {c : Nat} {l : List Nat} (h : U64s w Z A c l) : ∃ Y : Zone, U64s w Y A c l ∧ ∀ g, w.heap.size ≤ g → ¬ Y.blk g :=
  ⟨⟨fun b => b < w.heap.size, False⟩, ⟨h.small, h.cap, h.max, h.nul, fun h0 => by
    obtain ⟨b, o, e, hz, _, hc⟩ := h.row h0
    exact ⟨b, o, e, lt_of_cell (hc 0 _ (List.getElem?_eq_getElem h0)), fun h => h.elim, hc⟩⟩, fun g hg (hb : g < w.heap.size) => by omega⟩
theorem Box.oth1 {W : World} {g : Nat} {a b : Value} (h : Box W g a b) {k j : Nat} (hn : k ≠ g) (v : Value) : Box (W.setCell ⟨k, j, none⟩ v) g a b := by
  obtain ⟨h0, h1, f0, f1, hl⟩ := h
  refine ⟨?_, ?_, ?_, ?_, ?_⟩
  · rw [World.cell?_setCell_other _ _ _ _ (fun e => hn (by injection e))]; exact h0
  · rw [World.cell?_setCell_other _ _ _ _ (fun e => hn (by injection e))]; exact h1
  · exact (World.frozen?_setCell _ _ _ _).trans f0
  · exact (World.frozen?_setCell _ _ _ _).trans f1
  · simpa [World.setCell] using hl
theorem Box6.st6 {W : World} {g h : Nat} {a b c d e f : Value} (H : Box6 W g a b c d e f) (hn : h ≠ g) (x0 x1 x2 x3 x4 x5 : Value) : Box6 ((((((W.setCell ⟨h, 0, none⟩ x0).setCell ⟨h, 1, none⟩ x1).setCell ⟨h, 2, none⟩ x2).setCell ⟨h, 3, none⟩ x3).setCell ⟨h, 4, none⟩ x4).setCell ⟨h, 5, none⟩ x5) g a b c d e f := (((((H.oth1 hn x0).oth1 hn x1).oth1 hn x2).oth1 hn x3).oth1 hn x4).oth1 hn x5
/-- The boxes of a function's arguments. -/
def Q4 (W : World) (B : Nat) (a0 a1 a2 a3 a4 a5 b0 b1 b2 b3 b4 b5 c0 c1 d0 d1 : Value) : Prop := Box6 W B a0 a1 a2 a3 a4 a5 ∧ Box6 W (B + 1) b0 b1 b2 b3 b4 b5 ∧ Box W (B + 2) c0 c1 ∧ Box W (B + 3) d0 d1
theorem Q4.new (w : World) (a0 a1 a2 a3 a4 a5 b0 b1 b2 b3 b4 b5 c0 c1 d0 d1 : Value) (t u : TypeId) : Q4 ((((w.alloc (.cells #[a0, a1, a2, a3, a4, a5] t)).alloc (.cells #[b0, b1, b2, b3, b4, b5] t)).alloc (.cells #[c0, c1] u)).alloc (.cells #[d0, d1] u)) w.heap.size a0 a1 a2 a3 a4 a5 b0 b1 b2 b3 b4 b5 c0 c1 d0 d1 ∧ Below w.heap.size w ((((w.alloc (.cells #[a0, a1, a2, a3, a4, a5] t)).alloc (.cells #[b0, b1, b2, b3, b4, b5] t)).alloc (.cells #[c0, c1] u)).alloc (.cells #[d0, d1] u)) := by
  have k1 : Below w.heap.size w (w.alloc (.cells #[a0, a1, a2, a3, a4, a5] t)) := (Below.refl _ _).alloc (Nat.le_refl _) _
  have k2 : Below w.heap.size w ((w.alloc (.cells #[a0, a1, a2, a3, a4, a5] t)).alloc (.cells #[b0, b1, b2, b3, b4, b5] t)) := k1.alloc k1.size _
  have k3 : Below w.heap.size w (((w.alloc (.cells #[a0, a1, a2, a3, a4, a5] t)).alloc (.cells #[b0, b1, b2, b3, b4, b5] t)).alloc (.cells #[c0, c1] u)) := k2.alloc k2.size _
  have k4 : Below w.heap.size w ((((w.alloc (.cells #[a0, a1, a2, a3, a4, a5] t)).alloc (.cells #[b0, b1, b2, b3, b4, b5] t)).alloc (.cells #[c0, c1] u)).alloc (.cells #[d0, d1] u)) := k3.alloc k3.size _
  have b0' := (((Box6.new w a0 a1 a2 a3 a4 a5 t).alloc (.cells #[b0, b1, b2, b3, b4, b5] t)).alloc (.cells #[c0, c1] u)).alloc (.cells #[d0, d1] u)
  have b1' := ((Box6.new (w.alloc (.cells #[a0, a1, a2, a3, a4, a5] t)) b0 b1 b2 b3 b4 b5 t).alloc (.cells #[c0, c1] u)).alloc (.cells #[d0, d1] u)
  simp only [World.size_alloc] at b1'
  have b2' := (Box.new ((w.alloc (.cells #[a0, a1, a2, a3, a4, a5] t)).alloc (.cells #[b0, b1, b2, b3, b4, b5] t)) c0 c1 u).alloc (.cells #[d0, d1] u)
  simp only [World.size_alloc] at b2'
  have b3' := Box.new (((w.alloc (.cells #[a0, a1, a2, a3, a4, a5] t)).alloc (.cells #[b0, b1, b2, b3, b4, b5] t)).alloc (.cells #[c0, c1] u)) d0 d1 u
  simp only [World.size_alloc] at b3'
  exact ⟨⟨b0', b1', b2', b3'⟩, k4⟩
theorem Q4.below {W V : World} {B : Nat} {a0 a1 a2 a3 a4 a5 b0 b1 b2 b3 b4 b5 c0 c1 d0 d1 : Value} (h : Q4 W B a0 a1 a2 a3 a4 a5 b0 b1 b2 b3 b4 b5 c0 c1 d0 d1) (hb : Below W.heap.size W V) : Q4 V B a0 a1 a2 a3 a4 a5 b0 b1 b2 b3 b4 b5 c0 c1 d0 d1 := ⟨h.1.below hb, h.2.1.below hb, h.2.2.1.below hb, h.2.2.2.below hb⟩
/-- The boxes of a function's arguments. -/
def Q3 (W : World) (B : Nat) (a0 a1 a2 a3 a4 a5 b0 b1 b2 b3 b4 b5 c0 c1 c2 c3 c4 c5 : Value) : Prop := Box6 W B a0 a1 a2 a3 a4 a5 ∧ Box6 W (B + 1) b0 b1 b2 b3 b4 b5 ∧ Box6 W (B + 2) c0 c1 c2 c3 c4 c5
theorem Q3.new (w : World) (a0 a1 a2 a3 a4 a5 b0 b1 b2 b3 b4 b5 c0 c1 c2 c3 c4 c5 : Value) (t : TypeId) : Q3 (((w.alloc (.cells #[a0, a1, a2, a3, a4, a5] t)).alloc (.cells #[b0, b1, b2, b3, b4, b5] t)).alloc (.cells #[c0, c1, c2, c3, c4, c5] t)) w.heap.size a0 a1 a2 a3 a4 a5 b0 b1 b2 b3 b4 b5 c0 c1 c2 c3 c4 c5 ∧ Below w.heap.size w (((w.alloc (.cells #[a0, a1, a2, a3, a4, a5] t)).alloc (.cells #[b0, b1, b2, b3, b4, b5] t)).alloc (.cells #[c0, c1, c2, c3, c4, c5] t)) := by
  have k1 : Below w.heap.size w (w.alloc (.cells #[a0, a1, a2, a3, a4, a5] t)) := (Below.refl _ _).alloc (Nat.le_refl _) _
  have k2 : Below w.heap.size w ((w.alloc (.cells #[a0, a1, a2, a3, a4, a5] t)).alloc (.cells #[b0, b1, b2, b3, b4, b5] t)) := k1.alloc k1.size _
  have k3 : Below w.heap.size w (((w.alloc (.cells #[a0, a1, a2, a3, a4, a5] t)).alloc (.cells #[b0, b1, b2, b3, b4, b5] t)).alloc (.cells #[c0, c1, c2, c3, c4, c5] t)) := k2.alloc k2.size _
  have b0' := ((Box6.new w a0 a1 a2 a3 a4 a5 t).alloc (.cells #[b0, b1, b2, b3, b4, b5] t)).alloc (.cells #[c0, c1, c2, c3, c4, c5] t)
  have b1' := (Box6.new (w.alloc (.cells #[a0, a1, a2, a3, a4, a5] t)) b0 b1 b2 b3 b4 b5 t).alloc (.cells #[c0, c1, c2, c3, c4, c5] t)
  simp only [World.size_alloc] at b1'
  have b2' := Box6.new ((w.alloc (.cells #[a0, a1, a2, a3, a4, a5] t)).alloc (.cells #[b0, b1, b2, b3, b4, b5] t)) c0 c1 c2 c3 c4 c5 t
  simp only [World.size_alloc] at b2'
  exact ⟨⟨b0', b1', b2'⟩, k3⟩
theorem Q3.below {W V : World} {B : Nat} {a0 a1 a2 a3 a4 a5 b0 b1 b2 b3 b4 b5 c0 c1 c2 c3 c4 c5 : Value} (h : Q3 W B a0 a1 a2 a3 a4 a5 b0 b1 b2 b3 b4 b5 c0 c1 c2 c3 c4 c5) (hb : Below W.heap.size W V) : Q3 V B a0 a1 a2 a3 a4 a5 b0 b1 b2 b3 b4 b5 c0 c1 c2 c3 c4 c5 := ⟨h.1.below hb, h.2.1.below hb, h.2.2.below hb⟩
theorem Q3.st6 {W : World} {B g : Nat} {a0 a1 a2 a3 a4 a5 b0 b1 b2 b3 b4 b5 c0 c1 c2 c3 c4 c5 : Value} (h : Q3 W B a0 a1 a2 a3 a4 a5 b0 b1 b2 b3 b4 b5 c0 c1 c2 c3 c4 c5) (hg : B + 3 ≤ g) (x0 x1 x2 x3 x4 x5 : Value) : Q3 ((((((W.setCell ⟨g, 0, none⟩ x0).setCell ⟨g, 1, none⟩ x1).setCell ⟨g, 2, none⟩ x2).setCell ⟨g, 3, none⟩ x3).setCell ⟨g, 4, none⟩ x4).setCell ⟨g, 5, none⟩ x5) B a0 a1 a2 a3 a4 a5 b0 b1 b2 b3 b4 b5 c0 c1 c2 c3 c4 c5 := ⟨h.1.st6 (by omega) x0 x1 x2 x3 x4 x5, h.2.1.st6 (by omega) x0 x1 x2 x3 x4 x5, h.2.2.st6 (by omega) x0 x1 x2 x3 x4 x5⟩

end Go.Proofs.Ytennphechbngcaa

namespace Go.Proofs.Ytennphechbngcaa
open Go.RowKit
set_option linter.unusedVariables false
set_option linter.unusedSimpArgs false

theorem ivn_meet {N : Nat} {P Q : IvP} (h : IvN N P.1 P.2) (g : IvN N Q.1 Q.2) (hle : max P.1 Q.1 ≤ min P.2 Q.2) : IvN N (max P.1 Q.1) (min P.2 Q.2) := by
  obtain ⟨a1, a2, a3, a4, a5⟩ := h
  obtain ⟨b1, b2, b3, b4, b5⟩ := g
  exact ⟨ext_max a1 b1, ext_min a2 b2, hle, by omega, by omega⟩

end Go.Proofs.Ytennphechbngcaa

namespace Go.Proofs.Ytennphechbngcaa
open Go.RowKit
set_option linter.unusedVariables false
set_option linter.unusedSimpArgs false


theorem iin_w {w : World} {Z1 Z2 Z3 Z4 : Zone} {p q : Iv} {P Q : IvP} {A B C D : Option Addr} {a b c d : Nat} (hp : IvW P p) (gp : IvN 60 P.1 P.2) (hq : IvW Q q) (gq : IvN 60 Q.1 Q.2) (u1 : U64s w Z1 A a p.l0) (u2 : U64s w Z2 B b p.l1) (u3 : U64s w Z3 C c q.l0) (u4 : U64s w Z4 D d q.l1) {r : Bool} (hr : decide (Q.1 ≤ P.1 ∧ P.2 ≤ Q.2) = r) :
    Calls Try.prog 9 #[.agg #[.bool p.n0, .bool p.s0, .slice A p.l0.length a, .bool p.n1, .bool p.s1, .slice B p.l1.length b], .agg #[.bool q.n0, .bool q.s0, .slice C q.l0.length c, .bool q.n1, .bool q.s1, .slice D q.l1.length d]] w fun e w' => e = .returned (.tuple #[.bool r, .int .i64 0]) ∧ Below w.heap.size w w' := by
  have kp := hp.k gp (by omega)
  have kq := hq.k gq (by omega)
  exact iin_good u1 u2 u3 u4 kp.ok kq.ok (by have := kp.q0; omega) (by have := kp.q1; omega) (by have := kq.q0; omega) (by have := kq.q1; omega) (by rw [kp.lo, kq.lo, kp.hi, kq.hi]; exact hr)
theorem imeetG_w {w : World} {Z1 Z2 Z3 Z4 : Zone} {p q : Iv} {P Q : IvP} {A B C D : Option Addr} {a b c d : Nat} (hp : IvW P p) (gp : IvN 60 P.1 P.2) (hq : IvW Q q) (gq : IvN 60 Q.1 Q.2) (u1 : U64s w Z1 A a p.l0) (u2 : U64s w Z2 B b p.l1) (u3 : U64s w Z3 C c q.l0) (u4 : U64s w Z4 D d q.l1) {r : Iv} (hr : IvW (max P.1 Q.1, min P.2 Q.2) r) (hg : max P.1 Q.1 ≤ min P.2 Q.2) :
    Calls Try.prog 10 #[.agg #[.bool p.n0, .bool p.s0, .slice A p.l0.length a, .bool p.n1, .bool p.s1, .slice B p.l1.length b], .agg #[.bool q.n0, .bool q.s0, .slice C q.l0.length c, .bool q.n1, .bool q.s1, .slice D q.l1.length d]] w fun e w' => ∃ rA ra rB rb, e = .returned (.tuple #[.agg #[.bool r.n0, .bool r.s0, .slice rA r.l0.length ra, .bool r.n1, .bool r.s1, .slice rB r.l1.length rb], .int .i64 0]) ∧ U64s w' (new w.heap.size) rA ra r.l0 ∧ U64s w' (new w.heap.size) rB rb r.l1 ∧ Below w.heap.size w w' := by
  have kp := hp.k gp (by omega)
  have kq := hq.k gq (by omega)
  exact iMeet_good u1 u2 u3 u4 kp.ok kq.ok (by have := kp.q0; omega) (by have := kp.q1; omega) (by have := kq.q0; omega) (by have := kq.q1; omega) (z0 := max P.1 Q.1) (z1 := min P.2 Q.2) (by rw [kp.lo, kq.lo]) (by rw [kp.hi, kq.hi]) hr.1 hr.2 hg
/-- A function's answer to two intervals, with an error's number. -/
def AnsI (F : Nat) (p q u : Iv) (E : Int) : Prop := ∀ (w : World) (Z1 Z2 Z3 Z4 : Zone) (A B C D : Option Addr) (a b c d : Nat), U64s w Z1 A a p.l0 → U64s w Z2 B b p.l1 → U64s w Z3 C c q.l0 → U64s w Z4 D d q.l1 → Calls Try.prog F #[.agg #[.bool p.n0, .bool p.s0, .slice A p.l0.length a, .bool p.n1, .bool p.s1, .slice B p.l1.length b], .agg #[.bool q.n0, .bool q.s0, .slice C q.l0.length c, .bool q.n1, .bool q.s1, .slice D q.l1.length d]] w fun e w' => ∃ rA ra rB rb, e = .returned (.tuple #[.agg #[.bool u.n0, .bool u.s0, .slice rA u.l0.length ra, .bool u.n1, .bool u.s1, .slice rB u.l1.length rb], .int .i64 E]) ∧ U64s w' (new w.heap.size) rA ra u.l0 ∧ U64s w' (new w.heap.size) rB rb u.l1 ∧ Below w.heap.size w w'
/-- In's answer. -/
def InI (p q : Iv) (x : Bool) : Prop := ∀ (w : World) (Z1 Z2 Z3 Z4 : Zone) (A B C D : Option Addr) (a b c d : Nat), U64s w Z1 A a p.l0 → U64s w Z2 B b p.l1 → U64s w Z3 C c q.l0 → U64s w Z4 D d q.l1 → Calls Try.prog 9 #[.agg #[.bool p.n0, .bool p.s0, .slice A p.l0.length a, .bool p.n1, .bool p.s1, .slice B p.l1.length b], .agg #[.bool q.n0, .bool q.s0, .slice C q.l0.length c, .bool q.n1, .bool q.s1, .slice D q.l1.length d]] w fun e w' => e = .returned (.tuple #[.bool x, .int .i64 0]) ∧ Below w.heap.size w w'
def zeroI : Iv := ⟨false, false, [], false, false, []⟩
theorem AnsI.zero {F : Nat} {p q : Iv} {E : Int} (h : ∀ (w : World) (Z1 Z2 Z3 Z4 : Zone) (A B C D : Option Addr) (a b c d : Nat), U64s w Z1 A a p.l0 → U64s w Z2 B b p.l1 → U64s w Z3 C c q.l0 → U64s w Z4 D d q.l1 → Calls Try.prog F #[.agg #[.bool p.n0, .bool p.s0, .slice A p.l0.length a, .bool p.n1, .bool p.s1, .slice B p.l1.length b], .agg #[.bool q.n0, .bool q.s0, .slice C q.l0.length c, .bool q.n1, .bool q.s1, .slice D q.l1.length d]] w fun e w' => e = .returned (.tuple #[.agg #[.bool false, .bool false, .slice none 0 0, .bool false, .bool false, .slice none 0 0], .int .i64 E]) ∧ Below w.heap.size w w') : AnsI F p q zeroI E := fun w Z1 Z2 Z3 Z4 A B C D a b c d u1 u2 u3 u4 => by
  refine (h w Z1 Z2 Z3 Z4 A B C D a b c d u1 u2 u3 u4).mono ?_
  rintro e w' ⟨rfl, hb⟩
  exact ⟨none, 0, none, 0, rfl, U64s.nil _ _, U64s.nil _ _, hb⟩
end Go.Proofs.Ytennphechbngcaa
