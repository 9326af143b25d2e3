/- Intervals, the program's: Div. No conditions but bounds on lengths. -/
import Derived.Test.YthpngihjcphigaaGreatRTelU
import Derived.Test.YthpngihjcphigaaGreatRRefE
import Derived.Test.YthpngihjcphigaaGreatRHeldL
import Derived.Test.YthpngihjcphigaaGreatRItvR
set_option linter.unusedVariables false
set_option linter.unusedSimpArgs false
set_option maxRecDepth 100000
set_option maxHeartbeats 40000000
namespace Go.Proofs.YthpngihjcphigaaGreat
open Go.Lib (hid)
open Go.RowKit
variable {A B C D : Option Addr} {M N a b c d g h o : Nat} {P Q : IvP} {V W W' w : World} {Z1 Z2 Z3 Z4 : Zone} {a0 a1 a2 a3 a4 a5 b0 b1 b2 b3 b4 b5 e f x0 x1 x2 x3 x4 x5 : Value} {p q r : Iv}
theorem anyL_one {P : Program} {ops : Array Oper} {Q : Exit → Act → World → Prop} {md : Region.Mode} {A T : World → Prop} {k i : Nat} {fuel : Nat} {listed : Array Bool} {a : Act} (hr : Region.ready md ops listed = [i])
  (h : wpOp P ops Q i (fun a' w' => TillK A T k (listed.setIfInBounds i true) w' ∧ wpAnyL P md ops Q A T k fuel (listed.setIfInBounds i true) a' w') a w) : wpAnyL P md ops Q A T k (fuel + 1) listed a w :=
 ⟨fun h0 => (by rw [hr] at h0; cases h0), fun j hj => by
  rw [hr] at hj
  obtain rfl := List.mem_singleton.1 hj
  exact h⟩
def dK (P : Int × Int) (L : List (Int × Int)) (k : Nat) : Int × Int := (L.tail.take k).foldl (fun o q => ivJ o (ivD1 P q)) (ivD1 P (L.headD (0, 0)))
theorem dK_zero {P : Int × Int} {L : List (Int × Int)} (h : 0 < L.length) : dK P L 0 = ivD1 P L[0] := by
 cases L with
 | nil => cases h
 | cons a t => rfl
theorem dK_succ {P : Int × Int} {L : List (Int × Int)} {k : Nat} (h : k + 1 < L.length) : dK P L (k + 1) = ivJ (dK P L k) (ivD1 P L[k + 1]) := by
 unfold dK
 rw [List.take_succ_eq_append_getElem (by rw [List.length_tail]; omega), List.foldl_append, List.getElem_tail]
 rfl
theorem dK_all {P Q : Int × Int} {k : Nat} (h : (partsP Q).length = k + 1) : dK P (partsP Q) k = ivD P Q := by
 unfold dK ivD
 rw [List.take_of_length_le (by rw [List.length_tail]; omega)]
 cases e : partsP Q with
 | nil => rw [e] at h; simp at h
 | cons a t => rfl
theorem ivD1_ok {P Q : Int × Int} (h : IvN N P.1 P.2) (g : IvN M Q.1 Q.2) (h0 : 0 < Q.1 ∨ Q.2 < 0) (hN : N ≤ 60) : IvN N (ivD1 P Q).1 (ivD1 P Q).2 := ivn_over h g h0 hN
theorem dK_ok {P : Int × Int} {L : List (Int × Int)} (h : IvN N P.1 P.2) (hN : N ≤ 60) (hL : ∀ Q ∈ L, IvN M Q.1 Q.2 ∧ (0 < Q.1 ∨ Q.2 < 0)) (h0 : 0 < L.length) : ∀ k, k < L.length → IvN N (dK P L k).1 (dK P L k).2 := by
 intro k
 induction k with
 | zero =>
   intro hk
   rw [dK_zero h0]
   have := hL _ (List.getElem_mem h0)
   exact ivD1_ok h this.1 this.2 hN
 | succ k ih =>
   intro hk
   rw [dK_succ hk]
   have := hL _ (List.getElem_mem hk)
   exact ivJ_ok (ih (by omega)) (ivD1_ok h this.1 this.2 hN)
theorem ijoin2_w (hp : IvW P p) (gp : IvN N P.1 P.2) (hN : N ≤ 60) (hq : IvW Q q) (gq : IvN M Q.1 Q.2) (hM : M ≤ 60) (hr : IvW (ivJ P Q) r) (u1 : U64s w Z1 A a p.l0) (u2 : U64s w Z2 B b p.l1) (u3 : U64s w Z3 C c q.l0) (u4 : U64s w Z4 D d q.l1) :
  Calls Tryz.prog 37 #[.agg #[.bool p.n0, .bool p.s0, .slice A p.l0.length a, .bool p.n1, .bool p.s1, .slice B p.l1.length b], .agg #[.bool q.n0, .bool q.s0, .slice C q.l0.length c, .bool q.n1, .bool q.s1, .slice D q.l1.length d]] w fun e w' => ∃ rA ra rB rb, e = .returned (.agg #[.bool r.n0, .bool r.s0, .slice rA r.l0.length ra, .bool r.n1, .bool r.s1, .slice rB r.l1.length rb]) ∧ U64s w' (new w.heap.size) rA ra r.l0 ∧ U64s w' (new w.heap.size) rB rb r.l1 ∧ Below w.heap.size w w' := by
 have kp := hp.k gp (by omega)
 have kq := hq.k gq (by omega)
 exact ijoin_p u1 u2 u3 u4 kp.ok kq.ok (by have := kp.q0; omega) (by have := kp.q1; omega) (by have := kq.q0; omega) (by have := kq.q1; omega) (z0 := (ivJ P Q).1) (z1 := (ivJ P Q).2) (by rw [kp.lo, kq.lo]; rfl) (by rw [kp.hi, kq.hi]; rfl) hr.1 hr.2
theorem icover_w (hp : IvW P p) (gp : IvN 60 P.1 P.2) (hq : IvW Q q) (gq : IvN 60 Q.1 Q.2) (h0 : 0 < Q.1 ∨ Q.2 < 0) (hr : IvW (ivD1 P Q) r) (u1 : U64s w Z1 A a p.l0) (u2 : U64s w Z2 B b p.l1) (u3 : U64s w Z3 C c q.l0) (u4 : U64s w Z4 D d q.l1) :
  Calls Tryz.prog 32 #[.agg #[.bool p.n0, .bool p.s0, .slice A p.l0.length a, .bool p.n1, .bool p.s1, .slice B p.l1.length b], .agg #[.bool q.n0, .bool q.s0, .slice C q.l0.length c, .bool q.n1, .bool q.s1, .slice D q.l1.length d], .func (.func 36) #[] #[]] w fun e w' => ∃ rA ra rB rb, e = .returned (.agg #[.bool r.n0, .bool r.s0, .slice rA r.l0.length ra, .bool r.n1, .bool r.s1, .slice rB r.l1.length rb]) ∧ U64s w' (new w.heap.size) rA ra r.l0 ∧ U64s w' (new w.heap.size) rB rb r.l1 ∧ Below w.heap.size w w' := by
 have kp := hp.k gp (by omega)
 have kq := hq.k gq (by omega)
 have g := ivD1_ok gp gq h0 (by omega)
 have hle := gq.le
 exact icrossed_over u1 u2 u3 u4 kp.ok kq.ok (by have := kp.q0; omega) (by have := kp.q1; omega) (by have := kq.q0; omega) (by have := kq.q1; omega) (by rw [kq.lo, kq.hi]; omega) (z0 := (ivD1 P Q).1) (z1 := (ivD1 P Q).2) (by rw [kp.lo, kq.lo, kp.hi, kq.hi]; rfl) (by rw [kp.lo, kq.lo, kp.hi, kq.hi]; rfl) g.nlo g.nhi hr.1 hr.2
theorem cc_keep (h : (C6 W g a0 a1 a2 a3 a4 a5) ∧ (W.cell? ⟨b, o, none⟩ = some b0 ∧ W.cell? ⟨b, o + 1, none⟩ = some b1 ∧ W.cell? ⟨b, o + 2, none⟩ = some b2 ∧ W.cell? ⟨b, o + 3, none⟩ = some b3 ∧ W.cell? ⟨b, o + 4, none⟩ = some b4 ∧ W.cell? ⟨b, o + 5, none⟩ = some b5)) (hb : Below W.heap.size W W') : (C6 W' g a0 a1 a2 a3 a4 a5) ∧ (W'.cell? ⟨b, o, none⟩ = some b0 ∧ W'.cell? ⟨b, o + 1, none⟩ = some b1 ∧ W'.cell? ⟨b, o + 2, none⟩ = some b2 ∧ W'.cell? ⟨b, o + 3, none⟩ = some b3 ∧ W'.cell? ⟨b, o + 4, none⟩ = some b4 ∧ W'.cell? ⟨b, o + 5, none⟩ = some b5) := ⟨six_keep0 h.1 hb, six_keep h.2 hb⟩
theorem cc_st6 {r : Nat} (e : V = ((((((W.setCell ⟨r, 0, none⟩ x0).setCell ⟨r, 1, none⟩ x1).setCell ⟨r, 2, none⟩ x2).setCell ⟨r, 3, none⟩ x3).setCell ⟨r, 4, none⟩ x4).setCell ⟨r, 5, none⟩ x5)) (hg : r ≠ g) (hh : r ≠ b) (h : (C6 W g a0 a1 a2 a3 a4 a5) ∧ (W.cell? ⟨b, o, none⟩ = some b0 ∧ W.cell? ⟨b, o + 1, none⟩ = some b1 ∧ W.cell? ⟨b, o + 2, none⟩ = some b2 ∧ W.cell? ⟨b, o + 3, none⟩ = some b3 ∧ W.cell? ⟨b, o + 4, none⟩ = some b4 ∧ W.cell? ⟨b, o + 5, none⟩ = some b5)) : (C6 V g a0 a1 a2 a3 a4 a5) ∧ (V.cell? ⟨b, o, none⟩ = some b0 ∧ V.cell? ⟨b, o + 1, none⟩ = some b1 ∧ V.cell? ⟨b, o + 2, none⟩ = some b2 ∧ V.cell? ⟨b, o + 3, none⟩ = some b3 ∧ V.cell? ⟨b, o + 4, none⟩ = some b4 ∧ V.cell? ⟨b, o + 5, none⟩ = some b5) := by
 subst e
 exact ⟨⟨st6 h.1.1 hg, st6 h.1.2.1 hg, st6 h.1.2.2.1 hg, st6 h.1.2.2.2.1 hg, st6 h.1.2.2.2.2.1 hg, st6 h.1.2.2.2.2.2 hg⟩, six_st6 hh h.2⟩
theorem six_just0 (h : Just g W W') (hb : b ≠ g) (hc : C6 W b a0 a1 a2 a3 a4 a5) : C6 W' b a0 a1 a2 a3 a4 a5 := ⟨h.cell hb hc.1, h.cell hb hc.2.1, h.cell hb hc.2.2.1, h.cell hb hc.2.2.2.1, h.cell hb hc.2.2.2.2.1, h.cell hb hc.2.2.2.2.2⟩
theorem six_just (h : Just g W W') (hb : b ≠ g) (hc : W.cell? ⟨b, o, none⟩ = some a0 ∧ W.cell? ⟨b, o + 1, none⟩ = some a1 ∧ W.cell? ⟨b, o + 2, none⟩ = some a2 ∧ W.cell? ⟨b, o + 3, none⟩ = some a3 ∧ W.cell? ⟨b, o + 4, none⟩ = some a4 ∧ W.cell? ⟨b, o + 5, none⟩ = some a5) : W'.cell? ⟨b, o, none⟩ = some a0 ∧ W'.cell? ⟨b, o + 1, none⟩ = some a1 ∧ W'.cell? ⟨b, o + 2, none⟩ = some a2 ∧ W'.cell? ⟨b, o + 3, none⟩ = some a3 ∧ W'.cell? ⟨b, o + 4, none⟩ = some a4 ∧ W'.cell? ⟨b, o + 5, none⟩ = some a5 := ⟨h.cell hb hc.1, h.cell hb hc.2.1, h.cell hb hc.2.2.1, h.cell hb hc.2.2.2.1, h.cell hb hc.2.2.2.2.1, h.cell hb hc.2.2.2.2.2⟩
theorem st6_0 {r : Nat} {x0 x1 x2 x3 x4 x5 : Value} (hn : r ≠ b) (h : C6 W b a0 a1 a2 a3 a4 a5) :
 let V := ((((((W.setCell ⟨r, 0, none⟩ x0).setCell ⟨r, 1, none⟩ x1).setCell ⟨r, 2, none⟩ x2).setCell ⟨r, 3, none⟩ x3).setCell ⟨r, 4, none⟩ x4).setCell ⟨r, 5, none⟩ x5)
 C6 V b a0 a1 a2 a3 a4 a5 := ⟨st6 h.1 hn, st6 h.2.1 hn, st6 h.2.2.1 hn, st6 h.2.2.2.1 hn, st6 h.2.2.2.2.1 hn, st6 h.2.2.2.2.2 hn⟩
theorem idiv_w (hp : IvW P p) (gp : IvN 60 P.1 P.2) (hq : IvW Q q) (gq : IvN 60 Q.1 Q.2) (u1 : U64s w Z1 A a p.l0) (u2 : U64s w Z2 B b p.l1) (u3 : U64s w Z3 C c q.l0) (u4 : U64s w Z4 D d q.l1) (hne : partsP Q ≠ []) (hr : IvW (ivD P Q) r) :
  Calls Tryz.prog 10 #[.agg #[.bool p.n0, .bool p.s0, .slice A p.l0.length a, .bool p.n1, .bool p.s1, .slice B p.l1.length b], .agg #[.bool q.n0, .bool q.s0, .slice C q.l0.length c, .bool q.n1, .bool q.s1, .slice D q.l1.length d]] w fun e w' => ∃ rA ra rB rb, e = .returned (.tuple #[.agg #[.bool r.n0, .bool r.s0, .slice rA r.l0.length ra, .bool r.n1, .bool r.s1, .slice rB r.l1.length rb], .int .i64 0]) ∧ U64s w' (new w.heap.size) rA ra r.l0 ∧ U64s w' (new w.heap.size) rB rb r.l1 ∧ Below w.heap.size w w' := by
 obtain ⟨bA, bB, bR, hB0⟩ := boxX w (.bool p.n0) (.bool p.s0) (.slice A p.l0.length a) (.bool p.n1) (.bool p.s1) (.slice B p.l1.length b) (.bool q.n0) (.bool q.s0) (.slice C q.l0.length c) (.bool q.n1) (.bool q.s1) (.slice D q.l1.length d) (.bool false) (.bool false) (.slice none 0 0) (.bool false) (.bool false) (.slice none 0 0) 29
 have hb1 := hB0.alloc hB0.size (.cells #[.bool p.n0, .bool p.s0, .slice A p.l0.length a, .bool p.n1, .bool p.s1, .slice B p.l1.length b, .bool q.n0, .bool q.s0, .slice C q.l0.length c, .bool q.n1, .bool q.s1, .slice D q.l1.length d] 29)
 have hg := given_twoA (p := p) (q := q) (ty := 29) (u1.below hB0) (u2.below hB0) (u3.below hB0) (u4.below hB0)
 rw [show (((w.alloc (.cells #[.bool p.n0, .bool p.s0, .slice A p.l0.length a, .bool p.n1, .bool p.s1, .slice B p.l1.length b] 29)).alloc (.cells #[.bool q.n0, .bool q.s0, .slice C q.l0.length c, .bool q.n1, .bool q.s1, .slice D q.l1.length d] 29)).alloc (.cells #[.bool false, .bool false, .slice none 0 0, .bool false, .bool false, .slice none 0 0] 29)).heap.size = w.heap.size + 3 by simp] at hg
 have kp := hp.k gp (by omega)
 have kq := hq.k gq (by omega)
 have hck := ichecked_any (n := 2) (c := 2) hg rfl (by simp) (by intro p' hp'; simp only [List.mem_cons, List.not_mem_nil, or_false] at hp'; rcases hp' with rfl | rfl <;> exact ⟨by have := kp.q0; have := kq.q0; omega, by have := kp.q1; have := kq.q1; omega⟩)
 rw [errAs_two, if_pos ⟨kp.ok, kq.ok⟩] at hck
 obtain ⟨HA, HBb, HR, Hck, Hb1⟩ := hid5 (bA.alloc (.cells #[.bool p.n0, .bool p.s0, .slice A p.l0.length a, .bool p.n1, .bool p.s1, .slice B p.l1.length b, .bool q.n0, .bool q.s0, .slice C q.l0.length c, .bool q.n1, .bool q.s1, .slice D q.l1.length d] 29)) (bB.alloc (.cells #[.bool p.n0, .bool p.s0, .slice A p.l0.length a, .bool p.n1, .bool p.s1, .slice B p.l1.length b, .bool q.n0, .bool q.s0, .slice C q.l0.length c, .bool q.n1, .bool q.s1, .slice D q.l1.length d] 29)) (bR.alloc (.cells #[.bool p.n0, .bool p.s0, .slice A p.l0.length a, .bool p.n1, .bool p.s1, .slice B p.l1.length b, .bool q.n0, .bool q.s0, .slice C q.l0.length c, .bool q.n1, .bool q.s1, .slice D q.l1.length d] 29)) hck hb1
 have a0 := bA.all
 obtain ⟨b0, b1, b2, b3, b4, b5, _, _, _, _, _, _, _⟩ := bB
 have PT := hid (fun (W : World) (h : Below w.heap.size w W) => iparted_w hq gq (by omega) (u3.below h) (u4.below h))
 have hpos : 0 < (partsP Q).length := List.length_pos_iff.2 hne
 have hLok := parts_ok gq (by omega)
 have hdk := dK_ok gp (by omega) hLok hpos
 have hfl := fmOf_len (partsP Q)
 have hda : ∀ k, (partsP Q).length = k + 1 → dK P (partsP Q) k = ivD P Q := fun k h => dK_all h
 have hfg : ∀ j (h : j < (fmOf (partsP Q)).length) (h' : j < (partsP Q).length), (fmOf (partsP Q))[j] = ivOf (partsP Q)[j].1 (partsP Q)[j].2 := fun j h h' => fmOf_get h h'
 have CR := hid (fun (W : World) (h : Below w.heap.size w W) (Q' : IvP) (q' r' : Iv) (Y1 Y2 : Zone) (E F : Option Addr) (e f : Nat) (h1 : IvW Q' q') (h2 : IvN 60 Q'.1 Q'.2) (h3 : 0 < Q'.1 ∨ Q'.2 < 0) (h4 : IvW (ivD1 P Q') r') (v1 : U64s W Y1 E e q'.l0) (v2 : U64s W Y2 F f q'.l1) => icover_w hp gp h1 h2 h3 h4 (u1.below h) (u2.below h) v1 v2)
 obtain ⟨L, hL⟩ : ∃ L, L = partsP Q := ⟨_, rfl⟩
 rw [← hL] at PT hpos hLok hdk hfl hda hfg hne
 obtain ⟨n, hn⟩ : ∃ n, L.length = n := ⟨_, rfl⟩
 rw [hn] at PT hpos hfl hdk
 have hn2 : n ≤ 2 := by
  rw [← hn, hL]
  unfold partsP
  split <;> split <;> simp
 obtain ⟨HLok, Hdk, Hfl, Hda, Hfg, Hn⟩ := hid6 hLok hdk hfl hda hfg hn
 obtain ⟨Hr, Hgp, Hdz, Hds⟩ := hid4 hr gp (fun (h : 0 < L.length) => dK_zero (P := P) h) (fun (k : Nat) (h : k + 1 < L.length) => dK_succ (P := P) h)
 have hnz : ((n : Int) == 0) = false := beq_eq_false_iff_ne.2 (by omega)
 clear hg hck hb1 bR hB0 u1 u2 u3 u4 hp hq gp gq hL hLok hdk hfl hda hfg hn hr hne kp kq
 go_enter Tryz.func10, Tryz.ntmps10
 go_wp2_with fail
 refine Hck.out.mono ?_
 rintro e w1 ⟨rfl, hc⟩
 have H1 := hid (from_ Hb1.out hc)
 replace HR := hid (HR.out.below hc)
 replace HA := hid (HA.out.below hc)
 replace HBb := hid (HBb.out.below hc)
 clear a0 b0 b1 b2 b3 b4 b5 Hck Hb1
 have b0 := HBb.out.all
 clear hc
 go_wp2_with fail
 refine (PT.out _ H1.out).mono ?_
 rintro e w2 ⟨Av, cv, rfl, hat, hbv, hc⟩
 have W2 := hid (from_ H1.out hc)
 have hlt1 := HR.out.lt
 replace HR := hid (HR.out.below hc)
 replace HA := hid (HA.out.below hc)
 have hcap := hat.cap
 have hmax := hat.max
 rw [Hfl.out] at hcap
 have HROW : Hid (∀ j, j < n → ∃ (b o : Nat) (q' : Iv) (F0 : Option Addr) (f0 : Nat) (F1 : Option Addr) (f1 : Nat), Av = some ⟨b, o, none⟩ ∧ w.heap.size + 3 ≤ b ∧ b < w2.heap.size ∧ (w2.cell? ⟨b, o + j * 6, none⟩ = some (.bool q'.n0) ∧ w2.cell? ⟨b, o + j * 6 + 1, none⟩ = some (.bool q'.s0) ∧ w2.cell? ⟨b, o + j * 6 + 2, none⟩ = some (.slice F0 q'.l0.length f0) ∧ w2.cell? ⟨b, o + j * 6 + 3, none⟩ = some (.bool q'.n1) ∧ w2.cell? ⟨b, o + j * 6 + 4, none⟩ = some (.bool q'.s1) ∧ w2.cell? ⟨b, o + j * 6 + 5, none⟩ = some (.slice F1 q'.l1.length f1)) ∧ U64s w2 (new (w.heap.size + 3)) F0 f0 q'.l0 ∧ U64s w2 (new (w.heap.size + 3)) F1 f1 q'.l1 ∧ ∃ h : j < L.length, IvW L[j] q' ∧ IvN 60 L[j].1 L[j].2 ∧ (0 < L[j].1 ∨ L[j].2 < 0)) := fun j hj => by
  obtain ⟨b, o, F0, f0, F1, f1, e, hb, hcc, v0, v1⟩ := hat.at (j := j) (by rw [Hfl.out]; exact hj)
  have hjl : j < L.length := by rw [Hn.out]; exact hj
  have hbb := hbv b o e
  have h3 := HLok.out _ (List.getElem_mem hjl)
  refine ⟨b, o, _, F0, f0, F1, f1, e, by omega, hb, hcc, v0.mono (new_le (by omega)), v1.mono (new_le (by omega)), hjl, ?_, h3.1, h3.2⟩
  rw [Hfg.out j (by rw [Hfl.out]; exact hj) hjl]
  exact IvW.mk _
 obtain ⟨bl, ol, q0, F0, f0, F1, f1, rfl, hbl, hbl2, c6, v0, v1, hL0, hq0, gq0, sq0⟩ := HROW.out 0 hpos
 simp only [Nat.zero_mul, Nat.add_zero] at c6
 obtain ⟨r0, hr0⟩ : ∃ r0, IvW (ivD1 P L[0]) r0 := ⟨_, IvW.mk _⟩
 obtain ⟨HC0, Hr0⟩ := hid2 (fun (W : World) (h : Below w2.heap.size w2 W) => CR.out W (from_ W2.out h) _ _ _ _ _ _ _ _ _ hq0 gq0 sq0 hr0 (v0.below h) (v1.below h)) (show IvW (dK P L 0) r0 by rw [Hdz.out hL0]; exact hr0)
 have hi0 : (0 : Int) < (n : Int) := by omega
 have hs0 := And.intro HA.out.all c6
 have hs := cc_keep hs0 bdr_
 have Hc := hid (Below.refl w2.heap.size w2).drew
 obtain ⟨gR, hgR⟩ : ∃ gR, gR = w.heap.size + 2 := ⟨_, rfl⟩
 rw [← hgR] at HR hlt1
 have n1 : gR ≠ w.heap.size := by omega
 have n2 : gR ≠ bl := by omega
 obtain ⟨N1, N2, Hnz⟩ := hid3 n1 n2 hnz
 clear b0 hat hbv hc c6 v0 v1 hq0 gq0 sq0 hr0 PT HBb HLok Hfl Hfg
 go_upto_region 6 with fail
 simp only [show w.heap.size + 2 = gR from hgR.symm, show w.heap.size + 1 + 1 = gR from hgR.symm]
 have HGR := hid hgR
 clear hgR n1 n2
 replace HR := hid (HR.out.below bdr_)
 have Hlt2 := hid HR.out.lt
 first | go_region_held3 (fun w' => (C6 w' w.heap.size (.bool p.n0) (.bool p.s0) (.slice A p.l0.length a) (.bool p.n1) (.bool p.s1) (.slice B p.l1.length b)) ∧ (w'.cell? ⟨bl, ol, none⟩ = some (.bool q0.n0) ∧ w'.cell? ⟨bl, ol + 1, none⟩ = some (.bool q0.s0) ∧ w'.cell? ⟨bl, ol + 2, none⟩ = some (.slice F0 q0.l0.length f0) ∧ w'.cell? ⟨bl, ol + 3, none⟩ = some (.bool q0.n1) ∧ w'.cell? ⟨bl, ol + 4, none⟩ = some (.bool q0.s1) ∧ w'.cell? ⟨bl, ol + 5, none⟩ = some (.slice F1 q0.l1.length f1)))
  (first
   | with_reducible exact hs
   | (with_reducible apply cc_st6 rfl <;> (first | with_reducible exact hs | with_reducible exact N1.out | with_reducible exact N2.out)))
  ((go_at_call 32; with_reducible refine (HC0.out _ Hc.out).mono ?_; rintro e w3 ⟨E0, e0, E1, e1, rfl, o0, o1, hc2⟩; replace hs := cc_keep hs hc2; replace HR := hid (HR.out.below hc2); replace Hc := hid (from_ Hc.out hc2); obtain ⟨g0, g1, g2, g3, g4, g5, f0', f1', f2', f3', f4', f5', _⟩ := id HR.out)) | fail
 all_goals
  have hgr := HGR.out
  have hw0 : w.heap.size ≤ gR := by omega
  have hP := HR.out.put (w := w) (from_ W2.out Hc.out) hw0 (.bool r0.n0) (.bool r0.s0) (.slice E0 r0.l0.length e0) (.bool r0.n1) (.bool r0.s1) (.slice E1 r0.l1.length e1)
  obtain ⟨HPb, HPl⟩ := hid2 hP.box hP.bel
  have hl2 := Hlt2.out
  obtain ⟨U0, HJ0⟩ := hid2 (And.intro ((o0.set6 (g := gR) (fun (h : _ ≤ gR) => by omega) (.bool r0.n0) (.bool r0.s0) (.slice E0 r0.l0.length e0) (.bool r0.n1) (.bool r0.s1) (.slice E1 r0.l1.length e1)).mono (new_le (show gR + 1 ≤ _ by omega))) ((o1.set6 (g := gR) (fun (h : _ ≤ gR) => by omega) (.bool r0.n0) (.bool r0.s0) (.slice E0 r0.l0.length e0) (.bool r0.n1) (.bool r0.s1) (.slice E1 r0.l1.length e1)).mono (new_le (show gR + 1 ≤ _ by omega)))) (((((((((Just.refl gR w2).step Hc.out).setCell 0 (.bool r0.n0)).setCell 1 (.bool r0.s0)).setCell 2 (.slice E0 r0.l0.length e0)).setCell 3 (.bool r0.n1)).setCell 4 (.bool r0.s1)).setCell 5 (.slice E1 r0.l1.length e1)))
  obtain ⟨m, rfl⟩ : ∃ m, n = m + 1 := ⟨n - 1, by omega⟩
  have Hn1 := hid N1.out
  have hcap2 : m + 1 ≤ cv := hcap
  clear hP hl2 o0 o1 hgr hw0 hs Hc HR HC0 g0 g1 g2 g3 g4 g5 f0' f1' f2' f3' f4' f5'
  generalize ((((((w3.setCell ⟨gR, 0, none⟩ (.bool r0.n0)).setCell ⟨gR, 1, none⟩ (.bool r0.s0)).setCell ⟨gR, 2, none⟩ (.slice E0 r0.l0.length e0)).setCell ⟨gR, 3, none⟩ (.bool r0.n1)).setCell ⟨gR, 4, none⟩ (.bool r0.s1)).setCell ⟨gR, 5, none⟩ (.slice E1 r0.l1.length e1)) = W6 at *
  by_cases hcv1 : cv = 1
  · have hm0 : m = 0 := by omega
    have Hm0 := hid hm0
    clear hm0
    go_wp2
    have Hcv1 := hid hcv1
    subst hcv1
    go_loopw [29] (fun i wr => ∃ (k : Nat) (s : Iv) (E0 : Option Addr) (e0 : Nat) (E1 : Option Addr) (e1 : Nat), k ≤ m ∧ i = .int .i64 (k : Int) ∧ Hid (IvW (dK P L k) s) ∧ Hid (Box6 wr gR (.bool s.n0) (.bool s.s0) (.slice E0 s.l0.length e0) (.bool s.n1) (.bool s.s1) (.slice E1 s.l1.length e1)) ∧ Hid (U64s wr (new (gR + 1)) E0 e0 s.l0 ∧ U64s wr (new (gR + 1)) E1 e1 s.l1) ∧ Hid (Just gR w2 wr) ∧ Below w.heap.size w wr) (fun i _ => m - (intOf i).toNat)
    case atStart => exact ⟨0, r0, _, _, _, _, Nat.zero_le _, rfl, Hr0, HPb, U0, HJ0, HPl.out⟩
    case round =>
     clear HPb HPl U0 HJ0
     obtain ⟨k, s, E0, e0, E1, e1, hk, rfl, Hs, HB7, HU, HJ, hbel⟩ := hrel
     by_cases hlt : k < m
     · exfalso; have := Hm0.out; omega
     · obtain rfl : k = m := by omega
       have hsr : IvW (ivD P Q) s := by rw [← Hda.out k Hn.out]; exact Hs.out
       obtain rfl := IvW.uniq Hr.out hsr
       have hgr := HGR.out
       have hw0 : w.heap.size ≤ gR := by omega
       obtain ⟨HP, U1, U2⟩ := hid3 (HB7.out.put (w := w) hbel hw0 (.bool r.n0) (.bool r.s0) (.slice E0 r.l0.length e0) (.bool r.n1) (.bool r.s1) (.slice E1 r.l1.length e1)) ((HU.out.1.set6 (g := gR) (fun (h : gR + 1 ≤ gR) => by omega) (.bool r.n0) (.bool r.s0) (.slice E0 r.l0.length e0) (.bool r.n1) (.bool r.s1) (.slice E1 r.l1.length e1)).mono (new_le (show w.heap.size ≤ gR + 1 by omega))) ((HU.out.2.set6 (g := gR) (fun (h : gR + 1 ≤ gR) => by omega) (.bool r.n0) (.bool r.s0) (.slice E0 r.l0.length e0) (.bool r.n1) (.bool r.s1) (.slice E1 r.l1.length e1)).mono (new_le (show w.heap.size ≤ gR + 1 by omega)))
       obtain ⟨g0, g1, g2, g3, g4, g5, f0', f1', f2', f3', f4', f5', _⟩ := id HB7.out
       clear hgr hw0 hsr
       go_wp2
       refine bodyPost_ret (res_itv2 rfl _ gR rfl HP.out.box) rfl ?_
       exact ⟨_, _, _, _, rfl, U1.out, U2.out, HP.out.bel⟩
  · have hcvn : ¬ (cv - 1 = 0) := by omega
    go_wp2
    have Hcv1 := hid hcv1
    clear hcv1 hcvn
    go_loopw [29] (fun i wr => ∃ (k : Nat) (s : Iv) (E0 : Option Addr) (e0 : Nat) (E1 : Option Addr) (e1 : Nat), k ≤ m ∧ i = .int .i64 (k : Int) ∧ Hid (IvW (dK P L k) s) ∧ Hid (Box6 wr gR (.bool s.n0) (.bool s.s0) (.slice E0 s.l0.length e0) (.bool s.n1) (.bool s.s1) (.slice E1 s.l1.length e1)) ∧ Hid (U64s wr (new (gR + 1)) E0 e0 s.l0 ∧ U64s wr (new (gR + 1)) E1 e1 s.l1) ∧ Hid (Just gR w2 wr) ∧ Below w.heap.size w wr) (fun i _ => m - (intOf i).toNat)
    case atStart => exact ⟨0, r0, _, _, _, _, Nat.zero_le _, rfl, Hr0, HPb, U0, HJ0, HPl.out⟩
    case round =>
     clear HPb HPl U0 HJ0
     obtain ⟨k, s, E0, e0, E1, e1, hk, rfl, Hs, HB7, HU, HJ, hbel⟩ := hrel
     by_cases hlt : k < m
     · obtain ⟨b, o, q1, G0, d0, G1, d1, e, hb3, hblt, c6, v0, v1, hLk, hqk, gqk, sqk⟩ := HROW.out (k + 1) (by omega)
       injection e with e
       injection e with e1 e2
       subst e1 e2
       rw [show ol + (k + 1) * 6 = ol + 6 + k * 6 by omega] at c6
       have hgr := HGR.out
       obtain ⟨r1, hr1⟩ : ∃ r1, IvW (ivD1 P L[k + 1]) r1 := ⟨_, IvW.mk _⟩
       obtain ⟨s2, hs2⟩ : ∃ s2, IvW (dK P L (k + 1)) s2 := ⟨_, IvW.mk _⟩
       have hgs := Hdk.out k (by omega)
       have hJ := HJ.out
       have c7 := six_just hJ (show bl ≠ gR by omega) c6
       have a7 := six_just0 hJ (show w.heap.size ≠ gR by omega) HA.out.all
       have w0 := hJ.words (show ¬ (new (w.heap.size + 3)).blk gR from fun (h : w.heap.size + 3 ≤ gR) => by omega) v0
       have w1' := hJ.words (show ¬ (new (w.heap.size + 3)).blk gR from fun (h : w.heap.size + 3 ≤ gR) => by omega) v1
       have hi3 : (k : Int) < (m : Int) := by omega
       obtain ⟨x0, x1, x2, x3, x4, x5⟩ := id c7
       obtain ⟨CRk, JNk, Ha7, Hs2⟩ := hid4 (fun (W : World) (h : Below wr.heap.size wr W) => CR.out W (from_ hbel h) _ _ _ _ _ _ _ _ _ hqk gqk sqk hr1 (w0.below h) (w1'.below h)) (fun (W : World) (Z5 Z6 : Zone) (E F : Option Addr) (e f : Nat) (h : Below wr.heap.size wr W) (g0 : U64s W Z5 E e r1.l0) (g1 : U64s W Z6 F f r1.l1) => ijoin2_w Hs.out hgs (by omega) hr1 (ivD1_ok Hgp.out gqk sqk (by omega)) (by omega) (by rw [← Hds.out k hLk]; exact hs2) (HU.out.1.below h) (HU.out.2.below h) g0 g1) a7 hs2
       have hax : Below wr.heap.size wr (wr.alloc (.cells #[.bool q1.n0, .bool q1.s0, .slice G0 q1.l0.length d0, .bool q1.n1, .bool q1.s1, .slice G1 q1.l1.length d1] 29)) := (Below.refl _ _).alloc (Nat.le_refl _) _
       obtain ⟨Hgb, Hwr⟩ := hid2 (HB7.out.lt) hbel.size
       clear c6 v0 v1 hqk gqk sqk hr1 hs2 hgs hJ c7 a7 w0 w1' hgr
       go_upto_region 10 with fail
       have B8 := hid (Box6.new wr (.bool q1.n0) (.bool q1.s0) (.slice G0 q1.l0.length d0) (.bool q1.n1) (.bool q1.s1) (.slice G1 q1.l1.length d1) 29)
       obtain ⟨g8, hg8⟩ : ∃ g8, g8 = wr.heap.size := ⟨_, rfl⟩
       rw [← hg8] at B8
       have ne8 : gR ≠ g8 := by have := Hgb.out; omega
       obtain ⟨Hne8, Hax, Ha8, HB8⟩ := hid4 ne8 hax (six_keep0 Ha7.out hax) (HB7.out.below hax)
       clear hax ne8 Ha7
       generalize hV : wr.alloc (.cells #[.bool q1.n0, .bool q1.s0, .slice G0 q1.l0.length d0, .bool q1.n1, .bool q1.s1, .slice G1 q1.l1.length d1] 29) = V at *
       try simp only [← hg8]
       clear hV hg8 x0 x1 x2 x3 x4 x5
       have HT := And.intro (And.intro (six_keep0 Ha8.out bdr_) (B8.out.below bdr_).all) (HB8.out.below bdr_).all
       have Hc := hid (from_ Hax.out (Below.refl V.heap.size V).drew)
       have Hcv := hid (Below.refl V.heap.size V).drew
       refine wp_region_L (fun w' : World => (C6 w' w.heap.size (.bool p.n0) (.bool p.s0) (.slice A p.l0.length a) (.bool p.n1) (.bool p.s1) (.slice B p.l1.length b)) ∧ (C6 w' g8 (.bool q1.n0) (.bool q1.s0) (.slice G0 q1.l0.length d0) (.bool q1.n1) (.bool q1.s1) (.slice G1 q1.l1.length d1))) (fun w' : World => C6 w' gR (.bool s.n0) (.bool s.s0) (.slice E0 s.l0.length e0) (.bool s.n1) (.bool s.s1) (.slice E1 s.l1.length e1)) 4 (by kernel_rfl) ?_
       show wpAnyL _ _ _ _ _ _ _ 6 _ _ _
       refine wpAnyL_take (i := 0) (v := ?_) rfl (by kernel_rfl) (by kernel_rfl) (by kernel_rfl) (fun _ _ _ h => h) (by kernel_rfl) (by rfl) (by rfl) (Or.inl ⟨by rfl, ?_⟩) HT ?_
       rotate_left
       · intro w' hSw; (try dsimp only at hSw); go_simp; (try with_reducible rfl)
       try simp only [Act.put, List.setIfInBounds_toArray, List.set_cons_zero, List.set_cons_succ]
       refine wpAnyL_takeA (i := 1) (v := ?_) rfl (by kernel_rfl) (by kernel_rfl) (by kernel_rfl) (fun _ _ _ h => h) (by rfl) (Or.inl ⟨by rfl, ?_⟩) HT ?_
       rotate_left
       · intro w' hSw; (try dsimp only at hSw); go_simp; (try with_reducible rfl)
       try simp only [Act.put, List.setIfInBounds_toArray, List.set_cons_zero, List.set_cons_succ]
       refine wpAnyL_takeA (i := 2) (v := ?_) rfl (by kernel_rfl) (by kernel_rfl) (by kernel_rfl) (fun _ _ _ h => h) (by rfl) (Or.inl ⟨by rfl, ?_⟩) HT ?_
       rotate_left
       · intro w' hSw; (try dsimp only at hSw); go_simp; (try with_reducible rfl)
       try simp only [Act.put, List.setIfInBounds_toArray, List.set_cons_zero, List.set_cons_succ]
       refine anyL_one (i := 3) (by kernel_rfl) (wpOp_step rfl (by rfl) fun K hK => ?_)
       go_simp
       refine (CRk.out _ Hc.out).mono ?_
       rintro e w4 ⟨X0, t0, X1, t1, rfl, o0, o1, hc2⟩
       have tA := And.intro (six_keep0 HT.1.1 hc2) (six_keep0 HT.1.2 hc2)
       have tT := six_keep0 HT.2 hc2
       replace HB8 := hid ((HB8.out.below bdr_).below hc2)
       replace Hc := hid (from_ Hc.out hc2)
       refine hK _ _ ⟨⟨tA, fun _ => tT⟩, ?_⟩
       clear hK K hc2 HT tT
       try simp only [Act.put, List.setIfInBounds_toArray, List.set_cons_zero, List.set_cons_succ]
       refine anyL_last (by kernel_rfl) (by rfl) (wpOp_step rfl (by rfl) fun K hK => ?_)
       go_simp
       refine (JNk.out _ _ _ _ _ _ _ Hc.out o0 o1).mono ?_
       rintro e w5 ⟨Y0, y0, Y1, y1, rfl, n0, n1, hc2⟩
       have tB := And.intro (six_keep0 tA.1 hc2) (six_keep0 tA.2 hc2)
       replace HB8 := hid (HB8.out.below hc2)
       have Hc5 := hid (from_ Hc.out hc2)
       have hsz4 := Hc.out.size
       obtain ⟨g0, g1, g2, g3, g4, g5, f0', f1', f2', f3', f4', f5', _⟩ := id HB8.out
       refine hK _ _ ⟨tB, ?_⟩
       clear hK K hc2 tA o0 o1
       try simp only [Act.put, List.setIfInBounds_toArray, List.set_cons_zero, List.set_cons_succ]
       refine anyH_one (i := 5) (by kernel_rfl) (wpOp_step rfl (by rfl) fun K hK => ?_)
       go_simp
       refine hK _ _ ⟨⟨st6_0 Hn1.out tB.1, st6_0 Hne8.out tB.2⟩, ?_⟩
       clear hK K tB g0 g1 g2 g3 g4 g5 f0' f1' f2' f3' f4' f5'
       try simp only [Act.put, List.setIfInBounds_toArray, List.set_cons_zero, List.set_cons_succ]
       refine wpAnyH_done (by kernel_rfl) ?_ _
       all_goals
        have hgr := HGR.out
        have hw0 : w.heap.size ≤ gR := by omega
        have hP := HB8.out.put (w := w) (from_ hbel Hc5.out) hw0 (.bool s2.n0) (.bool s2.s0) (.slice Y0 s2.l0.length y0) (.bool s2.n1) (.bool s2.s1) (.slice Y1 s2.l1.length y1)
        obtain ⟨HPb, HPl⟩ := hid2 hP.box hP.bel
        have hgw : ¬ (w4.heap.size ≤ gR) := by have := Hgb.out; omega
        have hgw2 : gR + 1 ≤ w4.heap.size := by have := Hgb.out; omega
        obtain ⟨Un, HJ2⟩ := hid2 (And.intro ((n0.set6 (g := gR) hgw (.bool s2.n0) (.bool s2.s0) (.slice Y0 s2.l0.length y0) (.bool s2.n1) (.bool s2.s1) (.slice Y1 s2.l1.length y1)).mono (new_le hgw2)) ((n1.set6 (g := gR) hgw (.bool s2.n0) (.bool s2.s0) (.slice Y0 s2.l0.length y0) (.bool s2.n1) (.bool s2.s1) (.slice Y1 s2.l1.length y1)).mono (new_le hgw2))) ((((((((HJ.out.step Hc5.out).setCell 0 (.bool s2.n0)).setCell 1 (.bool s2.s0)).setCell 2 (.slice Y0 s2.l0.length y0)).setCell 3 (.bool s2.n1)).setCell 4 (.bool s2.s1)).setCell 5 (.slice Y1 s2.l1.length y1)))
        clear hP hgw hgw2 n0 n1 hgr hw0 hsz4
        go_wp2
        go_roundw
        case rel => exact ⟨k + 1, by omega, by go_num, s2, Hs2, _, _, _, _, HPb, Un, HPl.out⟩
        case measure => simp [intOf]; omega
     · obtain rfl : k = m := by omega
       have hsr : IvW (ivD P Q) s := by rw [← Hda.out k Hn.out]; exact Hs.out
       obtain rfl := IvW.uniq Hr.out hsr
       have hgr := HGR.out
       have hw0 : w.heap.size ≤ gR := by omega
       obtain ⟨HP, U1, U2⟩ := hid3 (HB7.out.put (w := w) hbel hw0 (.bool r.n0) (.bool r.s0) (.slice E0 r.l0.length e0) (.bool r.n1) (.bool r.s1) (.slice E1 r.l1.length e1)) ((HU.out.1.set6 (g := gR) (fun (h : gR + 1 ≤ gR) => by omega) (.bool r.n0) (.bool r.s0) (.slice E0 r.l0.length e0) (.bool r.n1) (.bool r.s1) (.slice E1 r.l1.length e1)).mono (new_le (show w.heap.size ≤ gR + 1 by omega))) ((HU.out.2.set6 (g := gR) (fun (h : gR + 1 ≤ gR) => by omega) (.bool r.n0) (.bool r.s0) (.slice E0 r.l0.length e0) (.bool r.n1) (.bool r.s1) (.slice E1 r.l1.length e1)).mono (new_le (show w.heap.size ≤ gR + 1 by omega)))
       obtain ⟨g0, g1, g2, g3, g4, g5, f0', f1', f2', f3', f4', f5', _⟩ := id HB7.out
       clear hgr hw0 hsr
       go_wp2
       refine bodyPost_ret (res_itv2 rfl _ gR rfl HP.out.box) rfl ?_
       exact ⟨_, _, _, _, rfl, U1.out, U2.out, HP.out.bel⟩
theorem Box6.oth1 {a b c d : Value} (h : Box6 W g a b c d e f) {k j : Nat} (hn : k ≠ g) (v : Value) : Box6 (W.setCell ⟨k, j, none⟩ v) g a b c d e f := by
 obtain ⟨h0, h1, h2, h3, h4, h5, f0, f1, f2, f3, f4, f5, hl⟩ := h
 refine ⟨?_, ?_, ?_, ?_, ?_, ?_, ?_, ?_, ?_, ?_, ?_, ?_, ?_⟩
 · rw [World.cell?_setCell_other _ _ _ _ (fun e => hn (by injection e))]; exact h0
 · rw [World.cell?_setCell_other _ _ _ _ (fun e => hn (by injection e))]; exact h1
 · rw [World.cell?_setCell_other _ _ _ _ (fun e => hn (by injection e))]; exact h2
 · rw [World.cell?_setCell_other _ _ _ _ (fun e => hn (by injection e))]; exact h3
 · rw [World.cell?_setCell_other _ _ _ _ (fun e => hn (by injection e))]; exact h4
 · rw [World.cell?_setCell_other _ _ _ _ (fun e => hn (by injection e))]; exact h5
 · exact (World.frozen?_setCell _ _ _ _).trans f0
 · exact (World.frozen?_setCell _ _ _ _).trans f1
 · exact (World.frozen?_setCell _ _ _ _).trans f2
 · exact (World.frozen?_setCell _ _ _ _).trans f3
 · exact (World.frozen?_setCell _ _ _ _).trans f4
 · exact (World.frozen?_setCell _ _ _ _).trans f5
 · simpa [World.setCell] using hl
theorem Box6.other3 {a b c d : Value} (H : Box6 W g a b c d e f) (hn : h ≠ g) (x y z : Value) : Box6 (((W.setCell ⟨h, 0, none⟩ x).setCell ⟨h, 1, none⟩ y).setCell ⟨h, 2, none⟩ z) g a b c d e f := ((H.oth1 hn x).oth1 hn y).oth1 hn z
theorem k6_keep (hs : C6 W g a0 a1 a2 a3 a4 a5) (hb : Below W.heap.size W V) : C6 V g a0 a1 a2 a3 a4 a5 := ⟨keepC hb hs.1, keepC hb hs.2.1, keepC hb hs.2.2.1, keepC hb hs.2.2.2.1, keepC hb hs.2.2.2.2.1, keepC hb hs.2.2.2.2.2⟩
theorem k6_al {o : Obj} (e : V = W.alloc o) (hs : C6 W g a0 a1 a2 a3 a4 a5) : C6 V g a0 a1 a2 a3 a4 a5 := by
 subst e
 exact k6_keep hs bal_
theorem k6_dr (e : V = W.drew) (hs : C6 W g a0 a1 a2 a3 a4 a5) : C6 V g a0 a1 a2 a3 a4 a5 := by
 subst e
 exact k6_keep hs bdr_
theorem k6_st3 {r : Nat} (e : V = (((W.setCell ⟨r, 0, none⟩ x0).setCell ⟨r, 1, none⟩ x1).setCell ⟨r, 2, none⟩ x2)) (hg : r ≠ g) (hs : C6 W g a0 a1 a2 a3 a4 a5) : C6 V g a0 a1 a2 a3 a4 a5 := by
 subst e
 exact ⟨st3 hs.1 hg, st3 hs.2.1 hg, st3 hs.2.2.1 hg, st3 hs.2.2.2.1 hg, st3 hs.2.2.2.2.1 hg, st3 hs.2.2.2.2.2 hg⟩
theorem k3_keep (hs : C3 W h b0 b1 b2) (hb : Below W.heap.size W V) : C3 V h b0 b1 b2 := ⟨keepC hb hs.1, keepC hb hs.2.1, keepC hb hs.2.2⟩
theorem k3_al {o : Obj} (e : V = W.alloc o) (hs : C3 W h b0 b1 b2) : C3 V h b0 b1 b2 := by
 subst e
 exact k3_keep hs bal_
theorem k3_dr (e : V = W.drew) (hs : C3 W h b0 b1 b2) : C3 V h b0 b1 b2 := by
 subst e
 exact k3_keep hs bdr_
theorem k3_st3 {r : Nat} (e : V = (((W.setCell ⟨r, 0, none⟩ x0).setCell ⟨r, 1, none⟩ x1).setCell ⟨r, 2, none⟩ x2)) (hh : r ≠ h) (hs : C3 W h b0 b1 b2) : C3 V h b0 b1 b2 := by
 subst e
 exact ⟨st3 hs.1 hh, st3 hs.2.1 hh, st3 hs.2.2 hh⟩
theorem k9_keep (hs : D6 W g a0 a1 a2 a3 a4 a5 (C3 W h b0 b1 b2)) (hb : Below W.heap.size W V) : D6 V g a0 a1 a2 a3 a4 a5 (C3 V h b0 b1 b2) := ⟨keepC hb hs.1, keepC hb hs.2.1, keepC hb hs.2.2.1, keepC hb hs.2.2.2.1, keepC hb hs.2.2.2.2.1, keepC hb hs.2.2.2.2.2.1, keepC hb hs.2.2.2.2.2.2.1, keepC hb hs.2.2.2.2.2.2.2.1, keepC hb hs.2.2.2.2.2.2.2.2⟩
theorem k9_al {o : Obj} (e : V = W.alloc o) (hs : D6 W g a0 a1 a2 a3 a4 a5 (C3 W h b0 b1 b2)) : D6 V g a0 a1 a2 a3 a4 a5 (C3 V h b0 b1 b2) := by
 subst e
 exact k9_keep hs bal_
theorem k9_dr (e : V = W.drew) (hs : D6 W g a0 a1 a2 a3 a4 a5 (C3 W h b0 b1 b2)) : D6 V g a0 a1 a2 a3 a4 a5 (C3 V h b0 b1 b2) := by
 subst e
 exact k9_keep hs bdr_
theorem k9_st3 {r : Nat} (e : V = (((W.setCell ⟨r, 0, none⟩ x0).setCell ⟨r, 1, none⟩ x1).setCell ⟨r, 2, none⟩ x2)) (hg : r ≠ g) (hh : r ≠ h) (hs : D6 W g a0 a1 a2 a3 a4 a5 (C3 W h b0 b1 b2)) : D6 V g a0 a1 a2 a3 a4 a5 (C3 V h b0 b1 b2) := by
 subst e
 exact ⟨st3 hs.1 hg, st3 hs.2.1 hg, st3 hs.2.2.1 hg, st3 hs.2.2.2.1 hg, st3 hs.2.2.2.2.1 hg, st3 hs.2.2.2.2.2.1 hg, st3 hs.2.2.2.2.2.2.1 hh, st3 hs.2.2.2.2.2.2.2.1 hh, st3 hs.2.2.2.2.2.2.2.2 hh⟩
theorem imod_w (hp : IvW P p) (gp : IvN 60 P.1 P.2) (hq : IvW Q q) (gq : IvN 60 Q.1 Q.2) (u1 : U64s w Z1 A a p.l0) (u2 : U64s w Z2 B b p.l1) (u3 : U64s w Z3 C c q.l0) (u4 : U64s w Z4 D d q.l1) (hne : partsP Q ≠ []) (hr : IvW (modP P Q) r) :
  Calls Tryz.prog 12 #[.agg #[.bool p.n0, .bool p.s0, .slice A p.l0.length a, .bool p.n1, .bool p.s1, .slice B p.l1.length b], .agg #[.bool q.n0, .bool q.s0, .slice C q.l0.length c, .bool q.n1, .bool q.s1, .slice D q.l1.length d]] w fun e w' => ∃ rA ra rB rb, e = .returned (.tuple #[.agg #[.bool r.n0, .bool r.s0, .slice rA r.l0.length ra, .bool r.n1, .bool r.s1, .slice rB r.l1.length rb], .int .i64 0]) ∧ U64s w' (new w.heap.size) rA ra r.l0 ∧ U64s w' (new w.heap.size) rB rb r.l1 ∧ Below w.heap.size w w' := by
 obtain ⟨rn0, rs0, rl0, rn1, rs1, rl1⟩ := r
 dsimp only
 obtain ⟨bA, bB, bR, hB0⟩ := boxX w (.bool p.n0) (.bool p.s0) (.slice A p.l0.length a) (.bool p.n1) (.bool p.s1) (.slice B p.l1.length b) (.bool q.n0) (.bool q.s0) (.slice C q.l0.length c) (.bool q.n1) (.bool q.s1) (.slice D q.l1.length d) (.bool false) (.bool false) (.slice none 0 0) (.bool false) (.bool false) (.slice none 0 0) 29
 have hb1 := hB0.alloc hB0.size (.cells #[.bool p.n0, .bool p.s0, .slice A p.l0.length a, .bool p.n1, .bool p.s1, .slice B p.l1.length b, .bool q.n0, .bool q.s0, .slice C q.l0.length c, .bool q.n1, .bool q.s1, .slice D q.l1.length d] 29)
 have hg := given_twoA (p := p) (q := q) (ty := 29) (u1.below hB0) (u2.below hB0) (u3.below hB0) (u4.below hB0)
 rw [show (((w.alloc (.cells #[.bool p.n0, .bool p.s0, .slice A p.l0.length a, .bool p.n1, .bool p.s1, .slice B p.l1.length b] 29)).alloc (.cells #[.bool q.n0, .bool q.s0, .slice C q.l0.length c, .bool q.n1, .bool q.s1, .slice D q.l1.length d] 29)).alloc (.cells #[.bool false, .bool false, .slice none 0 0, .bool false, .bool false, .slice none 0 0] 29)).heap.size = w.heap.size + 3 by simp] at hg
 have kp := hp.k gp (by omega)
 have kq := hq.k gq (by omega)
 have hck := ichecked_any (n := 2) (c := 2) hg rfl (by simp) (by intro p' hp'; simp only [List.mem_cons, List.not_mem_nil, or_false] at hp'; rcases hp' with rfl | rfl <;> exact ⟨by have := kp.q0; have := kq.q0; omega, by have := kp.q1; have := kq.q1; omega⟩)
 rw [errAs_two, if_pos ⟨kp.ok, kq.ok⟩] at hck
 obtain ⟨HA, HBb, HR, Hck, Hb1⟩ := hid5 (bA.alloc (.cells #[.bool p.n0, .bool p.s0, .slice A p.l0.length a, .bool p.n1, .bool p.s1, .slice B p.l1.length b, .bool q.n0, .bool q.s0, .slice C q.l0.length c, .bool q.n1, .bool q.s1, .slice D q.l1.length d] 29)) (bB.alloc (.cells #[.bool p.n0, .bool p.s0, .slice A p.l0.length a, .bool p.n1, .bool p.s1, .slice B p.l1.length b, .bool q.n0, .bool q.s0, .slice C q.l0.length c, .bool q.n1, .bool q.s1, .slice D q.l1.length d] 29)) (bR.alloc (.cells #[.bool p.n0, .bool p.s0, .slice A p.l0.length a, .bool p.n1, .bool p.s1, .slice B p.l1.length b, .bool q.n0, .bool q.s0, .slice C q.l0.length c, .bool q.n1, .bool q.s1, .slice D q.l1.length d] 29)) hck hb1
 obtain ⟨a0, a1, a2, a3, a4, a5, _, _, _, _, _, _, _⟩ := bA
 obtain ⟨b0, b1, b2, b3, b4, b5, _, _, _, _, _, _, _⟩ := bB
 have PT := hid (fun (W : World) (h : Below w.heap.size w W) => iparted_w hq gq (by omega) (u3.below h) (u4.below h))
 have h1 := kp.ok
 have h2 := kq.ok
 have q1 : p.l0.length ≤ 60 := by have := kp.q0; omega
 have q2 : p.l1.length ≤ 60 := by have := kp.q1; omega
 have q3 : q.l0.length ≤ 60 := by have := kq.q0; omega
 have q4 : q.l1.length ≤ 60 := by have := kq.q1; omega
 obtain ⟨ea1, ea2⟩ := okA_ends h1
 obtain ⟨eb1, eb2⟩ := okA_ends h2
 obtain ⟨x1, xs1, xl1, xA1, xc1, P1⟩ := Plc.ex (-1) p.n0 p.s0 p.l0 A a
 obtain ⟨x2, xs2, xl2, xA2, xc2, P2⟩ := Plc.ex 1 p.n1 p.s1 p.l1 B b
 obtain ⟨x3, xs3, xl3, xA3, xc3, P3⟩ := Plc.ex (-1) q.n0 q.s0 q.l0 C c
 obtain ⟨x4, xs4, xl4, xA4, xc4, P4⟩ := Plc.ex 1 q.n1 q.s1 q.l1 D d
 have p1 := P1.lo ea1 u1.small q1
 have p2 := P2.hi ea2 u2.small q2
 have p3 := P3.lo eb1 u3.small q3
 have p4 := P4.hi eb2 u4.small q4
 have r1 := P1.len
 have r2 := P2.len
 have r3 := P3.len
 have r4 := P4.len
 have v1 := P1.u64s u1
 have v2 := P2.u64s u2
 have v3 := P3.u64s u3
 have v4 := P4.u64s u4
 have i1 := lo_range (n := p.n0) (s := p.s0) u1.small q1
 have i2 := hi_range (n := p.n1) (s := p.s1) u2.small q2
 have i3 := lo_range (n := q.n0) (s := q.s0) u3.small q3
 have i4 := hi_range (n := q.n1) (s := q.s1) u4.small q4
 obtain ⟨L1, L2, L3, L4⟩ := hid4 (fun (W : World) => ilow_p (w := W) (v3 := .bool p.n1) (v4 := .bool p.s1) (v5 := .slice B p.l1.length b) P1) (fun (W : World) => ihigh_p (w := W) (v3 := .bool p.n0) (v4 := .bool p.s0) (v5 := .slice A p.l0.length a) P2) (fun (W : World) => ilow_p (w := W) (v3 := .bool q.n1) (v4 := .bool q.s1) (v5 := .slice D q.l1.length d) P3) (fun (W : World) => ihigh_p (w := W) (v3 := .bool q.n0) (v4 := .bool q.s0) (v5 := .slice C q.l0.length c) P4)
 rw [kp.lo] at p1
 rw [kp.hi] at p2
 rw [kq.lo] at p3
 rw [kq.hi] at p4
 have hn0 : ¬ (Q.1 = 0 ∧ Q.2 = 0) := fun h => hne ((parts_nil gq.le).2 h)
 obtain ⟨em, em0, ez, ez1⟩ := modM_ok gq hn0 (by omega)
 have gr := ivn_mod gp gq hn0 (by omega)
 obtain ⟨tb, ts, tl, pt⟩ : ∃ b s l, Pl (-Q.1) b s l := ⟨_, _, _, Pl.all (gq.lo.neg.range (by omega))⟩
 have tlen := pt.len_of gq.lo.neg
 obtain ⟨zb, zs, zl, pz⟩ : ∃ b s l, Pl (max (-Q.1) Q.2) b s l := ⟨_, _, _, Pl.all (ez.range (by omega))⟩
 have zlen := pz.len_of ez
 obtain ⟨mb, ms, ml, pm⟩ : ∃ b s l, Pl (modM Q) b s l := ⟨_, _, _, Pl.all (em.range (by omega))⟩
 have mlen := pm.len_of em
 obtain ⟨vb, vs, vl, pv⟩ : ∃ b s l, Pl (-modM Q) b s l := ⟨_, _, _, Pl.all (em.neg.range (by omega))⟩
 have vlen := pv.len_of em.neg
 have ex : Ext bigZ (wN 60) (max P.1 (-modM Q)) := ext_max gp.lo em.neg
 have ey : Ext bigZ (wN 60) (min P.2 (modM Q)) := ext_min gp.hi em
 obtain ⟨xb, xs, xl, px⟩ : ∃ b s l, Pl (max P.1 (-modM Q)) b s l := ⟨_, _, _, Pl.all (ex.range (by omega))⟩
 have xlen := px.len_of ex
 obtain ⟨yb, ys, yl, py⟩ : ∃ b s l, Pl (min P.2 (modM Q)) b s l := ⟨_, _, _, Pl.all (ey.range (by omega))⟩
 have ylen := py.len_of ey
 have hb1 := big_one
 obtain ⟨os, ol, onm⟩ : ∃ s l, Nm (-1 : Int) s l := ⟨_, _, rfl, rfl⟩
 have olen : ol.length ≤ 1 := by rw [onm.2]; exact len_limbs_le (by decide)
 have pone : Pl (-1) 0 os ol := .inl ⟨rfl, onm, by omega, by omega⟩
 obtain ⟨TN, GR, OF, PL, TM, GX⟩ := hid6 (fun (W : World) (h : Below w.heap.size w W) => iturned_p p3 pt (v3.below h) (by omega)) (fun (W : World) (Z : Zone) (D : Option Addr) (d : Nat) (h : Below w.heap.size w W) (u : U64s W Z D d tl) => igreatest_q pt p4 pz rfl u (v4.below h) (by omega) (by omega)) (fun (W : World) => wof_p (w := W) onm (by omega)) (fun (W : World) (Z1 Z2 : Zone) (D E : Option Addr) (d e : Nat) (u : U64s W Z1 D d zl) (v : U64s W Z2 E e ol) => iplus_p pz pone pm rfl ⟨by omega, by omega⟩ u v (by omega) (by omega)) (fun (W : World) (Z : Zone) (D : Option Addr) (d : Nat) (u : U64s W Z D d ml) => iturned_p pm pv u (by omega)) (fun (W : World) (Z : Zone) (D : Option Addr) (d : Nat) (h : Below w.heap.size w W) (u : U64s W Z D d vl) => igreatest_q p1 pv px rfl (v1.below h) u (by omega) (by omega))
 have LY := hid (fun (W : World) (Z : Zone) (D : Option Addr) (d : Nat) (h : Below w.heap.size w W) (u : U64s W Z D d ml) => ileast_q p2 pm py rfl (v2.below h) u (by omega) (by omega))
 obtain ⟨sg2, hsg2⟩ : ∃ g, sgn P.2 = g := ⟨_, rfl⟩
 obtain ⟨sg1, hsg1⟩ : ∃ g, sgn P.1 = g := ⟨_, rfl⟩
 obtain ⟨SG2, SG1, Hpx, Hpy, Hgr, Hr⟩ := hid6 (fun (W : World) (h : Below w.heap.size w W) => isign_p p2 hsg2 (v2.below h)) (fun (W : World) (h : Below w.heap.size w W) => isign_p p1 hsg1 (v1.below h)) px py gr hr
 obtain ⟨Hs1, Hs2, HXl, HYl⟩ := hid4 hsg1 hsg2 xlen ylen
 obtain ⟨n, hn⟩ : ∃ n, (partsP Q).length = n := ⟨_, rfl⟩
 have hpos : 0 < n := by rw [← hn]; exact List.length_pos_iff.2 hne
 have hnz : ((n : Int) == 0) = false := beq_eq_false_iff_ne.2 (by omega)
 have Hnz := hid hnz
 rw [hn] at PT
 clear hg hck hb1 bR hB0 u1 u2 u3 u4 hp hq gp gq hn hr hne kp kq h1 h2 q1 q2 q3 q4 ea1 ea2 eb1 eb2 P1 P2 P3 P4 p1 p2 p3 p4 r1 r2 r3 r4 v1 v2 v3 v4 i1 i2 i3 i4 hn0 em em0 ez ez1 gr pt tlen pz zlen pm mlen pv vlen ex ey px xlen py ylen pone onm olen hsg1 hsg2 hpos
 go_enter Tryz.func12, Tryz.ntmps12
 go_wp2_with fail
 refine Hck.out.mono ?_
 rintro e w1 ⟨rfl, hc⟩
 have H1 := hid (from_ Hb1.out hc)
 replace HR := hid (HR.out.below hc)
 replace HA := hid (HA.out.below hc)
 replace HBb := hid (HBb.out.below hc)
 clear a0 a1 a2 a3 a4 a5 b0 b1 b2 b3 b4 b5 Hck Hb1
 have b0 := HBb.out.all
 clear hc
 go_wp2_with fail
 refine (PT.out _ H1.out).mono ?_
 rintro e w2 ⟨Av, cv, rfl, hat, hbv, hc⟩
 have W2 := hid (from_ H1.out hc)
 replace HR := hid (HR.out.below hc)
 replace HA := hid (HA.out.below hc)
 replace HBb := hid (HBb.out.below hc)
 clear b0 hat hbv hc PT
 go_upto_region 6 with fail
 replace TN := hid (fun (W : World) (h : Below w2.heap.size w2 W) => TN.out W (from_ W2.out h))
 replace GR := hid (fun (W : World) (Z : Zone) (D : Option Addr) (d : Nat) (h : Below w2.heap.size w2 W) (u : U64s W Z D d tl) => GR.out W Z D d (from_ W2.out h) u)
 have hltb := HBb.out.lt
 have hs0 := HBb.out.all
 have hs := k6_keep hs0 bdr_
 have Hc0 := hid (Below.refl w2.heap.size w2)
 have Hc := hid (Below.refl w2.heap.size w2).drew
 go_cut [7] (fun s7 wx => ∃ (g : Nat) (A' : Option Addr) (c' : Nat), s7 = .pointer (some ⟨g, 0, none⟩) ∧ Res1 w2 wx g zb zs zl A' c')
 case first =>
  first | go_region_held3 (fun w' => C6 w' (w.heap.size + 1) (.bool q.n0) (.bool q.s0) (.slice C q.l0.length c) (.bool q.n1) (.bool q.s1) (.slice D q.l1.length d))
   ((repeat' (first | with_reducible apply k6_al rfl | with_reducible apply k6_st3 rfl)) <;> (first | with_reducible exact hs | (with_reducible apply k6_dr rfl; (repeat' (with_reducible apply k6_al rfl)); with_reducible exact hs0) | omega))
   (((first
    | (go_at_call 28; (with_reducible refine (L3.out _).mono ?_); rintro e w2 ⟨rfl, hc2⟩)
    | (go_at_call 40; (first | (with_reducible refine (TN.out _ Hc.out).mono ?_) | (with_reducible refine (TN.out _ (from_ Hc.out bal_)).mono ?_) | (with_reducible refine (TN.out _ (from_ (from_ Hc.out bal_) bal_)).mono ?_) | (with_reducible refine (TN.out _ (from_ (from_ Hc0.out bal_) bdr_)).mono ?_) | (with_reducible refine (TN.out _ (from_ (from_ (from_ Hc0.out bal_) bal_) bdr_)).mono ?_)); rintro e w2 ⟨D3, d3, rfl, ut, hc2⟩)
    | (go_at_call 29; (with_reducible refine (L4.out _).mono ?_); rintro e w2 ⟨rfl, hc2⟩)
    | (go_at_call 39; (first | (with_reducible refine (GR.out _ _ _ _ Hc.out ut).mono ?_) | (with_reducible refine (GR.out _ _ _ _ (from_ Hc.out bal_) (ut.below bal_)).mono ?_) | (with_reducible refine (GR.out _ _ _ _ (from_ (from_ Hc.out bal_) bal_) ((ut.below bal_).below bal_)).mono ?_)); rintro e w2 ⟨Dz, dz, rfl, uz, hc2⟩)); (first | (with_reducible have hx := k6_keep hs hc2; have hb := hid (from_ Hc.out hc2); (try replace HF1 := hid (HF1.out.below hc2)); (try replace HF2 := hid (HF2.out.below hc2)); (try replace ut := ut.below hc2); skip) | (with_reducible have z1 := Hc.out.size; have hx := k6_keep (k6_keep hs bal_) hc2; have hb := hid (from_ (from_ Hc.out bal_) hc2); (first | (have ne1 := Nat.ne_of_lt HF1.out.box.lt; have ne2 := Ne.symm ne1; have HF2 := hid ((Bx3.new _ 53).below hc2); replace HF1 := hid ((HF1.out.below bal_).below hc2)) | (have HF1 := hid ((Bx3.new _ 53).below hc2))); (try replace ut := (ut.below bal_).below hc2); skip) | (with_reducible have z1 := Hc.out.size; have hx := k6_keep (k6_keep (k6_keep hs bal_) bal_) hc2; have hb := hid (from_ (from_ (from_ Hc.out bal_) bal_) hc2); (have HF1 := hid (((Bx3.new _ 53).below bal_).below hc2)); (have HF2 := hid ((Bx3.new2 _ _ 53).below hc2)); (try replace ut := ((ut.below bal_).below bal_).below hc2); skip) | (with_reducible have z1 := Hc0.out.size; have hx := k6_keep (k6_keep (k6_keep hs0 bal_) bdr_) hc2; have hb := hid (from_ (from_ (from_ Hc0.out bal_) bdr_) hc2); have HF1 := hid (((Bx3.new _ 53).below bdr_).below hc2)) | (with_reducible have z1 := Hc0.out.size; have hx := k6_keep (k6_keep (k6_keep (k6_keep hs0 bal_) bal_) bdr_) hc2; have hb := hid (from_ (from_ (from_ (from_ Hc0.out bal_) bal_) bdr_) hc2); (have HF1 := hid ((((Bx3.new _ 53).below bal_).below bdr_).below hc2)); (have HF2 := hid (((Bx3.new2 _ _ 53).below bdr_).below hc2)))); replace hs := hx; replace Hc := hb; clear hx hb; (try clear x0 x1 x2 x3 x4 x5); (try clear x6 x7 x8 x9 x10 x11); (try have ne3 := Nat.ne_of_lt HF1.out.box.lt); (try have ne4 := Ne.symm ne3); (try obtain ⟨x0, x1, x2, x3, x4, x5, _⟩ := id HF1.out.box); (try obtain ⟨x6, x7, x8, x9, x10, x11, _⟩ := id HF2.out.box); have lz := Hc.out.size; clear hc2)) | fail
  all_goals
   clear hs hs0
   go_wp2_with fail
   go_meet
   (first | exact ⟨_, _, _, rfl, by with_reducible exact Res1.nw Hc.out uz⟩ | exact ⟨_, _, _, rfl, by with_reducible exact Res1.ol Hc.out HF1.out (by omega) uz⟩)
 case rest =>
  obtain ⟨g7, A7, c7, rfl, hR7⟩ := hcut
  have W7b := hR7.bel
  have hB7 := hR7.box
  have u7 := hR7.u
  have W27 := hid (from_ W2.out W7b)
  clear hs hs0 Hc Hc0 hltb HBb TN GR L3 L4
  replace HA := hid (HA.out.below W7b)
  replace HR := hid (HR.out.below W7b)
  obtain ⟨W7, hren⟩ : ∃ W7, W7 = wc := ⟨_, rfl⟩
  subst hren
  clear hR7 W7b W2
  have hlt7 := hB7.lt
  go_upto_region 7 with fail
  have hs0 := (show C3 W7 g7 (.int .i64 zb) (.bool zs) (.slice A7 zl.length c7) from ⟨hB7.c0, hB7.c1, hB7.c2⟩)
  have hs := k3_keep hs0 bdr_
  have Hc0 := hid (Below.refl W7.heap.size W7)
  have Hc := hid (Below.refl W7.heap.size W7).drew
  go_cut [8] (fun s8 wx => ∃ (g : Nat) (A' : Option Addr) (c' : Nat), s8 = .pointer (some ⟨g, 0, none⟩) ∧ Res1 W7 wx g mb ms ml A' c')
  case first =>
   first | go_region_held3 (fun w' => C3 w' g7 (.int .i64 zb) (.bool zs) (.slice A7 zl.length c7))
    ((repeat' (first | with_reducible apply k3_al rfl | with_reducible apply k3_st3 rfl)) <;> (first | with_reducible exact hs | (with_reducible apply k3_dr rfl; (repeat' (with_reducible apply k3_al rfl)); with_reducible exact hs0) | omega))
    (((first
     | (go_at_call 41; (with_reducible refine (OF.out _).mono ?_); rintro e w2 ⟨C1, c1, rfl, uo, hc2⟩)
     | (go_at_call 27; (first | (with_reducible refine (PL.out _ _ _ _ _ _ _ (u7.below Hc.out) uo).mono ?_) | (with_reducible refine (PL.out _ _ _ _ _ _ _ (u7.below (from_ Hc.out bal_)) (uo.below bal_)).mono ?_) | (with_reducible refine (PL.out _ _ _ _ _ _ _ (u7.below (from_ (from_ Hc.out bal_) bal_)) ((uo.below bal_).below bal_)).mono ?_)); rintro e w2 ⟨Dm, dm, rfl, um, hc2⟩)); (first | (with_reducible have hx := k3_keep hs hc2; have hb := hid (from_ Hc.out hc2); (try replace HF1 := hid (HF1.out.below hc2)); (try replace HF2 := hid (HF2.out.below hc2)); (try replace uo := uo.below hc2); skip) | (with_reducible have z1 := Hc.out.size; have hx := k3_keep (k3_keep hs bal_) hc2; have hb := hid (from_ (from_ Hc.out bal_) hc2); (first | (have ne1 := Nat.ne_of_lt HF1.out.box.lt; have ne2 := Ne.symm ne1; have HF2 := hid ((Bx3.new _ 53).below hc2); replace HF1 := hid ((HF1.out.below bal_).below hc2)) | (have HF1 := hid ((Bx3.new _ 53).below hc2))); (try replace uo := (uo.below bal_).below hc2); skip) | (with_reducible have z1 := Hc.out.size; have hx := k3_keep (k3_keep (k3_keep hs bal_) bal_) hc2; have hb := hid (from_ (from_ (from_ Hc.out bal_) bal_) hc2); (have HF1 := hid (((Bx3.new _ 53).below bal_).below hc2)); (have HF2 := hid ((Bx3.new2 _ _ 53).below hc2)); (try replace uo := ((uo.below bal_).below bal_).below hc2); skip) | (with_reducible have z1 := Hc0.out.size; have hx := k3_keep (k3_keep (k3_keep hs0 bal_) bdr_) hc2; have hb := hid (from_ (from_ (from_ Hc0.out bal_) bdr_) hc2); have HF1 := hid (((Bx3.new _ 53).below bdr_).below hc2)) | (with_reducible have z1 := Hc0.out.size; have hx := k3_keep (k3_keep (k3_keep (k3_keep hs0 bal_) bal_) bdr_) hc2; have hb := hid (from_ (from_ (from_ (from_ Hc0.out bal_) bal_) bdr_) hc2); (have HF1 := hid ((((Bx3.new _ 53).below bal_).below bdr_).below hc2)); (have HF2 := hid (((Bx3.new2 _ _ 53).below bdr_).below hc2)))); replace hs := hx; replace Hc := hb; clear hx hb; (try clear x0 x1 x2 x3 x4 x5); (try clear x6 x7 x8 x9 x10 x11); (try have ne3 := Nat.ne_of_lt HF1.out.box.lt); (try have ne4 := Ne.symm ne3); (try obtain ⟨x0, x1, x2, x3, x4, x5, _⟩ := id HF1.out.box); (try obtain ⟨x6, x7, x8, x9, x10, x11, _⟩ := id HF2.out.box); have lz := Hc.out.size; clear hc2)) | fail
   all_goals
    clear hs hs0
    go_wp2_with fail
    go_meet
    (first | exact ⟨_, _, _, rfl, by with_reducible exact Res1.nw Hc.out um⟩ | exact ⟨_, _, _, rfl, by with_reducible exact Res1.ol Hc.out HF1.out (by omega) um⟩)
  case rest =>
   clear hs hs0 Hc Hc0 hlt7 hB7 u7
   replace W27 := W27
   obtain ⟨g8, A8, c8, rfl, hR8⟩ := hcut
   have W8b := hR8.bel
   have hB8 := hR8.box
   have u8 := hR8.u
   have hl8 := hR8.lo
   have W28 := hid (from_ W27.out W8b)
   replace HA := hid (HA.out.below W8b)
   replace HR := hid (HR.out.below W8b)
   obtain ⟨W8, hren⟩ : ∃ W8, W8 = wc := ⟨_, rfl⟩
   subst hren
   clear hR8 W8b W27 PL OF
   go_upto_region 8 with fail
   replace GX := hid (fun (W : World) (Z : Zone) (D : Option Addr) (d : Nat) (h : Below W8.heap.size W8 W) (u : U64s W Z D d vl) => GX.out W Z D d (from_ W28.out h) u)
   replace LY := hid (fun (W : World) (Z : Zone) (D : Option Addr) (d : Nat) (h : Below W8.heap.size W8 W) (u : U64s W Z D d ml) => LY.out W Z D d (from_ W28.out h) u)
   have hltA := HA.out.lt
   have hlt8 := hB8.lt
   have hs0 := (show D6 W8 w.heap.size (.bool p.n0) (.bool p.s0) (.slice A p.l0.length a) (.bool p.n1) (.bool p.s1) (.slice B p.l1.length b) (C3 W8 g8 (.int .i64 mb) (.bool ms) (.slice A8 ml.length c8)) from ⟨HA.out.c0, HA.out.c1, HA.out.c2, HA.out.c3, HA.out.c4, HA.out.c5, hB8.c0, hB8.c1, hB8.c2⟩)
   have hs := k9_keep hs0 bdr_
   have Hc0 := hid (Below.refl W8.heap.size W8)
   have Hc := hid (Below.refl W8.heap.size W8).drew
   go_cut [9, 10] (fun s9 s10 wx => ∃ (gx gy : Nat) (A' : Option Addr) (c' : Nat) (B' : Option Addr) (d' : Nat), s9 = .pointer (some ⟨gx, 0, none⟩) ∧ s10 = .pointer (some ⟨gy, 0, none⟩) ∧ Res2 W8 wx gx gy xb xs xl A' c' yb ys yl B' d')
   case first =>
    first | go_region_held3 (fun w' => D6 w' w.heap.size (.bool p.n0) (.bool p.s0) (.slice A p.l0.length a) (.bool p.n1) (.bool p.s1) (.slice B p.l1.length b) (C3 w' g8 (.int .i64 mb) (.bool ms) (.slice A8 ml.length c8)))
     ((repeat' (first | with_reducible apply k9_al rfl | with_reducible apply k9_st3 rfl)) <;> (first | with_reducible exact hs | (with_reducible apply k9_dr rfl; (repeat' (with_reducible apply k9_al rfl)); with_reducible exact hs0) | omega))
     (((first
      | (go_at_call 28; (with_reducible refine (L1.out _).mono ?_); rintro e w2 ⟨rfl, hc2⟩)
      | (go_at_call 40; (first | (with_reducible refine (TM.out _ _ _ _ (u8.below Hc.out)).mono ?_) | (with_reducible refine (TM.out _ _ _ _ (u8.below (from_ Hc.out bal_))).mono ?_) | (with_reducible refine (TM.out _ _ _ _ (u8.below (from_ (from_ Hc.out bal_) bal_))).mono ?_) | (with_reducible refine (TM.out _ _ _ _ (u8.below (from_ (from_ Hc0.out bal_) bdr_))).mono ?_) | (with_reducible refine (TM.out _ _ _ _ (u8.below (from_ (from_ (from_ Hc0.out bal_) bal_) bdr_))).mono ?_)); rintro e w2 ⟨D3, d3, rfl, ut, hc2⟩)
      | (go_at_call 39; (first | (with_reducible refine (GX.out _ _ _ _ Hc.out ut).mono ?_) | (with_reducible refine (GX.out _ _ _ _ (from_ Hc.out bal_) (ut.below bal_)).mono ?_) | (with_reducible refine (GX.out _ _ _ _ (from_ (from_ Hc.out bal_) bal_) ((ut.below bal_).below bal_)).mono ?_)); rintro e w2 ⟨Dx, dx, rfl, ux, hc2⟩)
      | (go_at_call 29; (with_reducible refine (L2.out _).mono ?_); rintro e w2 ⟨rfl, hc2⟩)
      | (go_at_call 42; (first | (with_reducible refine (LY.out _ _ _ _ Hc.out (u8.below Hc.out)).mono ?_) | (with_reducible refine (LY.out _ _ _ _ (from_ Hc.out bal_) (u8.below (from_ Hc.out bal_))).mono ?_) | (with_reducible refine (LY.out _ _ _ _ (from_ (from_ Hc.out bal_) bal_) (u8.below (from_ (from_ Hc.out bal_) bal_))).mono ?_) | (with_reducible refine (LY.out _ _ _ _ (from_ (from_ Hc0.out bal_) bdr_) (u8.below (from_ (from_ Hc0.out bal_) bdr_))).mono ?_) | (with_reducible refine (LY.out _ _ _ _ (from_ (from_ (from_ Hc0.out bal_) bal_) bdr_) (u8.below (from_ (from_ (from_ Hc0.out bal_) bal_) bdr_))).mono ?_)); rintro e w2 ⟨Dy, dy, rfl, uy, hc2⟩)); (first | (with_reducible have hx := k9_keep hs hc2; have hb := hid (from_ Hc.out hc2); (try replace HF1 := hid (HF1.out.below hc2)); (try replace HF2 := hid (HF2.out.below hc2)); (try replace ut := ut.below hc2); (try replace ux := ux.below hc2); skip) | (with_reducible have z1 := Hc.out.size; have hx := k9_keep (k9_keep hs bal_) hc2; have hb := hid (from_ (from_ Hc.out bal_) hc2); (first | (have ne1 := Nat.ne_of_lt HF1.out.box.lt; have ne2 := Ne.symm ne1; have HF2 := hid ((Bx3.new _ 53).below hc2); replace HF1 := hid ((HF1.out.below bal_).below hc2)) | (have HF1 := hid ((Bx3.new _ 53).below hc2))); (try replace ut := (ut.below bal_).below hc2); (try replace ux := (ux.below bal_).below hc2); skip) | (with_reducible have z1 := Hc.out.size; have hx := k9_keep (k9_keep (k9_keep hs bal_) bal_) hc2; have hb := hid (from_ (from_ (from_ Hc.out bal_) bal_) hc2); (have HF1 := hid (((Bx3.new _ 53).below bal_).below hc2)); (have HF2 := hid ((Bx3.new2 _ _ 53).below hc2)); (try replace ut := ((ut.below bal_).below bal_).below hc2); (try replace ux := ((ux.below bal_).below bal_).below hc2); skip) | (with_reducible have z1 := Hc0.out.size; have hx := k9_keep (k9_keep (k9_keep hs0 bal_) bdr_) hc2; have hb := hid (from_ (from_ (from_ Hc0.out bal_) bdr_) hc2); have HF1 := hid (((Bx3.new _ 53).below bdr_).below hc2)) | (with_reducible have z1 := Hc0.out.size; have hx := k9_keep (k9_keep (k9_keep (k9_keep hs0 bal_) bal_) bdr_) hc2; have hb := hid (from_ (from_ (from_ (from_ Hc0.out bal_) bal_) bdr_) hc2); (have HF1 := hid ((((Bx3.new _ 53).below bal_).below bdr_).below hc2)); (have HF2 := hid (((Bx3.new2 _ _ 53).below bdr_).below hc2)))); replace hs := hx; replace Hc := hb; clear hx hb; (try clear x0 x1 x2 x3 x4 x5); (try clear x6 x7 x8 x9 x10 x11); (try have ne3 := Nat.ne_of_lt HF1.out.box.lt); (try have ne4 := Ne.symm ne3); (try obtain ⟨x0, x1, x2, x3, x4, x5, _⟩ := id HF1.out.box); (try obtain ⟨x6, x7, x8, x9, x10, x11, _⟩ := id HF2.out.box); have lz := Hc.out.size; clear hc2)) | fail
    all_goals
     clear hs hs0
     go_wp2_with fail
     go_meet
     (first | exact ⟨_, _, _, _, _, _, rfl, rfl, by with_reducible exact Res2.nn Hc.out ux uy⟩ | exact ⟨_, _, _, _, _, _, rfl, rfl, by with_reducible exact Res2.nm Hc.out ux uy⟩ | exact ⟨_, _, _, _, _, _, rfl, rfl, by with_reducible exact Res2.on Hc.out HF1.out (by omega) ux uy⟩ | exact ⟨_, _, _, _, _, _, rfl, rfl, by with_reducible exact Res2.no Hc.out HF1.out (by omega) ux uy⟩ | exact ⟨_, _, _, _, _, _, rfl, rfl, by with_reducible exact Res2.oo Hc.out HF1.out HF2.out (by omega) (by omega) (by first | exact ne1 | exact ne2 | omega) ux uy⟩ | exact ⟨_, _, _, _, _, _, rfl, rfl, by with_reducible exact Res2.oo Hc.out HF2.out HF1.out (by omega) (by omega) (by first | exact ne1 | exact ne2 | omega) ux uy⟩)
   case rest =>
    clear hs hs0 Hc Hc0 hltA hlt8 hB8 u8 hl8 TM GX LY
    obtain ⟨gx, gy, A9, c9, A10, c10, rfl, rfl, hR9⟩ := hcut
    have W9b := hR9.bel
    obtain ⟨BX, BY, hNX, hNY, UX, UY⟩ := hid6 hR9.bx hR9.by_ hR9.nx hR9.ny hR9.u hR9.v
    have HNE := hid hR9.ne
    have lx := hR9.lx
    have ly := hR9.ly
    have h82 := W28.out.size
    obtain ⟨HLX, HLY⟩ := hid2 (show w.heap.size ≤ gx by omega) (show w.heap.size ≤ gy by omega)
    have hlr := HR.out.lt
    obtain ⟨gR, hgR⟩ : ∃ gR, gR = w.heap.size + 2 := ⟨_, rfl⟩
    rw [← hgR] at HR hlr
    obtain ⟨NX, NY, HRX, HRY, HGR, WB⟩ := hid6 (show gR ≠ gx by omega) (show gR ≠ gy by omega) (show gx ≠ gR by omega) (show gy ≠ gR by omega) hgR (from_ W28.out W9b)
    replace HA := hid (HA.out.below W9b)
    replace HR := hid (HR.out.below W9b)
    clear hR9 lx ly h82 hlr W9b hgR W28
    obtain ⟨a0, a1, a2, a3, a4, a5, _, _, _, _, _, _, _⟩ := id HA.out
    go_wp2_with fail
    refine (L2.out _).mono ?_
    rintro e wa ⟨rfl, hc⟩
    clear a0 a1 a2 a3 a4 a5
    have hltx := BX.out.lt
    have hlty := BY.out.lt
    replace hNX := hid (hNX.out.below hltx hc)
    replace hNY := hid (hNY.out.below hlty hc)
    replace BX := hid (BX.out.below hc)
    replace BY := hid (BY.out.below hc)
    replace UX := hid (UX.out.below hc)
    replace UY := hid (UY.out.below hc)
    replace HA := hid (HA.out.below hc)
    replace HR := hid (HR.out.below hc)
    replace WB := hid (from_ WB.out hc)
    clear hc hltx hlty
    go_wp2_with fail
    refine (SG2.out _ WB.out).mono ?_
    rintro e wb ⟨rfl, hc⟩
    have hltx := BX.out.lt
    have hlty := BY.out.lt
    replace hNX := hid (hNX.out.below hltx hc)
    replace hNY := hid (hNY.out.below hlty hc)
    replace BX := hid (BX.out.below hc)
    replace BY := hid (BY.out.below hc)
    replace UX := hid (UX.out.below hc)
    replace UY := hid (UY.out.below hc)
    replace HA := hid (HA.out.below hc)
    replace HR := hid (HR.out.below hc)
    replace WB := hid (from_ WB.out hc)
    clear hc hltx hlty
    have hg := Hgr.out
    have er0 := Hr.out
    by_cases hp2 : P.2 ≤ 0
    · have hmod : modP P Q = (max P.1 (-modM Q), 0) := by unfold modP; rw [if_pos hp2]
      rw [hmod] at hg er0
      have er : EndL (max P.1 (-modM Q)) rn0 rs0 rl0 ∧ EndH 0 rn1 rs1 rl1 := er0
      have hd : decide (sg2 ≤ 0) = true := decide_eq_true (by rw [← Hs2.out]; unfold sgn; split <;> (try split) <;> omega)
      obtain rfl : xs = rs0 := Hpx.out.uniq.2.1.trans er.1.2.1.symm
      obtain rfl : xl = rl0 := Hpx.out.uniq.2.2.trans er.1.2.2.symm
      have hxl := HXl.out
      have BD1 := hid (fun (W : World) (Z : Zone) (D : Option Addr) (d : Nat) (u : U64s W Z D d xl) => ibound_p (w := W) Hpx.out ((Hpx.out.nlo hg.nlo).trans er.1.1.symm) u (by omega))
      clear hxl
      have zp : Pl 0 0 false [] := .inl ⟨rfl, ⟨rfl, (limbs_eq_nil.2 rfl).symm⟩, by have := bigZ_pos; omega, bigZ_pos⟩
      obtain rfl : false = rs1 := zp.uniq.2.1.trans er.2.2.1.symm
      obtain rfl : [] = rl1 := zp.uniq.2.2.trans er.2.2.2.symm
      have BD2 := hid (fun (W : World) (Z : Zone) (D : Option Addr) (d : Nat) (u : U64s W Z D d []) => ibound_p (w := W) zp ((zp.nhi hg.nhi).trans er.2.1.symm) u (by simp))
      rw [List.length_nil] at BD2
      clear zp
      clear er er0 hg hmod hp2 Hgr Hr Hpx Hpy Hs1 Hs2 SG1 SG2
      have NU := hNY.out
      have B' := BY.out.set3 (.int .i64 0) (.bool false) (.slice none 0 0)
      have O' := BX.out.oth3 gy (HNE.out.symm) (.int .i64 0) (.bool false) (.slice none 0 0)
      have U' := UX.out.set3n NU (.int .i64 0) (.bool false) (.slice none 0 0)
      have R' := (HR.out.other3 (h := gy) HRY.out (.int .i64 0) (.bool false) (.slice none 0 0))
      have W' := set3_below WB.out HLY.out (.int .i64 0) (.bool false) (.slice none 0 0)
      obtain ⟨k0, k1, k2, k3, k4, k5, _⟩ := id BY.out
      go_upto_region 13 with fail
      clear k0 k1 k2 k3 k4 k5 NU
      replace BY := hid B'
      replace BX := hid O'
      replace UX := hid U'
      replace HR := hid R'
      replace WB := hid W'
      clear B' O' U' R' W'
      generalize ((wb.setCell ⟨gy, 0, none⟩ (.int .i64 0)).setCell ⟨gy, 1, none⟩ (.bool false)).setCell ⟨gy, 2, none⟩ (.slice none 0 0) = wq at *
      have hs := And.intro BX.out.c0 (And.intro BX.out.c1 (And.intro BX.out.c2 (And.intro BY.out.c0 (And.intro BY.out.c1 BY.out.c2))))
      replace hs := two3_keep hs bdr_
      have Hc := hid (Below.refl wq.heap.size wq).drew
      replace HR := hid (HR.out.below bdr_)
      try simp only [show w.heap.size + 2 = gR from HGR.out.symm, show w.heap.size + 1 + 1 = gR from HGR.out.symm]
      first | go_region_held3 (fun w' => D3 w' gx (.int .i64 xb) (.bool xs) (.slice A9 xl.length c9) (C3 w' gy (.int .i64 0) (.bool false) (.slice none 0 0)))
       (first
        | with_reducible exact hs
        | (with_reducible apply two3_st6 rfl <;> (first | with_reducible exact hs | with_reducible exact NX.out | with_reducible exact NY.out)))
       (first
        | (go_at_call 26; with_reducible refine (BD1.out _ _ _ _ (UX.out.below Hc.out)).mono ?_; rintro e w3 ⟨A1, c1, rfl, o1, hc2⟩; replace o1 := o1.mono (Y := new (gR + 1)) (new_le (Nat.succ_le_of_lt HR.out.lt)); replace hs := two3_keep hs hc2; replace HR := hid (HR.out.below hc2); replace Hc := hid (from_ Hc.out hc2))
        | (go_at_call 26; with_reducible refine (BD2.out _ _ _ _ ((U64s.nil wq old).below Hc.out)).mono ?_; rintro e w3 ⟨A2, c2, rfl, o2, hc2⟩; replace o1 := o1.below hc2; replace o2 := o2.mono (Y := new (gR + 1)) (new_le (Nat.succ_le_of_lt HR.out.lt)); replace hs := two3_keep hs hc2; replace HR := hid (HR.out.below hc2); replace Hc := hid (from_ Hc.out hc2); obtain ⟨g0, g1, g2, g3, g4, g5, f0, f1, f2, f3, f4, f5, _⟩ := id HR.out)) | fail
      all_goals
       have hgr := HGR.out
       have hw0 : w.heap.size ≤ gR := by omega
       obtain ⟨HP, U1, U2⟩ := hid3 (HR.out.put (w := w) (from_ WB.out Hc.out) hw0 (.bool rn0) (.bool xs) (.slice A1 xl.length c1) (.bool rn1) (.bool false) (.slice A2 0 c2)) ((o1.set6 (g := gR) (fun (h : gR + 1 ≤ gR) => by omega) (.bool rn0) (.bool xs) (.slice A1 xl.length c1) (.bool rn1) (.bool false) (.slice A2 0 c2)).mono (new_le (show w.heap.size ≤ gR + 1 by omega))) ((o2.set6 (g := gR) (fun (h : gR + 1 ≤ gR) => by omega) (.bool rn0) (.bool xs) (.slice A1 xl.length c1) (.bool rn1) (.bool false) (.slice A2 0 c2)).mono (new_le (show w.heap.size ≤ gR + 1 by omega)))
       clear o1 o2 hgr hw0
       simp only [Exit.then]
       refine (‹∀ (a : Act) (w : World), Code.wp Tryz.prog Code.ret _ a w → _›) _ _ ?_
       refine wp_ret ?_
       change bodyPost _ _ _ _ _ _
       refine bodyPost_ret (res_itv2 rfl _ gR rfl HP.out.box) rfl ?_
       exact ⟨_, _, _, _, rfl, U1.out, U2.out, HP.out.bel⟩
    · have hd : decide (sg2 ≤ 0) = false := decide_eq_false (by rw [← Hs2.out]; unfold sgn; split <;> (try split) <;> omega)
      have a0 := HA.out.all
      go_wp2_with fail
      refine (L1.out _).mono ?_
      rintro e wd ⟨rfl, hc⟩
      clear a0 hd
      have hltx := BX.out.lt
      have hlty := BY.out.lt
      replace hNX := hid (hNX.out.below hltx hc)
      replace hNY := hid (hNY.out.below hlty hc)
      replace BX := hid (BX.out.below hc)
      replace BY := hid (BY.out.below hc)
      replace UX := hid (UX.out.below hc)
      replace UY := hid (UY.out.below hc)
      replace HA := hid (HA.out.below hc)
      replace HR := hid (HR.out.below hc)
      replace WB := hid (from_ WB.out hc)
      clear hc hltx hlty
      go_wp2_with fail
      refine (SG1.out _ WB.out).mono ?_
      rintro e we ⟨rfl, hc⟩
      have hltx := BX.out.lt
      have hlty := BY.out.lt
      replace hNX := hid (hNX.out.below hltx hc)
      replace hNY := hid (hNY.out.below hlty hc)
      replace BX := hid (BX.out.below hc)
      replace BY := hid (BY.out.below hc)
      replace UX := hid (UX.out.below hc)
      replace UY := hid (UY.out.below hc)
      replace HA := hid (HA.out.below hc)
      replace HR := hid (HR.out.below hc)
      replace WB := hid (from_ WB.out hc)
      clear hc hltx hlty
      by_cases hp1 : 0 ≤ P.1
      · have hmod : modP P Q = (0, min P.2 (modM Q)) := by unfold modP; rw [if_neg (show ¬ P.2 ≤ 0 by omega), if_pos (show 0 ≤ P.1 by omega)]
        rw [hmod] at hg er0
        have er : EndL 0 rn0 rs0 rl0 ∧ EndH (min P.2 (modM Q)) rn1 rs1 rl1 := er0
        have hd : decide (0 ≤ sg1) = true := decide_eq_true (by rw [← Hs1.out]; unfold sgn; split <;> (try split) <;> omega)
        obtain rfl : ys = rs1 := Hpy.out.uniq.2.1.trans er.2.2.1.symm
        obtain rfl : yl = rl1 := Hpy.out.uniq.2.2.trans er.2.2.2.symm
        have hyl := HYl.out
        have BD2 := hid (fun (W : World) (Z : Zone) (D : Option Addr) (d : Nat) (u : U64s W Z D d yl) => ibound_p (w := W) Hpy.out ((Hpy.out.nhi hg.nhi).trans er.2.1.symm) u (by omega))
        clear hyl
        have zp : Pl 0 0 false [] := .inl ⟨rfl, ⟨rfl, (limbs_eq_nil.2 rfl).symm⟩, by have := bigZ_pos; omega, bigZ_pos⟩
        obtain rfl : false = rs0 := zp.uniq.2.1.trans er.1.2.1.symm
        obtain rfl : [] = rl0 := zp.uniq.2.2.trans er.1.2.2.symm
        have BD1 := hid (fun (W : World) (Z : Zone) (D : Option Addr) (d : Nat) (u : U64s W Z D d []) => ibound_p (w := W) zp ((zp.nlo hg.nlo).trans er.1.1.symm) u (by simp))
        rw [List.length_nil] at BD1
        clear zp
        clear er er0 hg hmod hp2 hp1 Hgr Hr Hpx Hpy Hs1 Hs2 SG1 SG2
        have NU := hNX.out
        have B' := BX.out.set3 (.int .i64 0) (.bool false) (.slice none 0 0)
        have O' := BY.out.oth3 gx (HNE.out) (.int .i64 0) (.bool false) (.slice none 0 0)
        have U' := UY.out.set3n NU (.int .i64 0) (.bool false) (.slice none 0 0)
        have R' := (HR.out.other3 (h := gx) HRX.out (.int .i64 0) (.bool false) (.slice none 0 0))
        have W' := set3_below WB.out HLX.out (.int .i64 0) (.bool false) (.slice none 0 0)
        obtain ⟨k0, k1, k2, k3, k4, k5, _⟩ := id BX.out
        go_upto_region 13 with fail
        clear k0 k1 k2 k3 k4 k5 NU
        replace BX := hid B'
        replace BY := hid O'
        replace UY := hid U'
        replace HR := hid R'
        replace WB := hid W'
        clear B' O' U' R' W'
        generalize ((we.setCell ⟨gx, 0, none⟩ (.int .i64 0)).setCell ⟨gx, 1, none⟩ (.bool false)).setCell ⟨gx, 2, none⟩ (.slice none 0 0) = wq at *
        have hs := And.intro BX.out.c0 (And.intro BX.out.c1 (And.intro BX.out.c2 (And.intro BY.out.c0 (And.intro BY.out.c1 BY.out.c2))))
        replace hs := two3_keep hs bdr_
        have Hc := hid (Below.refl wq.heap.size wq).drew
        replace HR := hid (HR.out.below bdr_)
        try simp only [show w.heap.size + 2 = gR from HGR.out.symm, show w.heap.size + 1 + 1 = gR from HGR.out.symm]
        first | go_region_held3 (fun w' => D3 w' gx (.int .i64 0) (.bool false) (.slice none 0 0) (C3 w' gy (.int .i64 yb) (.bool ys) (.slice A10 yl.length c10)))
         (first
          | with_reducible exact hs
          | (with_reducible apply two3_st6 rfl <;> (first | with_reducible exact hs | with_reducible exact NX.out | with_reducible exact NY.out)))
         (first
          | (go_at_call 26; with_reducible refine (BD1.out _ _ _ _ ((U64s.nil wq old).below Hc.out)).mono ?_; rintro e w3 ⟨A1, c1, rfl, o1, hc2⟩; replace o1 := o1.mono (Y := new (gR + 1)) (new_le (Nat.succ_le_of_lt HR.out.lt)); replace hs := two3_keep hs hc2; replace HR := hid (HR.out.below hc2); replace Hc := hid (from_ Hc.out hc2))
          | (go_at_call 26; with_reducible refine (BD2.out _ _ _ _ (UY.out.below Hc.out)).mono ?_; rintro e w3 ⟨A2, c2, rfl, o2, hc2⟩; replace o1 := o1.below hc2; replace o2 := o2.mono (Y := new (gR + 1)) (new_le (Nat.succ_le_of_lt HR.out.lt)); replace hs := two3_keep hs hc2; replace HR := hid (HR.out.below hc2); replace Hc := hid (from_ Hc.out hc2); obtain ⟨g0, g1, g2, g3, g4, g5, f0, f1, f2, f3, f4, f5, _⟩ := id HR.out)) | fail
        all_goals
         have hgr := HGR.out
         have hw0 : w.heap.size ≤ gR := by omega
         obtain ⟨HP, U1, U2⟩ := hid3 (HR.out.put (w := w) (from_ WB.out Hc.out) hw0 (.bool rn0) (.bool false) (.slice A1 0 c1) (.bool rn1) (.bool ys) (.slice A2 yl.length c2)) ((o1.set6 (g := gR) (fun (h : gR + 1 ≤ gR) => by omega) (.bool rn0) (.bool false) (.slice A1 0 c1) (.bool rn1) (.bool ys) (.slice A2 yl.length c2)).mono (new_le (show w.heap.size ≤ gR + 1 by omega))) ((o2.set6 (g := gR) (fun (h : gR + 1 ≤ gR) => by omega) (.bool rn0) (.bool false) (.slice A1 0 c1) (.bool rn1) (.bool ys) (.slice A2 yl.length c2)).mono (new_le (show w.heap.size ≤ gR + 1 by omega)))
         clear o1 o2 hgr hw0
         simp only [Exit.then]
         refine (‹∀ (a : Act) (w : World), Code.wp Tryz.prog Code.ret _ a w → _›) _ _ ?_
         refine wp_ret ?_
         change bodyPost _ _ _ _ _ _
         refine bodyPost_ret (res_itv2 rfl _ gR rfl HP.out.box) rfl ?_
         exact ⟨_, _, _, _, rfl, U1.out, U2.out, HP.out.bel⟩
      · have hmod : modP P Q = (max P.1 (-modM Q), min P.2 (modM Q)) := by unfold modP; rw [if_neg (show ¬ P.2 ≤ 0 by omega), if_neg (show ¬ 0 ≤ P.1 by omega)]
        rw [hmod] at hg er0
        have er : EndL (max P.1 (-modM Q)) rn0 rs0 rl0 ∧ EndH (min P.2 (modM Q)) rn1 rs1 rl1 := er0
        have hd : decide (0 ≤ sg1) = false := decide_eq_false (by rw [← Hs1.out]; unfold sgn; split <;> (try split) <;> omega)
        obtain rfl : xs = rs0 := Hpx.out.uniq.2.1.trans er.1.2.1.symm
        obtain rfl : xl = rl0 := Hpx.out.uniq.2.2.trans er.1.2.2.symm
        have hxl := HXl.out
        have BD1 := hid (fun (W : World) (Z : Zone) (D : Option Addr) (d : Nat) (u : U64s W Z D d xl) => ibound_p (w := W) Hpx.out ((Hpx.out.nlo hg.nlo).trans er.1.1.symm) u (by omega))
        clear hxl
        obtain rfl : ys = rs1 := Hpy.out.uniq.2.1.trans er.2.2.1.symm
        obtain rfl : yl = rl1 := Hpy.out.uniq.2.2.trans er.2.2.2.symm
        have hyl := HYl.out
        have BD2 := hid (fun (W : World) (Z : Zone) (D : Option Addr) (d : Nat) (u : U64s W Z D d yl) => ibound_p (w := W) Hpy.out ((Hpy.out.nhi hg.nhi).trans er.2.1.symm) u (by omega))
        clear hyl
        clear er er0 hg hmod hp2 hp1 Hgr Hr Hpx Hpy Hs1 Hs2 SG1 SG2
        have hs := And.intro BX.out.c0 (And.intro BX.out.c1 (And.intro BX.out.c2 (And.intro BY.out.c0 (And.intro BY.out.c1 BY.out.c2))))
        replace hs := two3_keep hs bdr_
        have Hc := hid (Below.refl we.heap.size we).drew
        replace HR := hid (HR.out.below bdr_)
        go_upto_region 13 with fail
        try simp only [show w.heap.size + 2 = gR from HGR.out.symm, show w.heap.size + 1 + 1 = gR from HGR.out.symm]
        first | go_region_held3 (fun w' => D3 w' gx (.int .i64 xb) (.bool xs) (.slice A9 xl.length c9) (C3 w' gy (.int .i64 yb) (.bool ys) (.slice A10 yl.length c10)))
         (first
          | with_reducible exact hs
          | (with_reducible apply two3_st6 rfl <;> (first | with_reducible exact hs | with_reducible exact NX.out | with_reducible exact NY.out)))
         (first
          | (go_at_call 26; with_reducible refine (BD1.out _ _ _ _ (UX.out.below Hc.out)).mono ?_; rintro e w3 ⟨A1, c1, rfl, o1, hc2⟩; replace o1 := o1.mono (Y := new (gR + 1)) (new_le (Nat.succ_le_of_lt HR.out.lt)); replace hs := two3_keep hs hc2; replace HR := hid (HR.out.below hc2); replace Hc := hid (from_ Hc.out hc2))
          | (go_at_call 26; with_reducible refine (BD2.out _ _ _ _ (UY.out.below Hc.out)).mono ?_; rintro e w3 ⟨A2, c2, rfl, o2, hc2⟩; replace o1 := o1.below hc2; replace o2 := o2.mono (Y := new (gR + 1)) (new_le (Nat.succ_le_of_lt HR.out.lt)); replace hs := two3_keep hs hc2; replace HR := hid (HR.out.below hc2); replace Hc := hid (from_ Hc.out hc2); have g0 := HR.out.cf)) | fail
        all_goals
         have hgr := HGR.out
         have hw0 : w.heap.size ≤ gR := by omega
         obtain ⟨HP, U1, U2⟩ := hid3 (HR.out.put (w := w) (from_ WB.out Hc.out) hw0 (.bool rn0) (.bool xs) (.slice A1 xl.length c1) (.bool rn1) (.bool ys) (.slice A2 yl.length c2)) ((o1.set6 (g := gR) (fun (h : gR + 1 ≤ gR) => by omega) (.bool rn0) (.bool xs) (.slice A1 xl.length c1) (.bool rn1) (.bool ys) (.slice A2 yl.length c2)).mono (new_le (show w.heap.size ≤ gR + 1 by omega))) ((o2.set6 (g := gR) (fun (h : gR + 1 ≤ gR) => by omega) (.bool rn0) (.bool xs) (.slice A1 xl.length c1) (.bool rn1) (.bool ys) (.slice A2 yl.length c2)).mono (new_le (show w.heap.size ≤ gR + 1 by omega)))
         clear o1 o2 hgr hw0
         simp only [Exit.then]
         refine (‹∀ (a : Act) (w : World), Code.wp Tryz.prog Code.ret _ a w → _›) _ _ ?_
         refine wp_ret ?_
         change bodyPost _ _ _ _ _ _
         refine bodyPost_ret (res_itv2 rfl _ gR rfl HP.out.box) rfl ?_
         exact ⟨_, _, _, _, rfl, U1.out, U2.out, HP.out.bel⟩
def shK (Q : Int × Int) : Int × Int := (max Q.1 0, min Q.2 63)
def shT (Q : Int × Int) : Int × Int := (((2 ^ (shK Q).1.toNat : Nat) : Int), ((2 ^ (shK Q).2.toNat : Nat) : Int))
def shlP (P Q : Int × Int) : Int × Int := ivM P (shT Q)
def shrP (P Q : Int × Int) : Int × Int := (shrLo P.1 P.2 (shT Q).1 (shT Q).2, shrHi P.1 P.2 (shT Q).1 (shT Q).2)
theorem two_pow {n : Nat} (hn : n ≤ 63) : 0 < ((2 ^ n : Nat) : Int) ∧ ((2 ^ n : Nat) : Int) < 18446744073709551616 := by
 have h1 : 0 < 2 ^ n := Nat.pow_pos (by omega)
 have h2 : 2 ^ n ≤ 2 ^ 63 := Nat.pow_le_pow_right (by omega) hn
 have h3 : (2 : Nat) ^ 63 < 18446744073709551616 := by decide
 refine ⟨Int.natCast_pos.2 h1, ?_⟩
 exact Int.ofNat_lt.2 (by omega : 2 ^ n < 18446744073709551616)
theorem shT_ok {Q : Int × Int} (h : (shK Q).1 ≤ (shK Q).2) : IvN 1 (shT Q).1 (shT Q).2 ∧ (0 < (shT Q).1 ∧ (shT Q).1 < bigZ) ∧ 0 < (shT Q).2 ∧ (shT Q).2 < bigZ := by
 have k0 : 0 ≤ (shK Q).1 := by unfold shK; dsimp only; omega
 have k1 : (shK Q).2 ≤ 63 := by unfold shK; dsimp only; omega
 have a := two_pow (n := (shK Q).1.toNat) (by omega)
 have b := two_pow (n := (shK Q).2.toNat) (by omega)
 have hm : 2 ^ (shK Q).1.toNat ≤ 2 ^ (shK Q).2.toNat := Nat.pow_le_pow_right (by omega) (by omega)
 have hm2 : (shT Q).1 ≤ (shT Q).2 := Int.ofNat_le.2 hm
 have e : wN 1 = 18446744073709551616 := rfl
 have e2 := wN_le (show 1 ≤ 64 by omega)
 have ha : 0 < (shT Q).1 ∧ (shT Q).1 < 18446744073709551616 := a
 have hb : 0 < (shT Q).2 ∧ (shT Q).2 < 18446744073709551616 := b
 have h0 := bigZ_pos
 exact ⟨⟨.inr (.inr (by omega)), .inr (.inr (by omega)), hm2, by omega, by omega⟩, ⟨ha.1, by omega⟩, hb.1, by omega⟩
theorem ivn_shr {M : Nat} {x y z t : Int} (h : IvN N x y) (hz : 0 < z) (ht : 0 < t) (hN : N ≤ 60) : IvN N (shrLo x y z t) (shrHi x y z t) := by
 obtain ⟨a1, a2, a3, a4, a5⟩ := h
 have h3 := bigZ_pos
 have h4 := wN_le (show N ≤ 64 by omega)
 refine ⟨?_, ?_, ?_, ?_, ?_⟩
 · exact ext_min (ext_min (ext_down a1 hz) (ext_down a1 ht)) (ext_min (ext_down a2 hz) (ext_down a2 ht))
 · exact ext_max (ext_max (ext_down a1 hz) (ext_down a1 ht)) (ext_max (ext_down a2 hz) (ext_down a2 ht))
 · unfold shrLo shrHi lo4 hi4; omega
 · unfold shrLo lo4
   have : downE bigZ x z < bigZ := by
    unfold downE
    split
    · omega
    · have := fdiv_bd (x := x) (p := z) (M := wN N) (by unfold Ext at a1; omega) hz
      omega
   omega
 · unfold shrHi hi4
   have : -bigZ < downE bigZ y z := by
    unfold downE
    split
    · omega
    · have := fdiv_bd (x := y) (p := z) (M := wN N) (by unfold Ext at a2; omega) hz
      omega
   omega
theorem cc0_keep (hs : (C6 W g a0 a1 a2 a3 a4 a5) ∧ C6 W h b0 b1 b2 b3 b4 b5) (hb : Below W.heap.size W V) : (C6 V g a0 a1 a2 a3 a4 a5) ∧ C6 V h b0 b1 b2 b3 b4 b5 := ⟨six_keep0 hs.1 hb, six_keep0 hs.2 hb⟩
theorem cc0_st6 {r : Nat} (e : V = ((((((W.setCell ⟨r, 0, none⟩ x0).setCell ⟨r, 1, none⟩ x1).setCell ⟨r, 2, none⟩ x2).setCell ⟨r, 3, none⟩ x3).setCell ⟨r, 4, none⟩ x4).setCell ⟨r, 5, none⟩ x5)) (hg : r ≠ g) (hh : r ≠ h) (hs : (C6 W g a0 a1 a2 a3 a4 a5) ∧ C6 W h b0 b1 b2 b3 b4 b5) : (C6 V g a0 a1 a2 a3 a4 a5) ∧ C6 V h b0 b1 b2 b3 b4 b5 := by
 subst e
 exact ⟨st6_0 hg hs.1, st6_0 hh hs.2⟩
theorem nm_ivw {P : Int × Int} {s0 s1 : Bool} {l0 l1 : List Nat} (h0 : Nm P.1 s0 l0) (h1 : Nm P.2 s1 l1) (b0 : -bigZ < P.1 ∧ P.1 < bigZ) (b1 : -bigZ < P.2 ∧ P.2 < bigZ) : IvW P ⟨false, s0, l0, false, s1, l1⟩ := by
 have e0 := nm_e b0
 have e1 := nm_e b1
 exact ⟨⟨(nLo_no b0.1).symm, h0.1.trans e0.1.symm, h0.2.trans e0.2.symm⟩, (nHi_no b1.2).symm, h1.1.trans e1.1.symm, h1.2.trans e1.2.symm⟩
theorem icrossT_w (hp : IvW P p) (gp : IvN 32 P.1 P.2) (hq : IvW Q q) (gq : IvN 1 Q.1 Q.2) (h0 : (0 < Q.1 ∧ Q.1 < bigZ) ∧ 0 < Q.2 ∧ Q.2 < bigZ) (hr : IvW (ivM P Q) r) (u1 : U64s w Z1 A a p.l0) (u2 : U64s w Z2 B b p.l1) (u3 : U64s w Z3 C c q.l0) (u4 : U64s w Z4 D d q.l1) :
  Calls Tryz.prog 32 #[.agg #[.bool p.n0, .bool p.s0, .slice A p.l0.length a, .bool p.n1, .bool p.s1, .slice B p.l1.length b], .agg #[.bool q.n0, .bool q.s0, .slice C q.l0.length c, .bool q.n1, .bool q.s1, .slice D q.l1.length d], .func (.func 33) #[] #[]] w fun e w' => ∃ rA ra rB rb, e = .returned (.agg #[.bool r.n0, .bool r.s0, .slice rA r.l0.length ra, .bool r.n1, .bool r.s1, .slice rB r.l1.length rb]) ∧ U64s w' (new w.heap.size) rA ra r.l0 ∧ U64s w' (new w.heap.size) rB rb r.l1 ∧ Below w.heap.size w w' := by
 have kp := hp.k gp (by omega)
 have kq := hq.k gq (by omega)
 have g := ivM_ok gp gq (by omega)
 exact icrossed_times u1 u2 u3 u4 kp.ok kq.ok (by have := kp.q0; omega) (by have := kp.q1; omega) (by have := kq.q0; omega) (by have := kq.q1; omega) (z0 := ((ivM P Q)).1) (z1 := ((ivM P Q)).2) (by rw [kp.lo, kq.lo, kp.hi, kq.hi] <;> rfl) (by rw [kp.lo, kq.lo, kp.hi, kq.hi] <;> rfl) g.nlo g.nhi hr.1 hr.2
theorem icrossD_w (hp : IvW P p) (gp : IvN 32 P.1 P.2) (hq : IvW Q q) (gq : IvN 1 Q.1 Q.2) (h0 : (0 < Q.1 ∧ Q.1 < bigZ) ∧ 0 < Q.2 ∧ Q.2 < bigZ) (hr : IvW (shrLo P.1 P.2 Q.1 Q.2, shrHi P.1 P.2 Q.1 Q.2) r) (u1 : U64s w Z1 A a p.l0) (u2 : U64s w Z2 B b p.l1) (u3 : U64s w Z3 C c q.l0) (u4 : U64s w Z4 D d q.l1) :
  Calls Tryz.prog 32 #[.agg #[.bool p.n0, .bool p.s0, .slice A p.l0.length a, .bool p.n1, .bool p.s1, .slice B p.l1.length b], .agg #[.bool q.n0, .bool q.s0, .slice C q.l0.length c, .bool q.n1, .bool q.s1, .slice D q.l1.length d], .func (.func 53) #[] #[]] w fun e w' => ∃ rA ra rB rb, e = .returned (.agg #[.bool r.n0, .bool r.s0, .slice rA r.l0.length ra, .bool r.n1, .bool r.s1, .slice rB r.l1.length rb]) ∧ U64s w' (new w.heap.size) rA ra r.l0 ∧ U64s w' (new w.heap.size) rB rb r.l1 ∧ Below w.heap.size w w' := by
 have kp := hp.k gp (by omega)
 have kq := hq.k gq (by omega)
 have g := ivn_shr (M := 1) gp h0.1.1 h0.2.1 (by omega)
 exact icrossed_down u1 u2 u3 u4 kp.ok kq.ok (by have := kp.q0; omega) (by have := kp.q1; omega) (by have := kq.q0; omega) (by have := kq.q1; omega) (by rw [kq.lo, kq.hi]; exact h0) (z0 := ((shrLo P.1 P.2 Q.1 Q.2, shrHi P.1 P.2 Q.1 Q.2)).1) (z1 := ((shrLo P.1 P.2 Q.1 Q.2, shrHi P.1 P.2 Q.1 Q.2)).2) (by rw [kp.lo, kq.lo, kp.hi, kq.hi] <;> rfl) (by rw [kp.lo, kq.lo, kp.hi, kq.hi] <;> rfl) g.nlo g.nhi hr.1 hr.2
theorem ishift_any {o : Value} (hp : IvW P p) (gp : IvN 32 P.1 P.2) (hq : IvW Q q) (gq : IvN 60 Q.1 Q.2) (u1 : U64s w Z1 A a p.l0) (u2 : U64s w Z2 B b p.l1) (u3 : U64s w Z3 C c q.l0) (u4 : U64s w Z4 D d q.l1) (hle : (shK Q).1 ≤ (shK Q).2) (hC : ∀ {W : World} {Z1 Z2 Z3 Z4 : Zone} {t : Iv} {A B C D : Option Addr} {a b c d : Nat}, IvW (shT Q) t → U64s W Z1 A a p.l0 → U64s W Z2 B b p.l1 → U64s W Z3 C c t.l0 → U64s W Z4 D d t.l1 → Calls Tryz.prog 32 #[.agg #[.bool p.n0, .bool p.s0, .slice A p.l0.length a, .bool p.n1, .bool p.s1, .slice B p.l1.length b], .agg #[.bool t.n0, .bool t.s0, .slice C t.l0.length c, .bool t.n1, .bool t.s1, .slice D t.l1.length d], o] W fun e w' => ∃ rA ra rB rb, e = .returned (.agg #[.bool r.n0, .bool r.s0, .slice rA r.l0.length ra, .bool r.n1, .bool r.s1, .slice rB r.l1.length rb]) ∧ U64s w' (new W.heap.size) rA ra r.l0 ∧ U64s w' (new W.heap.size) rB rb r.l1 ∧ Below W.heap.size W w') :
  Calls Tryz.prog 46 #[.agg #[.bool p.n0, .bool p.s0, .slice A p.l0.length a, .bool p.n1, .bool p.s1, .slice B p.l1.length b], .agg #[.bool q.n0, .bool q.s0, .slice C q.l0.length c, .bool q.n1, .bool q.s1, .slice D q.l1.length d], o] w fun e w' => ∃ rA ra rB rb, e = .returned (.tuple #[.agg #[.bool r.n0, .bool r.s0, .slice rA r.l0.length ra, .bool r.n1, .bool r.s1, .slice rB r.l1.length rb], .int .i64 0]) ∧ U64s w' (new w.heap.size) rA ra r.l0 ∧ U64s w' (new w.heap.size) rB rb r.l1 ∧ Below w.heap.size w w' := by
 obtain ⟨bA, bB, bR, hB0⟩ := boxX w (.bool p.n0) (.bool p.s0) (.slice A p.l0.length a) (.bool p.n1) (.bool p.s1) (.slice B p.l1.length b) (.bool q.n0) (.bool q.s0) (.slice C q.l0.length c) (.bool q.n1) (.bool q.s1) (.slice D q.l1.length d) (.bool false) (.bool false) (.slice none 0 0) (.bool false) (.bool false) (.slice none 0 0) 29
 have hb1 := hB0.alloc hB0.size (.cells #[.bool p.n0, .bool p.s0, .slice A p.l0.length a, .bool p.n1, .bool p.s1, .slice B p.l1.length b, .bool q.n0, .bool q.s0, .slice C q.l0.length c, .bool q.n1, .bool q.s1, .slice D q.l1.length d] 29)
 have hg := given_twoA (p := p) (q := q) (ty := 29) (u1.below hB0) (u2.below hB0) (u3.below hB0) (u4.below hB0)
 rw [show (((w.alloc (.cells #[.bool p.n0, .bool p.s0, .slice A p.l0.length a, .bool p.n1, .bool p.s1, .slice B p.l1.length b] 29)).alloc (.cells #[.bool q.n0, .bool q.s0, .slice C q.l0.length c, .bool q.n1, .bool q.s1, .slice D q.l1.length d] 29)).alloc (.cells #[.bool false, .bool false, .slice none 0 0, .bool false, .bool false, .slice none 0 0] 29)).heap.size = w.heap.size + 3 by simp] at hg
 have kp := hp.k gp (by omega)
 have kq := hq.k gq (by omega)
 have hck := ichecked_any (n := 2) (c := 2) hg rfl (by simp) (by intro p' hp'; simp only [List.mem_cons, List.not_mem_nil, or_false] at hp'; rcases hp' with rfl | rfl <;> exact ⟨by have := kp.q0; have := kq.q0; omega, by have := kp.q1; have := kq.q1; omega⟩)
 rw [errAs_two, if_pos ⟨kp.ok, kq.ok⟩] at hck
 obtain ⟨HA, HBb, HR, Hck, Hb1⟩ := hid5 (bA.alloc (.cells #[.bool p.n0, .bool p.s0, .slice A p.l0.length a, .bool p.n1, .bool p.s1, .slice B p.l1.length b, .bool q.n0, .bool q.s0, .slice C q.l0.length c, .bool q.n1, .bool q.s1, .slice D q.l1.length d] 29)) (bB.alloc (.cells #[.bool p.n0, .bool p.s0, .slice A p.l0.length a, .bool p.n1, .bool p.s1, .slice B p.l1.length b, .bool q.n0, .bool q.s0, .slice C q.l0.length c, .bool q.n1, .bool q.s1, .slice D q.l1.length d] 29)) (bR.alloc (.cells #[.bool p.n0, .bool p.s0, .slice A p.l0.length a, .bool p.n1, .bool p.s1, .slice B p.l1.length b, .bool q.n0, .bool q.s0, .slice C q.l0.length c, .bool q.n1, .bool q.s1, .slice D q.l1.length d] 29)) hck hb1
 have a0 := bA.all
 obtain ⟨b0, b1, b2, b3, b4, b5, _, _, _, _, _, _, _⟩ := bB
 have hk0 : 0 ≤ (shK Q).1 := by unfold shK; dsimp only; omega
 have hk1 : (shK Q).2 ≤ 63 := by unfold shK; dsimp only; omega
 obtain ⟨k0, hk0e⟩ : ∃ k0 : Nat, (k0 : Int) = (shK Q).1 := ⟨(shK Q).1.toNat, by omega⟩
 obtain ⟨k1, hk1e⟩ : ∃ k1 : Nat, (k1 : Int) = (shK Q).2 := ⟨(shK Q).2.toNat, by omega⟩
 have hb1 := big_one
 have hbig := wN_le (show 1 ≤ 64 by omega)
 have ebig : wN 1 = 18446744073709551616 := rfl
 have hT := shT_ok hle
 have et0 : (shT Q).1 = ((2 ^ k0 : Nat) : Int) := by unfold shT; rw [← hk0e]; rfl
 have et1 : (shT Q).2 = ((2 ^ k1 : Nat) : Int) := by unfold shT; rw [← hk1e]; rfl
 obtain ⟨ks0, kl0, kn0⟩ : ∃ s l, Nm (k0 : Int) s l := ⟨_, _, rfl, rfl⟩
 obtain ⟨ks1, kl1, kn1⟩ : ∃ s l, Nm (k1 : Int) s l := ⟨_, _, rfl, rfl⟩
 obtain ⟨ts0, tl0, tn0⟩ : ∃ s l, Nm ((2 ^ k0 : Nat) : Int) s l := ⟨_, _, rfl, rfl⟩
 obtain ⟨ts1, tl1, tn1⟩ : ∃ s l, Nm ((2 ^ k1 : Nat) : Int) s l := ⟨_, _, rfl, rfl⟩
 have kw : IvW (shK Q) ⟨false, ks0, kl0, false, ks1, kl1⟩ := nm_ivw (by rw [← hk0e]; exact kn0) (by rw [← hk1e]; exact kn1) (by omega) (by omega)
 have tw : IvW (shT Q) ⟨false, ts0, tl0, false, ts1, tl1⟩ := nm_ivw (by rw [et0]; exact tn0) (by rw [et1]; exact tn1) (by omega) (by omega)
 obtain ⟨xs0, xl0, xn0⟩ : ∃ s l, Nm (0 : Int) s l := ⟨_, _, rfl, rfl⟩
 obtain ⟨xs1, xl1, xn1⟩ : ∃ s l, Nm (63 : Int) s l := ⟨_, _, rfl, rfl⟩
 have xw : IvW (0, 63) ⟨false, xs0, xl0, false, xs1, xl1⟩ := nm_ivw xn0 xn1 (by dsimp only; omega) (by dsimp only; omega)
 have xg : IvN 1 (0 : Int) 63 := ⟨.inr (.inr (by omega)), .inr (.inr (by omega)), by omega, by omega, by omega⟩
 have OF : Hid (∀ W, Calls Tryz.prog 91 #[.int .i64 0, .int .i64 63] W fun e w' => ∃ A c B d, e = .returned (.tuple #[.agg #[.bool false, .bool xs0, .slice A xl0.length c, .bool false, .bool xs1, .slice B xl1.length d], .int .i64 0]) ∧ U64s w' (new W.heap.size) A c xl0 ∧ U64s w' (new W.heap.size) B d xl1 ∧ Below W.heap.size W w') := fun W => by
  have h := iof_good (w := W) (x := 0) (y := 63) (by omega) (by omega) (by omega)
  rw [← xw.1.1, ← xw.1.2.1, ← xw.1.2.2, ← xw.2.1, ← xw.2.2.1, ← xw.2.2.2] at h
  exact h
 obtain ⟨MT, P0, P1, CR⟩ := hid4 (fun (W : World) (Z5 Z6 : Zone) (E F : Option Addr) (e f : Nat) (h : Below w.heap.size w W) (v0 : U64s W Z5 E e xl0) (v1 : U64s W Z6 F f xl1) => imeet_w (w := W) hq gq (by omega) xw xg (by omega) kw (g := true) (decide_eq_true hle) (u3.below h) (u4.below h) v0 v1) (fun (W : World) (Z5 : Zone) (E : Option Addr) (e : Nat) (v : U64s W Z5 E e kl0) => ipower_w kn0 (by omega) tn0 v) (fun (W : World) (Z5 : Zone) (E : Option Addr) (e : Nat) (v : U64s W Z5 E e kl1) => ipower_w kn1 (by omega) tn1 v) (fun (W : World) (Z5 Z6 : Zone) (E F : Option Addr) (e f : Nat) (h : Below w.heap.size w W) (v0 : U64s W Z5 E e tl0) (v1 : U64s W Z6 F f tl1) => hC tw (u1.below h) (u2.below h) v0 v1)
 clear hg hck hb1 bR hB0 u1 u2 u3 u4 hp hq gp gq hC kp kq hle hk0 hk1 hk0e hk1e hbig ebig hT et0 et1 kn0 kn1 tn0 tn1 kw tw xn0 xn1 xw xg
 go_enter Tryz.func46, Tryz.ntmps46
 go_wp2_with fail
 refine Hck.out.mono ?_
 rintro e w1 ⟨rfl, hc⟩
 have H1 := hid (from_ Hb1.out hc)
 replace HR := hid (HR.out.below hc)
 replace HA := hid (HA.out.below hc)
 replace HBb := hid (HBb.out.below hc)
 clear a0 b0 b1 b2 b3 b4 b5 Hck Hb1 hc
 go_wp2_with fail
 refine (OF.out _).mono ?_
 rintro e w2 ⟨X0, x0, X1, x1, rfl, vx0, vx1, hc⟩
 go_upto_region 5 with fail
 have hax : Below w2.heap.size w2 (w2.alloc (.cells #[.bool false, .bool xs0, .slice X0 xl0.length x0, .bool false, .bool xs1, .slice X1 xl1.length x1] 29)) := (Below.refl _ _).alloc (Nat.le_refl _) _
 have BX := hid (Box6.new w2 (.bool false) (.bool xs0) (.slice X0 xl0.length x0) (.bool false) (.bool xs1) (.slice X1 xl1.length x1) 29)
 obtain ⟨gX, hgX⟩ : ∃ gX, gX = w2.heap.size := ⟨_, rfl⟩
 rw [← hgX] at BX
 have hc8 := from_ hc hax
 obtain ⟨VX0, VX1⟩ := hid2 (vx0.below hax) (vx1.below hax)
 replace HR := hid (HR.out.below hc8)
 replace HA := hid (HA.out.below hc8)
 replace HBb := hid (HBb.out.below hc8)
 replace H1 := hid (from_ H1.out hc8)
 clear hc hax hc8 vx0 vx1 OF
 generalize hWx : w2.alloc (.cells #[.bool false, .bool xs0, .slice X0 xl0.length x0, .bool false, .bool xs1, .slice X1 xl1.length x1] 29) = W2 at *
 try simp only [← hgX]
 clear hWx hgX
 have b0 := HBb.out.all
 have y0 := BX.out.all
 go_wp2_with fail
 refine (MT.out _ _ _ _ _ _ _ H1.out VX0.out VX1.out).mono ?_
 rintro e w3 ⟨hT, _, hc⟩
 obtain ⟨K0, k0', K1, k1', rfl, vk0, vk1⟩ := hT (by first | rfl | trivial)
 clear hT b0 y0 BX HBb VX0 VX1 MT
 go_upto_region 9 with fail
 have hax : Below w3.heap.size w3 (w3.alloc (.cells #[.bool false, .bool ks0, .slice K0 kl0.length k0', .bool false, .bool ks1, .slice K1 kl1.length k1'] 29)) := (Below.refl _ _).alloc (Nat.le_refl _) _
 have BK := hid (Box6.new w3 (.bool false) (.bool ks0) (.slice K0 kl0.length k0') (.bool false) (.bool ks1) (.slice K1 kl1.length k1') 29)
 obtain ⟨gK, hgK⟩ : ∃ gK, gK = w3.heap.size := ⟨_, rfl⟩
 rw [← hgK] at BK
 have hltr := HR.out.lt
 have hc8 := from_ hc hax
 obtain ⟨VK0, VK1⟩ := hid2 (vk0.below hax) (vk1.below hax)
 obtain ⟨gR, hgR⟩ : ∃ gR, gR = w.heap.size + 2 := ⟨_, rfl⟩
 have hcs := hc.size
 replace HR := hid (HR.out.below hc8)
 replace HA := hid (HA.out.below hc8)
 rw [← hgR] at HR hltr
 obtain ⟨N1, N2, HGR⟩ := hid3 (show gR ≠ w.heap.size by omega) (show gR ≠ gK by omega) hgR
 replace H1 := hid (from_ H1.out hc8)
 simp only [show w.heap.size + 2 = gR from hgR.symm, show w.heap.size + 1 + 1 = gR from hgR.symm]
 clear hc hax hc8 vk0 vk1 hltr hcs hgR
 generalize hWx : w3.alloc (.cells #[.bool false, .bool ks0, .slice K0 kl0.length k0', .bool false, .bool ks1, .slice K1 kl1.length k1'] 29) = W3 at *
 try simp only [← hgK]
 clear hWx hgK
 have hs := cc0_keep (And.intro HA.out.all BK.out.all) bdr_
 have Hc := hid (Below.refl W3.heap.size W3).drew
 replace HR := hid (HR.out.below bdr_)
 first | go_region_held3 (fun w' => (C6 w' w.heap.size (.bool p.n0) (.bool p.s0) (.slice A p.l0.length a) (.bool p.n1) (.bool p.s1) (.slice B p.l1.length b)) ∧ C6 w' gK (.bool false) (.bool ks0) (.slice K0 kl0.length k0') (.bool false) (.bool ks1) (.slice K1 kl1.length k1'))
  (first
   | with_reducible exact hs
   | (with_reducible apply cc0_st6 rfl <;> (first | with_reducible exact hs | with_reducible exact N1.out | with_reducible exact N2.out)))
  (first
   | (go_at_call 92; with_reducible refine (P0.out _ _ _ _ (VK0.out.below Hc.out)).mono ?_; rintro e w4 ⟨T0, t0, rfl, vt0, hc2⟩; replace hs := cc0_keep hs hc2; replace HR := hid (HR.out.below hc2); replace Hc := hid (from_ Hc.out hc2))
   | (go_at_call 92; with_reducible refine (P1.out _ _ _ _ (VK1.out.below Hc.out)).mono ?_; rintro e w4 ⟨T1, t1, rfl, vt1, hc2⟩; replace vt0 := vt0.below hc2; replace hs := cc0_keep hs hc2; replace HR := hid (HR.out.below hc2); replace Hc := hid (from_ Hc.out hc2))
   | (go_at_call 32; with_reducible refine (CR.out _ _ _ _ _ _ _ (from_ H1.out Hc.out) vt0 vt1).mono ?_; rintro e w4 ⟨E0, e0, E1, e1, rfl, o0, o1, hc2⟩; have hlt := HR.out.lt; replace hs := cc0_keep hs hc2; replace HR := hid (HR.out.below hc2); replace Hc := hid (from_ Hc.out hc2); have g0 := HR.out.cf)) | fail
 all_goals
  have hgr := HGR.out
  have hw0 : w.heap.size ≤ gR := by omega
  obtain ⟨HP, U1, U2⟩ := hid3 (HR.out.put (w := w) (from_ H1.out Hc.out) hw0 (.bool r.n0) (.bool r.s0) (.slice E0 r.l0.length e0) (.bool r.n1) (.bool r.s1) (.slice E1 r.l1.length e1)) ((o0.set6 (g := gR) (fun (h : _ ≤ gR) => by omega) (.bool r.n0) (.bool r.s0) (.slice E0 r.l0.length e0) (.bool r.n1) (.bool r.s1) (.slice E1 r.l1.length e1)).mono (new_le (show w.heap.size ≤ _ by omega))) ((o1.set6 (g := gR) (fun (h : _ ≤ gR) => by omega) (.bool r.n0) (.bool r.s0) (.slice E0 r.l0.length e0) (.bool r.n1) (.bool r.s1) (.slice E1 r.l1.length e1)).mono (new_le (show w.heap.size ≤ _ by omega)))
  clear o0 o1 hgr hw0 hlt
  go_wp2
  refine bodyPost_ret (res_itv2 rfl _ gR rfl HP.out.box) rfl ?_
  exact ⟨_, _, _, _, rfl, U1.out, U2.out, HP.out.bel⟩
theorem ishiftT_w (hp : IvW P p) (gp : IvN 32 P.1 P.2) (hq : IvW Q q) (gq : IvN 60 Q.1 Q.2) (u1 : U64s w Z1 A a p.l0) (u2 : U64s w Z2 B b p.l1) (u3 : U64s w Z3 C c q.l0) (u4 : U64s w Z4 D d q.l1) (hle : (shK Q).1 ≤ (shK Q).2) (hr : IvW (shlP P Q) r) :
  Calls Tryz.prog 46 #[.agg #[.bool p.n0, .bool p.s0, .slice A p.l0.length a, .bool p.n1, .bool p.s1, .slice B p.l1.length b], .agg #[.bool q.n0, .bool q.s0, .slice C q.l0.length c, .bool q.n1, .bool q.s1, .slice D q.l1.length d], .func (.func 33) #[] #[]] w fun e w' => ∃ rA ra rB rb, e = .returned (.tuple #[.agg #[.bool r.n0, .bool r.s0, .slice rA r.l0.length ra, .bool r.n1, .bool r.s1, .slice rB r.l1.length rb], .int .i64 0]) ∧ U64s w' (new w.heap.size) rA ra r.l0 ∧ U64s w' (new w.heap.size) rB rb r.l1 ∧ Below w.heap.size w w' :=
 ishift_any hp gp hq gq u1 u2 u3 u4 hle fun tw v1 v2 v3 v4 => icrossT_w hp gp tw (shT_ok hle).1 (shT_ok hle).2 hr v1 v2 v3 v4
theorem ishiftD_w (hp : IvW P p) (gp : IvN 32 P.1 P.2) (hq : IvW Q q) (gq : IvN 60 Q.1 Q.2) (u1 : U64s w Z1 A a p.l0) (u2 : U64s w Z2 B b p.l1) (u3 : U64s w Z3 C c q.l0) (u4 : U64s w Z4 D d q.l1) (hle : (shK Q).1 ≤ (shK Q).2) (hr : IvW (shrP P Q) r) :
  Calls Tryz.prog 46 #[.agg #[.bool p.n0, .bool p.s0, .slice A p.l0.length a, .bool p.n1, .bool p.s1, .slice B p.l1.length b], .agg #[.bool q.n0, .bool q.s0, .slice C q.l0.length c, .bool q.n1, .bool q.s1, .slice D q.l1.length d], .func (.func 53) #[] #[]] w fun e w' => ∃ rA ra rB rb, e = .returned (.tuple #[.agg #[.bool r.n0, .bool r.s0, .slice rA r.l0.length ra, .bool r.n1, .bool r.s1, .slice rB r.l1.length rb], .int .i64 0]) ∧ U64s w' (new w.heap.size) rA ra r.l0 ∧ U64s w' (new w.heap.size) rB rb r.l1 ∧ Below w.heap.size w w' :=
 ishift_any hp gp hq gq u1 u2 u3 u4 hle fun tw v1 v2 v3 v4 => icrossD_w hp gp tw (shT_ok hle).1 (shT_ok hle).2 hr v1 v2 v3 v4
theorem ishl_w (hp : IvW P p) (gp : IvN 32 P.1 P.2) (hq : IvW Q q) (gq : IvN 60 Q.1 Q.2) (u1 : U64s w Z1 A a p.l0) (u2 : U64s w Z2 B b p.l1) (u3 : U64s w Z3 C c q.l0) (u4 : U64s w Z4 D d q.l1) (hle : (shK Q).1 ≤ (shK Q).2) (hr : IvW (shlP P Q) r) :
  Calls Tryz.prog 14 #[.agg #[.bool p.n0, .bool p.s0, .slice A p.l0.length a, .bool p.n1, .bool p.s1, .slice B p.l1.length b], .agg #[.bool q.n0, .bool q.s0, .slice C q.l0.length c, .bool q.n1, .bool q.s1, .slice D q.l1.length d]] w fun e w' => ∃ rA ra rB rb, e = .returned (.tuple #[.agg #[.bool r.n0, .bool r.s0, .slice rA r.l0.length ra, .bool r.n1, .bool r.s1, .slice rB r.l1.length rb], .int .i64 0]) ∧ U64s w' (new w.heap.size) rA ra r.l0 ∧ U64s w' (new w.heap.size) rB rb r.l1 ∧ Below w.heap.size w w' := by
 obtain ⟨bA, bB, bR, hB0⟩ := boxX w (.bool p.n0) (.bool p.s0) (.slice A p.l0.length a) (.bool p.n1) (.bool p.s1) (.slice B p.l1.length b) (.bool q.n0) (.bool q.s0) (.slice C q.l0.length c) (.bool q.n1) (.bool q.s1) (.slice D q.l1.length d) (.bool false) (.bool false) (.slice none 0 0) (.bool false) (.bool false) (.slice none 0 0) 29
 obtain ⟨J, HR, HB⟩ := hid3 (ishiftT_w hp gp hq gq (u1.below hB0) (u2.below hB0) (u3.below hB0) (u4.below hB0) hle hr) bR hB0
 have a0 := bA.all
 have b0 := bB.all
 clear bR hB0 u1 u2 u3 u4 hp gp hq gq hle hr
 go_enter Tryz.func14, Tryz.ntmps14
 go_wp2_with fail
 refine J.out.mono ?_
 rintro e w1 ⟨E0, e0, E1, e1, rfl, o0, o1, hc⟩
 have R := HR.out.below hc
 have hz := HR.out.lt
 obtain ⟨HP, U1, U2⟩ := hid3 (R.put (w := w) (from_ HB.out hc) (show w.heap.size ≤ w.heap.size + 2 by omega) (.bool r.n0) (.bool r.s0) (.slice E0 r.l0.length e0) (.bool r.n1) (.bool r.s1) (.slice E1 r.l1.length e1)) ((o0.set6 (g := w.heap.size + 2) (fun (h : _ ≤ w.heap.size + 2) => by omega) (.bool r.n0) (.bool r.s0) (.slice E0 r.l0.length e0) (.bool r.n1) (.bool r.s1) (.slice E1 r.l1.length e1)).mono (new_le HB.out.size)) ((o1.set6 (g := w.heap.size + 2) (fun (h : _ ≤ w.heap.size + 2) => by omega) (.bool r.n0) (.bool r.s0) (.slice E0 r.l0.length e0) (.bool r.n1) (.bool r.s1) (.slice E1 r.l1.length e1)).mono (new_le HB.out.size))
 have g0 := R.cf
 clear hc hz o0 o1 a0 b0
 go_wp2
 refine bodyPost_ret (res_itv2 rfl _ (w.heap.size + 2) rfl HP.out.box) rfl ?_
 exact ⟨_, _, _, _, rfl, U1.out, U2.out, HP.out.bel⟩
theorem ishr_w (hp : IvW P p) (gp : IvN 32 P.1 P.2) (hq : IvW Q q) (gq : IvN 60 Q.1 Q.2) (u1 : U64s w Z1 A a p.l0) (u2 : U64s w Z2 B b p.l1) (u3 : U64s w Z3 C c q.l0) (u4 : U64s w Z4 D d q.l1) (hle : (shK Q).1 ≤ (shK Q).2) (hr : IvW (shrP P Q) r) :
  Calls Tryz.prog 16 #[.agg #[.bool p.n0, .bool p.s0, .slice A p.l0.length a, .bool p.n1, .bool p.s1, .slice B p.l1.length b], .agg #[.bool q.n0, .bool q.s0, .slice C q.l0.length c, .bool q.n1, .bool q.s1, .slice D q.l1.length d]] w fun e w' => ∃ rA ra rB rb, e = .returned (.tuple #[.agg #[.bool r.n0, .bool r.s0, .slice rA r.l0.length ra, .bool r.n1, .bool r.s1, .slice rB r.l1.length rb], .int .i64 0]) ∧ U64s w' (new w.heap.size) rA ra r.l0 ∧ U64s w' (new w.heap.size) rB rb r.l1 ∧ Below w.heap.size w w' := by
 obtain ⟨bA, bB, bR, hB0⟩ := boxX w (.bool p.n0) (.bool p.s0) (.slice A p.l0.length a) (.bool p.n1) (.bool p.s1) (.slice B p.l1.length b) (.bool q.n0) (.bool q.s0) (.slice C q.l0.length c) (.bool q.n1) (.bool q.s1) (.slice D q.l1.length d) (.bool false) (.bool false) (.slice none 0 0) (.bool false) (.bool false) (.slice none 0 0) 29
 obtain ⟨J, HR, HB⟩ := hid3 (ishiftD_w hp gp hq gq (u1.below hB0) (u2.below hB0) (u3.below hB0) (u4.below hB0) hle hr) bR hB0
 have a0 := bA.all
 have b0 := bB.all
 clear bR hB0 u1 u2 u3 u4 hp gp hq gq hle hr
 go_enter Tryz.func16, Tryz.ntmps16
 go_wp2_with fail
 refine J.out.mono ?_
 rintro e w1 ⟨E0, e0, E1, e1, rfl, o0, o1, hc⟩
 have R := HR.out.below hc
 have hz := HR.out.lt
 obtain ⟨HP, U1, U2⟩ := hid3 (R.put (w := w) (from_ HB.out hc) (show w.heap.size ≤ w.heap.size + 2 by omega) (.bool r.n0) (.bool r.s0) (.slice E0 r.l0.length e0) (.bool r.n1) (.bool r.s1) (.slice E1 r.l1.length e1)) ((o0.set6 (g := w.heap.size + 2) (fun (h : _ ≤ w.heap.size + 2) => by omega) (.bool r.n0) (.bool r.s0) (.slice E0 r.l0.length e0) (.bool r.n1) (.bool r.s1) (.slice E1 r.l1.length e1)).mono (new_le HB.out.size)) ((o1.set6 (g := w.heap.size + 2) (fun (h : _ ≤ w.heap.size + 2) => by omega) (.bool r.n0) (.bool r.s0) (.slice E0 r.l0.length e0) (.bool r.n1) (.bool r.s1) (.slice E1 r.l1.length e1)).mono (new_le HB.out.size))
 have g0 := R.cf
 clear hc hz o0 o1 a0 b0
 go_wp2
 refine bodyPost_ret (res_itv2 rfl _ (w.heap.size + 2) rfl HP.out.box) rfl ?_
 exact ⟨_, _, _, _, rfl, U1.out, U2.out, HP.out.bel⟩
theorem idiv_zero (hp : IvW P p) (gp : IvN 60 P.1 P.2) (hq : IvW Q q) (gq : IvN 60 Q.1 Q.2) (u1 : U64s w Z1 A a p.l0) (u2 : U64s w Z2 B b p.l1) (u3 : U64s w Z3 C c q.l0) (u4 : U64s w Z4 D d q.l1) (hne : partsP Q = []) :
  Calls Tryz.prog 10 #[.agg #[.bool p.n0, .bool p.s0, .slice A p.l0.length a, .bool p.n1, .bool p.s1, .slice B p.l1.length b], .agg #[.bool q.n0, .bool q.s0, .slice C q.l0.length c, .bool q.n1, .bool q.s1, .slice D q.l1.length d]] w fun e w' => e = .returned (.tuple #[.agg #[.bool false, .bool false, .slice none 0 0, .bool false, .bool false, .slice none 0 0], .int .i64 30]) ∧ Below w.heap.size w w' := by
 obtain ⟨bA, bB, bR, hB0⟩ := boxX w (.bool p.n0) (.bool p.s0) (.slice A p.l0.length a) (.bool p.n1) (.bool p.s1) (.slice B p.l1.length b) (.bool q.n0) (.bool q.s0) (.slice C q.l0.length c) (.bool q.n1) (.bool q.s1) (.slice D q.l1.length d) (.bool false) (.bool false) (.slice none 0 0) (.bool false) (.bool false) (.slice none 0 0) 29
 have hb1 := hB0.alloc hB0.size (.cells #[.bool p.n0, .bool p.s0, .slice A p.l0.length a, .bool p.n1, .bool p.s1, .slice B p.l1.length b, .bool q.n0, .bool q.s0, .slice C q.l0.length c, .bool q.n1, .bool q.s1, .slice D q.l1.length d] 29)
 have hg := given_twoA (p := p) (q := q) (ty := 29) (u1.below hB0) (u2.below hB0) (u3.below hB0) (u4.below hB0)
 rw [show (((w.alloc (.cells #[.bool p.n0, .bool p.s0, .slice A p.l0.length a, .bool p.n1, .bool p.s1, .slice B p.l1.length b] 29)).alloc (.cells #[.bool q.n0, .bool q.s0, .slice C q.l0.length c, .bool q.n1, .bool q.s1, .slice D q.l1.length d] 29)).alloc (.cells #[.bool false, .bool false, .slice none 0 0, .bool false, .bool false, .slice none 0 0] 29)).heap.size = w.heap.size + 3 by simp] at hg
 have kp := hp.k gp (by omega)
 have kq := hq.k gq (by omega)
 have hck := ichecked_any (n := 2) (c := 2) hg rfl (by simp) (by intro p' hp'; simp only [List.mem_cons, List.not_mem_nil, or_false] at hp'; rcases hp' with rfl | rfl <;> exact ⟨by have := kp.q0; have := kq.q0; omega, by have := kp.q1; have := kq.q1; omega⟩)
 rw [errAs_two, if_pos ⟨kp.ok, kq.ok⟩] at hck
 obtain ⟨HA, HBb, HR, Hck, Hb1⟩ := hid5 (bA.alloc (.cells #[.bool p.n0, .bool p.s0, .slice A p.l0.length a, .bool p.n1, .bool p.s1, .slice B p.l1.length b, .bool q.n0, .bool q.s0, .slice C q.l0.length c, .bool q.n1, .bool q.s1, .slice D q.l1.length d] 29)) (bB.alloc (.cells #[.bool p.n0, .bool p.s0, .slice A p.l0.length a, .bool p.n1, .bool p.s1, .slice B p.l1.length b, .bool q.n0, .bool q.s0, .slice C q.l0.length c, .bool q.n1, .bool q.s1, .slice D q.l1.length d] 29)) (bR.alloc (.cells #[.bool p.n0, .bool p.s0, .slice A p.l0.length a, .bool p.n1, .bool p.s1, .slice B p.l1.length b, .bool q.n0, .bool q.s0, .slice C q.l0.length c, .bool q.n1, .bool q.s1, .slice D q.l1.length d] 29)) hck hb1
 have a0 := bA.all
 obtain ⟨b0, b1, b2, b3, b4, b5, _, _, _, _, _, _, _⟩ := bB
 have PT := hid (fun (W : World) (h : Below w.heap.size w W) => iparted_w hq gq (by omega) (u3.below h) (u4.below h))
 have PT2 : Hid (∀ W, Below w.heap.size w W → Calls Tryz.prog 35 #[.agg #[.bool q.n0, .bool q.s0, .slice C q.l0.length c, .bool q.n1, .bool q.s1, .slice D q.l1.length d]] W fun e w' => ∃ Av cv, e = .returned (.slice Av 0 cv) ∧ Below W.heap.size W w') := fun W h => by
  refine (PT.out W h).mono ?_
  rintro e w' ⟨Av, cv, rfl, _, _, hb⟩
  exact ⟨Av, cv, by rw [hne]; rfl, hb⟩
 clear hg hck hb1 bR hB0 u1 u2 u3 u4 hp hq gp gq hne kp kq PT
 go_enter Tryz.func10, Tryz.ntmps10
 go_wp2_with fail
 refine Hck.out.mono ?_
 rintro e w1 ⟨rfl, hc⟩
 have H1 := hid (from_ Hb1.out hc)
 replace HR := hid (HR.out.below hc)
 replace HA := hid (HA.out.below hc)
 replace HBb := hid (HBb.out.below hc)
 clear a0 b0 b1 b2 b3 b4 b5 Hck Hb1
 have b0 := HBb.out.all
 clear hc
 go_wp2_with fail
 refine (PT2.out _ H1.out).mono ?_
 rintro e w2 ⟨Av, cv, rfl, hc⟩
 have HB2 := hid (from_ H1.out hc)
 have R := HR.out.below hc
 have HP := hid (R.put (w := w) HB2.out (show w.heap.size ≤ w.heap.size + 2 by omega) (.bool false) (.bool false) (.slice none 0 0) (.bool false) (.bool false) (.slice none 0 0))
 have g0 := R.cf
 clear b0 hc PT2
 go_wp2
 refine bodyPost_ret (res_itv2 rfl _ (w.heap.size + 2) rfl HP.out.box) rfl ?_
 exact ⟨by first | rfl | trivial, HP.out.bel⟩
theorem ishift_none {o : Value} (hp : IvW P p) (gp : IvN 32 P.1 P.2) (hq : IvW Q q) (gq : IvN 60 Q.1 Q.2) (u1 : U64s w Z1 A a p.l0) (u2 : U64s w Z2 B b p.l1) (u3 : U64s w Z3 C c q.l0) (u4 : U64s w Z4 D d q.l1) (hle : ¬ (shK Q).1 ≤ (shK Q).2) :
  Calls Tryz.prog 46 #[.agg #[.bool p.n0, .bool p.s0, .slice A p.l0.length a, .bool p.n1, .bool p.s1, .slice B p.l1.length b], .agg #[.bool q.n0, .bool q.s0, .slice C q.l0.length c, .bool q.n1, .bool q.s1, .slice D q.l1.length d], o] w fun e w' => e = .returned (.tuple #[.agg #[.bool false, .bool false, .slice none 0 0, .bool false, .bool false, .slice none 0 0], .int .i64 2]) ∧ Below w.heap.size w w' := by
 obtain ⟨bA, bB, bR, hB0⟩ := boxX w (.bool p.n0) (.bool p.s0) (.slice A p.l0.length a) (.bool p.n1) (.bool p.s1) (.slice B p.l1.length b) (.bool q.n0) (.bool q.s0) (.slice C q.l0.length c) (.bool q.n1) (.bool q.s1) (.slice D q.l1.length d) (.bool false) (.bool false) (.slice none 0 0) (.bool false) (.bool false) (.slice none 0 0) 29
 have hb1 := hB0.alloc hB0.size (.cells #[.bool p.n0, .bool p.s0, .slice A p.l0.length a, .bool p.n1, .bool p.s1, .slice B p.l1.length b, .bool q.n0, .bool q.s0, .slice C q.l0.length c, .bool q.n1, .bool q.s1, .slice D q.l1.length d] 29)
 have hg := given_twoA (p := p) (q := q) (ty := 29) (u1.below hB0) (u2.below hB0) (u3.below hB0) (u4.below hB0)
 rw [show (((w.alloc (.cells #[.bool p.n0, .bool p.s0, .slice A p.l0.length a, .bool p.n1, .bool p.s1, .slice B p.l1.length b] 29)).alloc (.cells #[.bool q.n0, .bool q.s0, .slice C q.l0.length c, .bool q.n1, .bool q.s1, .slice D q.l1.length d] 29)).alloc (.cells #[.bool false, .bool false, .slice none 0 0, .bool false, .bool false, .slice none 0 0] 29)).heap.size = w.heap.size + 3 by simp] at hg
 have kp := hp.k gp (by omega)
 have kq := hq.k gq (by omega)
 have hck := ichecked_any (n := 2) (c := 2) hg rfl (by simp) (by intro p' hp'; simp only [List.mem_cons, List.not_mem_nil, or_false] at hp'; rcases hp' with rfl | rfl <;> exact ⟨by have := kp.q0; have := kq.q0; omega, by have := kp.q1; have := kq.q1; omega⟩)
 rw [errAs_two, if_pos ⟨kp.ok, kq.ok⟩] at hck
 obtain ⟨HA, HBb, HR, Hck, Hb1⟩ := hid5 (bA.alloc (.cells #[.bool p.n0, .bool p.s0, .slice A p.l0.length a, .bool p.n1, .bool p.s1, .slice B p.l1.length b, .bool q.n0, .bool q.s0, .slice C q.l0.length c, .bool q.n1, .bool q.s1, .slice D q.l1.length d] 29)) (bB.alloc (.cells #[.bool p.n0, .bool p.s0, .slice A p.l0.length a, .bool p.n1, .bool p.s1, .slice B p.l1.length b, .bool q.n0, .bool q.s0, .slice C q.l0.length c, .bool q.n1, .bool q.s1, .slice D q.l1.length d] 29)) (bR.alloc (.cells #[.bool p.n0, .bool p.s0, .slice A p.l0.length a, .bool p.n1, .bool p.s1, .slice B p.l1.length b, .bool q.n0, .bool q.s0, .slice C q.l0.length c, .bool q.n1, .bool q.s1, .slice D q.l1.length d] 29)) hck hb1
 have a0 := bA.all
 obtain ⟨b0, b1, b2, b3, b4, b5, _, _, _, _, _, _, _⟩ := bB
 have hb1 := big_one
 have hbig := wN_le (show 1 ≤ 64 by omega)
 have ebig : wN 1 = 18446744073709551616 := rfl
 obtain ⟨km, kw⟩ : ∃ km, IvW (shK Q) km := ⟨_, IvW.mk _⟩
 obtain ⟨xs0, xl0, xn0⟩ : ∃ s l, Nm (0 : Int) s l := ⟨_, _, rfl, rfl⟩
 obtain ⟨xs1, xl1, xn1⟩ : ∃ s l, Nm (63 : Int) s l := ⟨_, _, rfl, rfl⟩
 have xw : IvW (0, 63) ⟨false, xs0, xl0, false, xs1, xl1⟩ := nm_ivw xn0 xn1 (by dsimp only; omega) (by dsimp only; omega)
 have xg : IvN 1 (0 : Int) 63 := ⟨.inr (.inr (by omega)), .inr (.inr (by omega)), by omega, by omega, by omega⟩
 have OF : Hid (∀ W, Calls Tryz.prog 91 #[.int .i64 0, .int .i64 63] W fun e w' => ∃ A c B d, e = .returned (.tuple #[.agg #[.bool false, .bool xs0, .slice A xl0.length c, .bool false, .bool xs1, .slice B xl1.length d], .int .i64 0]) ∧ U64s w' (new W.heap.size) A c xl0 ∧ U64s w' (new W.heap.size) B d xl1 ∧ Below W.heap.size W w') := fun W => by
  have h := iof_good (w := W) (x := 0) (y := 63) (by omega) (by omega) (by omega)
  rw [← xw.1.1, ← xw.1.2.1, ← xw.1.2.2, ← xw.2.1, ← xw.2.2.1, ← xw.2.2.2] at h
  exact h
 have MT := hid (fun (W : World) (Z5 Z6 : Zone) (E F : Option Addr) (e f : Nat) (h : Below w.heap.size w W) (v0 : U64s W Z5 E e xl0) (v1 : U64s W Z6 F f xl1) => imeet_w (w := W) hq gq (by omega) xw xg (by omega) kw (g := false) (decide_eq_false hle) (u3.below h) (u4.below h) v0 v1)
 clear hg hck hb1 bR hB0 u1 u2 u3 u4 hp hq gp gq kp kq hle hbig ebig kw xn0 xn1 xw xg
 go_enter Tryz.func46, Tryz.ntmps46
 go_wp2_with fail
 refine Hck.out.mono ?_
 rintro e w1 ⟨rfl, hc⟩
 have H1 := hid (from_ Hb1.out hc)
 replace HR := hid (HR.out.below hc)
 replace HA := hid (HA.out.below hc)
 replace HBb := hid (HBb.out.below hc)
 clear a0 b0 b1 b2 b3 b4 b5 Hck Hb1 hc
 go_wp2_with fail
 refine (OF.out _).mono ?_
 rintro e w2 ⟨X0, x0, X1, x1, rfl, vx0, vx1, hc⟩
 go_upto_region 5 with fail
 have hax : Below w2.heap.size w2 (w2.alloc (.cells #[.bool false, .bool xs0, .slice X0 xl0.length x0, .bool false, .bool xs1, .slice X1 xl1.length x1] 29)) := (Below.refl _ _).alloc (Nat.le_refl _) _
 have BX := hid (Box6.new w2 (.bool false) (.bool xs0) (.slice X0 xl0.length x0) (.bool false) (.bool xs1) (.slice X1 xl1.length x1) 29)
 obtain ⟨gX, hgX⟩ : ∃ gX, gX = w2.heap.size := ⟨_, rfl⟩
 rw [← hgX] at BX
 have hc8 := from_ hc hax
 obtain ⟨VX0, VX1⟩ := hid2 (vx0.below hax) (vx1.below hax)
 replace HR := hid (HR.out.below hc8)
 replace HA := hid (HA.out.below hc8)
 replace HBb := hid (HBb.out.below hc8)
 replace H1 := hid (from_ H1.out hc8)
 clear hc hax hc8 vx0 vx1 OF
 generalize hWx : w2.alloc (.cells #[.bool false, .bool xs0, .slice X0 xl0.length x0, .bool false, .bool xs1, .slice X1 xl1.length x1] 29) = W2 at *
 try simp only [← hgX]
 clear hWx hgX
 have b0 := HBb.out.all
 have y0 := BX.out.all
 go_wp2_with fail
 refine (MT.out _ _ _ _ _ _ _ H1.out VX0.out VX1.out).mono ?_
 rintro e w3 ⟨_, hF, hc⟩
 obtain rfl := hF (by first | rfl | trivial)
 have hax : Below w3.heap.size w3 (w3.alloc (.cells #[.bool false, .bool false, .slice none 0 0, .bool false, .bool false, .slice none 0 0] 29)) := (Below.refl _ _).alloc (Nat.le_refl _) _
 have R := (HR.out.below hc).below hax
 have HP := hid (R.put (w := w) (from_ (from_ H1.out hc) hax) (show w.heap.size ≤ w.heap.size + 2 by omega) (.bool false) (.bool false) (.slice none 0 0) (.bool false) (.bool false) (.slice none 0 0))
 have g0 := (HR.out.below hc).cf
 have hltr := HR.out.lt
 have hcs := hc.size
 have n1 : ¬ w3.heap.size = w.heap.size + 2 := by omega
 have n2 : ¬ w.heap.size + 2 = w3.heap.size := by omega
 have n3 : ¬ w3.heap.size = w.heap.size + 1 + 1 := by omega
 have n4 : ¬ w.heap.size + 1 + 1 = w3.heap.size := by omega
 have G0 := R.cf
 clear hF hc hax b0 y0 BX HBb VX0 VX1 MT hcs hltr g0
 go_upto_region 7 with fail
 generalize w3.alloc (.cells #[.bool false, .bool false, .slice none 0 0, .bool false, .bool false, .slice none 0 0] 29) = W3 at *
 clear n1 n2 n3 n4
 go_wp2
 refine bodyPost_ret (res_itv2 rfl _ (w.heap.size + 2) rfl HP.out.box) rfl ?_
 exact ⟨by first | rfl | trivial, HP.out.bel⟩
theorem ishl_none (hp : IvW P p) (gp : IvN 32 P.1 P.2) (hq : IvW Q q) (gq : IvN 60 Q.1 Q.2) (u1 : U64s w Z1 A a p.l0) (u2 : U64s w Z2 B b p.l1) (u3 : U64s w Z3 C c q.l0) (u4 : U64s w Z4 D d q.l1) (hle : ¬ (shK Q).1 ≤ (shK Q).2) :
  Calls Tryz.prog 14 #[.agg #[.bool p.n0, .bool p.s0, .slice A p.l0.length a, .bool p.n1, .bool p.s1, .slice B p.l1.length b], .agg #[.bool q.n0, .bool q.s0, .slice C q.l0.length c, .bool q.n1, .bool q.s1, .slice D q.l1.length d]] w fun e w' => e = .returned (.tuple #[.agg #[.bool false, .bool false, .slice none 0 0, .bool false, .bool false, .slice none 0 0], .int .i64 2]) ∧ Below w.heap.size w w' := by
 obtain ⟨bA, bB, bR, hB0⟩ := boxX w (.bool p.n0) (.bool p.s0) (.slice A p.l0.length a) (.bool p.n1) (.bool p.s1) (.slice B p.l1.length b) (.bool q.n0) (.bool q.s0) (.slice C q.l0.length c) (.bool q.n1) (.bool q.s1) (.slice D q.l1.length d) (.bool false) (.bool false) (.slice none 0 0) (.bool false) (.bool false) (.slice none 0 0) 29
 obtain ⟨J, HR, HB⟩ := hid3 (ishift_none (o := .func (.func 33) #[] #[]) hp gp hq gq (u1.below hB0) (u2.below hB0) (u3.below hB0) (u4.below hB0) hle) bR hB0
 have a0 := bA.all
 have b0 := bB.all
 clear bR hB0 u1 u2 u3 u4 hp gp hq gq hle
 go_enter Tryz.func14, Tryz.ntmps14
 go_wp2_with fail
 refine J.out.mono ?_
 rintro e w1 ⟨rfl, hc⟩
 have R := HR.out.below hc
 have HP := hid (R.put (w := w) (from_ HB.out hc) (show w.heap.size ≤ w.heap.size + 2 by omega) (.bool false) (.bool false) (.slice none 0 0) (.bool false) (.bool false) (.slice none 0 0))
 have g0 := R.cf
 clear hc a0 b0
 go_wp2
 refine bodyPost_ret (res_itv2 rfl _ (w.heap.size + 2) rfl HP.out.box) rfl ?_
 exact ⟨by first | rfl | trivial, HP.out.bel⟩
theorem ivJ_in {p q : IvP} {a : Int} (h : inI a p ∨ inI a q) : inI a (ivJ p q) := by
 unfold inI ivJ at *
 dsimp only
 omega
theorem ivJ_fold (P : IvP) {a : Int} : ∀ (t : List IvP) (o : IvP), inI a o → inI a (t.foldl (fun o q => ivJ o (ivD1 P q)) o) := by
 intro t
 induction t with
 | nil => intro o h; exact h
 | cons q t ih => intro o h; exact ih _ (ivJ_in (.inl h))
theorem ivJ_fold2 (P : IvP) {a : Int} {q : IvP} (hq : inI a (ivD1 P q)) : ∀ (t : List IvP) (o : IvP), q ∈ t → inI a (t.foldl (fun o q => ivJ o (ivD1 P q)) o) := by
 intro t
 induction t with
 | nil => intro o h; cases h
 | cons r t ih =>
   intro o h
   rcases List.mem_cons.1 h with rfl | h
   · exact ivJ_fold P t _ (ivJ_in (.inr hq))
   · exact ih _ h
end Go.Proofs.YthpngihjcphigaaGreat
