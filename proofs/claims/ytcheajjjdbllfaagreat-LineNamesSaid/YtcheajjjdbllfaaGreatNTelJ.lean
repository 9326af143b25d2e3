/- Intervals, the program's: Div. No conditions but bounds on lengths. -/
import Derived.Deep.RegionHeld3
import Derived.StillTailTactics
import Derived.Test.YtcheajjjdbllfaaGreatNItwI
import Derived.Test.YtcheajjjdbllfaaGreatNTelC
import Derived.Test.YtcheajjjdbllfaaGreatNRefE
import Derived.Test.YtcheajjjdbllfaaGreatNHeldL
import Derived.Test.YtcheajjjdbllfaaGreatNWhV
import Derived.Test.YtcheajjjdbllfaaGreatNBoxL
import Derived.Test.YtcheajjjdbllfaaGreatNWhJ
set_option linter.unusedVariables false
set_option linter.unusedSimpArgs false
set_option maxRecDepth 100000
set_option maxHeartbeats 40000000
namespace Go.Proofs.YtcheajjjdbllfaaGreat
open Go.Lib (hid)
open Go.RowKit
variable {A B C D : Option Addr} {M N a b b9 c d g h j o o9 : Nat} {P Q : IvP} {V W W' W0 w w' : World} {Y Z Z1 Z2 Z3 Z4 : Zone} {a0 a1 a2 a3 a4 a5 a6 b0 b1 b2 b3 b4 b5 c0 c1 c2 c3 c4 c5 e f v x0 x1 x2 x3 x4 x5 : Value} {q r : Iv} {t : TypeId} {xs : List Value}
theorem anyL_one {P : Program} {ops : Array Oper} {Q : Exit → Act → World → Prop} {md : Region.Mode} {A T : World → Prop} {k i : Nat} {fuel : Nat} {listed : Array Bool} {a : Act} (hr : Region.ready md ops listed = [i])
  (h : wpOp P ops Q i (fun a' w' => TillK A T k (listed.setIfInBounds i true) w' ∧ wpAnyL P md ops Q A T k fuel (listed.setIfInBounds i true) a' w') a w) : wpAnyL P md ops Q A T k (fuel + 1) listed a w :=
 ⟨fun h0 => (by rw [hr] at h0; cases h0), fun j hj => by
  rw [hr] at hj
  obtain rfl := List.mem_singleton.1 hj
  exact h⟩
def dK (P : Int × Int) (L : List (Int × Int)) (k : Nat) : Int × Int := (L.tail.take k).foldl (fun o q => ivJ o (ivD1 P q)) (ivD1 P (L.headD (0, 0)))
theorem dK_zero {P : Int × Int} {L : List (Int × Int)} (h : 0 < L.length) : dK P L 0 = ivD1 P L[0] := by
 cases L with
 | nil => cases h
 | cons a t => rfl
theorem dK_succ {P : Int × Int} {L : List (Int × Int)} {k : Nat} (h : k + 1 < L.length) : dK P L (k + 1) = ivJ (dK P L k) (ivD1 P L[k + 1]) := by
 unfold dK
 rw [List.take_succ_eq_append_getElem (by rw [List.length_tail]; omega), List.foldl_append, List.getElem_tail]
 rfl
theorem dK_all {P Q : Int × Int} {k : Nat} (h : (partsP Q).length = k + 1) : dK P (partsP Q) k = ivD P Q := by
 unfold dK ivD
 rw [List.take_of_length_le (by rw [List.length_tail]; omega)]
 cases e : partsP Q with
 | nil => rw [e] at h; simp at h
 | cons a t => rfl
theorem ivD1_ok {P Q : Int × Int} (h : IvN N P.1 P.2) (g : IvN M Q.1 Q.2) (h0 : 0 < Q.1 ∨ Q.2 < 0) (hN : N ≤ 60) : IvN N (ivD1 P Q).1 (ivD1 P Q).2 := ivn_over h g h0 hN
theorem dK_ok {P : Int × Int} {L : List (Int × Int)} (h : IvN N P.1 P.2) (hN : N ≤ 60) (hL : ∀ Q ∈ L, IvN M Q.1 Q.2 ∧ (0 < Q.1 ∨ Q.2 < 0)) (h0 : 0 < L.length) : ∀ k, k < L.length → IvN N (dK P L k).1 (dK P L k).2 := by
 intro k
 induction k with
 | zero =>
   intro hk
   rw [dK_zero h0]
   have := hL _ (List.getElem_mem h0)
   exact ivD1_ok h this.1 this.2 hN
 | succ k ih =>
   intro hk
   rw [dK_succ hk]
   have := hL _ (List.getElem_mem hk)
   exact ivJ_ok (ih (by omega)) (ivD1_ok h this.1 this.2 hN)
theorem ijoin2_w {p : Iv} (hp : IvW P p) (gp : IvN N P.1 P.2) (hN : N ≤ 60) (hq : IvW Q q) (gq : IvN M Q.1 Q.2) (hM : M ≤ 60) (hr : IvW (ivJ P Q) r) (u1 : U64s w Z1 A a p.l0) (u2 : U64s w Z2 B b p.l1) (u3 : U64s w Z3 C c q.l0) (u4 : U64s w Z4 D d q.l1) :
  Calls Tryz.prog 93 #[.agg #[.bool p.n0, .bool p.s0, .slice A p.l0.length a, .bool p.n1, .bool p.s1, .slice B p.l1.length b], .agg #[.bool q.n0, .bool q.s0, .slice C q.l0.length c, .bool q.n1, .bool q.s1, .slice D q.l1.length d]] w fun e w' => ∃ rA ra rB rb, e = .returned (.agg #[.bool r.n0, .bool r.s0, .slice rA r.l0.length ra, .bool r.n1, .bool r.s1, .slice rB r.l1.length rb]) ∧ U64s w' (new w.heap.size) rA ra r.l0 ∧ U64s w' (new w.heap.size) rB rb r.l1 ∧ Below w.heap.size w w' := by
 have kp := hp.k gp (by omega)
 have kq := hq.k gq (by omega)
 exact ijoin_p u1 u2 u3 u4 kp.ok kq.ok (by have := kp.q0; omega) (by have := kp.q1; omega) (by have := kq.q0; omega) (by have := kq.q1; omega) (z0 := (ivJ P Q).1) (z1 := (ivJ P Q).2) (by rw [kp.lo, kq.lo]; rfl) (by rw [kp.hi, kq.hi]; rfl) hr.1 hr.2
theorem icover_w {p : Iv} (hp : IvW P p) (gp : IvN 60 P.1 P.2) (hq : IvW Q q) (gq : IvN 60 Q.1 Q.2) (h0 : 0 < Q.1 ∨ Q.2 < 0) (hr : IvW (ivD1 P Q) r) (u1 : U64s w Z1 A a p.l0) (u2 : U64s w Z2 B b p.l1) (u3 : U64s w Z3 C c q.l0) (u4 : U64s w Z4 D d q.l1) :
  Calls Tryz.prog 91 #[.agg #[.bool p.n0, .bool p.s0, .slice A p.l0.length a, .bool p.n1, .bool p.s1, .slice B p.l1.length b], .agg #[.bool q.n0, .bool q.s0, .slice C q.l0.length c, .bool q.n1, .bool q.s1, .slice D q.l1.length d], .func (.func 92) #[] #[]] w fun e w' => ∃ rA ra rB rb, e = .returned (.agg #[.bool r.n0, .bool r.s0, .slice rA r.l0.length ra, .bool r.n1, .bool r.s1, .slice rB r.l1.length rb]) ∧ U64s w' (new w.heap.size) rA ra r.l0 ∧ U64s w' (new w.heap.size) rB rb r.l1 ∧ Below w.heap.size w w' := by
 have kp := hp.k gp (by omega)
 have kq := hq.k gq (by omega)
 have g := ivD1_ok gp gq h0 (by omega)
 have hle := gq.le
 exact icrossed_over u1 u2 u3 u4 kp.ok kq.ok (by have := kp.q0; omega) (by have := kp.q1; omega) (by have := kq.q0; omega) (by have := kq.q1; omega) (by rw [kq.lo, kq.hi]; omega) (z0 := (ivD1 P Q).1) (z1 := (ivD1 P Q).2) (by rw [kp.lo, kq.lo, kp.hi, kq.hi]; rfl) (by rw [kp.lo, kq.lo, kp.hi, kq.hi]; rfl) g.nlo g.nhi hr.1 hr.2
theorem cc_keep (h : (C6 W g a0 a1 a2 a3 a4 a5) ∧ (W.cell? ⟨b, o, none⟩ = some b0 ∧ W.cell? ⟨b, o + 1, none⟩ = some b1 ∧ W.cell? ⟨b, o + 2, none⟩ = some b2 ∧ W.cell? ⟨b, o + 3, none⟩ = some b3 ∧ W.cell? ⟨b, o + 4, none⟩ = some b4 ∧ W.cell? ⟨b, o + 5, none⟩ = some b5)) (hb : Below W.heap.size W W') : (C6 W' g a0 a1 a2 a3 a4 a5) ∧ (W'.cell? ⟨b, o, none⟩ = some b0 ∧ W'.cell? ⟨b, o + 1, none⟩ = some b1 ∧ W'.cell? ⟨b, o + 2, none⟩ = some b2 ∧ W'.cell? ⟨b, o + 3, none⟩ = some b3 ∧ W'.cell? ⟨b, o + 4, none⟩ = some b4 ∧ W'.cell? ⟨b, o + 5, none⟩ = some b5) := ⟨six_keep0 h.1 hb, six_keep h.2 hb⟩
theorem cc_st6 {r : Nat} (e : V = ((((((W.setCell ⟨r, 0, none⟩ x0).setCell ⟨r, 1, none⟩ x1).setCell ⟨r, 2, none⟩ x2).setCell ⟨r, 3, none⟩ x3).setCell ⟨r, 4, none⟩ x4).setCell ⟨r, 5, none⟩ x5)) (hg : r ≠ g) (hh : r ≠ b) (h : (C6 W g a0 a1 a2 a3 a4 a5) ∧ (W.cell? ⟨b, o, none⟩ = some b0 ∧ W.cell? ⟨b, o + 1, none⟩ = some b1 ∧ W.cell? ⟨b, o + 2, none⟩ = some b2 ∧ W.cell? ⟨b, o + 3, none⟩ = some b3 ∧ W.cell? ⟨b, o + 4, none⟩ = some b4 ∧ W.cell? ⟨b, o + 5, none⟩ = some b5)) : (C6 V g a0 a1 a2 a3 a4 a5) ∧ (V.cell? ⟨b, o, none⟩ = some b0 ∧ V.cell? ⟨b, o + 1, none⟩ = some b1 ∧ V.cell? ⟨b, o + 2, none⟩ = some b2 ∧ V.cell? ⟨b, o + 3, none⟩ = some b3 ∧ V.cell? ⟨b, o + 4, none⟩ = some b4 ∧ V.cell? ⟨b, o + 5, none⟩ = some b5) := by
 subst e
 exact ⟨⟨st6 h.1.1 hg, st6 h.1.2.1 hg, st6 h.1.2.2.1 hg, st6 h.1.2.2.2.1 hg, st6 h.1.2.2.2.2.1 hg, st6 h.1.2.2.2.2.2 hg⟩, six_st6 hh h.2⟩
theorem six_just0 (h : Just g W W') (hb : b ≠ g) (hc : C6 W b a0 a1 a2 a3 a4 a5) : C6 W' b a0 a1 a2 a3 a4 a5 := ⟨h.cell hb hc.1, h.cell hb hc.2.1, h.cell hb hc.2.2.1, h.cell hb hc.2.2.2.1, h.cell hb hc.2.2.2.2.1, h.cell hb hc.2.2.2.2.2⟩
theorem six_just (h : Just g W W') (hb : b ≠ g) (hc : W.cell? ⟨b, o, none⟩ = some a0 ∧ W.cell? ⟨b, o + 1, none⟩ = some a1 ∧ W.cell? ⟨b, o + 2, none⟩ = some a2 ∧ W.cell? ⟨b, o + 3, none⟩ = some a3 ∧ W.cell? ⟨b, o + 4, none⟩ = some a4 ∧ W.cell? ⟨b, o + 5, none⟩ = some a5) : W'.cell? ⟨b, o, none⟩ = some a0 ∧ W'.cell? ⟨b, o + 1, none⟩ = some a1 ∧ W'.cell? ⟨b, o + 2, none⟩ = some a2 ∧ W'.cell? ⟨b, o + 3, none⟩ = some a3 ∧ W'.cell? ⟨b, o + 4, none⟩ = some a4 ∧ W'.cell? ⟨b, o + 5, none⟩ = some a5 := ⟨h.cell hb hc.1, h.cell hb hc.2.1, h.cell hb hc.2.2.1, h.cell hb hc.2.2.2.1, h.cell hb hc.2.2.2.2.1, h.cell hb hc.2.2.2.2.2⟩
theorem st6_0 {r : Nat} {x0 x1 x2 x3 x4 x5 : Value} (hn : r ≠ b) (h : C6 W b a0 a1 a2 a3 a4 a5) :
 let V := ((((((W.setCell ⟨r, 0, none⟩ x0).setCell ⟨r, 1, none⟩ x1).setCell ⟨r, 2, none⟩ x2).setCell ⟨r, 3, none⟩ x3).setCell ⟨r, 4, none⟩ x4).setCell ⟨r, 5, none⟩ x5)
 C6 V b a0 a1 a2 a3 a4 a5 := ⟨st6 h.1 hn, st6 h.2.1 hn, st6 h.2.2.1 hn, st6 h.2.2.2.1 hn, st6 h.2.2.2.2.1 hn, st6 h.2.2.2.2.2 hn⟩
theorem idiv_w {p : Iv} (hp : IvW P p) (gp : IvN 60 P.1 P.2) (hq : IvW Q q) (gq : IvN 60 Q.1 Q.2) (u1 : U64s w Z1 A a p.l0) (u2 : U64s w Z2 B b p.l1) (u3 : U64s w Z3 C c q.l0) (u4 : U64s w Z4 D d q.l1) (hne : partsP Q ≠ []) (hr : IvW (ivD P Q) r) :
  Calls Tryz.prog 63 #[.agg #[.bool p.n0, .bool p.s0, .slice A p.l0.length a, .bool p.n1, .bool p.s1, .slice B p.l1.length b], .agg #[.bool q.n0, .bool q.s0, .slice C q.l0.length c, .bool q.n1, .bool q.s1, .slice D q.l1.length d]] w fun e w' => ∃ rA ra rB rb, e = .returned (.tuple #[.agg #[.bool r.n0, .bool r.s0, .slice rA r.l0.length ra, .bool r.n1, .bool r.s1, .slice rB r.l1.length rb], .int .i64 0]) ∧ U64s w' (new w.heap.size) rA ra r.l0 ∧ U64s w' (new w.heap.size) rB rb r.l1 ∧ Below w.heap.size w w' := by
 obtain ⟨bA, bB, bR, hB0⟩ := boxX w (.bool p.n0) (.bool p.s0) (.slice A p.l0.length a) (.bool p.n1) (.bool p.s1) (.slice B p.l1.length b) (.bool q.n0) (.bool q.s0) (.slice C q.l0.length c) (.bool q.n1) (.bool q.s1) (.slice D q.l1.length d) (.bool false) (.bool false) (.slice none 0 0) (.bool false) (.bool false) (.slice none 0 0) 29
 have hb1 := hB0.alloc hB0.size (.cells #[.bool p.n0, .bool p.s0, .slice A p.l0.length a, .bool p.n1, .bool p.s1, .slice B p.l1.length b, .bool q.n0, .bool q.s0, .slice C q.l0.length c, .bool q.n1, .bool q.s1, .slice D q.l1.length d] 29)
 have hg := given_twoA (p := p) (q := q) (ty := 29) (u1.below hB0) (u2.below hB0) (u3.below hB0) (u4.below hB0)
 rw [show (((w.alloc (.cells #[.bool p.n0, .bool p.s0, .slice A p.l0.length a, .bool p.n1, .bool p.s1, .slice B p.l1.length b] 29)).alloc (.cells #[.bool q.n0, .bool q.s0, .slice C q.l0.length c, .bool q.n1, .bool q.s1, .slice D q.l1.length d] 29)).alloc (.cells #[.bool false, .bool false, .slice none 0 0, .bool false, .bool false, .slice none 0 0] 29)).heap.size = w.heap.size + 3 by simp] at hg
 have kp := hp.k gp (by omega)
 have kq := hq.k gq (by omega)
 have hck := ichecked_any (n := 2) (c := 2) hg rfl (by simp) (by intro p' hp'; simp only [List.mem_cons, List.not_mem_nil, or_false] at hp'; rcases hp' with rfl | rfl <;> exact ⟨by have := kp.q0; have := kq.q0; omega, by have := kp.q1; have := kq.q1; omega⟩)
 rw [errAs_two, if_pos ⟨kp.ok, kq.ok⟩] at hck
 obtain ⟨HA, HBb, HR, Hck, Hb1⟩ := hid5 (bA.alloc (.cells #[.bool p.n0, .bool p.s0, .slice A p.l0.length a, .bool p.n1, .bool p.s1, .slice B p.l1.length b, .bool q.n0, .bool q.s0, .slice C q.l0.length c, .bool q.n1, .bool q.s1, .slice D q.l1.length d] 29)) (bB.alloc (.cells #[.bool p.n0, .bool p.s0, .slice A p.l0.length a, .bool p.n1, .bool p.s1, .slice B p.l1.length b, .bool q.n0, .bool q.s0, .slice C q.l0.length c, .bool q.n1, .bool q.s1, .slice D q.l1.length d] 29)) (bR.alloc (.cells #[.bool p.n0, .bool p.s0, .slice A p.l0.length a, .bool p.n1, .bool p.s1, .slice B p.l1.length b, .bool q.n0, .bool q.s0, .slice C q.l0.length c, .bool q.n1, .bool q.s1, .slice D q.l1.length d] 29)) hck hb1
 have a0 := bA.all
 obtain ⟨b0, b1, b2, b3, b4, b5, _, _, _, _, _, _, _⟩ := bB
 have PT := hid (fun (W : World) (h : Below w.heap.size w W) => iparted_w hq gq (by omega) (u3.below h) (u4.below h))
 have hpos : 0 < (partsP Q).length := List.length_pos_iff.2 hne
 have hLok := parts_ok gq (by omega)
 have hdk := dK_ok gp (by omega) hLok hpos
 have hfl := fmOf_len (partsP Q)
 have hda : ∀ k, (partsP Q).length = k + 1 → dK P (partsP Q) k = ivD P Q := fun k h => dK_all h
 have hfg : ∀ j (h : j < (fmOf (partsP Q)).length) (h' : j < (partsP Q).length), (fmOf (partsP Q))[j] = ivOf (partsP Q)[j].1 (partsP Q)[j].2 := fun j h h' => fmOf_get h h'
 have CR := hid (fun (W : World) (h : Below w.heap.size w W) (Q' : IvP) (q' r' : Iv) (Y1 Y2 : Zone) (E F : Option Addr) (e f : Nat) (h1 : IvW Q' q') (h2 : IvN 60 Q'.1 Q'.2) (h3 : 0 < Q'.1 ∨ Q'.2 < 0) (h4 : IvW (ivD1 P Q') r') (v1 : U64s W Y1 E e q'.l0) (v2 : U64s W Y2 F f q'.l1) => icover_w hp gp h1 h2 h3 h4 (u1.below h) (u2.below h) v1 v2)
 obtain ⟨L, hL⟩ : ∃ L, L = partsP Q := ⟨_, rfl⟩
 rw [← hL] at PT hpos hLok hdk hfl hda hfg hne
 obtain ⟨n, hn⟩ : ∃ n, L.length = n := ⟨_, rfl⟩
 rw [hn] at PT hpos hfl hdk
 have hn2 : n ≤ 2 := by
  rw [← hn, hL]
  unfold partsP
  split <;> split <;> simp
 obtain ⟨HLok, Hdk, Hfl, Hda, Hfg, Hn⟩ := hid6 hLok hdk hfl hda hfg hn
 obtain ⟨Hr, Hgp, Hdz, Hds⟩ := hid4 hr gp (fun (h : 0 < L.length) => dK_zero (P := P) h) (fun (k : Nat) (h : k + 1 < L.length) => dK_succ (P := P) h)
 have hnz : ((n : Int) == 0) = false := beq_eq_false_iff_ne.2 (by omega)
 clear hg hck hb1 bR hB0 u1 u2 u3 u4 hp hq gp gq hL hLok hdk hfl hda hfg hn hr hne kp kq
 go_enter Tryz.func63, Tryz.ntmps63
 go_wp2_with fail
 refine Hck.out.mono ?_
 rintro e w1 ⟨rfl, hc⟩
 have H1 := hid (from_ Hb1.out hc)
 replace HR := hid (HR.out.below hc)
 replace HA := hid (HA.out.below hc)
 replace HBb := hid (HBb.out.below hc)
 clear a0 b0 b1 b2 b3 b4 b5 Hck Hb1
 have b0 := HBb.out.all
 clear hc
 go_wp2_with fail
 refine (PT.out _ H1.out).mono ?_
 rintro e w2 ⟨Av, cv, rfl, hat, hbv, hc⟩
 have W2 := hid (from_ H1.out hc)
 have hlt1 := HR.out.lt
 replace HR := hid (HR.out.below hc)
 replace HA := hid (HA.out.below hc)
 have hcap := hat.cap
 have hmax := hat.max
 rw [Hfl.out] at hcap
 have HROW : Hid (∀ j, j < n → ∃ (b o : Nat) (q' : Iv) (F0 : Option Addr) (f0 : Nat) (F1 : Option Addr) (f1 : Nat), Av = some ⟨b, o, none⟩ ∧ w.heap.size + 3 ≤ b ∧ b < w2.heap.size ∧ (w2.cell? ⟨b, o + j * 6, none⟩ = some (.bool q'.n0) ∧ w2.cell? ⟨b, o + j * 6 + 1, none⟩ = some (.bool q'.s0) ∧ w2.cell? ⟨b, o + j * 6 + 2, none⟩ = some (.slice F0 q'.l0.length f0) ∧ w2.cell? ⟨b, o + j * 6 + 3, none⟩ = some (.bool q'.n1) ∧ w2.cell? ⟨b, o + j * 6 + 4, none⟩ = some (.bool q'.s1) ∧ w2.cell? ⟨b, o + j * 6 + 5, none⟩ = some (.slice F1 q'.l1.length f1)) ∧ U64s w2 (new (w.heap.size + 3)) F0 f0 q'.l0 ∧ U64s w2 (new (w.heap.size + 3)) F1 f1 q'.l1 ∧ ∃ h : j < L.length, IvW L[j] q' ∧ IvN 60 L[j].1 L[j].2 ∧ (0 < L[j].1 ∨ L[j].2 < 0)) := fun j hj => by
  obtain ⟨b, o, F0, f0, F1, f1, e, hb, hcc, v0, v1⟩ := hat.at (j := j) (by rw [Hfl.out]; exact hj)
  have hjl : j < L.length := by rw [Hn.out]; exact hj
  have hbb := hbv b o e
  have h3 := HLok.out _ (List.getElem_mem hjl)
  refine ⟨b, o, _, F0, f0, F1, f1, e, by omega, hb, hcc, v0.mono (new_le (by omega)), v1.mono (new_le (by omega)), hjl, ?_, h3.1, h3.2⟩
  rw [Hfg.out j (by rw [Hfl.out]; exact hj) hjl]
  exact IvW.mk _
 obtain ⟨bl, ol, q0, F0, f0, F1, f1, rfl, hbl, hbl2, c6, v0, v1, hL0, hq0, gq0, sq0⟩ := HROW.out 0 hpos
 simp only [Nat.zero_mul, Nat.add_zero] at c6
 obtain ⟨r0, hr0⟩ : ∃ r0, IvW (ivD1 P L[0]) r0 := ⟨_, IvW.mk _⟩
 obtain ⟨HC0, Hr0⟩ := hid2 (fun (W : World) (h : Below w2.heap.size w2 W) => CR.out W (from_ W2.out h) _ _ _ _ _ _ _ _ _ hq0 gq0 sq0 hr0 (v0.below h) (v1.below h)) (show IvW (dK P L 0) r0 by rw [Hdz.out hL0]; exact hr0)
 have hi0 : (0 : Int) < (n : Int) := by omega
 have hs0 := And.intro HA.out.all c6
 have hs := cc_keep hs0 bdr_
 have Hc := hid (Below.refl w2.heap.size w2).drew
 obtain ⟨gR, hgR⟩ : ∃ gR, gR = w.heap.size + 2 := ⟨_, rfl⟩
 rw [← hgR] at HR hlt1
 have n1 : gR ≠ w.heap.size := by omega
 have n2 : gR ≠ bl := by omega
 obtain ⟨N1, N2, Hnz⟩ := hid3 n1 n2 hnz
 clear b0 hat hbv hc c6 v0 v1 hq0 gq0 sq0 hr0 PT HBb HLok Hfl Hfg
 go_upto_region 6 with fail
 simp only [show w.heap.size + 2 = gR from hgR.symm, show w.heap.size + 1 + 1 = gR from hgR.symm]
 have HGR := hid hgR
 clear hgR n1 n2
 replace HR := hid (HR.out.below bdr_)
 have Hlt2 := hid HR.out.lt
 first | go_region_held3 (fun w' => (C6 w' w.heap.size (.bool p.n0) (.bool p.s0) (.slice A p.l0.length a) (.bool p.n1) (.bool p.s1) (.slice B p.l1.length b)) ∧ (w'.cell? ⟨bl, ol, none⟩ = some (.bool q0.n0) ∧ w'.cell? ⟨bl, ol + 1, none⟩ = some (.bool q0.s0) ∧ w'.cell? ⟨bl, ol + 2, none⟩ = some (.slice F0 q0.l0.length f0) ∧ w'.cell? ⟨bl, ol + 3, none⟩ = some (.bool q0.n1) ∧ w'.cell? ⟨bl, ol + 4, none⟩ = some (.bool q0.s1) ∧ w'.cell? ⟨bl, ol + 5, none⟩ = some (.slice F1 q0.l1.length f1)))
  (first
   | with_reducible exact hs
   | (with_reducible apply cc_st6 rfl <;> (first | with_reducible exact hs | with_reducible exact N1.out | with_reducible exact N2.out)))
  ((go_at_call 91; with_reducible refine (HC0.out _ Hc.out).mono ?_; rintro e w3 ⟨E0, e0, E1, e1, rfl, o0, o1, hc2⟩; replace hs := cc_keep hs hc2; replace HR := hid (HR.out.below hc2); replace Hc := hid (from_ Hc.out hc2); obtain ⟨g0, g1, g2, g3, g4, g5, f0', f1', f2', f3', f4', f5', _⟩ := id HR.out)) | fail
 all_goals
  have hgr := HGR.out
  have hw0 : w.heap.size ≤ gR := by omega
  have hP := HR.out.put (w := w) (from_ W2.out Hc.out) hw0 (.bool r0.n0) (.bool r0.s0) (.slice E0 r0.l0.length e0) (.bool r0.n1) (.bool r0.s1) (.slice E1 r0.l1.length e1)
  obtain ⟨HPb, HPl⟩ := hid2 hP.box hP.bel
  have hl2 := Hlt2.out
  obtain ⟨U0, HJ0⟩ := hid2 (And.intro ((o0.set6 (g := gR) (fun (h : _ ≤ gR) => by omega) (.bool r0.n0) (.bool r0.s0) (.slice E0 r0.l0.length e0) (.bool r0.n1) (.bool r0.s1) (.slice E1 r0.l1.length e1)).mono (new_le (show gR + 1 ≤ _ by omega))) ((o1.set6 (g := gR) (fun (h : _ ≤ gR) => by omega) (.bool r0.n0) (.bool r0.s0) (.slice E0 r0.l0.length e0) (.bool r0.n1) (.bool r0.s1) (.slice E1 r0.l1.length e1)).mono (new_le (show gR + 1 ≤ _ by omega)))) (((((((((Just.refl gR w2).step Hc.out).setCell 0 (.bool r0.n0)).setCell 1 (.bool r0.s0)).setCell 2 (.slice E0 r0.l0.length e0)).setCell 3 (.bool r0.n1)).setCell 4 (.bool r0.s1)).setCell 5 (.slice E1 r0.l1.length e1)))
  obtain ⟨m, rfl⟩ : ∃ m, n = m + 1 := ⟨n - 1, by omega⟩
  have Hn1 := hid N1.out
  have hcap2 : m + 1 ≤ cv := hcap
  clear hP hl2 o0 o1 hgr hw0 hs Hc HR HC0 g0 g1 g2 g3 g4 g5 f0' f1' f2' f3' f4' f5'
  generalize ((((((w3.setCell ⟨gR, 0, none⟩ (.bool r0.n0)).setCell ⟨gR, 1, none⟩ (.bool r0.s0)).setCell ⟨gR, 2, none⟩ (.slice E0 r0.l0.length e0)).setCell ⟨gR, 3, none⟩ (.bool r0.n1)).setCell ⟨gR, 4, none⟩ (.bool r0.s1)).setCell ⟨gR, 5, none⟩ (.slice E1 r0.l1.length e1)) = W6 at *
  by_cases hcv1 : cv = 1
  · have hm0 : m = 0 := by omega
    have Hm0 := hid hm0
    clear hm0
    go_wp2
    have Hcv1 := hid hcv1
    subst hcv1
    go_loopw [29] (fun i wr => ∃ (k : Nat) (s : Iv) (E0 : Option Addr) (e0 : Nat) (E1 : Option Addr) (e1 : Nat), k ≤ m ∧ i = .int .i64 (k : Int) ∧ Hid (IvW (dK P L k) s) ∧ Hid (Box6 wr gR (.bool s.n0) (.bool s.s0) (.slice E0 s.l0.length e0) (.bool s.n1) (.bool s.s1) (.slice E1 s.l1.length e1)) ∧ Hid (U64s wr (new (gR + 1)) E0 e0 s.l0 ∧ U64s wr (new (gR + 1)) E1 e1 s.l1) ∧ Hid (Just gR w2 wr) ∧ Below w.heap.size w wr) (fun i _ => m - (intOf i).toNat)
    case atStart => exact ⟨0, r0, _, _, _, _, Nat.zero_le _, rfl, Hr0, HPb, U0, HJ0, HPl.out⟩
    case round =>
     clear HPb HPl U0 HJ0
     obtain ⟨k, s, E0, e0, E1, e1, hk, rfl, Hs, HB7, HU, HJ, hbel⟩ := hrel
     by_cases hlt : k < m
     · exfalso; have := Hm0.out; omega
     · obtain rfl : k = m := by omega
       have hsr : IvW (ivD P Q) s := by rw [← Hda.out k Hn.out]; exact Hs.out
       obtain rfl := IvW.uniq Hr.out hsr
       have hgr := HGR.out
       have hw0 : w.heap.size ≤ gR := by omega
       obtain ⟨HP, U1, U2⟩ := hid3 (HB7.out.put (w := w) hbel hw0 (.bool r.n0) (.bool r.s0) (.slice E0 r.l0.length e0) (.bool r.n1) (.bool r.s1) (.slice E1 r.l1.length e1)) ((HU.out.1.set6 (g := gR) (fun (h : gR + 1 ≤ gR) => by omega) (.bool r.n0) (.bool r.s0) (.slice E0 r.l0.length e0) (.bool r.n1) (.bool r.s1) (.slice E1 r.l1.length e1)).mono (new_le (show w.heap.size ≤ gR + 1 by omega))) ((HU.out.2.set6 (g := gR) (fun (h : gR + 1 ≤ gR) => by omega) (.bool r.n0) (.bool r.s0) (.slice E0 r.l0.length e0) (.bool r.n1) (.bool r.s1) (.slice E1 r.l1.length e1)).mono (new_le (show w.heap.size ≤ gR + 1 by omega)))
       obtain ⟨g0, g1, g2, g3, g4, g5, f0', f1', f2', f3', f4', f5', _⟩ := id HB7.out
       clear hgr hw0 hsr
       go_wp2
       refine bodyPost_ret (res_itv2 rfl _ gR rfl HP.out.box) rfl ?_
       exact ⟨_, _, _, _, rfl, U1.out, U2.out, HP.out.bel⟩
  · have hcvn : ¬ (cv - 1 = 0) := by omega
    go_wp2
    have Hcv1 := hid hcv1
    clear hcv1 hcvn
    go_loopw [29] (fun i wr => ∃ (k : Nat) (s : Iv) (E0 : Option Addr) (e0 : Nat) (E1 : Option Addr) (e1 : Nat), k ≤ m ∧ i = .int .i64 (k : Int) ∧ Hid (IvW (dK P L k) s) ∧ Hid (Box6 wr gR (.bool s.n0) (.bool s.s0) (.slice E0 s.l0.length e0) (.bool s.n1) (.bool s.s1) (.slice E1 s.l1.length e1)) ∧ Hid (U64s wr (new (gR + 1)) E0 e0 s.l0 ∧ U64s wr (new (gR + 1)) E1 e1 s.l1) ∧ Hid (Just gR w2 wr) ∧ Below w.heap.size w wr) (fun i _ => m - (intOf i).toNat)
    case atStart => exact ⟨0, r0, _, _, _, _, Nat.zero_le _, rfl, Hr0, HPb, U0, HJ0, HPl.out⟩
    case round =>
     clear HPb HPl U0 HJ0
     obtain ⟨k, s, E0, e0, E1, e1, hk, rfl, Hs, HB7, HU, HJ, hbel⟩ := hrel
     by_cases hlt : k < m
     · obtain ⟨b, o, q1, G0, d0, G1, d1, e, hb3, hblt, c6, v0, v1, hLk, hqk, gqk, sqk⟩ := HROW.out (k + 1) (by omega)
       injection e with e
       injection e with e1 e2
       subst e1 e2
       rw [show ol + (k + 1) * 6 = ol + 6 + k * 6 by omega] at c6
       have hgr := HGR.out
       obtain ⟨r1, hr1⟩ : ∃ r1, IvW (ivD1 P L[k + 1]) r1 := ⟨_, IvW.mk _⟩
       obtain ⟨s2, hs2⟩ : ∃ s2, IvW (dK P L (k + 1)) s2 := ⟨_, IvW.mk _⟩
       have hgs := Hdk.out k (by omega)
       have hJ := HJ.out
       have c7 := six_just hJ (show bl ≠ gR by omega) c6
       have a7 := six_just0 hJ (show w.heap.size ≠ gR by omega) HA.out.all
       have w0 := hJ.words (show ¬ (new (w.heap.size + 3)).blk gR from fun (h : w.heap.size + 3 ≤ gR) => by omega) v0
       have w1' := hJ.words (show ¬ (new (w.heap.size + 3)).blk gR from fun (h : w.heap.size + 3 ≤ gR) => by omega) v1
       have hi3 : (k : Int) < (m : Int) := by omega
       obtain ⟨x0, x1, x2, x3, x4, x5⟩ := id c7
       obtain ⟨CRk, JNk, Ha7, Hs2⟩ := hid4 (fun (W : World) (h : Below wr.heap.size wr W) => CR.out W (from_ hbel h) _ _ _ _ _ _ _ _ _ hqk gqk sqk hr1 (w0.below h) (w1'.below h)) (fun (W : World) (Z5 Z6 : Zone) (E F : Option Addr) (e f : Nat) (h : Below wr.heap.size wr W) (g0 : U64s W Z5 E e r1.l0) (g1 : U64s W Z6 F f r1.l1) => ijoin2_w Hs.out hgs (by omega) hr1 (ivD1_ok Hgp.out gqk sqk (by omega)) (by omega) (by rw [← Hds.out k hLk]; exact hs2) (HU.out.1.below h) (HU.out.2.below h) g0 g1) a7 hs2
       have hax : Below wr.heap.size wr (wr.alloc (.cells #[.bool q1.n0, .bool q1.s0, .slice G0 q1.l0.length d0, .bool q1.n1, .bool q1.s1, .slice G1 q1.l1.length d1] 29)) := (Below.refl _ _).alloc (Nat.le_refl _) _
       obtain ⟨Hgb, Hwr⟩ := hid2 (HB7.out.lt) hbel.size
       clear c6 v0 v1 hqk gqk sqk hr1 hs2 hgs hJ c7 a7 w0 w1' hgr
       go_upto_region 10 with fail
       have B8 := hid (Box6.new wr (.bool q1.n0) (.bool q1.s0) (.slice G0 q1.l0.length d0) (.bool q1.n1) (.bool q1.s1) (.slice G1 q1.l1.length d1) 29)
       obtain ⟨g8, hg8⟩ : ∃ g8, g8 = wr.heap.size := ⟨_, rfl⟩
       rw [← hg8] at B8
       have ne8 : gR ≠ g8 := by have := Hgb.out; omega
       obtain ⟨Hne8, Hax, Ha8, HB8⟩ := hid4 ne8 hax (six_keep0 Ha7.out hax) (HB7.out.below hax)
       clear hax ne8 Ha7
       generalize hV : wr.alloc (.cells #[.bool q1.n0, .bool q1.s0, .slice G0 q1.l0.length d0, .bool q1.n1, .bool q1.s1, .slice G1 q1.l1.length d1] 29) = V at *
       try simp only [← hg8]
       clear hV hg8 x0 x1 x2 x3 x4 x5
       have HT := And.intro (And.intro (six_keep0 Ha8.out bdr_) (B8.out.below bdr_).all) (HB8.out.below bdr_).all
       have Hc := hid (from_ Hax.out (Below.refl V.heap.size V).drew)
       have Hcv := hid (Below.refl V.heap.size V).drew
       refine wp_region_L (fun w' : World => (C6 w' w.heap.size (.bool p.n0) (.bool p.s0) (.slice A p.l0.length a) (.bool p.n1) (.bool p.s1) (.slice B p.l1.length b)) ∧ (C6 w' g8 (.bool q1.n0) (.bool q1.s0) (.slice G0 q1.l0.length d0) (.bool q1.n1) (.bool q1.s1) (.slice G1 q1.l1.length d1))) (fun w' : World => C6 w' gR (.bool s.n0) (.bool s.s0) (.slice E0 s.l0.length e0) (.bool s.n1) (.bool s.s1) (.slice E1 s.l1.length e1)) 4 (by kernel_rfl) ?_
       show wpAnyL _ _ _ _ _ _ _ 6 _ _ _
       refine wpAnyL_take (i := 0) (v := ?_) rfl (by kernel_rfl) (by kernel_rfl) (by kernel_rfl) (fun _ _ _ h => h) (by kernel_rfl) (by rfl) (by rfl) (Or.inl ⟨by rfl, ?_⟩) HT ?_
       rotate_left
       · intro w' hSw; (try dsimp only at hSw); go_simp; (try with_reducible rfl)
       try simp only [Act.put, List.setIfInBounds_toArray, List.set_cons_zero, List.set_cons_succ]
       refine wpAnyL_takeA (i := 1) (v := ?_) rfl (by kernel_rfl) (by kernel_rfl) (by kernel_rfl) (fun _ _ _ h => h) (by rfl) (Or.inl ⟨by rfl, ?_⟩) HT ?_
       rotate_left
       · intro w' hSw; (try dsimp only at hSw); go_simp; (try with_reducible rfl)
       try simp only [Act.put, List.setIfInBounds_toArray, List.set_cons_zero, List.set_cons_succ]
       refine wpAnyL_takeA (i := 2) (v := ?_) rfl (by kernel_rfl) (by kernel_rfl) (by kernel_rfl) (fun _ _ _ h => h) (by rfl) (Or.inl ⟨by rfl, ?_⟩) HT ?_
       rotate_left
       · intro w' hSw; (try dsimp only at hSw); go_simp; (try with_reducible rfl)
       try simp only [Act.put, List.setIfInBounds_toArray, List.set_cons_zero, List.set_cons_succ]
       refine anyL_one (i := 3) (by kernel_rfl) (wpOp_step rfl (by rfl) fun K hK => ?_)
       go_simp
       refine (CRk.out _ Hc.out).mono ?_
       rintro e w4 ⟨X0, t0, X1, t1, rfl, o0, o1, hc2⟩
       have tA := And.intro (six_keep0 HT.1.1 hc2) (six_keep0 HT.1.2 hc2)
       have tT := six_keep0 HT.2 hc2
       replace HB8 := hid ((HB8.out.below bdr_).below hc2)
       replace Hc := hid (from_ Hc.out hc2)
       refine hK _ _ ⟨⟨tA, fun _ => tT⟩, ?_⟩
       clear hK K hc2 HT tT
       try simp only [Act.put, List.setIfInBounds_toArray, List.set_cons_zero, List.set_cons_succ]
       refine anyL_last (by kernel_rfl) (by rfl) (wpOp_step rfl (by rfl) fun K hK => ?_)
       go_simp
       refine (JNk.out _ _ _ _ _ _ _ Hc.out o0 o1).mono ?_
       rintro e w5 ⟨Y0, y0, Y1, y1, rfl, n0, n1, hc2⟩
       have tB := And.intro (six_keep0 tA.1 hc2) (six_keep0 tA.2 hc2)
       replace HB8 := hid (HB8.out.below hc2)
       have Hc5 := hid (from_ Hc.out hc2)
       have hsz4 := Hc.out.size
       obtain ⟨g0, g1, g2, g3, g4, g5, f0', f1', f2', f3', f4', f5', _⟩ := id HB8.out
       refine hK _ _ ⟨tB, ?_⟩
       clear hK K hc2 tA o0 o1
       try simp only [Act.put, List.setIfInBounds_toArray, List.set_cons_zero, List.set_cons_succ]
       refine anyH_one (i := 5) (by kernel_rfl) (wpOp_step rfl (by rfl) fun K hK => ?_)
       go_simp
       refine hK _ _ ⟨⟨st6_0 Hn1.out tB.1, st6_0 Hne8.out tB.2⟩, ?_⟩
       clear hK K tB g0 g1 g2 g3 g4 g5 f0' f1' f2' f3' f4' f5'
       try simp only [Act.put, List.setIfInBounds_toArray, List.set_cons_zero, List.set_cons_succ]
       refine wpAnyH_done (by kernel_rfl) ?_ _
       all_goals
        have hgr := HGR.out
        have hw0 : w.heap.size ≤ gR := by omega
        have hP := HB8.out.put (w := w) (from_ hbel Hc5.out) hw0 (.bool s2.n0) (.bool s2.s0) (.slice Y0 s2.l0.length y0) (.bool s2.n1) (.bool s2.s1) (.slice Y1 s2.l1.length y1)
        obtain ⟨HPb, HPl⟩ := hid2 hP.box hP.bel
        have hgw : ¬ (w4.heap.size ≤ gR) := by have := Hgb.out; omega
        have hgw2 : gR + 1 ≤ w4.heap.size := by have := Hgb.out; omega
        obtain ⟨Un, HJ2⟩ := hid2 (And.intro ((n0.set6 (g := gR) hgw (.bool s2.n0) (.bool s2.s0) (.slice Y0 s2.l0.length y0) (.bool s2.n1) (.bool s2.s1) (.slice Y1 s2.l1.length y1)).mono (new_le hgw2)) ((n1.set6 (g := gR) hgw (.bool s2.n0) (.bool s2.s0) (.slice Y0 s2.l0.length y0) (.bool s2.n1) (.bool s2.s1) (.slice Y1 s2.l1.length y1)).mono (new_le hgw2))) ((((((((HJ.out.step Hc5.out).setCell 0 (.bool s2.n0)).setCell 1 (.bool s2.s0)).setCell 2 (.slice Y0 s2.l0.length y0)).setCell 3 (.bool s2.n1)).setCell 4 (.bool s2.s1)).setCell 5 (.slice Y1 s2.l1.length y1)))
        clear hP hgw hgw2 n0 n1 hgr hw0 hsz4
        go_wp2
        go_roundw
        case rel => exact ⟨k + 1, by omega, by go_num, s2, Hs2, _, _, _, _, HPb, Un, HPl.out⟩
        case measure => simp [intOf]; omega
     · obtain rfl : k = m := by omega
       have hsr : IvW (ivD P Q) s := by rw [← Hda.out k Hn.out]; exact Hs.out
       obtain rfl := IvW.uniq Hr.out hsr
       have hgr := HGR.out
       have hw0 : w.heap.size ≤ gR := by omega
       obtain ⟨HP, U1, U2⟩ := hid3 (HB7.out.put (w := w) hbel hw0 (.bool r.n0) (.bool r.s0) (.slice E0 r.l0.length e0) (.bool r.n1) (.bool r.s1) (.slice E1 r.l1.length e1)) ((HU.out.1.set6 (g := gR) (fun (h : gR + 1 ≤ gR) => by omega) (.bool r.n0) (.bool r.s0) (.slice E0 r.l0.length e0) (.bool r.n1) (.bool r.s1) (.slice E1 r.l1.length e1)).mono (new_le (show w.heap.size ≤ gR + 1 by omega))) ((HU.out.2.set6 (g := gR) (fun (h : gR + 1 ≤ gR) => by omega) (.bool r.n0) (.bool r.s0) (.slice E0 r.l0.length e0) (.bool r.n1) (.bool r.s1) (.slice E1 r.l1.length e1)).mono (new_le (show w.heap.size ≤ gR + 1 by omega)))
       obtain ⟨g0, g1, g2, g3, g4, g5, f0', f1', f2', f3', f4', f5', _⟩ := id HB7.out
       clear hgr hw0 hsr
       go_wp2
       refine bodyPost_ret (res_itv2 rfl _ gR rfl HP.out.box) rfl ?_
       exact ⟨_, _, _, _, rfl, U1.out, U2.out, HP.out.bel⟩
theorem Box6.oth1 {a b c d : Value} (h : Box6 W g a b c d e f) {k : Nat} (hn : k ≠ g) (v : Value) : Box6 (W.setCell ⟨k, j, none⟩ v) g a b c d e f := by
 obtain ⟨h0, h1, h2, h3, h4, h5, f0, f1, f2, f3, f4, f5, hl⟩ := h
 refine ⟨?_, ?_, ?_, ?_, ?_, ?_, ?_, ?_, ?_, ?_, ?_, ?_, ?_⟩
 · rw [World.cell?_setCell_other _ _ _ _ (fun e => hn (by injection e))]; exact h0
 · rw [World.cell?_setCell_other _ _ _ _ (fun e => hn (by injection e))]; exact h1
 · rw [World.cell?_setCell_other _ _ _ _ (fun e => hn (by injection e))]; exact h2
 · rw [World.cell?_setCell_other _ _ _ _ (fun e => hn (by injection e))]; exact h3
 · rw [World.cell?_setCell_other _ _ _ _ (fun e => hn (by injection e))]; exact h4
 · rw [World.cell?_setCell_other _ _ _ _ (fun e => hn (by injection e))]; exact h5
 · exact (World.frozen?_setCell _ _ _ _).trans f0
 · exact (World.frozen?_setCell _ _ _ _).trans f1
 · exact (World.frozen?_setCell _ _ _ _).trans f2
 · exact (World.frozen?_setCell _ _ _ _).trans f3
 · exact (World.frozen?_setCell _ _ _ _).trans f4
 · exact (World.frozen?_setCell _ _ _ _).trans f5
 · simpa [World.setCell] using hl
theorem U64s.away {l : List Nat} (h : U64s w Z A c l) : ∃ Y : Zone, U64s w Y A c l ∧ ∀ g, w.heap.size ≤ g → ¬ Y.blk g :=
 ⟨⟨fun b => b < w.heap.size, False⟩, ⟨h.small, h.cap, h.max, h.nul, fun h0 => by
  obtain ⟨b, o, e, hz, _, hc⟩ := h.row h0
  exact ⟨b, o, e, lt_of_cell (hc 0 _ (List.getElem?_eq_getElem h0)), fun h => h.elim, hc⟩⟩, fun g hg (hb : g < w.heap.size) => by omega⟩
theorem Box.oth1 {a b : Value} (h : Box W g a b) {k : Nat} (hn : k ≠ g) (v : Value) : Box (W.setCell ⟨k, j, none⟩ v) g a b := by
 obtain ⟨h0, h1, f0, f1, hl⟩ := h
 refine ⟨?_, ?_, ?_, ?_, ?_⟩
 · rw [World.cell?_setCell_other _ _ _ _ (fun e => hn (by injection e))]; exact h0
 · rw [World.cell?_setCell_other _ _ _ _ (fun e => hn (by injection e))]; exact h1
 · exact (World.frozen?_setCell _ _ _ _).trans f0
 · exact (World.frozen?_setCell _ _ _ _).trans f1
 · simpa [World.setCell] using hl
theorem Box6.st6 {a b c d : Value} (H : Box6 W g a b c d e f) (hn : h ≠ g) (x0 x1 x2 x3 x4 x5 : Value) : Box6 ((((((W.setCell ⟨h, 0, none⟩ x0).setCell ⟨h, 1, none⟩ x1).setCell ⟨h, 2, none⟩ x2).setCell ⟨h, 3, none⟩ x3).setCell ⟨h, 4, none⟩ x4).setCell ⟨h, 5, none⟩ x5) g a b c d e f := (((((H.oth1 hn x0).oth1 hn x1).oth1 hn x2).oth1 hn x3).oth1 hn x4).oth1 hn x5
def Q4 (W : World) (B : Nat) (a0 a1 a2 a3 a4 a5 b0 b1 b2 b3 b4 b5 c0 c1 d0 d1 : Value) : Prop := Box6 W B a0 a1 a2 a3 a4 a5 ∧ Box6 W (B + 1) b0 b1 b2 b3 b4 b5 ∧ Box W (B + 2) c0 c1 ∧ Box W (B + 3) d0 d1
theorem Q4.new (w : World) (a0 a1 a2 a3 a4 a5 b0 b1 b2 b3 b4 b5 c0 c1 d0 d1 : Value) (t u : TypeId) : Q4 ((((w.alloc (.cells #[a0, a1, a2, a3, a4, a5] t)).alloc (.cells #[b0, b1, b2, b3, b4, b5] t)).alloc (.cells #[c0, c1] u)).alloc (.cells #[d0, d1] u)) w.heap.size a0 a1 a2 a3 a4 a5 b0 b1 b2 b3 b4 b5 c0 c1 d0 d1 ∧ Below w.heap.size w ((((w.alloc (.cells #[a0, a1, a2, a3, a4, a5] t)).alloc (.cells #[b0, b1, b2, b3, b4, b5] t)).alloc (.cells #[c0, c1] u)).alloc (.cells #[d0, d1] u)) := by
 have k1 : Below w.heap.size w (w.alloc (.cells #[a0, a1, a2, a3, a4, a5] t)) := (Below.refl _ _).alloc (Nat.le_refl _) _
 have k2 : Below w.heap.size w ((w.alloc (.cells #[a0, a1, a2, a3, a4, a5] t)).alloc (.cells #[b0, b1, b2, b3, b4, b5] t)) := k1.alloc k1.size _
 have k3 : Below w.heap.size w (((w.alloc (.cells #[a0, a1, a2, a3, a4, a5] t)).alloc (.cells #[b0, b1, b2, b3, b4, b5] t)).alloc (.cells #[c0, c1] u)) := k2.alloc k2.size _
 have k4 : Below w.heap.size w ((((w.alloc (.cells #[a0, a1, a2, a3, a4, a5] t)).alloc (.cells #[b0, b1, b2, b3, b4, b5] t)).alloc (.cells #[c0, c1] u)).alloc (.cells #[d0, d1] u)) := k3.alloc k3.size _
 have b0' := (((Box6.new w a0 a1 a2 a3 a4 a5 t).alloc (.cells #[b0, b1, b2, b3, b4, b5] t)).alloc (.cells #[c0, c1] u)).alloc (.cells #[d0, d1] u)
 have b1' := ((Box6.new (w.alloc (.cells #[a0, a1, a2, a3, a4, a5] t)) b0 b1 b2 b3 b4 b5 t).alloc (.cells #[c0, c1] u)).alloc (.cells #[d0, d1] u)
 simp only [World.size_alloc] at b1'
 have b2' := (Box.new ((w.alloc (.cells #[a0, a1, a2, a3, a4, a5] t)).alloc (.cells #[b0, b1, b2, b3, b4, b5] t)) c0 c1 u).alloc (.cells #[d0, d1] u)
 simp only [World.size_alloc] at b2'
 have b3' := Box.new (((w.alloc (.cells #[a0, a1, a2, a3, a4, a5] t)).alloc (.cells #[b0, b1, b2, b3, b4, b5] t)).alloc (.cells #[c0, c1] u)) d0 d1 u
 simp only [World.size_alloc] at b3'
 exact ⟨⟨b0', b1', b2', b3'⟩, k4⟩
theorem Q4.below {B : Nat} {d0 d1 : Value} (h : Q4 W B a0 a1 a2 a3 a4 a5 b0 b1 b2 b3 b4 b5 c0 c1 d0 d1) (hb : Below W.heap.size W V) : Q4 V B a0 a1 a2 a3 a4 a5 b0 b1 b2 b3 b4 b5 c0 c1 d0 d1 := ⟨h.1.below hb, h.2.1.below hb, h.2.2.1.below hb, h.2.2.2.below hb⟩
def Q3 (W : World) (B : Nat) (a0 a1 a2 a3 a4 a5 b0 b1 b2 b3 b4 b5 c0 c1 c2 c3 c4 c5 : Value) : Prop := Box6 W B a0 a1 a2 a3 a4 a5 ∧ Box6 W (B + 1) b0 b1 b2 b3 b4 b5 ∧ Box6 W (B + 2) c0 c1 c2 c3 c4 c5
theorem Q3.new (w : World) (a0 a1 a2 a3 a4 a5 b0 b1 b2 b3 b4 b5 c0 c1 c2 c3 c4 c5 : Value) (t : TypeId) : Q3 (((w.alloc (.cells #[a0, a1, a2, a3, a4, a5] t)).alloc (.cells #[b0, b1, b2, b3, b4, b5] t)).alloc (.cells #[c0, c1, c2, c3, c4, c5] t)) w.heap.size a0 a1 a2 a3 a4 a5 b0 b1 b2 b3 b4 b5 c0 c1 c2 c3 c4 c5 ∧ Below w.heap.size w (((w.alloc (.cells #[a0, a1, a2, a3, a4, a5] t)).alloc (.cells #[b0, b1, b2, b3, b4, b5] t)).alloc (.cells #[c0, c1, c2, c3, c4, c5] t)) := by
 have k1 : Below w.heap.size w (w.alloc (.cells #[a0, a1, a2, a3, a4, a5] t)) := (Below.refl _ _).alloc (Nat.le_refl _) _
 have k2 : Below w.heap.size w ((w.alloc (.cells #[a0, a1, a2, a3, a4, a5] t)).alloc (.cells #[b0, b1, b2, b3, b4, b5] t)) := k1.alloc k1.size _
 have k3 : Below w.heap.size w (((w.alloc (.cells #[a0, a1, a2, a3, a4, a5] t)).alloc (.cells #[b0, b1, b2, b3, b4, b5] t)).alloc (.cells #[c0, c1, c2, c3, c4, c5] t)) := k2.alloc k2.size _
 have b0' := ((Box6.new w a0 a1 a2 a3 a4 a5 t).alloc (.cells #[b0, b1, b2, b3, b4, b5] t)).alloc (.cells #[c0, c1, c2, c3, c4, c5] t)
 have b1' := (Box6.new (w.alloc (.cells #[a0, a1, a2, a3, a4, a5] t)) b0 b1 b2 b3 b4 b5 t).alloc (.cells #[c0, c1, c2, c3, c4, c5] t)
 simp only [World.size_alloc] at b1'
 have b2' := Box6.new ((w.alloc (.cells #[a0, a1, a2, a3, a4, a5] t)).alloc (.cells #[b0, b1, b2, b3, b4, b5] t)) c0 c1 c2 c3 c4 c5 t
 simp only [World.size_alloc] at b2'
 exact ⟨⟨b0', b1', b2'⟩, k3⟩
theorem Q3.below {B : Nat} (h : Q3 W B a0 a1 a2 a3 a4 a5 b0 b1 b2 b3 b4 b5 c0 c1 c2 c3 c4 c5) (hb : Below W.heap.size W V) : Q3 V B a0 a1 a2 a3 a4 a5 b0 b1 b2 b3 b4 b5 c0 c1 c2 c3 c4 c5 := ⟨h.1.below hb, h.2.1.below hb, h.2.2.below hb⟩
theorem Q3.st6 {B : Nat} (h : Q3 W B a0 a1 a2 a3 a4 a5 b0 b1 b2 b3 b4 b5 c0 c1 c2 c3 c4 c5) (hg : B + 3 ≤ g) (x0 x1 x2 x3 x4 x5 : Value) : Q3 ((((((W.setCell ⟨g, 0, none⟩ x0).setCell ⟨g, 1, none⟩ x1).setCell ⟨g, 2, none⟩ x2).setCell ⟨g, 3, none⟩ x3).setCell ⟨g, 4, none⟩ x4).setCell ⟨g, 5, none⟩ x5) B a0 a1 a2 a3 a4 a5 b0 b1 b2 b3 b4 b5 c0 c1 c2 c3 c4 c5 := ⟨h.1.st6 (by omega) x0 x1 x2 x3 x4 x5, h.2.1.st6 (by omega) x0 x1 x2 x3 x4 x5, h.2.2.st6 (by omega) x0 x1 x2 x3 x4 x5⟩
theorem iin_w {p : Iv} (hp : IvW P p) (gp : IvN 60 P.1 P.2) (hq : IvW Q q) (gq : IvN 60 Q.1 Q.2) (u1 : U64s w Z1 A a p.l0) (u2 : U64s w Z2 B b p.l1) (u3 : U64s w Z3 C c q.l0) (u4 : U64s w Z4 D d q.l1) {r : Bool} (hr : decide (Q.1 ≤ P.1 ∧ P.2 ≤ Q.2) = r) :
  Calls Tryz.prog 35 #[.agg #[.bool p.n0, .bool p.s0, .slice A p.l0.length a, .bool p.n1, .bool p.s1, .slice B p.l1.length b], .agg #[.bool q.n0, .bool q.s0, .slice C q.l0.length c, .bool q.n1, .bool q.s1, .slice D q.l1.length d]] w fun e w' => e = .returned (.tuple #[.bool r, .int .i64 0]) ∧ Below w.heap.size w w' := by
 have kp := hp.k gp (by omega)
 have kq := hq.k gq (by omega)
 exact iin_good u1 u2 u3 u4 kp.ok kq.ok (by have := kp.q0; omega) (by have := kp.q1; omega) (by have := kq.q0; omega) (by have := kq.q1; omega) (by rw [kp.lo, kq.lo, kp.hi, kq.hi]; exact hr)
theorem imeetG_w {p : Iv} (hp : IvW P p) (gp : IvN 60 P.1 P.2) (hq : IvW Q q) (gq : IvN 60 Q.1 Q.2) (u1 : U64s w Z1 A a p.l0) (u2 : U64s w Z2 B b p.l1) (u3 : U64s w Z3 C c q.l0) (u4 : U64s w Z4 D d q.l1) (hr : IvW (max P.1 Q.1, min P.2 Q.2) r) (hg : max P.1 Q.1 ≤ min P.2 Q.2) :
  Calls Tryz.prog 19 #[.agg #[.bool p.n0, .bool p.s0, .slice A p.l0.length a, .bool p.n1, .bool p.s1, .slice B p.l1.length b], .agg #[.bool q.n0, .bool q.s0, .slice C q.l0.length c, .bool q.n1, .bool q.s1, .slice D q.l1.length d]] w fun e w' => ∃ rA ra rB rb, e = .returned (.tuple #[.agg #[.bool r.n0, .bool r.s0, .slice rA r.l0.length ra, .bool r.n1, .bool r.s1, .slice rB r.l1.length rb], .int .i64 0]) ∧ U64s w' (new w.heap.size) rA ra r.l0 ∧ U64s w' (new w.heap.size) rB rb r.l1 ∧ Below w.heap.size w w' := by
 have kp := hp.k gp (by omega)
 have kq := hq.k gq (by omega)
 exact iMeet_good u1 u2 u3 u4 kp.ok kq.ok (by have := kp.q0; omega) (by have := kp.q1; omega) (by have := kq.q0; omega) (by have := kq.q1; omega) (z0 := max P.1 Q.1) (z1 := min P.2 Q.2) (by rw [kp.lo, kq.lo]) (by rw [kp.hi, kq.hi]) hr.1 hr.2 hg
def AnsI (F : Nat) (p q u : Iv) (E : Int) : Prop := ∀ (w : World) (Z1 Z2 Z3 Z4 : Zone) (A B C D : Option Addr) (a b c d : Nat), U64s w Z1 A a p.l0 → U64s w Z2 B b p.l1 → U64s w Z3 C c q.l0 → U64s w Z4 D d q.l1 → Calls Tryz.prog F #[.agg #[.bool p.n0, .bool p.s0, .slice A p.l0.length a, .bool p.n1, .bool p.s1, .slice B p.l1.length b], .agg #[.bool q.n0, .bool q.s0, .slice C q.l0.length c, .bool q.n1, .bool q.s1, .slice D q.l1.length d]] w fun e w' => ∃ rA ra rB rb, e = .returned (.tuple #[.agg #[.bool u.n0, .bool u.s0, .slice rA u.l0.length ra, .bool u.n1, .bool u.s1, .slice rB u.l1.length rb], .int .i64 E]) ∧ U64s w' (new w.heap.size) rA ra u.l0 ∧ U64s w' (new w.heap.size) rB rb u.l1 ∧ Below w.heap.size w w'
def zeroI : Iv := ⟨false, false, [], false, false, []⟩
theorem AnsI.zero {F : Nat} {p : Iv} {E : Int} (h : ∀ (w : World) (Z1 Z2 Z3 Z4 : Zone) (A B C D : Option Addr) (a b c d : Nat), U64s w Z1 A a p.l0 → U64s w Z2 B b p.l1 → U64s w Z3 C c q.l0 → U64s w Z4 D d q.l1 → Calls Tryz.prog F #[.agg #[.bool p.n0, .bool p.s0, .slice A p.l0.length a, .bool p.n1, .bool p.s1, .slice B p.l1.length b], .agg #[.bool q.n0, .bool q.s0, .slice C q.l0.length c, .bool q.n1, .bool q.s1, .slice D q.l1.length d]] w fun e w' => e = .returned (.tuple #[.agg #[.bool false, .bool false, .slice none 0 0, .bool false, .bool false, .slice none 0 0], .int .i64 E]) ∧ Below w.heap.size w w') : AnsI F p q zeroI E := fun w Z1 Z2 Z3 Z4 A B C D a b c d u1 u2 u3 u4 => by
 refine (h w Z1 Z2 Z3 Z4 A B C D a b c d u1 u2 u3 u4).mono ?_
 rintro e w' ⟨rfl, hb⟩
 exact ⟨none, 0, none, 0, rfl, U64s.nil _ _, U64s.nil _ _, hb⟩
theorem grown_set (W : World) (g i : Nat) (v : Value) : W.grownBy (W.setCell ⟨g, i, none⟩ v) (some g) :=
 ⟨rfl, rfl, rfl, by simp [World.setCell], fun k _ hk => Below.heap_setCell _ _ _ _ (fun e => hk (by rw [e]))⟩
theorem grown_set7 (W : World) (g : Nat) (x0 x1 x2 x3 x4 x5 x6 : Value) : W.grownBy (((((((W.setCell ⟨g, 0, none⟩ x0).setCell ⟨g, 1, none⟩ x1).setCell ⟨g, 2, none⟩ x2).setCell ⟨g, 3, none⟩ x3).setCell ⟨g, 4, none⟩ x4).setCell ⟨g, 5, none⟩ x5).setCell ⟨g, 6, none⟩ x6) (some g) :=
 (((((((grown_set W g 0 x0).trans (grown_set _ g 1 x1)).trans (grown_set _ g 2 x2)).trans (grown_set _ g 3 x3)).trans (grown_set _ g 4 x4)).trans (grown_set _ g 5 x5)).trans (grown_set _ g 6 x6))
theorem BoxL.put7 (H : BoxL W g [a0, a1, a2, a3, a4, a5, a6]) (x0 x1 x2 x3 x4 x5 x6 : Value) : BoxL (((((((W.setCell ⟨g, 0, none⟩ x0).setCell ⟨g, 1, none⟩ x1).setCell ⟨g, 2, none⟩ x2).setCell ⟨g, 3, none⟩ x3).setCell ⟨g, 4, none⟩ x4).setCell ⟨g, 5, none⟩ x5).setCell ⟨g, 6, none⟩ x6) g [x0, x1, x2, x3, x4, x5, x6] :=
 (((((((H.set 0 x0 rfl).set 1 x1 rfl).set 2 x2 rfl).set 3 x3 rfl).set 4 x4 rfl).set 5 x5 rfl).set 6 x6 rfl)
theorem BoxL.all7 (H : BoxL W g [a0, a1, a2, a3, a4, a5, a6]) : (D6 W g a0 a1 a2 a3 a4 a5 (W.cell? ⟨g, 6, none⟩ = some a6)) ∧ W.frozen? ⟨g, 0, none⟩ = false ∧ W.frozen? ⟨g, 1, none⟩ = false ∧ W.frozen? ⟨g, 2, none⟩ = false ∧ W.frozen? ⟨g, 3, none⟩ = false ∧ W.frozen? ⟨g, 4, none⟩ = false ∧ W.frozen? ⟨g, 5, none⟩ = false ∧ W.frozen? ⟨g, 6, none⟩ = false :=
 ⟨⟨H.c 0 _ rfl, H.c 1 _ rfl, H.c 2 _ rfl, H.c 3 _ rfl, H.c 4 _ rfl, H.c 5 _ rfl, H.c 6 _ rfl⟩, H.f 0 _ rfl, H.f 1 _ rfl, H.f 2 _ rfl, H.f 3 _ rfl, H.f 4 _ rfl, H.f 5 _ rfl, H.f 6 _ rfl⟩
theorem BoxL.all9 {a7 a8 : Value} (H : BoxL W g [a0, a1, a2, a3, a4, a5, a6, a7, a8]) : (D6 W g a0 a1 a2 a3 a4 a5 (W.cell? ⟨g, 6, none⟩ = some a6 ∧ W.cell? ⟨g, 7, none⟩ = some a7 ∧ W.cell? ⟨g, 8, none⟩ = some a8)) ∧ W.frozen? ⟨g, 0, none⟩ = false ∧ W.frozen? ⟨g, 1, none⟩ = false ∧ W.frozen? ⟨g, 2, none⟩ = false ∧ W.frozen? ⟨g, 3, none⟩ = false ∧ W.frozen? ⟨g, 4, none⟩ = false ∧ W.frozen? ⟨g, 5, none⟩ = false ∧ W.frozen? ⟨g, 6, none⟩ = false ∧ W.frozen? ⟨g, 7, none⟩ = false ∧ W.frozen? ⟨g, 8, none⟩ = false :=
 ⟨⟨H.c 0 _ rfl, H.c 1 _ rfl, H.c 2 _ rfl, H.c 3 _ rfl, H.c 4 _ rfl, H.c 5 _ rfl, H.c 6 _ rfl, H.c 7 _ rfl, H.c 8 _ rfl⟩, H.f 0 _ rfl, H.f 1 _ rfl, H.f 2 _ rfl, H.f 3 _ rfl, H.f 4 _ rfl, H.f 5 _ rfl, H.f 6 _ rfl, H.f 7 _ rfl, H.f 8 _ rfl⟩
theorem loadVar_lined (h : BoxL w g [a0, a1, a2, a3, a4, a5, a6]) :
  (loadVar 70 ⟨g, 0, none⟩).run Tryz.prog w = .ok (.agg #[a0, a1, a2, a3, a4, a5, a6]) w := by
 obtain ⟨⟨h0, h1, h2, h3, h4, h5, h6⟩, _⟩ := h.all7
 unfold loadVar
 go_simp
theorem res_lined {fn : Func} {p : Tmp} (h : fn.results = #[.cell p 70]) (tmps : Array Value) (g : Nat) (hp : tmps.getD p undef = .pointer (some ⟨g, 0, none⟩)) (hB : BoxL w g [a0, a1, a2, a3, a4, a5, a6]) :
  (results fn tmps).run Tryz.prog w = .ok (.agg #[a0, a1, a2, a3, a4, a5, a6]) w := by
 have hp' : tmps[p]?.getD undef = .pointer (some ⟨g, 0, none⟩) := by simpa using hp
 simp [results, h, hp', asAddr, loadVar_lined hB]
theorem res_lined2 {fn : Func} {p u : Tmp} (h : fn.results = #[.cell p 70, .tmp u]) (tmps : Array Value) (g : Nat) (hp : tmps.getD p undef = .pointer (some ⟨g, 0, none⟩)) (hB : BoxL w g [a0, a1, a2, a3, a4, a5, a6]) :
  (results fn tmps).run Tryz.prog w = .ok (.tuple #[.agg #[a0, a1, a2, a3, a4, a5, a6], tmps.getD u undef]) w := by
 rw [results_cell_tmp h, hp]
 simp [asAddr, Result.andThen, loadVar_lined hB]
theorem U64s.keepN {l : List Nat} (h : U64s W Z A c l) (hg : W.grownBy W' (some g)) (hz : ¬ Z.blk g) : U64s W' Z A c l :=
 h.keep fun b hb hl => hg.block b hl (fun e => by injection e with e; subst e; exact hz hb)
theorem IvsAt.keepN {K : Nat} {ps : List Iv} (h : IvsAt W Z A c ps) (hn : NewA K A) (hg : W.grownBy W' (some g)) (hz : ¬ Z.blk g) (hK : g < K) : IvsAt W' Z A c ps := by
 refine ⟨h.cap, h.max, fun h0 => ?_⟩
 obtain ⟨b, o, e, h2, h4⟩ := h.row h0
 have hb := hn b o e
 have hbl := hg.block b h2 (fun e => by injection e; omega)
 refine ⟨b, o, e, Nat.lt_of_lt_of_le h2 hg.size, fun j hj => ?_⟩
 obtain ⟨A0, d0, A1, d1, ⟨c0, c1, c2, c3, c4, c5⟩, u0, u1⟩ := h4 j hj
 have kc := fun (i : Nat) => World.cell?_of_block (w := W) (w' := W') (a := ⟨b, i, none⟩) hbl
 exact ⟨A0, d0, A1, d1, ⟨(kc _).trans c0, (kc _).trans c1, (kc _).trans c2, (kc _).trans c3, (kc _).trans c4, (kc _).trans c5⟩, u0.keepN hg hz, u1.keepN hg hz⟩
def constL (d : Nat) (P : IvP) : List IvP := (List.replicate (d + 1) ((0 : Int), (0 : Int))).set 0 P
theorem constL_w {p : Iv} (h : IvW P p) : fmOf (constL d P) = (List.replicate (d + 1) nullI).set 0 p := by
 unfold fmOf constL
 rw [List.map_set, List.map_replicate, nullI_of, h.uniq (IvW.mk P)]
theorem constL_len (d : Nat) (P : IvP) : (constL d P).length = d + 1 := by simp [constL]
theorem lconstant_r {lk pn pc : Nat} {PA : Option Addr} {p : Iv} (hk : w.cell? ⟨lk, 6, none⟩ = some (.slice PA pn pc)) (hd : pn ≤ 63) (hp : IvW P p) (gp : IvN N P.1 P.2) (hN : N ≤ 60) (u1 : U64s w Z1 A a p.l0) (u2 : U64s w Z2 B b p.l1) :
  Calls Tryz.prog 38 #[.pointer (some ⟨lk, 0, none⟩), .agg #[.bool p.n0, .bool p.s0, .slice A p.l0.length a, .bool p.n1, .bool p.s1, .slice B p.l1.length b]] w fun e w' => ∃ F f, e = .returned (.agg #[.bool p.n0, .bool p.s0, .slice A p.l0.length a, .bool p.n1, .bool p.s1, .slice B p.l1.length b, .slice F (pn + 1) f]) ∧ IvsAt w' (new w.heap.size) F f (fmOf (constL pn P)) ∧ NewA w.heap.size F ∧ Below w.heap.size w w' := by
 have hB1 : Below w.heap.size w (w.alloc (.cells #[.bool p.n0, .bool p.s0, .slice A p.l0.length a, .bool p.n1, .bool p.s1, .slice B p.l1.length b] 29)) := (Below.refl _ w).alloc (Nat.le_refl _) _
 have hB0 := hB1.alloc hB1.size (.cells #[.bool false, .bool false, .slice none 0 0, .bool false, .bool false, .slice none 0 0, .slice none 0 0] 70)
 obtain ⟨W1, hW1⟩ : ∃ W, (w.alloc (.cells #[.bool p.n0, .bool p.s0, .slice A p.l0.length a, .bool p.n1, .bool p.s1, .slice B p.l1.length b] 29)).alloc (.cells #[.bool false, .bool false, .slice none 0 0, .bool false, .bool false, .slice none 0 0, .slice none 0 0] 70) = W := ⟨_, rfl⟩
 rw [hW1] at hB0
 have HA : Hid (Box6 W1 w.heap.size (.bool p.n0) (.bool p.s0) (.slice A p.l0.length a) (.bool p.n1) (.bool p.s1) (.slice B p.l1.length b)) := hid (by rw [← hW1]; exact (Box6.new w _ _ _ _ _ _ _).alloc _)
 have HR : Hid (BoxL W1 (w.heap.size + 1) [.bool false, .bool false, .slice none 0 0, .bool false, .bool false, .slice none 0 0, .slice none 0 0]) := hid (by
  rw [← hW1]
  have h := BoxL.new (w.alloc (.cells #[.bool p.n0, .bool p.s0, .slice A p.l0.length a, .bool p.n1, .bool p.s1, .slice B p.l1.length b] 29)) [.bool false, .bool false, .slice none 0 0, .bool false, .bool false, .slice none 0 0, .slice none 0 0] 70
  simpa using h)
 have hsz : w.heap.size + 2 ≤ W1.heap.size := by rw [← hW1]; simp
 obtain ⟨HZ, HB⟩ := hid2 hsz hB0
 have s6 := keepC hB0 hk
 have hdd := hB0.drew
 have HC := hid (lconst_goodN (w := W1.drew) hd hp gp hN (u1.below hdd) (u2.below hdd))
 rw [← constL_w hp] at HC
 obtain ⟨z0, z1, z2, z3, z4, z5, _, _, _, _, _, _, _⟩ := id HA.out
 clear hB1 hB0 hk hp gp u1 u2 hsz hdd hd
 go_enter Tryz.func38, Tryz.ntmps38
 go_wp2
 clear hW1
 first | go_region_with ((go_at_call 60; with_reducible refine HC.out.mono ?_; rintro e w2 ⟨F, f, rfl, hf, hc, hn⟩)) | fail
 all_goals
  have hc' : Below W1.heap.size W1 w2 := from_ ((Below.refl W1.heap.size W1).drew) hc
  replace HA := hid (HA.out.below hc')
  replace HR := hid (HR.out.below hc')
  have hgr := grown_set7 w2 (w.heap.size + 1) (.bool p.n0) (.bool p.s0) (.slice A p.l0.length a) (.bool p.n1) (.bool p.s1) (.slice B p.l1.length b) (.slice F (pn + 1) f)
  have hn' : NewA W1.heap.size F := hn
  obtain ⟨HF, HP, HBF, HN⟩ := hid4 ((IvsAt.keepN hf hn' hgr (fun h => by have h' : W1.heap.size ≤ w.heap.size + 1 := h; have := HZ.out; omega) (by have := HZ.out; omega)).mono (new_le HB.out.size)) (HR.out.put7 (.bool p.n0) (.bool p.s0) (.slice A p.l0.length a) (.bool p.n1) (.bool p.s1) (.slice B p.l1.length b) (.slice F (pn + 1) f)) ((from_ HB.out hc').grown hgr (by have := HB.out.size; have := hc'.size; omega) (fun k e => by injection e; omega)) (show NewA w.heap.size F from fun b o e => Nat.le_trans HB.out.size (hn' b o e))
  obtain ⟨⟨r0, r1, r2, r3, r4, r5, r6⟩, q0, q1, q2, q3, q4, q5, q6⟩ := HR.out.all7
  clear z0 z1 z2 z3 z4 z5 s6 hf hc hc' hn hn' hgr HC
  have z0 := HA.out.all
  go_wp2
  refine bodyPost_ret (res_lined rfl _ (w.heap.size + 1) rfl HP.out) rfl ?_
  exact ⟨_, _, rfl, HF.out, HN.out, HBF.out⟩
def RowN (w : World) (v : Value) : Prop := ∀ g, v.ownBlock = some g → NoU w g
def noW (u : Value) : Prop := ∀ n, u ≠ .int .u64 n
theorem RowN.nil (w : World) : RowN w (.slice none 0 0) := fun g h => by cases h
theorem RowN.below {B : Nat} {e : TypeId} {z n : Nat} (h : RowN w v) (ho : w.ownsRow B e z v n xs) (hb : Below w.heap.size w w') : RowN w' v := fun g hg => (h g hg).below (ho.lt g hg).2 hb
theorem NoU.heap {cs : Array Value} {f : Nat × Nat} (hN : NoU w g) (h : w.heap[g]? = some (.cells cs t f)) : ∀ u ∈ cs.toList, noW u := fun u hu n e => by
 obtain ⟨o, ho⟩ := List.getElem?_of_mem hu
 rw [Array.getElem?_toList] at ho
 refine hN o n ?_
 rw [cell_of_row w g o cs t f h, ho, e]
theorem U64s.notOwn {l : List Nat} (u : U64s w Z A c l) (h : RowN w v) : U64s w (notOwn v) A c l := by
 cases hv : v.ownBlock with
 | none =>
   refine ⟨u.small, u.cap, u.max, u.nul, fun h0 => ?_⟩
   obtain ⟨b, o, e, _, _, hc⟩ := u.row h0
   exact ⟨b, o, e, (fun h => by rw [hv] at h; cases h), fun h => h.elim, hc⟩
 | some g => exact (u.offB (h g hv)).mono ⟨(fun b hb e => by rw [hv] at e; injection e with e; exact hb e.symm), fun h => h⟩
def IvsP (w : World) (v : Value) (xs : List Value) (ps : List Iv) : Prop :=
 ∀ j (hj : j < ps.length), ∃ A a B b, (xs[j * 6]? = some (.bool ps[j].n0) ∧ xs[j * 6 + 1]? = some (.bool ps[j].s0) ∧ xs[j * 6 + 2]? = some (.slice A ps[j].l0.length a) ∧ xs[j * 6 + 3]? = some (.bool ps[j].n1) ∧ xs[j * 6 + 4]? = some (.bool ps[j].s1) ∧ xs[j * 6 + 5]? = some (.slice B ps[j].l1.length b)) ∧ U64s w (notOwn v) A a ps[j].l0 ∧ U64s w (notOwn v) B b ps[j].l1
theorem IvsP.nil (w : World) (v : Value) (xs : List Value) : IvsP w v xs [] := fun j hj => absurd hj (by simp)
theorem IvsP.below {ps : List Iv} (h : IvsP w v xs ps) (hb : Below w.heap.size w w') : IvsP w' v xs ps := fun j hj => by
 obtain ⟨A, a, B, b, hc, h0, h1⟩ := h j hj
 exact ⟨A, a, B, b, hc, h0.below hb, h1.below hb⟩
theorem IvsP.snoc {v' : Value} {ps : List Iv} {p : Iv} (h : IvsP w v xs ps) (hl : xs.length = ps.length * 6) (hg : w.grownBy w' v.ownBlock) (hf : Fresh w v v') (hN : RowN w v) (hu : U64s w Z A a p.l0) (hv : U64s w Y B b p.l1) :
  IvsP w' v' (xs ++ [.bool p.n0, .bool p.s0, .slice A p.l0.length a, .bool p.n1, .bool p.s1, .slice B p.l1.length b]) (ps ++ [p]) := fun j hj => by
 rw [List.length_append, List.length_singleton] at hj
 by_cases hj2 : j < ps.length
 · obtain ⟨A', a', B', b', ⟨h0, h1, h2, h3, h4, h5⟩, u0, u1⟩ := h j hj2
   refine ⟨A', a', B', b', ?_, ?_, ?_⟩
   · rw [List.getElem_append_left hj2, List.getElem?_append_left (by omega), List.getElem?_append_left (by omega), List.getElem?_append_left (by omega), List.getElem?_append_left (by omega), List.getElem?_append_left (by omega), List.getElem?_append_left (by omega)]
     exact ⟨h0, h1, h2, h3, h4, h5⟩
   · rw [List.getElem_append_left hj2]; exact u0.growO hg hf
   · rw [List.getElem_append_left hj2]; exact u1.growO hg hf
 · obtain rfl : j = ps.length := by omega
   have e : (ps ++ [p])[ps.length]'(by simp) = p := by rw [List.getElem_append_right (by omega)]; simp
   refine ⟨A, a, B, b, ?_, ?_, ?_⟩
   · rw [e, List.getElem?_append_right (by omega), List.getElem?_append_right (by omega), List.getElem?_append_right (by omega), List.getElem?_append_right (by omega), List.getElem?_append_right (by omega), List.getElem?_append_right (by omega), hl, Nat.sub_self, show ps.length * 6 + 1 - ps.length * 6 = 1 by omega, show ps.length * 6 + 2 - ps.length * 6 = 2 by omega, show ps.length * 6 + 3 - ps.length * 6 = 3 by omega, show ps.length * 6 + 4 - ps.length * 6 = 4 by omega, show ps.length * 6 + 5 - ps.length * 6 = 5 by omega]
     exact ⟨rfl, rfl, rfl, rfl, rfl, rfl⟩
   · rw [e]; exact (hu.notOwn hN).growO hg hf
   · rw [e]; exact (hv.notOwn hN).growO hg hf
theorem IvsP.fin {B : Nat} {ps : List Iv} {e : TypeId} (h : IvsP w v xs ps) (hown : w.ownsRow B e 6 v ps.length xs) : ∃ A c, v = .slice A ps.length c ∧ IvsAt w old A c ps ∧ ∀ b o, A = some ⟨b, o, none⟩ → B ≤ b := by
 have hcase := hown.2
 rcases hcase with ⟨e1, h0⟩ | ⟨g, cap, cur, e1, hB, hh, hcap, hm, _⟩
 · have hq : ps = [] := List.eq_nil_of_length_eq_zero h0
   subst hq
   exact ⟨none, 0, e1, IvsAt.nil _ _, fun b o h => by cases h⟩
 · subst e1
   refine ⟨some ⟨g, 0, none⟩, cap, rfl, ⟨hcap, by simpa [maxLen] using hm, fun h0 => ⟨g, 0, rfl, (hown.lt g rfl).2, fun j hj => ?_⟩⟩, fun b o h => by injection h with h; injection h with h1 h2; omega⟩
   obtain ⟨A, a, B, b, ⟨c0, c1, c2, c3, c4, c5⟩, u0, u1⟩ := h j hj
   refine ⟨A, a, B, b, ⟨?_, ?_, ?_, ?_, ?_, ?_⟩, u0.mono (le_old _), u1.mono (le_old _)⟩
   · rw [Nat.zero_add, hown.cellAt (j * 6) (by omega)]; exact c0
   · rw [Nat.zero_add, hown.cellAt (j * 6 + 1) (by omega)]; exact c1
   · rw [Nat.zero_add, hown.cellAt (j * 6 + 2) (by omega)]; exact c2
   · rw [Nat.zero_add, hown.cellAt (j * 6 + 3) (by omega)]; exact c3
   · rw [Nat.zero_add, hown.cellAt (j * 6 + 4) (by omega)]; exact c4
   · rw [Nat.zero_add, hown.cellAt (j * 6 + 5) (by omega)]; exact c5
structure BX (W : World) (g : Nat) (r : Iv) (A : Option Addr) (a : Nat) (B : Option Addr) (b : Nat) : Prop where
 box : Box6 W g (.bool r.n0) (.bool r.s0) (.slice A r.l0.length a) (.bool r.n1) (.bool r.s1) (.slice B r.l1.length b)
 noU : NoU W g
 u0 : U64s W old A a r.l0
 u1 : U64s W old B b r.l1
theorem Box6.own6 {a b c d : Value} (h : Box6 W g a b c d e f) (x0 x1 x2 x3 x4 x5 : Value) : Box6 ((((((W.setCell ⟨g, 0, none⟩ x0).setCell ⟨g, 1, none⟩ x1).setCell ⟨g, 2, none⟩ x2).setCell ⟨g, 3, none⟩ x3).setCell ⟨g, 4, none⟩ x4).setCell ⟨g, 5, none⟩ x5) g x0 x1 x2 x3 x4 x5 := BoxL.six ((((((((BoxL.of6 h).set 0 x0 rfl).set 1 x1 rfl).set 2 x2 rfl).set 3 x3 rfl).set 4 x4 rfl).set 5 x5 rfl))
section
variable {W W' : World} {g h : Nat} {r q : Iv} {A B C D : Option Addr} {a b c d : Nat} {Z Y : Zone}
theorem BX.below (h : BX W g r A a B b) (hb : Below W.heap.size W W') : BX W' g r A a B b := ⟨h.box.below hb, h.noU.below h.box.lt hb, h.u0.below hb, h.u1.below hb⟩
theorem BX.new {t : TypeId} (u : U64s W Z A a r.l0) (v : U64s W Y B b r.l1) : BX (W.alloc (.cells #[.bool r.n0, .bool r.s0, .slice A r.l0.length a, .bool r.n1, .bool r.s1, .slice B r.l1.length b] t)) W.heap.size r A a B b :=
 ⟨Box6.new W _ _ _ _ _ _ t, NoU.new6 W _ _ _ _ _ _ _ _ _ _ t, (u.below ((Below.refl _ W).alloc (Nat.le_refl _) _)).mono (le_old _), (v.below ((Below.refl _ W).alloc (Nat.le_refl _) _)).mono (le_old _)⟩
theorem BX.own (h : BX W g r A a B b) (u : U64s W Z C c q.l0) (v : U64s W Y D d q.l1) : BX ((((((W.setCell ⟨g, 0, none⟩ (.bool q.n0)).setCell ⟨g, 1, none⟩ (.bool q.s0)).setCell ⟨g, 2, none⟩ (.slice C q.l0.length c)).setCell ⟨g, 3, none⟩ (.bool q.n1)).setCell ⟨g, 4, none⟩ (.bool q.s1)).setCell ⟨g, 5, none⟩ (.slice D q.l1.length d)) g q C c D d :=
 ⟨h.box.own6 _ _ _ _ _ _, h.noU.own6 h.box _ _ _ _ _ _ _ _ _ _, u.set6n h.noU _ _ _ _ _ _, v.set6n h.noU _ _ _ _ _ _⟩
end
def RowAtN (w : World) (Z : Zone) (b9 o9 n : Nat) (L : List IvP) : Prop := ∀ j, j < n → ∃ (q : Iv) (F0 : Option Addr) (f0 : Nat) (F1 : Option Addr) (f1 : Nat), (w.cell? ⟨b9, o9 + j * 6, none⟩ = some (.bool q.n0) ∧ w.cell? ⟨b9, o9 + j * 6 + 1, none⟩ = some (.bool q.s0) ∧ w.cell? ⟨b9, o9 + j * 6 + 2, none⟩ = some (.slice F0 q.l0.length f0) ∧ w.cell? ⟨b9, o9 + j * 6 + 3, none⟩ = some (.bool q.n1) ∧ w.cell? ⟨b9, o9 + j * 6 + 4, none⟩ = some (.bool q.s1) ∧ w.cell? ⟨b9, o9 + j * 6 + 5, none⟩ = some (.slice F1 q.l1.length f1)) ∧ U64s w Z F0 f0 q.l0 ∧ U64s w Z F1 f1 q.l1 ∧ IvW (L.getD j (0, 0)) q
theorem RowAtN.below {n : Nat} {L : List IvP} (h : RowAtN w Z b9 o9 n L) (hb : Below w.heap.size w w') : RowAtN w' Z b9 o9 n L := fun j hj => by
 obtain ⟨q, F0, f0, F1, f1, hc, hu, hv, hq⟩ := h j hj
 exact ⟨q, F0, f0, F1, f1, six_keep hc hb, hu.below hb, hv.below hb, hq⟩
theorem RowAtN.off {n : Nat} {L : List IvP} (h : RowAtN w Z b9 o9 n L) (hn : NoU w g) : RowAtN w (zNe g) b9 o9 n L := fun j hj => by
 obtain ⟨q, F0, f0, F1, f1, hc, hu, hv, hq⟩ := h j hj
 exact ⟨q, F0, f0, F1, f1, hc, hu.offB hn, hv.offB hn, hq⟩
theorem RowAtN.just {n : Nat} {L : List IvP} (h : RowAtN w (zNe g) b9 o9 n L) (hj : Just g w w') (hb : b9 ≠ g) : RowAtN w' (zNe g) b9 o9 n L := fun j hjn => by
 obtain ⟨q, F0, f0, F1, f1, hc, hu, hv, hq⟩ := h j hjn
 exact ⟨q, F0, f0, F1, f1, six_just hj hb hc, hj.words (fun h => h rfl) hu, hj.words (fun h => h rfl) hv, hq⟩
theorem RowAtN.of {n : Nat} {L : List IvP} (h : IvsAt w Z A c (fmOf L)) (hn : L.length = n) (h0 : 0 < n) : ∃ b9 o9, A = some ⟨b9, o9, none⟩ ∧ b9 < w.heap.size ∧ RowAtN w Z b9 o9 n L := by
 obtain ⟨b9, o9, e, hlt, hcells⟩ := h.row (by rw [fmOf_len]; omega)
 refine ⟨b9, o9, e, hlt, fun j hj => ?_⟩
 obtain ⟨F0, f0, F1, f1, hc6, hu, hv⟩ := hcells j (by rw [fmOf_len]; omega)
 have e : (fmOf L)[j]'(by rw [fmOf_len]; omega) = ivOf (L.getD j (0, 0)).1 (L.getD j (0, 0)).2 := by
  have hj2 : j < L.length := by omega
  simp [fmOf, List.getD, hj2]
 rw [e] at hc6 hu hv
 exact ⟨_, F0, f0, F1, f1, hc6, hu, hv, IvW.mk _⟩
structure BZ (W : World) (g : Nat) : Prop where
 box : Box6 W g (.bool false) (.bool false) (.slice none 0 0) (.bool false) (.bool false) (.slice none 0 0)
 noU : NoU W g
theorem BZ.new (W : World) (t : TypeId) : BZ (W.alloc (.cells #[.bool false, .bool false, .slice none 0 0, .bool false, .bool false, .slice none 0 0] t)) W.heap.size := ⟨Box6.new W _ _ _ _ _ _ t, NoU.new6 W _ _ _ _ _ _ _ _ _ _ t⟩
theorem BZ.below (h : BZ W g) (hb : Below W.heap.size W W') : BZ W' g := ⟨h.box.below hb, h.noU.below h.box.lt hb⟩
theorem BZ.own (h : BZ W g) (u : U64s W Z C c q.l0) (v : U64s W Y D d q.l1) : BX ((((((W.setCell ⟨g, 0, none⟩ (.bool q.n0)).setCell ⟨g, 1, none⟩ (.bool q.s0)).setCell ⟨g, 2, none⟩ (.slice C q.l0.length c)).setCell ⟨g, 3, none⟩ (.bool q.n1)).setCell ⟨g, 4, none⟩ (.bool q.s1)).setCell ⟨g, 5, none⟩ (.slice D q.l1.length d)) g q C c D d :=
 ⟨h.box.own6 _ _ _ _ _ _, h.noU.own6 h.box _ _ _ _ _ _ _ _ _ _, u.set6n h.noU _ _ _ _ _ _, v.set6n h.noU _ _ _ _ _ _⟩
structure ResB (W0 w : World) (g : Nat) (r : Iv) (A : Option Addr) (a : Nat) (B : Option Addr) (b : Nat) : Prop where
 box : BX w g r A a B b
 lo : W0.heap.size ≤ g
 bel : Below W0.heap.size W0 w
theorem ResB.nw (Hc : Below W0.heap.size W0 w) (u : U64s w Z A a r.l0) (v : U64s w Y B b r.l1) : ResB W0 (w.alloc (.cells #[.bool r.n0, .bool r.s0, .slice A r.l0.length a, .bool r.n1, .bool r.s1, .slice B r.l1.length b] t)) w.heap.size r A a B b :=
 ⟨BX.new u v, Hc.size, from_ Hc bal_⟩
theorem ResB.ol (Hc : Below W0.heap.size W0 w) (H : BZ w g) (hg : W0.heap.size ≤ g) (u : U64s w Z A a r.l0) (v : U64s w Y B b r.l1) : ResB W0 ((((((w.setCell ⟨g, 0, none⟩ (.bool r.n0)).setCell ⟨g, 1, none⟩ (.bool r.s0)).setCell ⟨g, 2, none⟩ (.slice A r.l0.length a)).setCell ⟨g, 3, none⟩ (.bool r.n1)).setCell ⟨g, 4, none⟩ (.bool r.s1)).setCell ⟨g, 5, none⟩ (.slice B r.l1.length b)) g r A a B b :=
 ⟨H.own u v, hg, (H.box.put Hc hg _ _ _ _ _ _).bel⟩
theorem v12_al {o : Obj} (e : V = W.alloc o) (hs : (C6 W g a0 a1 a2 a3 a4 a5) ∧ C6 W h b0 b1 b2 b3 b4 b5) : (C6 V g a0 a1 a2 a3 a4 a5) ∧ C6 V h b0 b1 b2 b3 b4 b5 := by
 subst e
 exact d12_keep hs bal_
theorem v12_dr (e : V = W.drew) (hs : (C6 W g a0 a1 a2 a3 a4 a5) ∧ C6 W h b0 b1 b2 b3 b4 b5) : (C6 V g a0 a1 a2 a3 a4 a5) ∧ C6 V h b0 b1 b2 b3 b4 b5 := by
 subst e
 exact d12_keep hs bdr_
theorem v12_st6 {r : Nat} (e : V = ((((((W.setCell ⟨r, 0, none⟩ x0).setCell ⟨r, 1, none⟩ x1).setCell ⟨r, 2, none⟩ x2).setCell ⟨r, 3, none⟩ x3).setCell ⟨r, 4, none⟩ x4).setCell ⟨r, 5, none⟩ x5)) (hg : r ≠ g) (hh : r ≠ h) (hs : (C6 W g a0 a1 a2 a3 a4 a5) ∧ C6 W h b0 b1 b2 b3 b4 b5) : (C6 V g a0 a1 a2 a3 a4 a5) ∧ C6 V h b0 b1 b2 b3 b4 b5 := by
 subst e
 exact d12_st6 hg hh hs
end Go.Proofs.YtcheajjjdbllfaaGreat
