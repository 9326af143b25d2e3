/- Intervals, the program's: Div. No conditions but bounds on lengths. -/
import Derived.Deep.RegionHeld3
import Derived.StillTailTactics
import Derived.Test.YtdncgncijbnjpaaGreatRItwN
import Derived.Test.YtdncgncijbnjpaaGreatRRefE
import Derived.Test.YtdncgncijbnjpaaGreatRHeldL
import Derived.Test.YtdncgncijbnjpaaGreatRWhV
import Derived.Test.YtdncgncijbnjpaaGreatRBoxL
import Derived.Test.YtdncgncijbnjpaaGreatRTelC
import Derived.Test.YtdncgncijbnjpaaGreatRWhJ
set_option linter.unusedVariables false
set_option linter.unusedSimpArgs false
set_option maxRecDepth 100000
set_option maxHeartbeats 40000000
namespace Go.Proofs.YtdncgncijbnjpaaGreat
open Go.Lib (hid)
open Go.RowKit
variable {A B C D : Option Addr} {M N a b c d g h : Nat} {P Q : IvP} {V W W' : World} {Z Z1 Z2 Z3 Z4 : Zone} {a0 a1 a2 a3 a4 a5 a6 b0 b1 b2 b3 b4 b5 e f x0 x1 x2 x3 x4 x5 : Value} {o : Obj} {q r : Iv}
theorem anyL_one {P : Program} {ops : Array Oper} {Q : Exit → Act → World → Prop} {md : Region.Mode} {A T : World → Prop} {k i : Nat} {fuel : Nat} {listed : Array Bool} {a : Act} {w : World} (hr : Region.ready md ops listed = [i])
  (h : wpOp P ops Q i (fun a' w' => TillK A T k (listed.setIfInBounds i true) w' ∧ wpAnyL P md ops Q A T k fuel (listed.setIfInBounds i true) a' w') a w) : wpAnyL P md ops Q A T k (fuel + 1) listed a w :=
 ⟨fun h0 => (by rw [hr] at h0; cases h0), fun j hj => by
  rw [hr] at hj
  obtain rfl := List.mem_singleton.1 hj
  exact h⟩
def dK (P : Int × Int) (L : List (Int × Int)) (k : Nat) : Int × Int := (L.tail.take k).foldl (fun o q => ivJ o (ivD1 P q)) (ivD1 P (L.headD (0, 0)))
theorem dK_zero {P : Int × Int} {L : List (Int × Int)} (h : 0 < L.length) : dK P L 0 = ivD1 P L[0] := by
 cases L with
 | nil => cases h
 | cons a t => rfl
theorem dK_succ {P : Int × Int} {L : List (Int × Int)} {k : Nat} (h : k + 1 < L.length) : dK P L (k + 1) = ivJ (dK P L k) (ivD1 P L[k + 1]) := by
 unfold dK
 rw [List.take_succ_eq_append_getElem (by rw [List.length_tail]; omega), List.foldl_append, List.getElem_tail]
 rfl
theorem dK_all {P Q : Int × Int} {k : Nat} (h : (partsP Q).length = k + 1) : dK P (partsP Q) k = ivD P Q := by
 unfold dK ivD
 rw [List.take_of_length_le (by rw [List.length_tail]; omega)]
 cases e : partsP Q with
 | nil => rw [e] at h; simp at h
 | cons a t => rfl
theorem ivD1_ok {P Q : Int × Int} (h : IvN N P.1 P.2) (g : IvN M Q.1 Q.2) (h0 : 0 < Q.1 ∨ Q.2 < 0) (hN : N ≤ 6000) : IvN N (ivD1 P Q).1 (ivD1 P Q).2 := ivn_over h g h0 hN
theorem dK_ok {P : Int × Int} {L : List (Int × Int)} (h : IvN N P.1 P.2) (hN : N ≤ 6000) (hL : ∀ Q ∈ L, IvN M Q.1 Q.2 ∧ (0 < Q.1 ∨ Q.2 < 0)) (h0 : 0 < L.length) : ∀ k, k < L.length → IvN N (dK P L k).1 (dK P L k).2 := by
 intro k
 induction k with
 | zero =>
   intro hk
   rw [dK_zero h0]
   have := hL _ (List.getElem_mem h0)
   exact ivD1_ok h this.1 this.2 hN
 | succ k ih =>
   intro hk
   rw [dK_succ hk]
   have := hL _ (List.getElem_mem hk)
   exact ivJ_ok (ih (by omega)) (ivD1_ok h this.1 this.2 hN)
theorem ijoin2_w {w : World} {p : Iv} (hp : IvW P p) (gp : IvN N P.1 P.2) (hN : N ≤ 6000) (hq : IvW Q q) (gq : IvN M Q.1 Q.2) (hM : M ≤ 6000) (hr : IvW (ivJ P Q) r) (u1 : U64s w Z1 A a p.l0) (u2 : U64s w Z2 B b p.l1) (u3 : U64s w Z3 C c q.l0) (u4 : U64s w Z4 D d q.l1) :
  Calls Tryz.prog 93 #[.agg #[.bool p.n0, .bool p.s0, .slice A p.l0.length a, .bool p.n1, .bool p.s1, .slice B p.l1.length b], .agg #[.bool q.n0, .bool q.s0, .slice C q.l0.length c, .bool q.n1, .bool q.s1, .slice D q.l1.length d]] w fun e w' => ∃ rA ra rB rb, e = .returned (.agg #[.bool r.n0, .bool r.s0, .slice rA r.l0.length ra, .bool r.n1, .bool r.s1, .slice rB r.l1.length rb]) ∧ U64s w' (new w.heap.size) rA ra r.l0 ∧ U64s w' (new w.heap.size) rB rb r.l1 ∧ Below w.heap.size w w' := by
 have E := hp.k gp (by omega)
 have F := hq.k gq (by omega)
 exact ijoin_p u1 u2 u3 u4 E.ok F.ok (by have := E.q0; omega) (by have := E.q1; omega) (by have := F.q0; omega) (by have := F.q1; omega) (z0 := (ivJ P Q).1) (z1 := (ivJ P Q).2) (by rw [E.lo, F.lo]; rfl) (by rw [E.hi, F.hi]; rfl) hr.1 hr.2
theorem icover_w {w : World} {p : Iv} (hp : IvW P p) (gp : IvN 6000 P.1 P.2) (hq : IvW Q q) (gq : IvN 6000 Q.1 Q.2) (h0 : 0 < Q.1 ∨ Q.2 < 0) (hr : IvW (ivD1 P Q) r) (u1 : U64s w Z1 A a p.l0) (u2 : U64s w Z2 B b p.l1) (u3 : U64s w Z3 C c q.l0) (u4 : U64s w Z4 D d q.l1) :
  Calls Tryz.prog 145 #[.agg #[.bool p.n0, .bool p.s0, .slice A p.l0.length a, .bool p.n1, .bool p.s1, .slice B p.l1.length b], .agg #[.bool q.n0, .bool q.s0, .slice C q.l0.length c, .bool q.n1, .bool q.s1, .slice D q.l1.length d], .func (.func 167) #[] #[]] w fun e w' => ∃ rA ra rB rb, e = .returned (.agg #[.bool r.n0, .bool r.s0, .slice rA r.l0.length ra, .bool r.n1, .bool r.s1, .slice rB r.l1.length rb]) ∧ U64s w' (new w.heap.size) rA ra r.l0 ∧ U64s w' (new w.heap.size) rB rb r.l1 ∧ Below w.heap.size w w' := by
 have F := hp.k gp (by omega)
 have E := hq.k gq (by omega)
 have g := ivD1_ok gp gq h0 (by omega)
 have G := gq.le
 exact icrossed_over u1 u2 u3 u4 F.ok E.ok (by have := F.q0; omega) (by have := F.q1; omega) (by have := E.q0; omega) (by have := E.q1; omega) (by rw [E.lo, E.hi]; omega) (z0 := (ivD1 P Q).1) (z1 := (ivD1 P Q).2) (by rw [F.lo, E.lo, F.hi, E.hi]; rfl) (by rw [F.lo, E.lo, F.hi, E.hi]; rfl) g.nlo g.nhi hr.1 hr.2
theorem cc_keep {o : Nat} (h : (C6 W g a0 a1 a2 a3 a4 a5) ∧ (W.cell? ⟨b, o, none⟩ = some b0 ∧ W.cell? ⟨b, o + 1, none⟩ = some b1 ∧ W.cell? ⟨b, o + 2, none⟩ = some b2 ∧ W.cell? ⟨b, o + 3, none⟩ = some b3 ∧ W.cell? ⟨b, o + 4, none⟩ = some b4 ∧ W.cell? ⟨b, o + 5, none⟩ = some b5)) (hb : Below W.heap.size W W') : (C6 W' g a0 a1 a2 a3 a4 a5) ∧ (W'.cell? ⟨b, o, none⟩ = some b0 ∧ W'.cell? ⟨b, o + 1, none⟩ = some b1 ∧ W'.cell? ⟨b, o + 2, none⟩ = some b2 ∧ W'.cell? ⟨b, o + 3, none⟩ = some b3 ∧ W'.cell? ⟨b, o + 4, none⟩ = some b4 ∧ W'.cell? ⟨b, o + 5, none⟩ = some b5) := ⟨six_keep0 h.1 hb, six_keep h.2 hb⟩
theorem cc_st6 {o r : Nat} (e : V = ((((((W.setCell ⟨r, 0, none⟩ x0).setCell ⟨r, 1, none⟩ x1).setCell ⟨r, 2, none⟩ x2).setCell ⟨r, 3, none⟩ x3).setCell ⟨r, 4, none⟩ x4).setCell ⟨r, 5, none⟩ x5)) (hg : r ≠ g) (hh : r ≠ b) (h : (C6 W g a0 a1 a2 a3 a4 a5) ∧ (W.cell? ⟨b, o, none⟩ = some b0 ∧ W.cell? ⟨b, o + 1, none⟩ = some b1 ∧ W.cell? ⟨b, o + 2, none⟩ = some b2 ∧ W.cell? ⟨b, o + 3, none⟩ = some b3 ∧ W.cell? ⟨b, o + 4, none⟩ = some b4 ∧ W.cell? ⟨b, o + 5, none⟩ = some b5)) : (C6 V g a0 a1 a2 a3 a4 a5) ∧ (V.cell? ⟨b, o, none⟩ = some b0 ∧ V.cell? ⟨b, o + 1, none⟩ = some b1 ∧ V.cell? ⟨b, o + 2, none⟩ = some b2 ∧ V.cell? ⟨b, o + 3, none⟩ = some b3 ∧ V.cell? ⟨b, o + 4, none⟩ = some b4 ∧ V.cell? ⟨b, o + 5, none⟩ = some b5) := by
 subst e
 exact ⟨⟨st6 h.1.1 hg, st6 h.1.2.1 hg, st6 h.1.2.2.1 hg, st6 h.1.2.2.2.1 hg, st6 h.1.2.2.2.2.1 hg, st6 h.1.2.2.2.2.2 hg⟩, six_st6 hh h.2⟩
theorem six_just0 (h : Just g W W') (hb : b ≠ g) (hc : C6 W b a0 a1 a2 a3 a4 a5) : C6 W' b a0 a1 a2 a3 a4 a5 := ⟨h.cell hb hc.1, h.cell hb hc.2.1, h.cell hb hc.2.2.1, h.cell hb hc.2.2.2.1, h.cell hb hc.2.2.2.2.1, h.cell hb hc.2.2.2.2.2⟩
theorem six_just {o : Nat} (h : Just g W W') (hb : b ≠ g) (hc : W.cell? ⟨b, o, none⟩ = some a0 ∧ W.cell? ⟨b, o + 1, none⟩ = some a1 ∧ W.cell? ⟨b, o + 2, none⟩ = some a2 ∧ W.cell? ⟨b, o + 3, none⟩ = some a3 ∧ W.cell? ⟨b, o + 4, none⟩ = some a4 ∧ W.cell? ⟨b, o + 5, none⟩ = some a5) : W'.cell? ⟨b, o, none⟩ = some a0 ∧ W'.cell? ⟨b, o + 1, none⟩ = some a1 ∧ W'.cell? ⟨b, o + 2, none⟩ = some a2 ∧ W'.cell? ⟨b, o + 3, none⟩ = some a3 ∧ W'.cell? ⟨b, o + 4, none⟩ = some a4 ∧ W'.cell? ⟨b, o + 5, none⟩ = some a5 := ⟨h.cell hb hc.1, h.cell hb hc.2.1, h.cell hb hc.2.2.1, h.cell hb hc.2.2.2.1, h.cell hb hc.2.2.2.2.1, h.cell hb hc.2.2.2.2.2⟩
theorem st6_0 {r : Nat} {x0 x1 x2 x3 x4 x5 : Value} (hn : r ≠ b) (h : C6 W b a0 a1 a2 a3 a4 a5) :
 let V := ((((((W.setCell ⟨r, 0, none⟩ x0).setCell ⟨r, 1, none⟩ x1).setCell ⟨r, 2, none⟩ x2).setCell ⟨r, 3, none⟩ x3).setCell ⟨r, 4, none⟩ x4).setCell ⟨r, 5, none⟩ x5)
 C6 V b a0 a1 a2 a3 a4 a5 := ⟨st6 h.1 hn, st6 h.2.1 hn, st6 h.2.2.1 hn, st6 h.2.2.2.1 hn, st6 h.2.2.2.2.1 hn, st6 h.2.2.2.2.2 hn⟩
theorem idiv_w {w : World} {p : Iv} (hp : IvW P p) (gp : IvN 6000 P.1 P.2) (hq : IvW Q q) (gq : IvN 6000 Q.1 Q.2) (u1 : U64s w Z1 A a p.l0) (u2 : U64s w Z2 B b p.l1) (u3 : U64s w Z3 C c q.l0) (u4 : U64s w Z4 D d q.l1) (hne : partsP Q ≠ []) (hr : IvW (ivD P Q) r) :
  Calls Tryz.prog 123 #[.agg #[.bool p.n0, .bool p.s0, .slice A p.l0.length a, .bool p.n1, .bool p.s1, .slice B p.l1.length b], .agg #[.bool q.n0, .bool q.s0, .slice C q.l0.length c, .bool q.n1, .bool q.s1, .slice D q.l1.length d]] w fun e w' => ∃ rA ra rB rb, e = .returned (.tuple #[.agg #[.bool r.n0, .bool r.s0, .slice rA r.l0.length ra, .bool r.n1, .bool r.s1, .slice rB r.l1.length rb], .int .i64 0]) ∧ U64s w' (new w.heap.size) rA ra r.l0 ∧ U64s w' (new w.heap.size) rB rb r.l1 ∧ Below w.heap.size w w' := by
 obtain ⟨bA, bB, bR, x⟩ := boxX w (.bool p.n0) (.bool p.s0) (.slice A p.l0.length a) (.bool p.n1) (.bool p.s1) (.slice B p.l1.length b) (.bool q.n0) (.bool q.s0) (.slice C q.l0.length c) (.bool q.n1) (.bool q.s1) (.slice D q.l1.length d) (.bool false) (.bool false) (.slice none 0 0) (.bool false) (.bool false) (.slice none 0 0) 39
 have KK := x.alloc x.size (.cells #[.bool p.n0, .bool p.s0, .slice A p.l0.length a, .bool p.n1, .bool p.s1, .slice B p.l1.length b, .bool q.n0, .bool q.s0, .slice C q.l0.length c, .bool q.n1, .bool q.s1, .slice D q.l1.length d] 39)
 have hg := given_twoA (p := p) (q := q) (ty := 39) (u1.below x) (u2.below x) (u3.below x) (u4.below x)
 rw [show (((w.alloc (.cells #[.bool p.n0, .bool p.s0, .slice A p.l0.length a, .bool p.n1, .bool p.s1, .slice B p.l1.length b] 39)).alloc (.cells #[.bool q.n0, .bool q.s0, .slice C q.l0.length c, .bool q.n1, .bool q.s1, .slice D q.l1.length d] 39)).alloc (.cells #[.bool false, .bool false, .slice none 0 0, .bool false, .bool false, .slice none 0 0] 39)).heap.size = w.heap.size + 3 by simp] at hg
 have kp := hp.k gp (by omega)
 have kq := hq.k gq (by omega)
 have Kx := ichecked_any (n := 2) (c := 2) hg rfl (by simp) (by intro p' hp'; simp only [List.mem_cons, List.not_mem_nil, or_false] at hp'; rcases hp' with rfl | rfl <;> exact ⟨by have := kp.q0; have := kq.q0; omega, by have := kp.q1; have := kq.q1; omega⟩)
 rw [errAs_two, if_pos ⟨kp.ok, kq.ok⟩] at Kx
 obtain ⟨HA, Kr, O, KS, KT⟩ := hid5 (bA.alloc (.cells #[.bool p.n0, .bool p.s0, .slice A p.l0.length a, .bool p.n1, .bool p.s1, .slice B p.l1.length b, .bool q.n0, .bool q.s0, .slice C q.l0.length c, .bool q.n1, .bool q.s1, .slice D q.l1.length d] 39)) (bB.alloc (.cells #[.bool p.n0, .bool p.s0, .slice A p.l0.length a, .bool p.n1, .bool p.s1, .slice B p.l1.length b, .bool q.n0, .bool q.s0, .slice C q.l0.length c, .bool q.n1, .bool q.s1, .slice D q.l1.length d] 39)) (bR.alloc (.cells #[.bool p.n0, .bool p.s0, .slice A p.l0.length a, .bool p.n1, .bool p.s1, .slice B p.l1.length b, .bool q.n0, .bool q.s0, .slice C q.l0.length c, .bool q.n1, .bool q.s1, .slice D q.l1.length d] 39)) Kx KK
 have a0 := bA.all
 obtain ⟨b0, b1, b2, b3, b4, b5, _, _, _, _, _, _, _⟩ := bB
 have PT := hid (fun (W : World) (h : Below w.heap.size w W) => iparted_w hq gq (by omega) (u3.below h) (u4.below h))
 have Kn : 0 < (partsP Q).length := List.length_pos_iff.2 hne
 have Ko := parts_ok gq (by omega)
 have Kp := dK_ok gp (by omega) Ko Kn
 have Kq := fmOf_len (partsP Q)
 have Ky : ∀ k, (partsP Q).length = k + 1 → dK P (partsP Q) k = ivD P Q := fun k h => dK_all h
 have Kz : ∀ j (h : j < (fmOf (partsP Q)).length) (h' : j < (partsP Q).length), (fmOf (partsP Q))[j] = ivOf (partsP Q)[j].1 (partsP Q)[j].2 := fun j h h' => fmOf_get h h'
 have CR := hid (fun (W : World) (h : Below w.heap.size w W) (Q' : IvP) (q' r' : Iv) (Y1 Y2 : Zone) (E F : Option Addr) (e f : Nat) (h1 : IvW Q' q') (h2 : IvN 6000 Q'.1 Q'.2) (h3 : 0 < Q'.1 ∨ Q'.2 < 0) (h4 : IvW (ivD1 P Q') r') (X : U64s W Y1 E e q'.l0) (v2 : U64s W Y2 F f q'.l1) => icover_w hp gp h1 h2 h3 h4 (u1.below h) (u2.below h) X v2)
 obtain ⟨L, hL⟩ : ∃ L, L = partsP Q := ⟨_, rfl⟩
 rw [← hL] at PT Kn Ko Kp Kq Ky Kz hne
 obtain ⟨n, hn⟩ : ∃ n, L.length = n := ⟨_, rfl⟩
 rw [hn] at PT Kn Kq Kp
 have Qs : n ≤ 2 := by
  rw [← hn, hL]
  unfold partsP
  split <;> split <;> simp
 obtain ⟨KU, Qf, Kt, KV, KW, Hn⟩ := hid6 Ko Kp Kq Ky Kz hn
 obtain ⟨Hr, Qg, Qh, Qi⟩ := hid4 hr gp (fun (h : 0 < L.length) => dK_zero (P := P) h) (fun (k : Nat) (h : k + 1 < L.length) => dK_succ (P := P) h)
 have K5 : ((n : Int) == 0) = false := beq_eq_false_iff_ne.2 (by omega)
 clear hg Kx KK bR x u1 u2 u3 u4 hp hq gp gq hL Ko Kp Kq Ky Kz hn hr hne kp kq
 go_enter Tryz.func123, Tryz.ntmps123
 go_wp2_with fail
 refine KS.out.mono ?_
 rintro e w1 ⟨rfl, T⟩
 have H1 := hid (from_ KT.out T)
 replace O := hid (O.out.below T)
 replace HA := hid (HA.out.below T)
 replace Kr := hid (Kr.out.below T)
 clear a0 b0 b1 b2 b3 b4 b5 KS KT
 have b0 := Kr.out.all
 clear T
 go_wp2_with fail
 refine (PT.out _ H1.out).mono ?_
 rintro e M ⟨Av, cv, rfl, Kv, KX, T⟩
 have W2 := hid (from_ H1.out T)
 have K6 := O.out.lt
 replace O := hid (O.out.below T)
 replace HA := hid (HA.out.below T)
 have KL := Kv.cap
 have Qt := Kv.max
 rw [Kt.out] at KL
 have KM : Hid (∀ j, j < n → ∃ (b o : Nat) (q' : Iv) (F0 : Option Addr) (f0 : Nat) (F1 : Option Addr) (f1 : Nat), Av = some ⟨b, o, none⟩ ∧ w.heap.size + 3 ≤ b ∧ b < M.heap.size ∧ (M.cell? ⟨b, o + j * 6, none⟩ = some (.bool q'.n0) ∧ M.cell? ⟨b, o + j * 6 + 1, none⟩ = some (.bool q'.s0) ∧ M.cell? ⟨b, o + j * 6 + 2, none⟩ = some (.slice F0 q'.l0.length f0) ∧ M.cell? ⟨b, o + j * 6 + 3, none⟩ = some (.bool q'.n1) ∧ M.cell? ⟨b, o + j * 6 + 4, none⟩ = some (.bool q'.s1) ∧ M.cell? ⟨b, o + j * 6 + 5, none⟩ = some (.slice F1 q'.l1.length f1)) ∧ U64s M (new (w.heap.size + 3)) F0 f0 q'.l0 ∧ U64s M (new (w.heap.size + 3)) F1 f1 q'.l1 ∧ ∃ h : j < L.length, IvW L[j] q' ∧ IvN 6000 L[j].1 L[j].2 ∧ (0 < L[j].1 ∨ L[j].2 < 0)) := fun j hj => by
  obtain ⟨b, o, F0, f0, F1, f1, e, hb, Qj, y, X⟩ := Kv.at (j := j) (by rw [Kt.out]; exact hj)
  have KA : j < L.length := by rw [Hn.out]; exact hj
  have Qv := KX b o e
  have h3 := KU.out _ (List.getElem_mem KA)
  refine ⟨b, o, _, F0, f0, F1, f1, e, by omega, hb, Qj, y.mono (new_le (by omega)), X.mono (new_le (by omega)), KA, ?_, h3.1, h3.2⟩
  rw [KW.out j (by rw [Kt.out]; exact hj) KA]
  exact IvW.mk _
 obtain ⟨bl, ol, q0, F0, f0, F1, f1, rfl, Qz, QA, z, y, X, Qk, KY, KZ, K0⟩ := KM.out 0 Kn
 simp only [Nat.zero_mul, Nat.add_zero] at z
 obtain ⟨r0, KD⟩ : ∃ r0, IvW (ivD1 P L[0]) r0 := ⟨_, IvW.mk _⟩
 obtain ⟨K1, K2⟩ := hid2 (fun (W : World) (h : Below M.heap.size M W) => CR.out W (from_ W2.out h) _ _ _ _ _ _ _ _ _ KY KZ K0 KD (y.below h) (X.below h)) (show IvW (dK P L 0) r0 by rw [Qh.out Qk]; exact KD)
 have Qw : (0 : Int) < (n : Int) := by omega
 have K7 := And.intro HA.out.all z
 have hs := cc_keep K7 bdr_
 have R := hid (Below.refl M.heap.size M).drew
 obtain ⟨gR, Kg⟩ : ∃ gR, gR = w.heap.size + 2 := ⟨_, rfl⟩
 rw [← Kg] at O K6
 have n1 : gR ≠ w.heap.size := by omega
 have n2 : gR ≠ bl := by omega
 obtain ⟨N1, N2, QB⟩ := hid3 n1 n2 K5
 clear b0 Kv KX T z y X KY KZ K0 KD PT Kr KU Kt KW
 go_upto_region 6 with fail
 simp only [show w.heap.size + 2 = gR from Kg.symm, show w.heap.size + 1 + 1 = gR from Kg.symm]
 have Ke := hid Kg
 clear Kg n1 n2
 replace O := hid (O.out.below bdr_)
 have K8 := hid O.out.lt
 first | go_region_held3 (fun w' => (C6 w' w.heap.size (.bool p.n0) (.bool p.s0) (.slice A p.l0.length a) (.bool p.n1) (.bool p.s1) (.slice B p.l1.length b)) ∧ (w'.cell? ⟨bl, ol, none⟩ = some (.bool q0.n0) ∧ w'.cell? ⟨bl, ol + 1, none⟩ = some (.bool q0.s0) ∧ w'.cell? ⟨bl, ol + 2, none⟩ = some (.slice F0 q0.l0.length f0) ∧ w'.cell? ⟨bl, ol + 3, none⟩ = some (.bool q0.n1) ∧ w'.cell? ⟨bl, ol + 4, none⟩ = some (.bool q0.s1) ∧ w'.cell? ⟨bl, ol + 5, none⟩ = some (.slice F1 q0.l1.length f1)))
  (first
   | with_reducible exact hs
   | (with_reducible apply cc_st6 rfl <;> (first | with_reducible exact hs | with_reducible exact N1.out | with_reducible exact N2.out)))
  ((go_at_call 145; with_reducible refine (K1.out _ R.out).mono ?_; rintro e w3 ⟨H, I, J, G, rfl, o0, o1, N⟩; replace hs := cc_keep hs N; replace O := hid (O.out.below N); replace R := hid (from_ R.out N); obtain ⟨g0, g1, g2, g3, g4, g5, Kh, Ki, Kj, Kk, Kl, Km, _⟩ := id O.out)) | fail
 all_goals
  have U := Ke.out
  have S : w.heap.size ≤ gR := by omega
  have Y := O.out.put (w := w) (from_ W2.out R.out) S (.bool r0.n0) (.bool r0.s0) (.slice H r0.l0.length I) (.bool r0.n1) (.bool r0.s1) (.slice J r0.l1.length G)
  obtain ⟨Kb, Kc⟩ := hid2 Y.box Y.bel
  have K9 := K8.out
  obtain ⟨U0, Kw⟩ := hid2 (And.intro ((o0.set6 (g := gR) (fun (h : _ ≤ gR) => by omega) (.bool r0.n0) (.bool r0.s0) (.slice H r0.l0.length I) (.bool r0.n1) (.bool r0.s1) (.slice J r0.l1.length G)).mono (new_le (show gR + 1 ≤ _ by omega))) ((o1.set6 (g := gR) (fun (h : _ ≤ gR) => by omega) (.bool r0.n0) (.bool r0.s0) (.slice H r0.l0.length I) (.bool r0.n1) (.bool r0.s1) (.slice J r0.l1.length G)).mono (new_le (show gR + 1 ≤ _ by omega)))) (((((((((Just.refl gR M).step R.out).setCell 0 (.bool r0.n0)).setCell 1 (.bool r0.s0)).setCell 2 (.slice H r0.l0.length I)).setCell 3 (.bool r0.n1)).setCell 4 (.bool r0.s1)).setCell 5 (.slice J r0.l1.length G)))
  obtain ⟨m, rfl⟩ : ∃ m, n = m + 1 := ⟨n - 1, by omega⟩
  have Qa := hid N1.out
  have Qx : m + 1 ≤ cv := KL
  clear Y K9 o0 o1 U S hs R O K1 g0 g1 g2 g3 g4 g5 Kh Ki Kj Kk Kl Km
  generalize ((((((w3.setCell ⟨gR, 0, none⟩ (.bool r0.n0)).setCell ⟨gR, 1, none⟩ (.bool r0.s0)).setCell ⟨gR, 2, none⟩ (.slice H r0.l0.length I)).setCell ⟨gR, 3, none⟩ (.bool r0.n1)).setCell ⟨gR, 4, none⟩ (.bool r0.s1)).setCell ⟨gR, 5, none⟩ (.slice J r0.l1.length G)) = W6 at *
  by_cases hcv1 : cv = 1
  · have KN : m = 0 := by omega
    have Qb := hid KN
    clear KN
    go_wp2
    have Qc := hid hcv1
    subst hcv1
    go_loopw [29] (fun i wr => ∃ (k : Nat) (s : Iv) (H : Option Addr) (I : Nat) (J : Option Addr) (G : Nat), k ≤ m ∧ i = .int .i64 (k : Int) ∧ Hid (IvW (dK P L k) s) ∧ Hid (Box6 wr gR (.bool s.n0) (.bool s.s0) (.slice H s.l0.length I) (.bool s.n1) (.bool s.s1) (.slice J s.l1.length G)) ∧ Hid (U64s wr (new (gR + 1)) H I s.l0 ∧ U64s wr (new (gR + 1)) J G s.l1) ∧ Hid (Just gR M wr) ∧ Below w.heap.size w wr) (fun i _ => m - (intOf i).toNat)
    case atStart => exact ⟨0, r0, _, _, _, _, Nat.zero_le _, rfl, K2, Kb, U0, Kw, Kc.out⟩
    case round =>
     clear Kb Kc U0 Kw
     obtain ⟨k, s, H, I, J, G, hk, rfl, Hs, Ka, HU, HJ, Kd⟩ := hrel
     by_cases hlt : k < m
     · exfalso; have := Qb.out; omega
     · obtain rfl : k = m := by omega
       have Kf : IvW (ivD P Q) s := by rw [← KV.out k Hn.out]; exact Hs.out
       obtain rfl := IvW.uniq Hr.out Kf
       have U := Ke.out
       have S : w.heap.size ≤ gR := by omega
       obtain ⟨HP, U1, U2⟩ := hid3 (Ka.out.put (w := w) Kd S (.bool r.n0) (.bool r.s0) (.slice H r.l0.length I) (.bool r.n1) (.bool r.s1) (.slice J r.l1.length G)) ((HU.out.1.set6 (g := gR) (fun (h : gR + 1 ≤ gR) => by omega) (.bool r.n0) (.bool r.s0) (.slice H r.l0.length I) (.bool r.n1) (.bool r.s1) (.slice J r.l1.length G)).mono (new_le (show w.heap.size ≤ gR + 1 by omega))) ((HU.out.2.set6 (g := gR) (fun (h : gR + 1 ≤ gR) => by omega) (.bool r.n0) (.bool r.s0) (.slice H r.l0.length I) (.bool r.n1) (.bool r.s1) (.slice J r.l1.length G)).mono (new_le (show w.heap.size ≤ gR + 1 by omega)))
       obtain ⟨g0, g1, g2, g3, g4, g5, Kh, Ki, Kj, Kk, Kl, Km, _⟩ := id Ka.out
       clear U S Kf
       go_wp2
       refine bodyPost_ret (res_itv2 rfl _ gR rfl HP.out.box) rfl ?_
       exact ⟨_, _, _, _, rfl, U1.out, U2.out, HP.out.bel⟩
  · have Qd : ¬ (cv - 1 = 0) := by omega
    go_wp2
    have Qc := hid hcv1
    clear hcv1 Qd
    go_loopw [29] (fun i wr => ∃ (k : Nat) (s : Iv) (H : Option Addr) (I : Nat) (J : Option Addr) (G : Nat), k ≤ m ∧ i = .int .i64 (k : Int) ∧ Hid (IvW (dK P L k) s) ∧ Hid (Box6 wr gR (.bool s.n0) (.bool s.s0) (.slice H s.l0.length I) (.bool s.n1) (.bool s.s1) (.slice J s.l1.length G)) ∧ Hid (U64s wr (new (gR + 1)) H I s.l0 ∧ U64s wr (new (gR + 1)) J G s.l1) ∧ Hid (Just gR M wr) ∧ Below w.heap.size w wr) (fun i _ => m - (intOf i).toNat)
    case atStart => exact ⟨0, r0, _, _, _, _, Nat.zero_le _, rfl, K2, Kb, U0, Kw, Kc.out⟩
    case round =>
     clear Kb Kc U0 Kw
     obtain ⟨k, s, H, I, J, G, hk, rfl, Hs, Ka, HU, HJ, Kd⟩ := hrel
     by_cases hlt : k < m
     · obtain ⟨b, o, q1, G0, d0, G1, d1, e, QC, QD, z, y, X, Ql, K3, KE, KF⟩ := KM.out (k + 1) (by omega)
       injection e with e
       injection e with G e2
       subst G e2
       rw [show ol + (k + 1) * 6 = ol + 6 + k * 6 by omega] at z
       have U := Ke.out
       obtain ⟨r1, KG⟩ : ∃ r1, IvW (ivD1 P L[k + 1]) r1 := ⟨_, IvW.mk _⟩
       obtain ⟨s2, KH⟩ : ∃ s2, IvW (dK P L (k + 1)) s2 := ⟨_, IvW.mk _⟩
       have KO := Qf.out k (by omega)
       have hJ := HJ.out
       have c7 := six_just hJ (show bl ≠ gR by omega) z
       have a7 := six_just0 hJ (show w.heap.size ≠ gR by omega) HA.out.all
       have w0 := hJ.words (show ¬ (new (w.heap.size + 3)).blk gR from fun (h : w.heap.size + 3 ≤ gR) => by omega) y
       have KP := hJ.words (show ¬ (new (w.heap.size + 3)).blk gR from fun (h : w.heap.size + 3 ≤ gR) => by omega) X
       have hi3 : (k : Int) < (m : Int) := by omega
       obtain ⟨x0, x1, x2, x3, x4, x5⟩ := id c7
       obtain ⟨Qm, Qn, K4, Qo⟩ := hid4 (fun (W : World) (h : Below wr.heap.size wr W) => CR.out W (from_ Kd h) _ _ _ _ _ _ _ _ _ K3 KE KF KG (w0.below h) (KP.below h)) (fun (W : World) (Z5 Z6 : Zone) (E F : Option Addr) (e f : Nat) (h : Below wr.heap.size wr W) (g0 : U64s W Z5 E e r1.l0) (g1 : U64s W Z6 F f r1.l1) => ijoin2_w Hs.out KO (by omega) KG (ivD1_ok Qg.out KE KF (by omega)) (by omega) (by rw [← Qi.out k Ql]; exact KH) (HU.out.1.below h) (HU.out.2.below h) g0 g1) a7 KH
       have Ks : Below wr.heap.size wr (wr.alloc (.cells #[.bool q1.n0, .bool q1.s0, .slice G0 q1.l0.length d0, .bool q1.n1, .bool q1.s1, .slice G1 q1.l1.length d1] 39)) := (Below.refl _ _).alloc (Nat.le_refl _) _
       obtain ⟨KI, QE⟩ := hid2 (Ka.out.lt) Kd.size
       clear z y X K3 KE KF KG KH KO hJ c7 a7 w0 KP U
       go_upto_region 10 with fail
       have B8 := hid (Box6.new wr (.bool q1.n0) (.bool q1.s0) (.slice G0 q1.l0.length d0) (.bool q1.n1) (.bool q1.s1) (.slice G1 q1.l1.length d1) 39)
       obtain ⟨g8, KJ⟩ : ∃ g8, g8 = wr.heap.size := ⟨_, rfl⟩
       rw [← KJ] at B8
       have KQ : gR ≠ g8 := by have := KI.out; omega
       obtain ⟨Qp, Qq, Qr, u⟩ := hid4 KQ Ks (six_keep0 K4.out Ks) (Ka.out.below Ks)
       clear Ks KQ K4
       generalize hV : wr.alloc (.cells #[.bool q1.n0, .bool q1.s0, .slice G0 q1.l0.length d0, .bool q1.n1, .bool q1.s1, .slice G1 q1.l1.length d1] 39) = V at *
       try simp only [← KJ]
       clear hV KJ x0 x1 x2 x3 x4 x5
       have Z := And.intro (And.intro (six_keep0 Qr.out bdr_) (B8.out.below bdr_).all) (u.out.below bdr_).all
       have R := hid (from_ Qq.out (Below.refl V.heap.size V).drew)
       have Qy := hid (Below.refl V.heap.size V).drew
       refine wp_region_L (fun w' : World => (C6 w' w.heap.size (.bool p.n0) (.bool p.s0) (.slice A p.l0.length a) (.bool p.n1) (.bool p.s1) (.slice B p.l1.length b)) ∧ (C6 w' g8 (.bool q1.n0) (.bool q1.s0) (.slice G0 q1.l0.length d0) (.bool q1.n1) (.bool q1.s1) (.slice G1 q1.l1.length d1))) (fun w' : World => C6 w' gR (.bool s.n0) (.bool s.s0) (.slice H s.l0.length I) (.bool s.n1) (.bool s.s1) (.slice J s.l1.length G)) 4 (by kernel_rfl) ?_
       show wpAnyL _ _ _ _ _ _ _ 6 _ _ _
       refine wpAnyL_take (i := 0) (v := ?_) rfl (by kernel_rfl) (by kernel_rfl) (by kernel_rfl) (fun _ _ _ h => h) (by kernel_rfl) (by rfl) (by rfl) (Or.inl ⟨by rfl, ?_⟩) Z ?_
       rotate_left
       · intro w' hSw; (try dsimp only at hSw); go_simp; (try with_reducible rfl)
       try simp only [Act.put, List.setIfInBounds_toArray, List.set_cons_zero, List.set_cons_succ]
       refine wpAnyL_takeA (i := 1) (v := ?_) rfl (by kernel_rfl) (by kernel_rfl) (by kernel_rfl) (fun _ _ _ h => h) (by rfl) (Or.inl ⟨by rfl, ?_⟩) Z ?_
       rotate_left
       · intro w' hSw; (try dsimp only at hSw); go_simp; (try with_reducible rfl)
       try simp only [Act.put, List.setIfInBounds_toArray, List.set_cons_zero, List.set_cons_succ]
       refine wpAnyL_takeA (i := 2) (v := ?_) rfl (by kernel_rfl) (by kernel_rfl) (by kernel_rfl) (fun _ _ _ h => h) (by rfl) (Or.inl ⟨by rfl, ?_⟩) Z ?_
       rotate_left
       · intro w' hSw; (try dsimp only at hSw); go_simp; (try with_reducible rfl)
       try simp only [Act.put, List.setIfInBounds_toArray, List.set_cons_zero, List.set_cons_succ]
       refine anyL_one (i := 3) (by kernel_rfl) (wpOp_step rfl (by rfl) fun K hK => ?_)
       go_simp
       refine (Qm.out _ R.out).mono ?_
       rintro e w4 ⟨X0, t0, X1, t1, rfl, o0, o1, N⟩
       have tA := And.intro (six_keep0 Z.1.1 N) (six_keep0 Z.1.2 N)
       have tT := six_keep0 Z.2 N
       replace u := hid ((u.out.below bdr_).below N)
       replace R := hid (from_ R.out N)
       refine hK _ _ ⟨⟨tA, fun _ => tT⟩, ?_⟩
       clear hK K N Z tT
       try simp only [Act.put, List.setIfInBounds_toArray, List.set_cons_zero, List.set_cons_succ]
       refine anyL_last (by kernel_rfl) (by rfl) (wpOp_step rfl (by rfl) fun K hK => ?_)
       go_simp
       refine (Qn.out _ _ _ _ _ _ _ R.out o0 o1).mono ?_
       rintro e w5 ⟨Y0, y0, Y1, y1, rfl, n0, n1, N⟩
       have tB := And.intro (six_keep0 tA.1 N) (six_keep0 tA.2 N)
       replace u := hid (u.out.below N)
       have KR := hid (from_ R.out N)
       have Qe := R.out.size
       obtain ⟨g0, g1, g2, g3, g4, g5, Kh, Ki, Kj, Kk, Kl, Km, _⟩ := id u.out
       refine hK _ _ ⟨tB, ?_⟩
       clear hK K N tA o0 o1
       try simp only [Act.put, List.setIfInBounds_toArray, List.set_cons_zero, List.set_cons_succ]
       refine anyH_one (i := 5) (by kernel_rfl) (wpOp_step rfl (by rfl) fun K hK => ?_)
       go_simp
       refine hK _ _ ⟨⟨st6_0 Qa.out tB.1, st6_0 Qp.out tB.2⟩, ?_⟩
       clear hK K tB g0 g1 g2 g3 g4 g5 Kh Ki Kj Kk Kl Km
       try simp only [Act.put, List.setIfInBounds_toArray, List.set_cons_zero, List.set_cons_succ]
       refine wpAnyH_done (by kernel_rfl) ?_ _
       all_goals
        have U := Ke.out
        have S : w.heap.size ≤ gR := by omega
        have Y := u.out.put (w := w) (from_ Kd KR.out) S (.bool s2.n0) (.bool s2.s0) (.slice Y0 s2.l0.length y0) (.bool s2.n1) (.bool s2.s1) (.slice Y1 s2.l1.length y1)
        obtain ⟨Kb, Kc⟩ := hid2 Y.box Y.bel
        have KB : ¬ (w4.heap.size ≤ gR) := by have := KI.out; omega
        have KC : gR + 1 ≤ w4.heap.size := by have := KI.out; omega
        obtain ⟨Un, QF⟩ := hid2 (And.intro ((n0.set6 (g := gR) KB (.bool s2.n0) (.bool s2.s0) (.slice Y0 s2.l0.length y0) (.bool s2.n1) (.bool s2.s1) (.slice Y1 s2.l1.length y1)).mono (new_le KC)) ((n1.set6 (g := gR) KB (.bool s2.n0) (.bool s2.s0) (.slice Y0 s2.l0.length y0) (.bool s2.n1) (.bool s2.s1) (.slice Y1 s2.l1.length y1)).mono (new_le KC))) ((((((((HJ.out.step KR.out).setCell 0 (.bool s2.n0)).setCell 1 (.bool s2.s0)).setCell 2 (.slice Y0 s2.l0.length y0)).setCell 3 (.bool s2.n1)).setCell 4 (.bool s2.s1)).setCell 5 (.slice Y1 s2.l1.length y1)))
        clear Y KB KC n0 n1 U S Qe
        go_wp2
        go_roundw
        case rel => exact ⟨k + 1, by omega, by go_num, s2, Qo, _, _, _, _, Kb, Un, Kc.out⟩
        case measure => simp [intOf]; omega
     · obtain rfl : k = m := by omega
       have Kf : IvW (ivD P Q) s := by rw [← KV.out k Hn.out]; exact Hs.out
       obtain rfl := IvW.uniq Hr.out Kf
       have U := Ke.out
       have S : w.heap.size ≤ gR := by omega
       obtain ⟨HP, U1, U2⟩ := hid3 (Ka.out.put (w := w) Kd S (.bool r.n0) (.bool r.s0) (.slice H r.l0.length I) (.bool r.n1) (.bool r.s1) (.slice J r.l1.length G)) ((HU.out.1.set6 (g := gR) (fun (h : gR + 1 ≤ gR) => by omega) (.bool r.n0) (.bool r.s0) (.slice H r.l0.length I) (.bool r.n1) (.bool r.s1) (.slice J r.l1.length G)).mono (new_le (show w.heap.size ≤ gR + 1 by omega))) ((HU.out.2.set6 (g := gR) (fun (h : gR + 1 ≤ gR) => by omega) (.bool r.n0) (.bool r.s0) (.slice H r.l0.length I) (.bool r.n1) (.bool r.s1) (.slice J r.l1.length G)).mono (new_le (show w.heap.size ≤ gR + 1 by omega)))
       obtain ⟨g0, g1, g2, g3, g4, g5, Kh, Ki, Kj, Kk, Kl, Km, _⟩ := id Ka.out
       clear U S Kf
       go_wp2
       refine bodyPost_ret (res_itv2 rfl _ gR rfl HP.out.box) rfl ?_
       exact ⟨_, _, _, _, rfl, U1.out, U2.out, HP.out.bel⟩
theorem Box6.oth1 {a b c d : Value} (h : Box6 W g a b c d e f) {k j : Nat} (hn : k ≠ g) (v : Value) : Box6 (W.setCell ⟨k, j, none⟩ v) g a b c d e f := by
 obtain ⟨A, B, C, D, E, F, G, H, I, J, K, L, M⟩ := h
 refine ⟨?_, ?_, ?_, ?_, ?_, ?_, ?_, ?_, ?_, ?_, ?_, ?_, ?_⟩
 · rw [World.cell?_setCell_other _ _ _ _ (fun e => hn (by injection e))]; exact A
 · rw [World.cell?_setCell_other _ _ _ _ (fun e => hn (by injection e))]; exact B
 · rw [World.cell?_setCell_other _ _ _ _ (fun e => hn (by injection e))]; exact C
 · rw [World.cell?_setCell_other _ _ _ _ (fun e => hn (by injection e))]; exact D
 · rw [World.cell?_setCell_other _ _ _ _ (fun e => hn (by injection e))]; exact E
 · rw [World.cell?_setCell_other _ _ _ _ (fun e => hn (by injection e))]; exact F
 · exact (World.frozen?_setCell _ _ _ _).trans G
 · exact (World.frozen?_setCell _ _ _ _).trans H
 · exact (World.frozen?_setCell _ _ _ _).trans I
 · exact (World.frozen?_setCell _ _ _ _).trans J
 · exact (World.frozen?_setCell _ _ _ _).trans K
 · exact (World.frozen?_setCell _ _ _ _).trans L
 · simpa [World.setCell] using M
theorem Box6.other3 {a b c d : Value} (H : Box6 W g a b c d e f) (hn : h ≠ g) (x y z : Value) : Box6 (((W.setCell ⟨h, 0, none⟩ x).setCell ⟨h, 1, none⟩ y).setCell ⟨h, 2, none⟩ z) g a b c d e f := ((H.oth1 hn x).oth1 hn y).oth1 hn z
theorem k6_keep (hs : C6 W g a0 a1 a2 a3 a4 a5) (hb : Below W.heap.size W V) : C6 V g a0 a1 a2 a3 a4 a5 := ⟨keepC hb hs.1, keepC hb hs.2.1, keepC hb hs.2.2.1, keepC hb hs.2.2.2.1, keepC hb hs.2.2.2.2.1, keepC hb hs.2.2.2.2.2⟩
theorem k6_al (e : V = W.alloc o) (hs : C6 W g a0 a1 a2 a3 a4 a5) : C6 V g a0 a1 a2 a3 a4 a5 := by
 subst e
 exact k6_keep hs bal_
theorem k6_dr (e : V = W.drew) (hs : C6 W g a0 a1 a2 a3 a4 a5) : C6 V g a0 a1 a2 a3 a4 a5 := by
 subst e
 exact k6_keep hs bdr_
theorem k6_st3 {r : Nat} (e : V = (((W.setCell ⟨r, 0, none⟩ x0).setCell ⟨r, 1, none⟩ x1).setCell ⟨r, 2, none⟩ x2)) (hg : r ≠ g) (hs : C6 W g a0 a1 a2 a3 a4 a5) : C6 V g a0 a1 a2 a3 a4 a5 := by
 subst e
 exact ⟨st3 hs.1 hg, st3 hs.2.1 hg, st3 hs.2.2.1 hg, st3 hs.2.2.2.1 hg, st3 hs.2.2.2.2.1 hg, st3 hs.2.2.2.2.2 hg⟩
theorem k3_keep (hs : C3 W h b0 b1 b2) (hb : Below W.heap.size W V) : C3 V h b0 b1 b2 := ⟨keepC hb hs.1, keepC hb hs.2.1, keepC hb hs.2.2⟩
theorem k3_al (e : V = W.alloc o) (hs : C3 W h b0 b1 b2) : C3 V h b0 b1 b2 := by
 subst e
 exact k3_keep hs bal_
theorem k3_dr (e : V = W.drew) (hs : C3 W h b0 b1 b2) : C3 V h b0 b1 b2 := by
 subst e
 exact k3_keep hs bdr_
theorem k3_st3 {r : Nat} (e : V = (((W.setCell ⟨r, 0, none⟩ x0).setCell ⟨r, 1, none⟩ x1).setCell ⟨r, 2, none⟩ x2)) (hh : r ≠ h) (hs : C3 W h b0 b1 b2) : C3 V h b0 b1 b2 := by
 subst e
 exact ⟨st3 hs.1 hh, st3 hs.2.1 hh, st3 hs.2.2 hh⟩
theorem k9_keep (hs : D6 W g a0 a1 a2 a3 a4 a5 (C3 W h b0 b1 b2)) (hb : Below W.heap.size W V) : D6 V g a0 a1 a2 a3 a4 a5 (C3 V h b0 b1 b2) := ⟨keepC hb hs.1, keepC hb hs.2.1, keepC hb hs.2.2.1, keepC hb hs.2.2.2.1, keepC hb hs.2.2.2.2.1, keepC hb hs.2.2.2.2.2.1, keepC hb hs.2.2.2.2.2.2.1, keepC hb hs.2.2.2.2.2.2.2.1, keepC hb hs.2.2.2.2.2.2.2.2⟩
theorem k9_al (e : V = W.alloc o) (hs : D6 W g a0 a1 a2 a3 a4 a5 (C3 W h b0 b1 b2)) : D6 V g a0 a1 a2 a3 a4 a5 (C3 V h b0 b1 b2) := by
 subst e
 exact k9_keep hs bal_
theorem k9_dr (e : V = W.drew) (hs : D6 W g a0 a1 a2 a3 a4 a5 (C3 W h b0 b1 b2)) : D6 V g a0 a1 a2 a3 a4 a5 (C3 V h b0 b1 b2) := by
 subst e
 exact k9_keep hs bdr_
theorem k9_st3 {r : Nat} (e : V = (((W.setCell ⟨r, 0, none⟩ x0).setCell ⟨r, 1, none⟩ x1).setCell ⟨r, 2, none⟩ x2)) (hg : r ≠ g) (hh : r ≠ h) (hs : D6 W g a0 a1 a2 a3 a4 a5 (C3 W h b0 b1 b2)) : D6 V g a0 a1 a2 a3 a4 a5 (C3 V h b0 b1 b2) := by
 subst e
 exact ⟨st3 hs.1 hg, st3 hs.2.1 hg, st3 hs.2.2.1 hg, st3 hs.2.2.2.1 hg, st3 hs.2.2.2.2.1 hg, st3 hs.2.2.2.2.2.1 hg, st3 hs.2.2.2.2.2.2.1 hh, st3 hs.2.2.2.2.2.2.2.1 hh, st3 hs.2.2.2.2.2.2.2.2 hh⟩
theorem imod_w {w : World} {p : Iv} (hp : IvW P p) (gp : IvN 6000 P.1 P.2) (hq : IvW Q q) (gq : IvN 6000 Q.1 Q.2) (u1 : U64s w Z1 A a p.l0) (u2 : U64s w Z2 B b p.l1) (u3 : U64s w Z3 C c q.l0) (u4 : U64s w Z4 D d q.l1) (hne : partsP Q ≠ []) (hr : IvW (modP P Q) r) :
  Calls Tryz.prog 124 #[.agg #[.bool p.n0, .bool p.s0, .slice A p.l0.length a, .bool p.n1, .bool p.s1, .slice B p.l1.length b], .agg #[.bool q.n0, .bool q.s0, .slice C q.l0.length c, .bool q.n1, .bool q.s1, .slice D q.l1.length d]] w fun e w' => ∃ rA ra rB rb, e = .returned (.tuple #[.agg #[.bool r.n0, .bool r.s0, .slice rA r.l0.length ra, .bool r.n1, .bool r.s1, .slice rB r.l1.length rb], .int .i64 0]) ∧ U64s w' (new w.heap.size) rA ra r.l0 ∧ U64s w' (new w.heap.size) rB rb r.l1 ∧ Below w.heap.size w w' := by
 obtain ⟨Ka, rs0, rl0, Kb, rs1, rl1⟩ := r
 dsimp only
 obtain ⟨bA, bB, bR, Kp⟩ := boxX w (.bool p.n0) (.bool p.s0) (.slice A p.l0.length a) (.bool p.n1) (.bool p.s1) (.slice B p.l1.length b) (.bool q.n0) (.bool q.s0) (.slice C q.l0.length c) (.bool q.n1) (.bool q.s1) (.slice D q.l1.length d) (.bool false) (.bool false) (.slice none 0 0) (.bool false) (.bool false) (.slice none 0 0) 39
 have KN := Kp.alloc Kp.size (.cells #[.bool p.n0, .bool p.s0, .slice A p.l0.length a, .bool p.n1, .bool p.s1, .slice B p.l1.length b, .bool q.n0, .bool q.s0, .slice C q.l0.length c, .bool q.n1, .bool q.s1, .slice D q.l1.length d] 39)
 have m := given_twoA (p := p) (q := q) (ty := 39) (u1.below Kp) (u2.below Kp) (u3.below Kp) (u4.below Kp)
 rw [show (((w.alloc (.cells #[.bool p.n0, .bool p.s0, .slice A p.l0.length a, .bool p.n1, .bool p.s1, .slice B p.l1.length b] 39)).alloc (.cells #[.bool q.n0, .bool q.s0, .slice C q.l0.length c, .bool q.n1, .bool q.s1, .slice D q.l1.length d] 39)).alloc (.cells #[.bool false, .bool false, .slice none 0 0, .bool false, .bool false, .slice none 0 0] 39)).heap.size = w.heap.size + 3 by simp] at m
 have kp := hp.k gp (by omega)
 have kq := hq.k gq (by omega)
 have KO := ichecked_any (n := 2) (c := 2) m rfl (by simp) (by intro p' hp'; simp only [List.mem_cons, List.not_mem_nil, or_false] at hp'; rcases hp' with rfl | rfl <;> exact ⟨by have := kp.q0; have := kq.q0; omega, by have := kp.q1; have := kq.q1; omega⟩)
 rw [errAs_two, if_pos ⟨kp.ok, kq.ok⟩] at KO
 obtain ⟨L, Kl, I, K2, K3⟩ := hid5 (bA.alloc (.cells #[.bool p.n0, .bool p.s0, .slice A p.l0.length a, .bool p.n1, .bool p.s1, .slice B p.l1.length b, .bool q.n0, .bool q.s0, .slice C q.l0.length c, .bool q.n1, .bool q.s1, .slice D q.l1.length d] 39)) (bB.alloc (.cells #[.bool p.n0, .bool p.s0, .slice A p.l0.length a, .bool p.n1, .bool p.s1, .slice B p.l1.length b, .bool q.n0, .bool q.s0, .slice C q.l0.length c, .bool q.n1, .bool q.s1, .slice D q.l1.length d] 39)) (bR.alloc (.cells #[.bool p.n0, .bool p.s0, .slice A p.l0.length a, .bool p.n1, .bool p.s1, .slice B p.l1.length b, .bool q.n0, .bool q.s0, .slice C q.l0.length c, .bool q.n1, .bool q.s1, .slice D q.l1.length d] 39)) KO KN
 obtain ⟨a0, a1, a2, a3, a4, a5, _, _, _, _, _, _, _⟩ := bA
 obtain ⟨b0, b1, b2, b3, b4, b5, _, _, _, _, _, _, _⟩ := bB
 have PT := hid (fun (W : World) (h : Below w.heap.size w W) => iparted_w hq gq (by omega) (u3.below h) (u4.below h))
 have h1 := kp.ok
 have h2 := kq.ok
 have q1 : p.l0.length ≤ 6000 := by have := kp.q0; omega
 have q2 : p.l1.length ≤ 6000 := by have := kp.q1; omega
 have q3 : q.l0.length ≤ 6000 := by have := kq.q0; omega
 have q4 : q.l1.length ≤ 6000 := by have := kq.q1; omega
 obtain ⟨K4, K5⟩ := okA_ends h1
 obtain ⟨K6, K7⟩ := okA_ends h2
 obtain ⟨x1, QB, QC, QD, QE, P1⟩ := Plc.ex (-1) p.n0 p.s0 p.l0 A a
 obtain ⟨x2, QF, QG, QH, QI, P2⟩ := Plc.ex 1 p.n1 p.s1 p.l1 B b
 obtain ⟨x3, QJ, QK, QL, QM, P3⟩ := Plc.ex (-1) q.n0 q.s0 q.l0 C c
 obtain ⟨x4, QN, QO, QP, QQ, P4⟩ := Plc.ex 1 q.n1 q.s1 q.l1 D d
 have p1 := P1.lo K4 u1.small q1
 have p2 := P2.hi K5 u2.small q2
 have p3 := P3.lo K6 u3.small q3
 have p4 := P4.hi K7 u4.small q4
 have r1 := P1.len
 have r2 := P2.len
 have r3 := P3.len
 have r4 := P4.len
 have v1 := P1.u64s u1
 have v2 := P2.u64s u2
 have v3 := P3.u64s u3
 have v4 := P4.u64s u4
 have i1 := lo_range (n := p.n0) (s := p.s0) u1.small q1
 have i2 := hi_range (n := p.n1) (s := p.s1) u2.small q2
 have i3 := lo_range (n := q.n0) (s := q.s0) u3.small q3
 have i4 := hi_range (n := q.n1) (s := q.s1) u4.small q4
 obtain ⟨L1, L2, L3, L4⟩ := hid4 (fun (W : World) => ilow_p (w := W) (v3 := .bool p.n1) (v4 := .bool p.s1) (v5 := .slice B p.l1.length b) P1) (fun (W : World) => ihigh_p (w := W) (v3 := .bool p.n0) (v4 := .bool p.s0) (v5 := .slice A p.l0.length a) P2) (fun (W : World) => ilow_p (w := W) (v3 := .bool q.n1) (v4 := .bool q.s1) (v5 := .slice D q.l1.length d) P3) (fun (W : World) => ihigh_p (w := W) (v3 := .bool q.n0) (v4 := .bool q.s0) (v5 := .slice C q.l0.length c) P4)
 rw [kp.lo] at p1
 rw [kp.hi] at p2
 rw [kq.lo] at p3
 rw [kq.hi] at p4
 have KP : ¬ (Q.1 = 0 ∧ Q.2 = 0) := fun h => hne ((parts_nil gq.le).2 h)
 obtain ⟨em, Qr, ez, Qs⟩ := modM_ok gq KP (by omega)
 have gr := ivn_mod gp gq KP (by omega)
 obtain ⟨tb, ts, tl, pt⟩ : ∃ b s l, Pl (-Q.1) b s l := ⟨_, _, _, Pl.all (gq.lo.neg.range (by omega))⟩
 have Qe := pt.len_of gq.lo.neg
 obtain ⟨zb, zs, zl, pz⟩ : ∃ b s l, Pl (max (-Q.1) Q.2) b s l := ⟨_, _, _, Pl.all (ez.range (by omega))⟩
 have Qf := pz.len_of ez
 obtain ⟨mb, ms, ml, pm⟩ : ∃ b s l, Pl (modM Q) b s l := ⟨_, _, _, Pl.all (em.range (by omega))⟩
 have Qg := pm.len_of em
 obtain ⟨vb, vs, vl, pv⟩ : ∃ b s l, Pl (-modM Q) b s l := ⟨_, _, _, Pl.all (em.neg.range (by omega))⟩
 have Qh := pv.len_of em.neg
 have ex : Ext bigZ (wN 6000) (max P.1 (-modM Q)) := ext_max gp.lo em.neg
 have ey : Ext bigZ (wN 6000) (min P.2 (modM Q)) := ext_min gp.hi em
 obtain ⟨xb, xs, z, px⟩ : ∃ b s l, Pl (max P.1 (-modM Q)) b s l := ⟨_, _, _, Pl.all (ex.range (by omega))⟩
 have KW := px.len_of ex
 obtain ⟨yb, ys, yl, py⟩ : ∃ b s l, Pl (min P.2 (modM Q)) b s l := ⟨_, _, _, Pl.all (ey.range (by omega))⟩
 have KX := py.len_of ey
 have KN := big_one
 obtain ⟨os, ol, KI⟩ : ∃ s l, Nm (-1 : Int) s l := ⟨_, _, rfl, rfl⟩
 have Qi : ol.length ≤ 1 := by rw [KI.2]; exact len_limbs_le (by decide)
 have KY : Pl (-1) 0 os ol := .inl ⟨rfl, KI, by omega, by omega⟩
 obtain ⟨TN, GR, OF, PL, TM, GX⟩ := hid6 (fun (W : World) (h : Below w.heap.size w W) => iturned_p p3 pt (v3.below h) (by omega)) (fun (W : World) (Z : Zone) (D : Option Addr) (d : Nat) (h : Below w.heap.size w W) (u : U64s W Z D d tl) => igreatest_q pt p4 pz rfl u (v4.below h) (by omega) (by omega)) (fun (W : World) => wof_p (w := W) KI (by omega)) (fun (W : World) (Z1 Z2 : Zone) (D E : Option Addr) (d e : Nat) (u : U64s W Z1 D d zl) (v : U64s W Z2 E e ol) => iplus_p pz KY pm rfl ⟨by omega, by omega⟩ u v (by omega) (by omega)) (fun (W : World) (Z : Zone) (D : Option Addr) (d : Nat) (u : U64s W Z D d ml) => iturned_p pm pv u (by omega)) (fun (W : World) (Z : Zone) (D : Option Addr) (d : Nat) (h : Below w.heap.size w W) (u : U64s W Z D d vl) => igreatest_q p1 pv px rfl (v1.below h) u (by omega) (by omega))
 have LY := hid (fun (W : World) (Z : Zone) (D : Option Addr) (d : Nat) (h : Below w.heap.size w W) (u : U64s W Z D d ml) => ileast_q p2 pm py rfl (v2.below h) u (by omega) (by omega))
 obtain ⟨K8, KS⟩ : ∃ g, sgn P.2 = g := ⟨_, rfl⟩
 obtain ⟨K9, KT⟩ : ∃ g, sgn P.1 = g := ⟨_, rfl⟩
 obtain ⟨KJ, KK, Ke, Kf, KL, Hr⟩ := hid6 (fun (W : World) (h : Below w.heap.size w W) => isign_p p2 KS (v2.below h)) (fun (W : World) (h : Below w.heap.size w W) => isign_p p1 KT (v1.below h)) px py gr hr
 obtain ⟨Ky, Kz, Qa, Qb⟩ := hid4 KT KS KW KX
 obtain ⟨n, hn⟩ : ∃ n, (partsP Q).length = n := ⟨_, rfl⟩
 have Qj : 0 < n := by rw [← hn]; exact List.length_pos_iff.2 hne
 have Qk : ((n : Int) == 0) = false := beq_eq_false_iff_ne.2 (by omega)
 have QA := hid Qk
 rw [hn] at PT
 clear m KO KN bR Kp u1 u2 u3 u4 hp hq gp gq hn hr hne kp kq h1 h2 q1 q2 q3 q4 K4 K5 K6 K7 P1 P2 P3 P4 p1 p2 p3 p4 r1 r2 r3 r4 v1 v2 v3 v4 i1 i2 i3 i4 KP em Qr ez Qs gr pt Qe pz Qf pm Qg pv Qh ex ey px KW py KX KY KI Qi KT KS Qj
 go_enter Tryz.func124, Tryz.ntmps124
 go_wp2_with fail
 refine K2.out.mono ?_
 rintro e w1 ⟨rfl, H⟩
 have H1 := hid (from_ K3.out H)
 replace I := hid (I.out.below H)
 replace L := hid (L.out.below H)
 replace Kl := hid (Kl.out.below H)
 clear a0 a1 a2 a3 a4 a5 b0 b1 b2 b3 b4 b5 K2 K3
 have b0 := Kl.out.all
 clear H
 go_wp2_with fail
 refine (PT.out _ H1.out).mono ?_
 rintro e V ⟨Av, cv, rfl, Qt, Qv, H⟩
 have W2 := hid (from_ H1.out H)
 replace I := hid (I.out.below H)
 replace L := hid (L.out.below H)
 replace Kl := hid (Kl.out.below H)
 clear b0 Qt Qv H PT
 go_upto_region 6 with fail
 replace TN := hid (fun (W : World) (h : Below V.heap.size V W) => TN.out W (from_ W2.out h))
 replace GR := hid (fun (W : World) (Z : Zone) (D : Option Addr) (d : Nat) (h : Below V.heap.size V W) (u : U64s W Z D d tl) => GR.out W Z D d (from_ W2.out h) u)
 have Ql := Kl.out.lt
 have R := Kl.out.all
 have J := k6_keep R bdr_
 have N := hid (Below.refl V.heap.size V)
 have G := hid (Below.refl V.heap.size V).drew
 go_cut [7] (fun s7 wx => ∃ (g : Nat) (A' : Option Addr) (c' : Nat), s7 = .pointer (some ⟨g, 0, none⟩) ∧ Res1 V wx g zb zs zl A' c')
 case first =>
  first | go_region_held3 (fun w' => C6 w' (w.heap.size + 1) (.bool q.n0) (.bool q.s0) (.slice C q.l0.length c) (.bool q.n1) (.bool q.s1) (.slice D q.l1.length d))
   ((repeat' (first | with_reducible apply k6_al rfl | with_reducible apply k6_st3 rfl)) <;> (first | with_reducible exact J | (with_reducible apply k6_dr rfl; (repeat' (with_reducible apply k6_al rfl)); with_reducible exact R) | omega))
   (((first
    | (go_at_call 36; (with_reducible refine (L3.out _).mono ?_); rintro e V ⟨rfl, F⟩)
    | (go_at_call 168; (first | (with_reducible refine (TN.out _ G.out).mono ?_) | (with_reducible refine (TN.out _ (from_ G.out bal_)).mono ?_) | (with_reducible refine (TN.out _ (from_ (from_ G.out bal_) bal_)).mono ?_) | (with_reducible refine (TN.out _ (from_ (from_ N.out bal_) bdr_)).mono ?_) | (with_reducible refine (TN.out _ (from_ (from_ (from_ N.out bal_) bal_) bdr_)).mono ?_)); rintro e V ⟨D3, d3, rfl, i, F⟩)
    | (go_at_call 37; (with_reducible refine (L4.out _).mono ?_); rintro e V ⟨rfl, F⟩)
    | (go_at_call 136; (first | (with_reducible refine (GR.out _ _ _ _ G.out i).mono ?_) | (with_reducible refine (GR.out _ _ _ _ (from_ G.out bal_) (i.below bal_)).mono ?_) | (with_reducible refine (GR.out _ _ _ _ (from_ (from_ G.out bal_) bal_) ((i.below bal_).below bal_)).mono ?_)); rintro e V ⟨Dz, dz, rfl, uz, F⟩)); (first | (with_reducible have S := k6_keep J F; have T := hid (from_ G.out F); (try replace K := hid (K.out.below F)); (try replace X := hid (X.out.below F)); (try replace i := i.below F); skip) | (with_reducible have z1 := G.out.size; have S := k6_keep (k6_keep J bal_) F; have T := hid (from_ (from_ G.out bal_) F); (first | (have Ko := Nat.ne_of_lt K.out.box.lt; have KD := Ne.symm Ko; have X := hid ((Bx3.new _ 93).below F); replace K := hid ((K.out.below bal_).below F)) | (have K := hid ((Bx3.new _ 93).below F))); (try replace i := (i.below bal_).below F); skip) | (with_reducible have z1 := G.out.size; have S := k6_keep (k6_keep (k6_keep J bal_) bal_) F; have T := hid (from_ (from_ (from_ G.out bal_) bal_) F); (have K := hid (((Bx3.new _ 93).below bal_).below F)); (have X := hid ((Bx3.new2 _ _ 93).below F)); (try replace i := ((i.below bal_).below bal_).below F); skip) | (with_reducible have z1 := N.out.size; have S := k6_keep (k6_keep (k6_keep R bal_) bdr_) F; have T := hid (from_ (from_ (from_ N.out bal_) bdr_) F); have K := hid (((Bx3.new _ 93).below bdr_).below F)) | (with_reducible have z1 := N.out.size; have S := k6_keep (k6_keep (k6_keep (k6_keep R bal_) bal_) bdr_) F; have T := hid (from_ (from_ (from_ (from_ N.out bal_) bal_) bdr_) F); (have K := hid ((((Bx3.new _ 93).below bal_).below bdr_).below F)); (have X := hid (((Bx3.new2 _ _ 93).below bdr_).below F)))); replace J := S; replace G := T; clear S T; (try clear x0 x1 x2 x3 x4 x5); (try clear x6 x7 x8 x9 KA KB); (try have Ks := Nat.ne_of_lt K.out.box.lt); (try have KZ := Ne.symm Ks); (try obtain ⟨x0, x1, x2, x3, x4, x5, _⟩ := id K.out.box); (try obtain ⟨x6, x7, x8, x9, KA, KB, _⟩ := id X.out.box); have lz := G.out.size; clear F)) | fail
  all_goals
   clear J R
   go_wp2_with fail
   go_meet
   (first | exact ⟨_, _, _, rfl, by with_reducible exact Res1.nw G.out uz⟩ | exact ⟨_, _, _, rfl, by with_reducible exact Res1.ol G.out K.out (by omega) uz⟩)
 case rest =>
  obtain ⟨g7, A7, c7, rfl, KM⟩ := hcut
  have KE := KM.bel
  have Kt := KM.box
  have u7 := KM.u
  have KF := hid (from_ W2.out KE)
  clear J R G N Ql Kl TN GR L3 L4
  replace L := hid (L.out.below KE)
  replace I := hid (I.out.below KE)
  obtain ⟨W7, KU⟩ : ∃ W7, W7 = wc := ⟨_, rfl⟩
  subst KU
  clear KM KE W2
  have Qm := Kt.lt
  go_upto_region 7 with fail
  have R := (show C3 W7 g7 (.int .i64 zb) (.bool zs) (.slice A7 zl.length c7) from ⟨Kt.c0, Kt.c1, Kt.c2⟩)
  have J := k3_keep R bdr_
  have N := hid (Below.refl W7.heap.size W7)
  have G := hid (Below.refl W7.heap.size W7).drew
  go_cut [8] (fun s8 wx => ∃ (g : Nat) (A' : Option Addr) (c' : Nat), s8 = .pointer (some ⟨g, 0, none⟩) ∧ Res1 W7 wx g mb ms ml A' c')
  case first =>
   first | go_region_held3 (fun w' => C3 w' g7 (.int .i64 zb) (.bool zs) (.slice A7 zl.length c7))
    ((repeat' (first | with_reducible apply k3_al rfl | with_reducible apply k3_st3 rfl)) <;> (first | with_reducible exact J | (with_reducible apply k3_dr rfl; (repeat' (with_reducible apply k3_al rfl)); with_reducible exact R) | omega))
    (((first
     | (go_at_call 63; (with_reducible refine (OF.out _).mono ?_); rintro e V ⟨C1, c1, rfl, uo, F⟩)
     | (go_at_call 147; (first | (with_reducible refine (PL.out _ _ _ _ _ _ _ (u7.below G.out) uo).mono ?_) | (with_reducible refine (PL.out _ _ _ _ _ _ _ (u7.below (from_ G.out bal_)) (uo.below bal_)).mono ?_) | (with_reducible refine (PL.out _ _ _ _ _ _ _ (u7.below (from_ (from_ G.out bal_) bal_)) ((uo.below bal_).below bal_)).mono ?_)); rintro e V ⟨Dm, dm, rfl, um, F⟩)); (first | (with_reducible have S := k3_keep J F; have T := hid (from_ G.out F); (try replace K := hid (K.out.below F)); (try replace X := hid (X.out.below F)); (try replace uo := uo.below F); skip) | (with_reducible have z1 := G.out.size; have S := k3_keep (k3_keep J bal_) F; have T := hid (from_ (from_ G.out bal_) F); (first | (have Ko := Nat.ne_of_lt K.out.box.lt; have KD := Ne.symm Ko; have X := hid ((Bx3.new _ 93).below F); replace K := hid ((K.out.below bal_).below F)) | (have K := hid ((Bx3.new _ 93).below F))); (try replace uo := (uo.below bal_).below F); skip) | (with_reducible have z1 := G.out.size; have S := k3_keep (k3_keep (k3_keep J bal_) bal_) F; have T := hid (from_ (from_ (from_ G.out bal_) bal_) F); (have K := hid (((Bx3.new _ 93).below bal_).below F)); (have X := hid ((Bx3.new2 _ _ 93).below F)); (try replace uo := ((uo.below bal_).below bal_).below F); skip) | (with_reducible have z1 := N.out.size; have S := k3_keep (k3_keep (k3_keep R bal_) bdr_) F; have T := hid (from_ (from_ (from_ N.out bal_) bdr_) F); have K := hid (((Bx3.new _ 93).below bdr_).below F)) | (with_reducible have z1 := N.out.size; have S := k3_keep (k3_keep (k3_keep (k3_keep R bal_) bal_) bdr_) F; have T := hid (from_ (from_ (from_ (from_ N.out bal_) bal_) bdr_) F); (have K := hid ((((Bx3.new _ 93).below bal_).below bdr_).below F)); (have X := hid (((Bx3.new2 _ _ 93).below bdr_).below F)))); replace J := S; replace G := T; clear S T; (try clear x0 x1 x2 x3 x4 x5); (try clear x6 x7 x8 x9 KA KB); (try have Ks := Nat.ne_of_lt K.out.box.lt); (try have KZ := Ne.symm Ks); (try obtain ⟨x0, x1, x2, x3, x4, x5, _⟩ := id K.out.box); (try obtain ⟨x6, x7, x8, x9, KA, KB, _⟩ := id X.out.box); have lz := G.out.size; clear F)) | fail
   all_goals
    clear J R
    go_wp2_with fail
    go_meet
    (first | exact ⟨_, _, _, rfl, by with_reducible exact Res1.nw G.out um⟩ | exact ⟨_, _, _, rfl, by with_reducible exact Res1.ol G.out K.out (by omega) um⟩)
  case rest =>
   clear J R G N Qm Kt u7
   replace KF := KF
   obtain ⟨g8, A8, c8, rfl, KC⟩ := hcut
   have KG := KC.bel
   have Kv := KC.box
   have u8 := KC.u
   have Qn := KC.lo
   have Kw := hid (from_ KF.out KG)
   replace L := hid (L.out.below KG)
   replace I := hid (I.out.below KG)
   obtain ⟨W8, KU⟩ : ∃ W8, W8 = wc := ⟨_, rfl⟩
   subst KU
   clear KC KG KF PL OF
   go_upto_region 8 with fail
   replace GX := hid (fun (W : World) (Z : Zone) (D : Option Addr) (d : Nat) (h : Below W8.heap.size W8 W) (u : U64s W Z D d vl) => GX.out W Z D d (from_ Kw.out h) u)
   replace LY := hid (fun (W : World) (Z : Zone) (D : Option Addr) (d : Nat) (h : Below W8.heap.size W8 W) (u : U64s W Z D d ml) => LY.out W Z D d (from_ Kw.out h) u)
   have Qo := L.out.lt
   have Qp := Kv.lt
   have R := (show D6 W8 w.heap.size (.bool p.n0) (.bool p.s0) (.slice A p.l0.length a) (.bool p.n1) (.bool p.s1) (.slice B p.l1.length b) (C3 W8 g8 (.int .i64 mb) (.bool ms) (.slice A8 ml.length c8)) from ⟨L.out.c0, L.out.c1, L.out.c2, L.out.c3, L.out.c4, L.out.c5, Kv.c0, Kv.c1, Kv.c2⟩)
   have J := k9_keep R bdr_
   have N := hid (Below.refl W8.heap.size W8)
   have G := hid (Below.refl W8.heap.size W8).drew
   go_cut [9, 10] (fun s9 s10 wx => ∃ (x y : Nat) (A' : Option Addr) (c' : Nat) (B' : Option Addr) (d' : Nat), s9 = .pointer (some ⟨x, 0, none⟩) ∧ s10 = .pointer (some ⟨y, 0, none⟩) ∧ Res2 W8 wx x y xb xs z A' c' yb ys yl B' d')
   case first =>
    first | go_region_held3 (fun w' => D6 w' w.heap.size (.bool p.n0) (.bool p.s0) (.slice A p.l0.length a) (.bool p.n1) (.bool p.s1) (.slice B p.l1.length b) (C3 w' g8 (.int .i64 mb) (.bool ms) (.slice A8 ml.length c8)))
     ((repeat' (first | with_reducible apply k9_al rfl | with_reducible apply k9_st3 rfl)) <;> (first | with_reducible exact J | (with_reducible apply k9_dr rfl; (repeat' (with_reducible apply k9_al rfl)); with_reducible exact R) | omega))
     (((first
      | (go_at_call 36; (with_reducible refine (L1.out _).mono ?_); rintro e V ⟨rfl, F⟩)
      | (go_at_call 168; (first | (with_reducible refine (TM.out _ _ _ _ (u8.below G.out)).mono ?_) | (with_reducible refine (TM.out _ _ _ _ (u8.below (from_ G.out bal_))).mono ?_) | (with_reducible refine (TM.out _ _ _ _ (u8.below (from_ (from_ G.out bal_) bal_))).mono ?_) | (with_reducible refine (TM.out _ _ _ _ (u8.below (from_ (from_ N.out bal_) bdr_))).mono ?_) | (with_reducible refine (TM.out _ _ _ _ (u8.below (from_ (from_ (from_ N.out bal_) bal_) bdr_))).mono ?_)); rintro e V ⟨D3, d3, rfl, i, F⟩)
      | (go_at_call 136; (first | (with_reducible refine (GX.out _ _ _ _ G.out i).mono ?_) | (with_reducible refine (GX.out _ _ _ _ (from_ G.out bal_) (i.below bal_)).mono ?_) | (with_reducible refine (GX.out _ _ _ _ (from_ (from_ G.out bal_) bal_) ((i.below bal_).below bal_)).mono ?_)); rintro e V ⟨Dx, dx, rfl, ux, F⟩)
      | (go_at_call 37; (with_reducible refine (L2.out _).mono ?_); rintro e V ⟨rfl, F⟩)
      | (go_at_call 137; (first | (with_reducible refine (LY.out _ _ _ _ G.out (u8.below G.out)).mono ?_) | (with_reducible refine (LY.out _ _ _ _ (from_ G.out bal_) (u8.below (from_ G.out bal_))).mono ?_) | (with_reducible refine (LY.out _ _ _ _ (from_ (from_ G.out bal_) bal_) (u8.below (from_ (from_ G.out bal_) bal_))).mono ?_) | (with_reducible refine (LY.out _ _ _ _ (from_ (from_ N.out bal_) bdr_) (u8.below (from_ (from_ N.out bal_) bdr_))).mono ?_) | (with_reducible refine (LY.out _ _ _ _ (from_ (from_ (from_ N.out bal_) bal_) bdr_) (u8.below (from_ (from_ (from_ N.out bal_) bal_) bdr_))).mono ?_)); rintro e V ⟨Dy, dy, rfl, uy, F⟩)); (first | (with_reducible have S := k9_keep J F; have T := hid (from_ G.out F); (try replace K := hid (K.out.below F)); (try replace X := hid (X.out.below F)); (try replace i := i.below F); (try replace ux := ux.below F); skip) | (with_reducible have z1 := G.out.size; have S := k9_keep (k9_keep J bal_) F; have T := hid (from_ (from_ G.out bal_) F); (first | (have Ko := Nat.ne_of_lt K.out.box.lt; have KD := Ne.symm Ko; have X := hid ((Bx3.new _ 93).below F); replace K := hid ((K.out.below bal_).below F)) | (have K := hid ((Bx3.new _ 93).below F))); (try replace i := (i.below bal_).below F); (try replace ux := (ux.below bal_).below F); skip) | (with_reducible have z1 := G.out.size; have S := k9_keep (k9_keep (k9_keep J bal_) bal_) F; have T := hid (from_ (from_ (from_ G.out bal_) bal_) F); (have K := hid (((Bx3.new _ 93).below bal_).below F)); (have X := hid ((Bx3.new2 _ _ 93).below F)); (try replace i := ((i.below bal_).below bal_).below F); (try replace ux := ((ux.below bal_).below bal_).below F); skip) | (with_reducible have z1 := N.out.size; have S := k9_keep (k9_keep (k9_keep R bal_) bdr_) F; have T := hid (from_ (from_ (from_ N.out bal_) bdr_) F); have K := hid (((Bx3.new _ 93).below bdr_).below F)) | (with_reducible have z1 := N.out.size; have S := k9_keep (k9_keep (k9_keep (k9_keep R bal_) bal_) bdr_) F; have T := hid (from_ (from_ (from_ (from_ N.out bal_) bal_) bdr_) F); (have K := hid ((((Bx3.new _ 93).below bal_).below bdr_).below F)); (have X := hid (((Bx3.new2 _ _ 93).below bdr_).below F)))); replace J := S; replace G := T; clear S T; (try clear x0 x1 x2 x3 x4 x5); (try clear x6 x7 x8 x9 KA KB); (try have Ks := Nat.ne_of_lt K.out.box.lt); (try have KZ := Ne.symm Ks); (try obtain ⟨x0, x1, x2, x3, x4, x5, _⟩ := id K.out.box); (try obtain ⟨x6, x7, x8, x9, KA, KB, _⟩ := id X.out.box); have lz := G.out.size; clear F)) | fail
    all_goals
     clear J R
     go_wp2_with fail
     go_meet
     (first | exact ⟨_, _, _, _, _, _, rfl, rfl, by with_reducible exact Res2.nn G.out ux uy⟩ | exact ⟨_, _, _, _, _, _, rfl, rfl, by with_reducible exact Res2.nm G.out ux uy⟩ | exact ⟨_, _, _, _, _, _, rfl, rfl, by with_reducible exact Res2.on G.out K.out (by omega) ux uy⟩ | exact ⟨_, _, _, _, _, _, rfl, rfl, by with_reducible exact Res2.no G.out K.out (by omega) ux uy⟩ | exact ⟨_, _, _, _, _, _, rfl, rfl, by with_reducible exact Res2.oo G.out K.out X.out (by omega) (by omega) (by first | exact Ko | exact KD | omega) ux uy⟩ | exact ⟨_, _, _, _, _, _, rfl, rfl, by with_reducible exact Res2.oo G.out X.out K.out (by omega) (by omega) (by first | exact Ko | exact KD | omega) ux uy⟩)
   case rest =>
    clear J R G N Qo Qp Kv u8 Qn TM GX LY
    obtain ⟨x, y, A9, c9, Qc, Qd, rfl, rfl, Kg⟩ := hcut
    have KH := Kg.bel
    obtain ⟨BX, M, Kh, Ki, UX, UY⟩ := hid6 Kg.bx Kg.by_ Kg.nx Kg.ny Kg.u Kg.v
    have K0 := hid Kg.ne
    have lx := Kg.lx
    have ly := Kg.ly
    have Qq := Kw.out.size
    obtain ⟨Qw, Qx⟩ := hid2 (show w.heap.size ≤ x by omega) (show w.heap.size ≤ y by omega)
    have K1 := I.out.lt
    obtain ⟨gR, KV⟩ : ∃ gR, gR = w.heap.size + 2 := ⟨_, rfl⟩
    rw [← KV] at I K1
    obtain ⟨NX, NY, Qy, Qz, Kk, j⟩ := hid6 (show gR ≠ x by omega) (show gR ≠ y by omega) (show x ≠ gR by omega) (show y ≠ gR by omega) KV (from_ Kw.out KH)
    replace L := hid (L.out.below KH)
    replace I := hid (I.out.below KH)
    clear Kg lx ly Qq K1 KH KV Kw
    obtain ⟨a0, a1, a2, a3, a4, a5, _, _, _, _, _, _, _⟩ := id L.out
    go_wp2_with fail
    refine (L2.out _).mono ?_
    rintro e wa ⟨rfl, H⟩
    clear a0 a1 a2 a3 a4 a5
    have Kc := BX.out.lt
    have Kd := M.out.lt
    replace Kh := hid (Kh.out.below Kc H)
    replace Ki := hid (Ki.out.below Kd H)
    replace BX := hid (BX.out.below H)
    replace M := hid (M.out.below H)
    replace UX := hid (UX.out.below H)
    replace UY := hid (UY.out.below H)
    replace L := hid (L.out.below H)
    replace I := hid (I.out.below H)
    replace j := hid (from_ j.out H)
    clear H Kc Kd
    go_wp2_with fail
    refine (KJ.out _ j.out).mono ?_
    rintro e wb ⟨rfl, H⟩
    have Kc := BX.out.lt
    have Kd := M.out.lt
    replace Kh := hid (Kh.out.below Kc H)
    replace Ki := hid (Ki.out.below Kd H)
    replace BX := hid (BX.out.below H)
    replace M := hid (M.out.below H)
    replace UX := hid (UX.out.below H)
    replace UY := hid (UY.out.below H)
    replace L := hid (L.out.below H)
    replace I := hid (I.out.below H)
    replace j := hid (from_ j.out H)
    clear H Kc Kd
    have m := KL.out
    have Kj := Hr.out
    by_cases hp2 : P.2 ≤ 0
    · have Km : modP P Q = (max P.1 (-modM Q), 0) := by unfold modP; rw [if_pos hp2]
      rw [Km] at m Kj
      have O : EndL (max P.1 (-modM Q)) Ka rs0 rl0 ∧ EndH 0 Kb rs1 rl1 := Kj
      have hd : decide (K8 ≤ 0) = true := decide_eq_true (by rw [← Kz.out]; unfold sgn; split <;> (try split) <;> omega)
      obtain rfl : xs = rs0 := Ke.out.uniq.2.1.trans O.1.2.1.symm
      obtain rfl : z = rl0 := Ke.out.uniq.2.2.trans O.1.2.2.symm
      have KQ := Qa.out
      have Kq := hid (fun (W : World) (Z : Zone) (D : Option Addr) (d : Nat) (u : U64s W Z D d z) => ibound_p (w := W) Ke.out ((Ke.out.nlo m.nlo).trans O.1.1.symm) u (by omega))
      clear KQ
      have zp : Pl 0 0 false [] := .inl ⟨rfl, ⟨rfl, (limbs_eq_nil.2 rfl).symm⟩, by have := bigZ_pos; omega, bigZ_pos⟩
      obtain rfl : false = rs1 := zp.uniq.2.1.trans O.2.2.1.symm
      obtain rfl : [] = rl1 := zp.uniq.2.2.trans O.2.2.2.symm
      have Kr := hid (fun (W : World) (Z : Zone) (D : Option Addr) (d : Nat) (u : U64s W Z D d []) => ibound_p (w := W) zp ((zp.nhi m.nhi).trans O.2.1.symm) u (by simp))
      rw [List.length_nil] at Kr
      clear zp
      clear O Kj m Km hp2 KL Hr Ke Kf Ky Kz KK KJ
      have NU := Ki.out
      have B' := M.out.set3 (.int .i64 0) (.bool false) (.slice none 0 0)
      have O' := BX.out.oth3 y (K0.out.symm) (.int .i64 0) (.bool false) (.slice none 0 0)
      have U' := UX.out.set3n NU (.int .i64 0) (.bool false) (.slice none 0 0)
      have R' := (I.out.other3 (h := y) Qz.out (.int .i64 0) (.bool false) (.slice none 0 0))
      have W' := set3_below j.out Qx.out (.int .i64 0) (.bool false) (.slice none 0 0)
      obtain ⟨k0, k1, k2, k3, k4, k5, _⟩ := id M.out
      go_upto_region 13 with fail
      clear k0 k1 k2 k3 k4 k5 NU
      replace M := hid B'
      replace BX := hid O'
      replace UX := hid U'
      replace I := hid R'
      replace j := hid W'
      clear B' O' U' R' W'
      generalize ((wb.setCell ⟨y, 0, none⟩ (.int .i64 0)).setCell ⟨y, 1, none⟩ (.bool false)).setCell ⟨y, 2, none⟩ (.slice none 0 0) = wq at *
      have J := And.intro BX.out.c0 (And.intro BX.out.c1 (And.intro BX.out.c2 (And.intro M.out.c0 (And.intro M.out.c1 M.out.c2))))
      replace J := two3_keep J bdr_
      have G := hid (Below.refl wq.heap.size wq).drew
      replace I := hid (I.out.below bdr_)
      try simp only [show w.heap.size + 2 = gR from Kk.out.symm, show w.heap.size + 1 + 1 = gR from Kk.out.symm]
      first | go_region_held3 (fun w' => D3 w' x (.int .i64 xb) (.bool xs) (.slice A9 z.length c9) (C3 w' y (.int .i64 0) (.bool false) (.slice none 0 0)))
       (first
        | with_reducible exact J
        | (with_reducible apply two3_st6 rfl <;> (first | with_reducible exact J | with_reducible exact NX.out | with_reducible exact NY.out)))
       (first
        | (go_at_call 138; with_reducible refine (Kq.out _ _ _ _ (UX.out.below G.out)).mono ?_; rintro e w3 ⟨A1, c1, rfl, U, F⟩; replace U := U.mono (Y := new (gR + 1)) (new_le (Nat.succ_le_of_lt I.out.lt)); replace J := two3_keep J F; replace I := hid (I.out.below F); replace G := hid (from_ G.out F))
        | (go_at_call 138; with_reducible refine (Kr.out _ _ _ _ ((U64s.nil wq old).below G.out)).mono ?_; rintro e w3 ⟨A2, c2, rfl, o, F⟩; replace U := U.below F; replace o := o.mono (Y := new (gR + 1)) (new_le (Nat.succ_le_of_lt I.out.lt)); replace J := two3_keep J F; replace I := hid (I.out.below F); replace G := hid (from_ G.out F); obtain ⟨g0, g1, g2, g3, g4, g5, f0, f1, f2, f3, f4, f5, _⟩ := id I.out)) | fail
      all_goals
       have Kx := Kk.out
       have Kn : w.heap.size ≤ gR := by omega
       obtain ⟨HP, U1, U2⟩ := hid3 (I.out.put (w := w) (from_ j.out G.out) Kn (.bool Ka) (.bool xs) (.slice A1 z.length c1) (.bool Kb) (.bool false) (.slice A2 0 c2)) ((U.set6 (g := gR) (fun (h : gR + 1 ≤ gR) => by omega) (.bool Ka) (.bool xs) (.slice A1 z.length c1) (.bool Kb) (.bool false) (.slice A2 0 c2)).mono (new_le (show w.heap.size ≤ gR + 1 by omega))) ((o.set6 (g := gR) (fun (h : gR + 1 ≤ gR) => by omega) (.bool Ka) (.bool xs) (.slice A1 z.length c1) (.bool Kb) (.bool false) (.slice A2 0 c2)).mono (new_le (show w.heap.size ≤ gR + 1 by omega)))
       clear U o Kx Kn
       simp only [Exit.then]
       refine (‹∀ (a : Act) (w : World), Code.wp Tryz.prog Code.ret _ a w → _›) _ _ ?_
       refine wp_ret ?_
       change bodyPost _ _ _ _ _ _
       refine bodyPost_ret (res_itv2 rfl _ gR rfl HP.out.box) rfl ?_
       exact ⟨_, _, _, _, rfl, U1.out, U2.out, HP.out.bel⟩
    · have hd : decide (K8 ≤ 0) = false := decide_eq_false (by rw [← Kz.out]; unfold sgn; split <;> (try split) <;> omega)
      have a0 := L.out.all
      go_wp2_with fail
      refine (L1.out _).mono ?_
      rintro e wd ⟨rfl, H⟩
      clear a0 hd
      have Kc := BX.out.lt
      have Kd := M.out.lt
      replace Kh := hid (Kh.out.below Kc H)
      replace Ki := hid (Ki.out.below Kd H)
      replace BX := hid (BX.out.below H)
      replace M := hid (M.out.below H)
      replace UX := hid (UX.out.below H)
      replace UY := hid (UY.out.below H)
      replace L := hid (L.out.below H)
      replace I := hid (I.out.below H)
      replace j := hid (from_ j.out H)
      clear H Kc Kd
      go_wp2_with fail
      refine (KK.out _ j.out).mono ?_
      rintro e we ⟨rfl, H⟩
      have Kc := BX.out.lt
      have Kd := M.out.lt
      replace Kh := hid (Kh.out.below Kc H)
      replace Ki := hid (Ki.out.below Kd H)
      replace BX := hid (BX.out.below H)
      replace M := hid (M.out.below H)
      replace UX := hid (UX.out.below H)
      replace UY := hid (UY.out.below H)
      replace L := hid (L.out.below H)
      replace I := hid (I.out.below H)
      replace j := hid (from_ j.out H)
      clear H Kc Kd
      by_cases hp1 : 0 ≤ P.1
      · have Km : modP P Q = (0, min P.2 (modM Q)) := by unfold modP; rw [if_neg (show ¬ P.2 ≤ 0 by omega), if_pos (show 0 ≤ P.1 by omega)]
        rw [Km] at m Kj
        have O : EndL 0 Ka rs0 rl0 ∧ EndH (min P.2 (modM Q)) Kb rs1 rl1 := Kj
        have hd : decide (0 ≤ K9) = true := decide_eq_true (by rw [← Ky.out]; unfold sgn; split <;> (try split) <;> omega)
        obtain rfl : ys = rs1 := Kf.out.uniq.2.1.trans O.2.2.1.symm
        obtain rfl : yl = rl1 := Kf.out.uniq.2.2.trans O.2.2.2.symm
        have KR := Qb.out
        have Kr := hid (fun (W : World) (Z : Zone) (D : Option Addr) (d : Nat) (u : U64s W Z D d yl) => ibound_p (w := W) Kf.out ((Kf.out.nhi m.nhi).trans O.2.1.symm) u (by omega))
        clear KR
        have zp : Pl 0 0 false [] := .inl ⟨rfl, ⟨rfl, (limbs_eq_nil.2 rfl).symm⟩, by have := bigZ_pos; omega, bigZ_pos⟩
        obtain rfl : false = rs0 := zp.uniq.2.1.trans O.1.2.1.symm
        obtain rfl : [] = rl0 := zp.uniq.2.2.trans O.1.2.2.symm
        have Kq := hid (fun (W : World) (Z : Zone) (D : Option Addr) (d : Nat) (u : U64s W Z D d []) => ibound_p (w := W) zp ((zp.nlo m.nlo).trans O.1.1.symm) u (by simp))
        rw [List.length_nil] at Kq
        clear zp
        clear O Kj m Km hp2 hp1 KL Hr Ke Kf Ky Kz KK KJ
        have NU := Kh.out
        have B' := BX.out.set3 (.int .i64 0) (.bool false) (.slice none 0 0)
        have O' := M.out.oth3 x (K0.out) (.int .i64 0) (.bool false) (.slice none 0 0)
        have U' := UY.out.set3n NU (.int .i64 0) (.bool false) (.slice none 0 0)
        have R' := (I.out.other3 (h := x) Qy.out (.int .i64 0) (.bool false) (.slice none 0 0))
        have W' := set3_below j.out Qw.out (.int .i64 0) (.bool false) (.slice none 0 0)
        obtain ⟨k0, k1, k2, k3, k4, k5, _⟩ := id BX.out
        go_upto_region 13 with fail
        clear k0 k1 k2 k3 k4 k5 NU
        replace BX := hid B'
        replace M := hid O'
        replace UY := hid U'
        replace I := hid R'
        replace j := hid W'
        clear B' O' U' R' W'
        generalize ((we.setCell ⟨x, 0, none⟩ (.int .i64 0)).setCell ⟨x, 1, none⟩ (.bool false)).setCell ⟨x, 2, none⟩ (.slice none 0 0) = wq at *
        have J := And.intro BX.out.c0 (And.intro BX.out.c1 (And.intro BX.out.c2 (And.intro M.out.c0 (And.intro M.out.c1 M.out.c2))))
        replace J := two3_keep J bdr_
        have G := hid (Below.refl wq.heap.size wq).drew
        replace I := hid (I.out.below bdr_)
        try simp only [show w.heap.size + 2 = gR from Kk.out.symm, show w.heap.size + 1 + 1 = gR from Kk.out.symm]
        first | go_region_held3 (fun w' => D3 w' x (.int .i64 0) (.bool false) (.slice none 0 0) (C3 w' y (.int .i64 yb) (.bool ys) (.slice Qc yl.length Qd)))
         (first
          | with_reducible exact J
          | (with_reducible apply two3_st6 rfl <;> (first | with_reducible exact J | with_reducible exact NX.out | with_reducible exact NY.out)))
         (first
          | (go_at_call 138; with_reducible refine (Kq.out _ _ _ _ ((U64s.nil wq old).below G.out)).mono ?_; rintro e w3 ⟨A1, c1, rfl, U, F⟩; replace U := U.mono (Y := new (gR + 1)) (new_le (Nat.succ_le_of_lt I.out.lt)); replace J := two3_keep J F; replace I := hid (I.out.below F); replace G := hid (from_ G.out F))
          | (go_at_call 138; with_reducible refine (Kr.out _ _ _ _ (UY.out.below G.out)).mono ?_; rintro e w3 ⟨A2, c2, rfl, o, F⟩; replace U := U.below F; replace o := o.mono (Y := new (gR + 1)) (new_le (Nat.succ_le_of_lt I.out.lt)); replace J := two3_keep J F; replace I := hid (I.out.below F); replace G := hid (from_ G.out F); obtain ⟨g0, g1, g2, g3, g4, g5, f0, f1, f2, f3, f4, f5, _⟩ := id I.out)) | fail
        all_goals
         have Kx := Kk.out
         have Kn : w.heap.size ≤ gR := by omega
         obtain ⟨HP, U1, U2⟩ := hid3 (I.out.put (w := w) (from_ j.out G.out) Kn (.bool Ka) (.bool false) (.slice A1 0 c1) (.bool Kb) (.bool ys) (.slice A2 yl.length c2)) ((U.set6 (g := gR) (fun (h : gR + 1 ≤ gR) => by omega) (.bool Ka) (.bool false) (.slice A1 0 c1) (.bool Kb) (.bool ys) (.slice A2 yl.length c2)).mono (new_le (show w.heap.size ≤ gR + 1 by omega))) ((o.set6 (g := gR) (fun (h : gR + 1 ≤ gR) => by omega) (.bool Ka) (.bool false) (.slice A1 0 c1) (.bool Kb) (.bool ys) (.slice A2 yl.length c2)).mono (new_le (show w.heap.size ≤ gR + 1 by omega)))
         clear U o Kx Kn
         simp only [Exit.then]
         refine (‹∀ (a : Act) (w : World), Code.wp Tryz.prog Code.ret _ a w → _›) _ _ ?_
         refine wp_ret ?_
         change bodyPost _ _ _ _ _ _
         refine bodyPost_ret (res_itv2 rfl _ gR rfl HP.out.box) rfl ?_
         exact ⟨_, _, _, _, rfl, U1.out, U2.out, HP.out.bel⟩
      · have Km : modP P Q = (max P.1 (-modM Q), min P.2 (modM Q)) := by unfold modP; rw [if_neg (show ¬ P.2 ≤ 0 by omega), if_neg (show ¬ 0 ≤ P.1 by omega)]
        rw [Km] at m Kj
        have O : EndL (max P.1 (-modM Q)) Ka rs0 rl0 ∧ EndH (min P.2 (modM Q)) Kb rs1 rl1 := Kj
        have hd : decide (0 ≤ K9) = false := decide_eq_false (by rw [← Ky.out]; unfold sgn; split <;> (try split) <;> omega)
        obtain rfl : xs = rs0 := Ke.out.uniq.2.1.trans O.1.2.1.symm
        obtain rfl : z = rl0 := Ke.out.uniq.2.2.trans O.1.2.2.symm
        have KQ := Qa.out
        have Kq := hid (fun (W : World) (Z : Zone) (D : Option Addr) (d : Nat) (u : U64s W Z D d z) => ibound_p (w := W) Ke.out ((Ke.out.nlo m.nlo).trans O.1.1.symm) u (by omega))
        clear KQ
        obtain rfl : ys = rs1 := Kf.out.uniq.2.1.trans O.2.2.1.symm
        obtain rfl : yl = rl1 := Kf.out.uniq.2.2.trans O.2.2.2.symm
        have KR := Qb.out
        have Kr := hid (fun (W : World) (Z : Zone) (D : Option Addr) (d : Nat) (u : U64s W Z D d yl) => ibound_p (w := W) Kf.out ((Kf.out.nhi m.nhi).trans O.2.1.symm) u (by omega))
        clear KR
        clear O Kj m Km hp2 hp1 KL Hr Ke Kf Ky Kz KK KJ
        have J := And.intro BX.out.c0 (And.intro BX.out.c1 (And.intro BX.out.c2 (And.intro M.out.c0 (And.intro M.out.c1 M.out.c2))))
        replace J := two3_keep J bdr_
        have G := hid (Below.refl we.heap.size we).drew
        replace I := hid (I.out.below bdr_)
        go_upto_region 13 with fail
        try simp only [show w.heap.size + 2 = gR from Kk.out.symm, show w.heap.size + 1 + 1 = gR from Kk.out.symm]
        first | go_region_held3 (fun w' => D3 w' x (.int .i64 xb) (.bool xs) (.slice A9 z.length c9) (C3 w' y (.int .i64 yb) (.bool ys) (.slice Qc yl.length Qd)))
         (first
          | with_reducible exact J
          | (with_reducible apply two3_st6 rfl <;> (first | with_reducible exact J | with_reducible exact NX.out | with_reducible exact NY.out)))
         (first
          | (go_at_call 138; with_reducible refine (Kq.out _ _ _ _ (UX.out.below G.out)).mono ?_; rintro e w3 ⟨A1, c1, rfl, U, F⟩; replace U := U.mono (Y := new (gR + 1)) (new_le (Nat.succ_le_of_lt I.out.lt)); replace J := two3_keep J F; replace I := hid (I.out.below F); replace G := hid (from_ G.out F))
          | (go_at_call 138; with_reducible refine (Kr.out _ _ _ _ (UY.out.below G.out)).mono ?_; rintro e w3 ⟨A2, c2, rfl, o, F⟩; replace U := U.below F; replace o := o.mono (Y := new (gR + 1)) (new_le (Nat.succ_le_of_lt I.out.lt)); replace J := two3_keep J F; replace I := hid (I.out.below F); replace G := hid (from_ G.out F); have g0 := I.out.cf)) | fail
        all_goals
         have Kx := Kk.out
         have Kn : w.heap.size ≤ gR := by omega
         obtain ⟨HP, U1, U2⟩ := hid3 (I.out.put (w := w) (from_ j.out G.out) Kn (.bool Ka) (.bool xs) (.slice A1 z.length c1) (.bool Kb) (.bool ys) (.slice A2 yl.length c2)) ((U.set6 (g := gR) (fun (h : gR + 1 ≤ gR) => by omega) (.bool Ka) (.bool xs) (.slice A1 z.length c1) (.bool Kb) (.bool ys) (.slice A2 yl.length c2)).mono (new_le (show w.heap.size ≤ gR + 1 by omega))) ((o.set6 (g := gR) (fun (h : gR + 1 ≤ gR) => by omega) (.bool Ka) (.bool xs) (.slice A1 z.length c1) (.bool Kb) (.bool ys) (.slice A2 yl.length c2)).mono (new_le (show w.heap.size ≤ gR + 1 by omega)))
         clear U o Kx Kn
         simp only [Exit.then]
         refine (‹∀ (a : Act) (w : World), Code.wp Tryz.prog Code.ret _ a w → _›) _ _ ?_
         refine wp_ret ?_
         change bodyPost _ _ _ _ _ _
         refine bodyPost_ret (res_itv2 rfl _ gR rfl HP.out.box) rfl ?_
         exact ⟨_, _, _, _, rfl, U1.out, U2.out, HP.out.bel⟩
def shK (Q : Int × Int) : Int × Int := (max Q.1 0, min Q.2 63)
def shT (Q : Int × Int) : Int × Int := (((2 ^ (shK Q).1.toNat : Nat) : Int), ((2 ^ (shK Q).2.toNat : Nat) : Int))
def shlP (P Q : Int × Int) : Int × Int := ivM P (shT Q)
def shrP (P Q : Int × Int) : Int × Int := (shrLo P.1 P.2 (shT Q).1 (shT Q).2, shrHi P.1 P.2 (shT Q).1 (shT Q).2)
theorem two_pow {n : Nat} (hn : n ≤ 63) : 0 < ((2 ^ n : Nat) : Int) ∧ ((2 ^ n : Nat) : Int) < 18446744073709551616 := by
 have A : 0 < 2 ^ n := Nat.pow_pos (by omega)
 have B : 2 ^ n ≤ 2 ^ 63 := Nat.pow_le_pow_right (by omega) hn
 have C : (2 : Nat) ^ 63 < 18446744073709551616 := by decide
 refine ⟨Int.natCast_pos.2 A, ?_⟩
 exact Int.ofNat_lt.2 (by omega : 2 ^ n < 18446744073709551616)
theorem shT_ok {Q : Int × Int} (h : (shK Q).1 ≤ (shK Q).2) : IvN 1 (shT Q).1 (shT Q).2 ∧ (0 < (shT Q).1 ∧ (shT Q).1 < bigZ) ∧ 0 < (shT Q).2 ∧ (shT Q).2 < bigZ := by
 have E : 0 ≤ (shK Q).1 := by unfold shK; dsimp only; omega
 have F : (shK Q).2 ≤ 63 := by unfold shK; dsimp only; omega
 have a := two_pow (n := (shK Q).1.toNat) (by omega)
 have b := two_pow (n := (shK Q).2.toNat) (by omega)
 have A : 2 ^ (shK Q).1.toNat ≤ 2 ^ (shK Q).2.toNat := Nat.pow_le_pow_right (by omega) (by omega)
 have B : (shT Q).1 ≤ (shT Q).2 := Int.ofNat_le.2 A
 have e : wN 1 = 18446744073709551616 := wN_one
 have G := wN_le (show 1 ≤ 6400 by omega)
 have C : 0 < (shT Q).1 ∧ (shT Q).1 < 18446744073709551616 := a
 have D : 0 < (shT Q).2 ∧ (shT Q).2 < 18446744073709551616 := b
 have H := bigZ_pos
 exact ⟨⟨.inr (.inr (by omega)), .inr (.inr (by omega)), B, by omega, by omega⟩, ⟨C.1, by omega⟩, D.1, by omega⟩
theorem ivn_shr {M : Nat} {x y z t : Int} (h : IvN N x y) (hz : 0 < z) (ht : 0 < t) (hN : N ≤ 6000) : IvN N (shrLo x y z t) (shrHi x y z t) := by
 obtain ⟨A, B, E, F, G⟩ := h
 have C := bigZ_pos
 have D := wN_le (show N ≤ 6400 by omega)
 refine ⟨?_, ?_, ?_, ?_, ?_⟩
 · exact ext_min (ext_min (ext_down A hz) (ext_down A ht)) (ext_min (ext_down B hz) (ext_down B ht))
 · exact ext_max (ext_max (ext_down A hz) (ext_down A ht)) (ext_max (ext_down B hz) (ext_down B ht))
 · unfold shrLo shrHi lo4 hi4; omega
 · unfold shrLo lo4
   have : downE bigZ x z < bigZ := by
    unfold downE
    split
    · omega
    · have := fdiv_bd (x := x) (p := z) (M := wN N) (by unfold Ext at A; omega) hz
      omega
   omega
 · unfold shrHi hi4
   have : -bigZ < downE bigZ y z := by
    unfold downE
    split
    · omega
    · have := fdiv_bd (x := y) (p := z) (M := wN N) (by unfold Ext at B; omega) hz
      omega
   omega
theorem cc0_keep (hs : (C6 W g a0 a1 a2 a3 a4 a5) ∧ C6 W h b0 b1 b2 b3 b4 b5) (hb : Below W.heap.size W V) : (C6 V g a0 a1 a2 a3 a4 a5) ∧ C6 V h b0 b1 b2 b3 b4 b5 := ⟨six_keep0 hs.1 hb, six_keep0 hs.2 hb⟩
theorem cc0_st6 {r : Nat} (e : V = ((((((W.setCell ⟨r, 0, none⟩ x0).setCell ⟨r, 1, none⟩ x1).setCell ⟨r, 2, none⟩ x2).setCell ⟨r, 3, none⟩ x3).setCell ⟨r, 4, none⟩ x4).setCell ⟨r, 5, none⟩ x5)) (hg : r ≠ g) (hh : r ≠ h) (hs : (C6 W g a0 a1 a2 a3 a4 a5) ∧ C6 W h b0 b1 b2 b3 b4 b5) : (C6 V g a0 a1 a2 a3 a4 a5) ∧ C6 V h b0 b1 b2 b3 b4 b5 := by
 subst e
 exact ⟨st6_0 hg hs.1, st6_0 hh hs.2⟩
theorem nm_ivw {P : Int × Int} {s0 s1 : Bool} {l0 l1 : List Nat} (h0 : Nm P.1 s0 l0) (h1 : Nm P.2 s1 l1) (b0 : -bigZ < P.1 ∧ P.1 < bigZ) (b1 : -bigZ < P.2 ∧ P.2 < bigZ) : IvW P ⟨false, s0, l0, false, s1, l1⟩ := by
 have A := nm_e b0
 have B := nm_e b1
 exact ⟨⟨(nLo_no b0.1).symm, h0.1.trans A.1.symm, h0.2.trans A.2.symm⟩, (nHi_no b1.2).symm, h1.1.trans B.1.symm, h1.2.trans B.2.symm⟩
theorem icrossT_w {w : World} {p : Iv} (hp : IvW P p) (gp : IvN 3200 P.1 P.2) (hq : IvW Q q) (gq : IvN 1 Q.1 Q.2) (h0 : (0 < Q.1 ∧ Q.1 < bigZ) ∧ 0 < Q.2 ∧ Q.2 < bigZ) (hr : IvW (ivM P Q) r) (u1 : U64s w Z1 A a p.l0) (u2 : U64s w Z2 B b p.l1) (u3 : U64s w Z3 C c q.l0) (u4 : U64s w Z4 D d q.l1) :
  Calls Tryz.prog 145 #[.agg #[.bool p.n0, .bool p.s0, .slice A p.l0.length a, .bool p.n1, .bool p.s1, .slice B p.l1.length b], .agg #[.bool q.n0, .bool q.s0, .slice C q.l0.length c, .bool q.n1, .bool q.s1, .slice D q.l1.length d], .func (.func 146) #[] #[]] w fun e w' => ∃ rA ra rB rb, e = .returned (.agg #[.bool r.n0, .bool r.s0, .slice rA r.l0.length ra, .bool r.n1, .bool r.s1, .slice rB r.l1.length rb]) ∧ U64s w' (new w.heap.size) rA ra r.l0 ∧ U64s w' (new w.heap.size) rB rb r.l1 ∧ Below w.heap.size w w' := by
 have E := hp.k gp (by omega)
 have F := hq.k gq (by omega)
 have g := ivM_ok gp gq (by omega)
 exact icrossed_times u1 u2 u3 u4 E.ok F.ok (by have := E.q0; omega) (by have := E.q1; omega) (by have := F.q0; omega) (by have := F.q1; omega) (z0 := ((ivM P Q)).1) (z1 := ((ivM P Q)).2) (by rw [E.lo, F.lo, E.hi, F.hi] <;> rfl) (by rw [E.lo, F.lo, E.hi, F.hi] <;> rfl) g.nlo g.nhi hr.1 hr.2
theorem icrossD_w {w : World} {p : Iv} (hp : IvW P p) (gp : IvN 3200 P.1 P.2) (hq : IvW Q q) (gq : IvN 1 Q.1 Q.2) (h0 : (0 < Q.1 ∧ Q.1 < bigZ) ∧ 0 < Q.2 ∧ Q.2 < bigZ) (hr : IvW (shrLo P.1 P.2 Q.1 Q.2, shrHi P.1 P.2 Q.1 Q.2) r) (u1 : U64s w Z1 A a p.l0) (u2 : U64s w Z2 B b p.l1) (u3 : U64s w Z3 C c q.l0) (u4 : U64s w Z4 D d q.l1) :
  Calls Tryz.prog 145 #[.agg #[.bool p.n0, .bool p.s0, .slice A p.l0.length a, .bool p.n1, .bool p.s1, .slice B p.l1.length b], .agg #[.bool q.n0, .bool q.s0, .slice C q.l0.length c, .bool q.n1, .bool q.s1, .slice D q.l1.length d], .func (.func 171) #[] #[]] w fun e w' => ∃ rA ra rB rb, e = .returned (.agg #[.bool r.n0, .bool r.s0, .slice rA r.l0.length ra, .bool r.n1, .bool r.s1, .slice rB r.l1.length rb]) ∧ U64s w' (new w.heap.size) rA ra r.l0 ∧ U64s w' (new w.heap.size) rB rb r.l1 ∧ Below w.heap.size w w' := by
 have F := hp.k gp (by omega)
 have E := hq.k gq (by omega)
 have g := ivn_shr (M := 1) gp h0.1.1 h0.2.1 (by omega)
 exact icrossed_down u1 u2 u3 u4 F.ok E.ok (by have := F.q0; omega) (by have := F.q1; omega) (by have := E.q0; omega) (by have := E.q1; omega) (by rw [E.lo, E.hi]; exact h0) (z0 := ((shrLo P.1 P.2 Q.1 Q.2, shrHi P.1 P.2 Q.1 Q.2)).1) (z1 := ((shrLo P.1 P.2 Q.1 Q.2, shrHi P.1 P.2 Q.1 Q.2)).2) (by rw [F.lo, E.lo, F.hi, E.hi] <;> rfl) (by rw [F.lo, E.lo, F.hi, E.hi] <;> rfl) g.nlo g.nhi hr.1 hr.2
theorem ishift_any {o : Value} {w : World} {p : Iv} (hp : IvW P p) (gp : IvN 3200 P.1 P.2) (hq : IvW Q q) (gq : IvN 6000 Q.1 Q.2) (u1 : U64s w Z1 A a p.l0) (u2 : U64s w Z2 B b p.l1) (u3 : U64s w Z3 C c q.l0) (u4 : U64s w Z4 D d q.l1) (hle : (shK Q).1 ≤ (shK Q).2) (hC : ∀ {W : World} {Z1 Z2 Z3 Z4 : Zone} {t : Iv} {A B C D : Option Addr} {a b c d : Nat}, IvW (shT Q) t → U64s W Z1 A a p.l0 → U64s W Z2 B b p.l1 → U64s W Z3 C c t.l0 → U64s W Z4 D d t.l1 → Calls Tryz.prog 145 #[.agg #[.bool p.n0, .bool p.s0, .slice A p.l0.length a, .bool p.n1, .bool p.s1, .slice B p.l1.length b], .agg #[.bool t.n0, .bool t.s0, .slice C t.l0.length c, .bool t.n1, .bool t.s1, .slice D t.l1.length d], o] W fun e w' => ∃ rA ra rB rb, e = .returned (.agg #[.bool r.n0, .bool r.s0, .slice rA r.l0.length ra, .bool r.n1, .bool r.s1, .slice rB r.l1.length rb]) ∧ U64s w' (new W.heap.size) rA ra r.l0 ∧ U64s w' (new W.heap.size) rB rb r.l1 ∧ Below W.heap.size W w') :
  Calls Tryz.prog 170 #[.agg #[.bool p.n0, .bool p.s0, .slice A p.l0.length a, .bool p.n1, .bool p.s1, .slice B p.l1.length b], .agg #[.bool q.n0, .bool q.s0, .slice C q.l0.length c, .bool q.n1, .bool q.s1, .slice D q.l1.length d], o] w fun e w' => ∃ rA ra rB rb, e = .returned (.tuple #[.agg #[.bool r.n0, .bool r.s0, .slice rA r.l0.length ra, .bool r.n1, .bool r.s1, .slice rB r.l1.length rb], .int .i64 0]) ∧ U64s w' (new w.heap.size) rA ra r.l0 ∧ U64s w' (new w.heap.size) rB rb r.l1 ∧ Below w.heap.size w w' := by
 obtain ⟨bA, bB, bR, S⟩ := boxX w (.bool p.n0) (.bool p.s0) (.slice A p.l0.length a) (.bool p.n1) (.bool p.s1) (.slice B p.l1.length b) (.bool q.n0) (.bool q.s0) (.slice C q.l0.length c) (.bool q.n1) (.bool q.s1) (.slice D q.l1.length d) (.bool false) (.bool false) (.slice none 0 0) (.bool false) (.bool false) (.slice none 0 0) 39
 have Kf := S.alloc S.size (.cells #[.bool p.n0, .bool p.s0, .slice A p.l0.length a, .bool p.n1, .bool p.s1, .slice B p.l1.length b, .bool q.n0, .bool q.s0, .slice C q.l0.length c, .bool q.n1, .bool q.s1, .slice D q.l1.length d] 39)
 have hg := given_twoA (p := p) (q := q) (ty := 39) (u1.below S) (u2.below S) (u3.below S) (u4.below S)
 rw [show (((w.alloc (.cells #[.bool p.n0, .bool p.s0, .slice A p.l0.length a, .bool p.n1, .bool p.s1, .slice B p.l1.length b] 39)).alloc (.cells #[.bool q.n0, .bool q.s0, .slice C q.l0.length c, .bool q.n1, .bool q.s1, .slice D q.l1.length d] 39)).alloc (.cells #[.bool false, .bool false, .slice none 0 0, .bool false, .bool false, .slice none 0 0] 39)).heap.size = w.heap.size + 3 by simp] at hg
 have kp := hp.k gp (by omega)
 have kq := hq.k gq (by omega)
 have Kg := ichecked_any (n := 2) (c := 2) hg rfl (by simp) (by intro p' hp'; simp only [List.mem_cons, List.not_mem_nil, or_false] at hp'; rcases hp' with rfl | rfl <;> exact ⟨by have := kp.q0; have := kq.q0; omega, by have := kp.q1; have := kq.q1; omega⟩)
 rw [errAs_two, if_pos ⟨kp.ok, kq.ok⟩] at Kg
 obtain ⟨R, V, G, Kv, Kw⟩ := hid5 (bA.alloc (.cells #[.bool p.n0, .bool p.s0, .slice A p.l0.length a, .bool p.n1, .bool p.s1, .slice B p.l1.length b, .bool q.n0, .bool q.s0, .slice C q.l0.length c, .bool q.n1, .bool q.s1, .slice D q.l1.length d] 39)) (bB.alloc (.cells #[.bool p.n0, .bool p.s0, .slice A p.l0.length a, .bool p.n1, .bool p.s1, .slice B p.l1.length b, .bool q.n0, .bool q.s0, .slice C q.l0.length c, .bool q.n1, .bool q.s1, .slice D q.l1.length d] 39)) (bR.alloc (.cells #[.bool p.n0, .bool p.s0, .slice A p.l0.length a, .bool p.n1, .bool p.s1, .slice B p.l1.length b, .bool q.n0, .bool q.s0, .slice C q.l0.length c, .bool q.n1, .bool q.s1, .slice D q.l1.length d] 39)) Kg Kf
 have a0 := bA.all
 obtain ⟨b0, b1, b2, b3, b4, b5, _, _, _, _, _, _, _⟩ := bB
 have KH : 0 ≤ (shK Q).1 := by unfold shK; dsimp only; omega
 have KI : (shK Q).2 ≤ 63 := by unfold shK; dsimp only; omega
 obtain ⟨j, Ki⟩ : ∃ j : Nat, (j : Int) = (shK Q).1 := ⟨(shK Q).1.toNat, by omega⟩
 obtain ⟨m, Kj⟩ : ∃ m : Nat, (m : Int) = (shK Q).2 := ⟨(shK Q).2.toNat, by omega⟩
 have Kf := big_one
 have KJ := wN_le (show 1 ≤ 6400 by omega)
 have KK : wN 1 = 18446744073709551616 := wN_one
 have hT := shT_ok hle
 have Kq : (shT Q).1 = ((2 ^ j : Nat) : Int) := by unfold shT; rw [← Ki]; rfl
 have Kr : (shT Q).2 = ((2 ^ m : Nat) : Int) := by unfold shT; rw [← Kj]; rfl
 obtain ⟨u, X, Kk⟩ : ∃ s l, Nm (j : Int) s l := ⟨_, _, rfl, rfl⟩
 obtain ⟨z, Y, Kl⟩ : ∃ s l, Nm (m : Int) s l := ⟨_, _, rfl, rfl⟩
 obtain ⟨KO, Kx, Km⟩ : ∃ s l, Nm ((2 ^ j : Nat) : Int) s l := ⟨_, _, rfl, rfl⟩
 obtain ⟨KP, Ky, Kn⟩ : ∃ s l, Nm ((2 ^ m : Nat) : Int) s l := ⟨_, _, rfl, rfl⟩
 have kw : IvW (shK Q) ⟨false, u, X, false, z, Y⟩ := nm_ivw (by rw [← Ki]; exact Kk) (by rw [← Kj]; exact Kl) (by omega) (by omega)
 have tw : IvW (shT Q) ⟨false, KO, Kx, false, KP, Ky⟩ := nm_ivw (by rw [Kq]; exact Km) (by rw [Kr]; exact Kn) (by omega) (by omega)
 obtain ⟨Ka, T, Kz⟩ : ∃ s l, Nm (0 : Int) s l := ⟨_, _, rfl, rfl⟩
 obtain ⟨Kb, U, KA⟩ : ∃ s l, Nm (63 : Int) s l := ⟨_, _, rfl, rfl⟩
 have M : IvW (0, 63) ⟨false, Ka, T, false, Kb, U⟩ := nm_ivw Kz KA (by dsimp only; omega) (by dsimp only; omega)
 have xg : IvN 1 (0 : Int) 63 := ⟨.inr (.inr (by omega)), .inr (.inr (by omega)), by omega, by omega, by omega⟩
 have OF : Hid (∀ W, Calls Tryz.prog 24 #[.int .i64 0, .int .i64 63] W fun e w' => ∃ A c B d, e = .returned (.tuple #[.agg #[.bool false, .bool Ka, .slice A T.length c, .bool false, .bool Kb, .slice B U.length d], .int .i64 0]) ∧ U64s w' (new W.heap.size) A c T ∧ U64s w' (new W.heap.size) B d U ∧ Below W.heap.size W w') := fun W => by
  have h := iof_good (w := W) (x := 0) (y := 63) (by omega) (by omega) (by omega)
  rw [← M.1.1, ← M.1.2.1, ← M.1.2.2, ← M.2.1, ← M.2.2.1, ← M.2.2.2] at h
  exact h
 obtain ⟨MT, P0, P1, CR⟩ := hid4 (fun (W : World) (Z5 Z6 : Zone) (E F : Option Addr) (e f : Nat) (h : Below w.heap.size w W) (v0 : U64s W Z5 E e T) (v1 : U64s W Z6 F f U) => imeet_w (w := W) hq gq (by omega) M xg (by omega) kw (g := true) (decide_eq_true hle) (u3.below h) (u4.below h) v0 v1) (fun (W : World) (Z5 : Zone) (E : Option Addr) (e : Nat) (v : U64s W Z5 E e X) => ipower_w Kk (by omega) Km v) (fun (W : World) (Z5 : Zone) (E : Option Addr) (e : Nat) (v : U64s W Z5 E e Y) => ipower_w Kl (by omega) Kn v) (fun (W : World) (Z5 Z6 : Zone) (E F : Option Addr) (e f : Nat) (h : Below w.heap.size w W) (v0 : U64s W Z5 E e Kx) (v1 : U64s W Z6 F f Ky) => hC tw (u1.below h) (u2.below h) v0 v1)
 clear hg Kg Kf bR S u1 u2 u3 u4 hp hq gp gq hC kp kq hle KH KI Ki Kj KJ KK hT Kq Kr Kk Kl Km Kn kw tw Kz KA M xg
 go_enter Tryz.func170, Tryz.ntmps170
 go_wp2_with fail
 refine Kv.out.mono ?_
 rintro e w1 ⟨rfl, H⟩
 have O := hid (from_ Kw.out H)
 replace G := hid (G.out.below H)
 replace R := hid (R.out.below H)
 replace V := hid (V.out.below H)
 clear a0 b0 b1 b2 b3 b4 b5 Kv Kw H
 go_wp2_with fail
 refine (OF.out _).mono ?_
 rintro e Z ⟨X0, x0, X1, x1, rfl, KB, KC, H⟩
 go_upto_region 5 with fail
 have L : Below Z.heap.size Z (Z.alloc (.cells #[.bool false, .bool Ka, .slice X0 T.length x0, .bool false, .bool Kb, .slice X1 U.length x1] 39)) := (Below.refl _ _).alloc (Nat.le_refl _) _
 have BX := hid (Box6.new Z (.bool false) (.bool Ka) (.slice X0 T.length x0) (.bool false) (.bool Kb) (.slice X1 U.length x1) 39)
 obtain ⟨gX, Ko⟩ : ∃ gX, gX = Z.heap.size := ⟨_, rfl⟩
 rw [← Ko] at BX
 have J := from_ H L
 obtain ⟨KD, KE⟩ := hid2 (KB.below L) (KC.below L)
 replace G := hid (G.out.below J)
 replace R := hid (R.out.below J)
 replace V := hid (V.out.below J)
 replace O := hid (from_ O.out J)
 clear H L J KB KC OF
 generalize hWx : Z.alloc (.cells #[.bool false, .bool Ka, .slice X0 T.length x0, .bool false, .bool Kb, .slice X1 U.length x1] 39) = W2 at *
 try simp only [← Ko]
 clear hWx Ko
 have b0 := V.out.all
 have y0 := BX.out.all
 go_wp2_with fail
 refine (MT.out _ _ _ _ _ _ _ O.out KD.out KE.out).mono ?_
 rintro e i ⟨hT, _, H⟩
 obtain ⟨K0, Kd, K1, Ke, rfl, KF, KG⟩ := hT (by first | rfl | trivial)
 clear hT b0 y0 BX V KD KE MT
 go_upto_region 9 with fail
 have L : Below i.heap.size i (i.alloc (.cells #[.bool false, .bool u, .slice K0 X.length Kd, .bool false, .bool z, .slice K1 Y.length Ke] 39)) := (Below.refl _ _).alloc (Nat.le_refl _) _
 have BK := hid (Box6.new i (.bool false) (.bool u) (.slice K0 X.length Kd) (.bool false) (.bool z) (.slice K1 Y.length Ke) 39)
 obtain ⟨gK, Kp⟩ : ∃ gK, gK = i.heap.size := ⟨_, rfl⟩
 rw [← Kp] at BK
 have Ks := G.out.lt
 have J := from_ H L
 obtain ⟨KQ, KR⟩ := hid2 (KF.below L) (KG.below L)
 obtain ⟨gR, Kc⟩ : ∃ gR, gR = w.heap.size + 2 := ⟨_, rfl⟩
 have KL := H.size
 replace G := hid (G.out.below J)
 replace R := hid (R.out.below J)
 rw [← Kc] at G Ks
 obtain ⟨N1, N2, KS⟩ := hid3 (show gR ≠ w.heap.size by omega) (show gR ≠ gK by omega) Kc
 replace O := hid (from_ O.out J)
 simp only [show w.heap.size + 2 = gR from Kc.symm, show w.heap.size + 1 + 1 = gR from Kc.symm]
 clear H L J KF KG Ks KL Kc
 generalize hWx : i.alloc (.cells #[.bool false, .bool u, .slice K0 X.length Kd, .bool false, .bool z, .slice K1 Y.length Ke] 39) = W3 at *
 try simp only [← Kp]
 clear hWx Kp
 have N := cc0_keep (And.intro R.out.all BK.out.all) bdr_
 have K := hid (Below.refl W3.heap.size W3).drew
 replace G := hid (G.out.below bdr_)
 first | go_region_held3 (fun w' => (C6 w' w.heap.size (.bool p.n0) (.bool p.s0) (.slice A p.l0.length a) (.bool p.n1) (.bool p.s1) (.slice B p.l1.length b)) ∧ C6 w' gK (.bool false) (.bool u) (.slice K0 X.length Kd) (.bool false) (.bool z) (.slice K1 Y.length Ke))
  (first
   | with_reducible exact N
   | (with_reducible apply cc0_st6 rfl <;> (first | with_reducible exact N | with_reducible exact N1.out | with_reducible exact N2.out)))
  (first
   | (go_at_call 220; with_reducible refine (P0.out _ _ _ _ (KQ.out.below K.out)).mono ?_; rintro e w4 ⟨T0, t0, rfl, Kh, I⟩; replace N := cc0_keep N I; replace G := hid (G.out.below I); replace K := hid (from_ K.out I))
   | (go_at_call 220; with_reducible refine (P1.out _ _ _ _ (KR.out.below K.out)).mono ?_; rintro e w4 ⟨T1, t1, rfl, KT, I⟩; replace Kh := Kh.below I; replace N := cc0_keep N I; replace G := hid (G.out.below I); replace K := hid (from_ K.out I))
   | (go_at_call 145; with_reducible refine (CR.out _ _ _ _ _ _ _ (from_ O.out K.out) Kh KT).mono ?_; rintro e w4 ⟨E0, e0, E1, e1, rfl, o0, o1, I⟩; have KM := G.out.lt; replace N := cc0_keep N I; replace G := hid (G.out.below I); replace K := hid (from_ K.out I); have g0 := G.out.cf)) | fail
 all_goals
  have KN := KS.out
  have Kt : w.heap.size ≤ gR := by omega
  obtain ⟨HP, U1, U2⟩ := hid3 (G.out.put (w := w) (from_ O.out K.out) Kt (.bool r.n0) (.bool r.s0) (.slice E0 r.l0.length e0) (.bool r.n1) (.bool r.s1) (.slice E1 r.l1.length e1)) ((o0.set6 (g := gR) (fun (h : _ ≤ gR) => by omega) (.bool r.n0) (.bool r.s0) (.slice E0 r.l0.length e0) (.bool r.n1) (.bool r.s1) (.slice E1 r.l1.length e1)).mono (new_le (show w.heap.size ≤ _ by omega))) ((o1.set6 (g := gR) (fun (h : _ ≤ gR) => by omega) (.bool r.n0) (.bool r.s0) (.slice E0 r.l0.length e0) (.bool r.n1) (.bool r.s1) (.slice E1 r.l1.length e1)).mono (new_le (show w.heap.size ≤ _ by omega)))
  clear o0 o1 KN Kt KM
  go_wp2
  refine bodyPost_ret (res_itv2 rfl _ gR rfl HP.out.box) rfl ?_
  exact ⟨_, _, _, _, rfl, U1.out, U2.out, HP.out.bel⟩
theorem ishiftT_w {w : World} {p : Iv} (hp : IvW P p) (gp : IvN 3200 P.1 P.2) (hq : IvW Q q) (gq : IvN 6000 Q.1 Q.2) (u1 : U64s w Z1 A a p.l0) (u2 : U64s w Z2 B b p.l1) (u3 : U64s w Z3 C c q.l0) (u4 : U64s w Z4 D d q.l1) (hle : (shK Q).1 ≤ (shK Q).2) (hr : IvW (shlP P Q) r) :
  Calls Tryz.prog 170 #[.agg #[.bool p.n0, .bool p.s0, .slice A p.l0.length a, .bool p.n1, .bool p.s1, .slice B p.l1.length b], .agg #[.bool q.n0, .bool q.s0, .slice C q.l0.length c, .bool q.n1, .bool q.s1, .slice D q.l1.length d], .func (.func 146) #[] #[]] w fun e w' => ∃ rA ra rB rb, e = .returned (.tuple #[.agg #[.bool r.n0, .bool r.s0, .slice rA r.l0.length ra, .bool r.n1, .bool r.s1, .slice rB r.l1.length rb], .int .i64 0]) ∧ U64s w' (new w.heap.size) rA ra r.l0 ∧ U64s w' (new w.heap.size) rB rb r.l1 ∧ Below w.heap.size w w' :=
 ishift_any hp gp hq gq u1 u2 u3 u4 hle fun tw v1 v2 v3 v4 => icrossT_w hp gp tw (shT_ok hle).1 (shT_ok hle).2 hr v1 v2 v3 v4
theorem ishiftD_w {w : World} {p : Iv} (hp : IvW P p) (gp : IvN 3200 P.1 P.2) (hq : IvW Q q) (gq : IvN 6000 Q.1 Q.2) (u1 : U64s w Z1 A a p.l0) (u2 : U64s w Z2 B b p.l1) (u3 : U64s w Z3 C c q.l0) (u4 : U64s w Z4 D d q.l1) (hle : (shK Q).1 ≤ (shK Q).2) (hr : IvW (shrP P Q) r) :
  Calls Tryz.prog 170 #[.agg #[.bool p.n0, .bool p.s0, .slice A p.l0.length a, .bool p.n1, .bool p.s1, .slice B p.l1.length b], .agg #[.bool q.n0, .bool q.s0, .slice C q.l0.length c, .bool q.n1, .bool q.s1, .slice D q.l1.length d], .func (.func 171) #[] #[]] w fun e w' => ∃ rA ra rB rb, e = .returned (.tuple #[.agg #[.bool r.n0, .bool r.s0, .slice rA r.l0.length ra, .bool r.n1, .bool r.s1, .slice rB r.l1.length rb], .int .i64 0]) ∧ U64s w' (new w.heap.size) rA ra r.l0 ∧ U64s w' (new w.heap.size) rB rb r.l1 ∧ Below w.heap.size w w' :=
 ishift_any hp gp hq gq u1 u2 u3 u4 hle fun tw v1 v2 v3 v4 => icrossD_w hp gp tw (shT_ok hle).1 (shT_ok hle).2 hr v1 v2 v3 v4
theorem ishl_w {w : World} {p : Iv} (hp : IvW P p) (gp : IvN 3200 P.1 P.2) (hq : IvW Q q) (gq : IvN 6000 Q.1 Q.2) (u1 : U64s w Z1 A a p.l0) (u2 : U64s w Z2 B b p.l1) (u3 : U64s w Z3 C c q.l0) (u4 : U64s w Z4 D d q.l1) (hle : (shK Q).1 ≤ (shK Q).2) (hr : IvW (shlP P Q) r) :
  Calls Tryz.prog 125 #[.agg #[.bool p.n0, .bool p.s0, .slice A p.l0.length a, .bool p.n1, .bool p.s1, .slice B p.l1.length b], .agg #[.bool q.n0, .bool q.s0, .slice C q.l0.length c, .bool q.n1, .bool q.s1, .slice D q.l1.length d]] w fun e w' => ∃ rA ra rB rb, e = .returned (.tuple #[.agg #[.bool r.n0, .bool r.s0, .slice rA r.l0.length ra, .bool r.n1, .bool r.s1, .slice rB r.l1.length rb], .int .i64 0]) ∧ U64s w' (new w.heap.size) rA ra r.l0 ∧ U64s w' (new w.heap.size) rB rb r.l1 ∧ Below w.heap.size w w' := by
 obtain ⟨X, Y, M, E⟩ := boxX w (.bool p.n0) (.bool p.s0) (.slice A p.l0.length a) (.bool p.n1) (.bool p.s1) (.slice B p.l1.length b) (.bool q.n0) (.bool q.s0) (.slice C q.l0.length c) (.bool q.n1) (.bool q.s1) (.slice D q.l1.length d) (.bool false) (.bool false) (.slice none 0 0) (.bool false) (.bool false) (.slice none 0 0) 39
 obtain ⟨J, N, F⟩ := hid3 (ishiftT_w hp gp hq gq (u1.below E) (u2.below E) (u3.below E) (u4.below E) hle hr) M E
 have U := X.all
 have V := Y.all
 clear M E u1 u2 u3 u4 hp gp hq gq hle hr
 go_enter Tryz.func125, Tryz.ntmps125
 go_wp2_with fail
 refine J.out.mono ?_
 rintro e m ⟨G, H, I, K, rfl, O, S, L⟩
 have R := N.out.below L
 have W := N.out.lt
 obtain ⟨T, Z, i⟩ := hid3 (R.put (w := w) (from_ F.out L) (show w.heap.size ≤ w.heap.size + 2 by omega) (.bool r.n0) (.bool r.s0) (.slice G r.l0.length H) (.bool r.n1) (.bool r.s1) (.slice I r.l1.length K)) ((O.set6 (g := w.heap.size + 2) (fun (h : _ ≤ w.heap.size + 2) => by omega) (.bool r.n0) (.bool r.s0) (.slice G r.l0.length H) (.bool r.n1) (.bool r.s1) (.slice I r.l1.length K)).mono (new_le F.out.size)) ((S.set6 (g := w.heap.size + 2) (fun (h : _ ≤ w.heap.size + 2) => by omega) (.bool r.n0) (.bool r.s0) (.slice G r.l0.length H) (.bool r.n1) (.bool r.s1) (.slice I r.l1.length K)).mono (new_le F.out.size))
 have j := R.cf
 clear L W O S U V
 go_wp2
 refine bodyPost_ret (res_itv2 rfl _ (w.heap.size + 2) rfl T.out.box) rfl ?_
 exact ⟨_, _, _, _, rfl, Z.out, i.out, T.out.bel⟩
theorem ishr_w {w : World} {p : Iv} (hp : IvW P p) (gp : IvN 3200 P.1 P.2) (hq : IvW Q q) (gq : IvN 6000 Q.1 Q.2) (u1 : U64s w Z1 A a p.l0) (u2 : U64s w Z2 B b p.l1) (u3 : U64s w Z3 C c q.l0) (u4 : U64s w Z4 D d q.l1) (hle : (shK Q).1 ≤ (shK Q).2) (hr : IvW (shrP P Q) r) :
  Calls Tryz.prog 126 #[.agg #[.bool p.n0, .bool p.s0, .slice A p.l0.length a, .bool p.n1, .bool p.s1, .slice B p.l1.length b], .agg #[.bool q.n0, .bool q.s0, .slice C q.l0.length c, .bool q.n1, .bool q.s1, .slice D q.l1.length d]] w fun e w' => ∃ rA ra rB rb, e = .returned (.tuple #[.agg #[.bool r.n0, .bool r.s0, .slice rA r.l0.length ra, .bool r.n1, .bool r.s1, .slice rB r.l1.length rb], .int .i64 0]) ∧ U64s w' (new w.heap.size) rA ra r.l0 ∧ U64s w' (new w.heap.size) rB rb r.l1 ∧ Below w.heap.size w w' := by
 obtain ⟨X, Y, M, E⟩ := boxX w (.bool p.n0) (.bool p.s0) (.slice A p.l0.length a) (.bool p.n1) (.bool p.s1) (.slice B p.l1.length b) (.bool q.n0) (.bool q.s0) (.slice C q.l0.length c) (.bool q.n1) (.bool q.s1) (.slice D q.l1.length d) (.bool false) (.bool false) (.slice none 0 0) (.bool false) (.bool false) (.slice none 0 0) 39
 obtain ⟨J, N, F⟩ := hid3 (ishiftD_w hp gp hq gq (u1.below E) (u2.below E) (u3.below E) (u4.below E) hle hr) M E
 have U := X.all
 have V := Y.all
 clear M E u1 u2 u3 u4 hp gp hq gq hle hr
 go_enter Tryz.func126, Tryz.ntmps126
 go_wp2_with fail
 refine J.out.mono ?_
 rintro e m ⟨G, H, I, K, rfl, O, S, L⟩
 have R := N.out.below L
 have W := N.out.lt
 obtain ⟨T, Z, i⟩ := hid3 (R.put (w := w) (from_ F.out L) (show w.heap.size ≤ w.heap.size + 2 by omega) (.bool r.n0) (.bool r.s0) (.slice G r.l0.length H) (.bool r.n1) (.bool r.s1) (.slice I r.l1.length K)) ((O.set6 (g := w.heap.size + 2) (fun (h : _ ≤ w.heap.size + 2) => by omega) (.bool r.n0) (.bool r.s0) (.slice G r.l0.length H) (.bool r.n1) (.bool r.s1) (.slice I r.l1.length K)).mono (new_le F.out.size)) ((S.set6 (g := w.heap.size + 2) (fun (h : _ ≤ w.heap.size + 2) => by omega) (.bool r.n0) (.bool r.s0) (.slice G r.l0.length H) (.bool r.n1) (.bool r.s1) (.slice I r.l1.length K)).mono (new_le F.out.size))
 have j := R.cf
 clear L W O S U V
 go_wp2
 refine bodyPost_ret (res_itv2 rfl _ (w.heap.size + 2) rfl T.out.box) rfl ?_
 exact ⟨_, _, _, _, rfl, Z.out, i.out, T.out.bel⟩
theorem idiv_zero {w : World} {p : Iv} (hp : IvW P p) (gp : IvN 6000 P.1 P.2) (hq : IvW Q q) (gq : IvN 6000 Q.1 Q.2) (u1 : U64s w Z1 A a p.l0) (u2 : U64s w Z2 B b p.l1) (u3 : U64s w Z3 C c q.l0) (u4 : U64s w Z4 D d q.l1) (hne : partsP Q = []) :
  Calls Tryz.prog 123 #[.agg #[.bool p.n0, .bool p.s0, .slice A p.l0.length a, .bool p.n1, .bool p.s1, .slice B p.l1.length b], .agg #[.bool q.n0, .bool q.s0, .slice C q.l0.length c, .bool q.n1, .bool q.s1, .slice D q.l1.length d]] w fun e w' => e = .returned (.tuple #[.agg #[.bool false, .bool false, .slice none 0 0, .bool false, .bool false, .slice none 0 0], .int .i64 30]) ∧ Below w.heap.size w w' := by
 obtain ⟨Z, g, i, F⟩ := boxX w (.bool p.n0) (.bool p.s0) (.slice A p.l0.length a) (.bool p.n1) (.bool p.s1) (.slice B p.l1.length b) (.bool q.n0) (.bool q.s0) (.slice C q.l0.length c) (.bool q.n1) (.bool q.s1) (.slice D q.l1.length d) (.bool false) (.bool false) (.slice none 0 0) (.bool false) (.bool false) (.slice none 0 0) 39
 have S := F.alloc F.size (.cells #[.bool p.n0, .bool p.s0, .slice A p.l0.length a, .bool p.n1, .bool p.s1, .slice B p.l1.length b, .bool q.n0, .bool q.s0, .slice C q.l0.length c, .bool q.n1, .bool q.s1, .slice D q.l1.length d] 39)
 have K := given_twoA (p := p) (q := q) (ty := 39) (u1.below F) (u2.below F) (u3.below F) (u4.below F)
 rw [show (((w.alloc (.cells #[.bool p.n0, .bool p.s0, .slice A p.l0.length a, .bool p.n1, .bool p.s1, .slice B p.l1.length b] 39)).alloc (.cells #[.bool q.n0, .bool q.s0, .slice C q.l0.length c, .bool q.n1, .bool q.s1, .slice D q.l1.length d] 39)).alloc (.cells #[.bool false, .bool false, .slice none 0 0, .bool false, .bool false, .slice none 0 0] 39)).heap.size = w.heap.size + 3 by simp] at K
 have G := hp.k gp (by omega)
 have H := hq.k gq (by omega)
 have L := ichecked_any (n := 2) (c := 2) K rfl (by simp) (by intro p' hp'; simp only [List.mem_cons, List.not_mem_nil, or_false] at hp'; rcases hp' with rfl | rfl <;> exact ⟨by have := G.q0; have := H.q0; omega, by have := G.q1; have := H.q1; omega⟩)
 rw [errAs_two, if_pos ⟨G.ok, H.ok⟩] at L
 obtain ⟨X, N, M, j, m⟩ := hid5 (Z.alloc (.cells #[.bool p.n0, .bool p.s0, .slice A p.l0.length a, .bool p.n1, .bool p.s1, .slice B p.l1.length b, .bool q.n0, .bool q.s0, .slice C q.l0.length c, .bool q.n1, .bool q.s1, .slice D q.l1.length d] 39)) (g.alloc (.cells #[.bool p.n0, .bool p.s0, .slice A p.l0.length a, .bool p.n1, .bool p.s1, .slice B p.l1.length b, .bool q.n0, .bool q.s0, .slice C q.l0.length c, .bool q.n1, .bool q.s1, .slice D q.l1.length d] 39)) (i.alloc (.cells #[.bool p.n0, .bool p.s0, .slice A p.l0.length a, .bool p.n1, .bool p.s1, .slice B p.l1.length b, .bool q.n0, .bool q.s0, .slice C q.l0.length c, .bool q.n1, .bool q.s1, .slice D q.l1.length d] 39)) L S
 have o := Z.all
 obtain ⟨O, s, u, v, x, y, _, _, _, _, _, _, _⟩ := g
 have T := hid (fun (W : World) (h : Below w.heap.size w W) => iparted_w hq gq (by omega) (u3.below h) (u4.below h))
 have U : Hid (∀ W, Below w.heap.size w W → Calls Tryz.prog 166 #[.agg #[.bool q.n0, .bool q.s0, .slice C q.l0.length c, .bool q.n1, .bool q.s1, .slice D q.l1.length d]] W fun e w' => ∃ I J, e = .returned (.slice I 0 J) ∧ Below W.heap.size W w') := fun W h => by
  refine (T.out W h).mono ?_
  rintro e w' ⟨I, J, rfl, _, _, z⟩
  exact ⟨I, J, by rw [hne]; rfl, z⟩
 clear K L S i F u1 u2 u3 u4 hp hq gp gq hne G H T
 go_enter Tryz.func123, Tryz.ntmps123
 go_wp2_with fail
 refine j.out.mono ?_
 rintro e w1 ⟨rfl, E⟩
 have V := hid (from_ m.out E)
 replace M := hid (M.out.below E)
 replace X := hid (X.out.below E)
 replace N := hid (N.out.below E)
 clear o O s u v x y j m
 have O := N.out.all
 clear E
 go_wp2_with fail
 refine (U.out _ V.out).mono ?_
 rintro e w2 ⟨I, J, rfl, E⟩
 have r := hid (from_ V.out E)
 have R := M.out.below E
 have Y := hid (R.put (w := w) r.out (show w.heap.size ≤ w.heap.size + 2 by omega) (.bool false) (.bool false) (.slice none 0 0) (.bool false) (.bool false) (.slice none 0 0))
 have g0 := R.cf
 clear O E U
 go_wp2
 refine bodyPost_ret (res_itv2 rfl _ (w.heap.size + 2) rfl Y.out.box) rfl ?_
 exact ⟨by first | rfl | trivial, Y.out.bel⟩
theorem ishift_none {o : Value} {w : World} {p : Iv} (hp : IvW P p) (gp : IvN 3200 P.1 P.2) (hq : IvW Q q) (gq : IvN 6000 Q.1 Q.2) (u1 : U64s w Z1 A a p.l0) (u2 : U64s w Z2 B b p.l1) (u3 : U64s w Z3 C c q.l0) (u4 : U64s w Z4 D d q.l1) (hle : ¬ (shK Q).1 ≤ (shK Q).2) :
  Calls Tryz.prog 170 #[.agg #[.bool p.n0, .bool p.s0, .slice A p.l0.length a, .bool p.n1, .bool p.s1, .slice B p.l1.length b], .agg #[.bool q.n0, .bool q.s0, .slice C q.l0.length c, .bool q.n1, .bool q.s1, .slice D q.l1.length d], o] w fun e w' => e = .returned (.tuple #[.agg #[.bool false, .bool false, .slice none 0 0, .bool false, .bool false, .slice none 0 0], .int .i64 2]) ∧ Below w.heap.size w w' := by
 obtain ⟨bA, bB, bR, L⟩ := boxX w (.bool p.n0) (.bool p.s0) (.slice A p.l0.length a) (.bool p.n1) (.bool p.s1) (.slice B p.l1.length b) (.bool q.n0) (.bool q.s0) (.slice C q.l0.length c) (.bool q.n1) (.bool q.s1) (.slice D q.l1.length d) (.bool false) (.bool false) (.slice none 0 0) (.bool false) (.bool false) (.slice none 0 0) 39
 have j := L.alloc L.size (.cells #[.bool p.n0, .bool p.s0, .slice A p.l0.length a, .bool p.n1, .bool p.s1, .slice B p.l1.length b, .bool q.n0, .bool q.s0, .slice C q.l0.length c, .bool q.n1, .bool q.s1, .slice D q.l1.length d] 39)
 have m := given_twoA (p := p) (q := q) (ty := 39) (u1.below L) (u2.below L) (u3.below L) (u4.below L)
 rw [show (((w.alloc (.cells #[.bool p.n0, .bool p.s0, .slice A p.l0.length a, .bool p.n1, .bool p.s1, .slice B p.l1.length b] 39)).alloc (.cells #[.bool q.n0, .bool q.s0, .slice C q.l0.length c, .bool q.n1, .bool q.s1, .slice D q.l1.length d] 39)).alloc (.cells #[.bool false, .bool false, .slice none 0 0, .bool false, .bool false, .slice none 0 0] 39)).heap.size = w.heap.size + 3 by simp] at m
 have X := hp.k gp (by omega)
 have Y := hq.k gq (by omega)
 have r := ichecked_any (n := 2) (c := 2) m rfl (by simp) (by intro p' hp'; simp only [List.mem_cons, List.not_mem_nil, or_false] at hp'; rcases hp' with rfl | rfl <;> exact ⟨by have := X.q0; have := Y.q0; omega, by have := X.q1; have := Y.q1; omega⟩)
 rw [errAs_two, if_pos ⟨X.ok, Y.ok⟩] at r
 obtain ⟨i, O, K, Kb, Kc⟩ := hid5 (bA.alloc (.cells #[.bool p.n0, .bool p.s0, .slice A p.l0.length a, .bool p.n1, .bool p.s1, .slice B p.l1.length b, .bool q.n0, .bool q.s0, .slice C q.l0.length c, .bool q.n1, .bool q.s1, .slice D q.l1.length d] 39)) (bB.alloc (.cells #[.bool p.n0, .bool p.s0, .slice A p.l0.length a, .bool p.n1, .bool p.s1, .slice B p.l1.length b, .bool q.n0, .bool q.s0, .slice C q.l0.length c, .bool q.n1, .bool q.s1, .slice D q.l1.length d] 39)) (bR.alloc (.cells #[.bool p.n0, .bool p.s0, .slice A p.l0.length a, .bool p.n1, .bool p.s1, .slice B p.l1.length b, .bool q.n0, .bool q.s0, .slice C q.l0.length c, .bool q.n1, .bool q.s1, .slice D q.l1.length d] 39)) r j
 have a0 := bA.all
 obtain ⟨u, b1, b2, b3, b4, b5, _, _, _, _, _, _, _⟩ := bB
 have j := big_one
 have Kj := wN_le (show 1 ≤ 6400 by omega)
 have Kk : wN 1 = 18446744073709551616 := wN_one
 obtain ⟨km, kw⟩ : ∃ km, IvW (shK Q) km := ⟨_, IvW.mk _⟩
 obtain ⟨U, M, Kd⟩ : ∃ s l, Nm (0 : Int) s l := ⟨_, _, rfl, rfl⟩
 obtain ⟨V, N, Ke⟩ : ∃ s l, Nm (63 : Int) s l := ⟨_, _, rfl, rfl⟩
 have H : IvW (0, 63) ⟨false, U, M, false, V, N⟩ := nm_ivw Kd Ke (by dsimp only; omega) (by dsimp only; omega)
 have xg : IvN 1 (0 : Int) 63 := ⟨.inr (.inr (by omega)), .inr (.inr (by omega)), by omega, by omega, by omega⟩
 have OF : Hid (∀ W, Calls Tryz.prog 24 #[.int .i64 0, .int .i64 63] W fun e w' => ∃ A c B d, e = .returned (.tuple #[.agg #[.bool false, .bool U, .slice A M.length c, .bool false, .bool V, .slice B N.length d], .int .i64 0]) ∧ U64s w' (new W.heap.size) A c M ∧ U64s w' (new W.heap.size) B d N ∧ Below W.heap.size W w') := fun W => by
  have h := iof_good (w := W) (x := 0) (y := 63) (by omega) (by omega) (by omega)
  rw [← H.1.1, ← H.1.2.1, ← H.1.2.2, ← H.2.1, ← H.2.2.1, ← H.2.2.2] at h
  exact h
 have MT := hid (fun (W : World) (Z5 Z6 : Zone) (E F : Option Addr) (e f : Nat) (h : Below w.heap.size w W) (v0 : U64s W Z5 E e M) (v1 : U64s W Z6 F f N) => imeet_w (w := W) hq gq (by omega) H xg (by omega) kw (g := false) (decide_eq_false hle) (u3.below h) (u4.below h) v0 v1)
 clear m r j bR L u1 u2 u3 u4 hp hq gp gq X Y hle Kj Kk kw Kd Ke H xg
 go_enter Tryz.func170, Tryz.ntmps170
 go_wp2_with fail
 refine Kb.out.mono ?_
 rintro e w1 ⟨rfl, G⟩
 have Z := hid (from_ Kc.out G)
 replace K := hid (K.out.below G)
 replace i := hid (i.out.below G)
 replace O := hid (O.out.below G)
 clear a0 u b1 b2 b3 b4 b5 Kb Kc G
 go_wp2_with fail
 refine (OF.out _).mono ?_
 rintro e S ⟨v, z, X1, x1, rfl, Kf, Kg, G⟩
 go_upto_region 5 with fail
 have I : Below S.heap.size S (S.alloc (.cells #[.bool false, .bool U, .slice v M.length z, .bool false, .bool V, .slice X1 N.length x1] 39)) := (Below.refl _ _).alloc (Nat.le_refl _) _
 have BX := hid (Box6.new S (.bool false) (.bool U) (.slice v M.length z) (.bool false) (.bool V) (.slice X1 N.length x1) 39)
 obtain ⟨gX, Ka⟩ : ∃ gX, gX = S.heap.size := ⟨_, rfl⟩
 rw [← Ka] at BX
 have T := from_ G I
 obtain ⟨Kh, Ki⟩ := hid2 (Kf.below I) (Kg.below I)
 replace K := hid (K.out.below T)
 replace i := hid (i.out.below T)
 replace O := hid (O.out.below T)
 replace Z := hid (from_ Z.out T)
 clear G I T Kf Kg OF
 generalize hWx : S.alloc (.cells #[.bool false, .bool U, .slice v M.length z, .bool false, .bool V, .slice X1 N.length x1] 39) = W2 at *
 try simp only [← Ka]
 clear hWx Ka
 have u := O.out.all
 have y0 := BX.out.all
 go_wp2_with fail
 refine (MT.out _ _ _ _ _ _ _ Z.out Kh.out Ki.out).mono ?_
 rintro e J ⟨_, hF, G⟩
 obtain rfl := hF (by first | rfl | trivial)
 have I : Below J.heap.size J (J.alloc (.cells #[.bool false, .bool false, .slice none 0 0, .bool false, .bool false, .slice none 0 0] 39)) := (Below.refl _ _).alloc (Nat.le_refl _) _
 have R := (K.out.below G).below I
 have HP := hid (R.put (w := w) (from_ (from_ Z.out G) I) (show w.heap.size ≤ w.heap.size + 2 by omega) (.bool false) (.bool false) (.slice none 0 0) (.bool false) (.bool false) (.slice none 0 0))
 have g0 := (K.out.below G).cf
 have Kl := K.out.lt
 have Km := G.size
 have n1 : ¬ J.heap.size = w.heap.size + 2 := by omega
 have n2 : ¬ w.heap.size + 2 = J.heap.size := by omega
 have n3 : ¬ J.heap.size = w.heap.size + 1 + 1 := by omega
 have n4 : ¬ w.heap.size + 1 + 1 = J.heap.size := by omega
 have G0 := R.cf
 clear hF G I u y0 BX O Kh Ki MT Km Kl g0
 go_upto_region 7 with fail
 generalize J.alloc (.cells #[.bool false, .bool false, .slice none 0 0, .bool false, .bool false, .slice none 0 0] 39) = W3 at *
 clear n1 n2 n3 n4
 go_wp2
 refine bodyPost_ret (res_itv2 rfl _ (w.heap.size + 2) rfl HP.out.box) rfl ?_
 exact ⟨by first | rfl | trivial, HP.out.bel⟩
theorem ishl_none {w : World} {p : Iv} (hp : IvW P p) (gp : IvN 3200 P.1 P.2) (hq : IvW Q q) (gq : IvN 6000 Q.1 Q.2) (u1 : U64s w Z1 A a p.l0) (u2 : U64s w Z2 B b p.l1) (u3 : U64s w Z3 C c q.l0) (u4 : U64s w Z4 D d q.l1) (hle : ¬ (shK Q).1 ≤ (shK Q).2) :
  Calls Tryz.prog 125 #[.agg #[.bool p.n0, .bool p.s0, .slice A p.l0.length a, .bool p.n1, .bool p.s1, .slice B p.l1.length b], .agg #[.bool q.n0, .bool q.s0, .slice C q.l0.length c, .bool q.n1, .bool q.s1, .slice D q.l1.length d]] w fun e w' => e = .returned (.tuple #[.agg #[.bool false, .bool false, .slice none 0 0, .bool false, .bool false, .slice none 0 0], .int .i64 2]) ∧ Below w.heap.size w w' := by
 obtain ⟨L, M, H, E⟩ := boxX w (.bool p.n0) (.bool p.s0) (.slice A p.l0.length a) (.bool p.n1) (.bool p.s1) (.slice B p.l1.length b) (.bool q.n0) (.bool q.s0) (.slice C q.l0.length c) (.bool q.n1) (.bool q.s1) (.slice D q.l1.length d) (.bool false) (.bool false) (.slice none 0 0) (.bool false) (.bool false) (.slice none 0 0) 39
 obtain ⟨J, N, O⟩ := hid3 (ishift_none (o := .func (.func 146) #[] #[]) hp gp hq gq (u1.below E) (u2.below E) (u3.below E) (u4.below E) hle) H E
 have I := L.all
 have K := M.all
 clear H E u1 u2 u3 u4 hp gp hq gq hle
 go_enter Tryz.func125, Tryz.ntmps125
 go_wp2_with fail
 refine J.out.mono ?_
 rintro e T ⟨rfl, F⟩
 have R := N.out.below F
 have G := hid (R.put (w := w) (from_ O.out F) (show w.heap.size ≤ w.heap.size + 2 by omega) (.bool false) (.bool false) (.slice none 0 0) (.bool false) (.bool false) (.slice none 0 0))
 have S := R.cf
 clear F I K
 go_wp2
 refine bodyPost_ret (res_itv2 rfl _ (w.heap.size + 2) rfl G.out.box) rfl ?_
 exact ⟨by first | rfl | trivial, G.out.bel⟩
theorem ivD_ok (h : IvN N P.1 P.2) (g : IvN N Q.1 Q.2) (h1 : 1 ≤ N) (hN : N ≤ 6000) (hne : partsP Q ≠ []) : IvN N (ivD P Q).1 (ivD P Q).2 := by
 obtain ⟨k, A⟩ : ∃ k, (partsP Q).length = k + 1 := by
  cases e : partsP Q with
  | nil => exact absurd e hne
  | cons q t => exact ⟨t.length, rfl⟩
 rw [← dK_all A]
 exact dK_ok h hN (parts_ok g h1) (by omega) k (by omega)
theorem U64s.away {w : World} {l : List Nat} (h : U64s w Z A c l) : ∃ Y : Zone, U64s w Y A c l ∧ ∀ g, w.heap.size ≤ g → ¬ Y.blk g :=
 ⟨⟨fun b => b < w.heap.size, False⟩, ⟨h.small, h.cap, h.max, h.nul, fun h0 => by
  obtain ⟨b, o, e, C, _, B⟩ := h.row h0
  exact ⟨b, o, e, lt_of_cell (B 0 _ (List.getElem?_eq_getElem h0)), fun h => h.elim, B⟩⟩, fun g hg (hb : g < w.heap.size) => by omega⟩
def Q3 (W : World) (B : Nat) (a0 a1 a2 a3 a4 a5 b0 b1 b2 b3 b4 b5 c0 c1 c2 c3 c4 c5 : Value) : Prop := Box6 W B a0 a1 a2 a3 a4 a5 ∧ Box6 W (B + 1) b0 b1 b2 b3 b4 b5 ∧ Box6 W (B + 2) c0 c1 c2 c3 c4 c5
theorem Q3.new (w : World) (a0 a1 a2 a3 a4 a5 b0 b1 b2 b3 b4 b5 c0 c1 c2 c3 c4 c5 : Value) (t : TypeId) : Q3 (((w.alloc (.cells #[a0, a1, a2, a3, a4, a5] t)).alloc (.cells #[b0, b1, b2, b3, b4, b5] t)).alloc (.cells #[c0, c1, c2, c3, c4, c5] t)) w.heap.size a0 a1 a2 a3 a4 a5 b0 b1 b2 b3 b4 b5 c0 c1 c2 c3 c4 c5 ∧ Below w.heap.size w (((w.alloc (.cells #[a0, a1, a2, a3, a4, a5] t)).alloc (.cells #[b0, b1, b2, b3, b4, b5] t)).alloc (.cells #[c0, c1, c2, c3, c4, c5] t)) := by
 have A : Below w.heap.size w (w.alloc (.cells #[a0, a1, a2, a3, a4, a5] t)) := (Below.refl _ _).alloc (Nat.le_refl _) _
 have B : Below w.heap.size w ((w.alloc (.cells #[a0, a1, a2, a3, a4, a5] t)).alloc (.cells #[b0, b1, b2, b3, b4, b5] t)) := A.alloc A.size _
 have E : Below w.heap.size w (((w.alloc (.cells #[a0, a1, a2, a3, a4, a5] t)).alloc (.cells #[b0, b1, b2, b3, b4, b5] t)).alloc (.cells #[c0, c1, c2, c3, c4, c5] t)) := B.alloc B.size _
 have F := ((Box6.new w a0 a1 a2 a3 a4 a5 t).alloc (.cells #[b0, b1, b2, b3, b4, b5] t)).alloc (.cells #[c0, c1, c2, c3, c4, c5] t)
 have C := (Box6.new (w.alloc (.cells #[a0, a1, a2, a3, a4, a5] t)) b0 b1 b2 b3 b4 b5 t).alloc (.cells #[c0, c1, c2, c3, c4, c5] t)
 simp only [World.size_alloc] at C
 have D := Box6.new ((w.alloc (.cells #[a0, a1, a2, a3, a4, a5] t)).alloc (.cells #[b0, b1, b2, b3, b4, b5] t)) c0 c1 c2 c3 c4 c5 t
 simp only [World.size_alloc] at D
 exact ⟨⟨F, C, D⟩, E⟩
theorem Q3.below {B : Nat} {c0 c1 c2 c3 c4 c5 : Value} (h : Q3 W B a0 a1 a2 a3 a4 a5 b0 b1 b2 b3 b4 b5 c0 c1 c2 c3 c4 c5) (hb : Below W.heap.size W V) : Q3 V B a0 a1 a2 a3 a4 a5 b0 b1 b2 b3 b4 b5 c0 c1 c2 c3 c4 c5 := ⟨h.1.below hb, h.2.1.below hb, h.2.2.below hb⟩
theorem imod_zero {w : World} {p : Iv} (hp : IvW P p) (gp : IvN 6000 P.1 P.2) (hq : IvW Q q) (gq : IvN 6000 Q.1 Q.2) (u1 : U64s w Z1 A a p.l0) (u2 : U64s w Z2 B b p.l1) (u3 : U64s w Z3 C c q.l0) (u4 : U64s w Z4 D d q.l1) (hne : partsP Q = []) :
  Calls Tryz.prog 124 #[.agg #[.bool p.n0, .bool p.s0, .slice A p.l0.length a, .bool p.n1, .bool p.s1, .slice B p.l1.length b], .agg #[.bool q.n0, .bool q.s0, .slice C q.l0.length c, .bool q.n1, .bool q.s1, .slice D q.l1.length d]] w fun e w' => e = .returned (.tuple #[.agg #[.bool false, .bool false, .slice none 0 0, .bool false, .bool false, .slice none 0 0], .int .i64 30]) ∧ Below w.heap.size w w' := by
 obtain ⟨Z, g, i, F⟩ := boxX w (.bool p.n0) (.bool p.s0) (.slice A p.l0.length a) (.bool p.n1) (.bool p.s1) (.slice B p.l1.length b) (.bool q.n0) (.bool q.s0) (.slice C q.l0.length c) (.bool q.n1) (.bool q.s1) (.slice D q.l1.length d) (.bool false) (.bool false) (.slice none 0 0) (.bool false) (.bool false) (.slice none 0 0) 39
 have S := F.alloc F.size (.cells #[.bool p.n0, .bool p.s0, .slice A p.l0.length a, .bool p.n1, .bool p.s1, .slice B p.l1.length b, .bool q.n0, .bool q.s0, .slice C q.l0.length c, .bool q.n1, .bool q.s1, .slice D q.l1.length d] 39)
 have K := given_twoA (p := p) (q := q) (ty := 39) (u1.below F) (u2.below F) (u3.below F) (u4.below F)
 rw [show (((w.alloc (.cells #[.bool p.n0, .bool p.s0, .slice A p.l0.length a, .bool p.n1, .bool p.s1, .slice B p.l1.length b] 39)).alloc (.cells #[.bool q.n0, .bool q.s0, .slice C q.l0.length c, .bool q.n1, .bool q.s1, .slice D q.l1.length d] 39)).alloc (.cells #[.bool false, .bool false, .slice none 0 0, .bool false, .bool false, .slice none 0 0] 39)).heap.size = w.heap.size + 3 by simp] at K
 have G := hp.k gp (by omega)
 have H := hq.k gq (by omega)
 have L := ichecked_any (n := 2) (c := 2) K rfl (by simp) (by intro p' hp'; simp only [List.mem_cons, List.not_mem_nil, or_false] at hp'; rcases hp' with rfl | rfl <;> exact ⟨by have := G.q0; have := H.q0; omega, by have := G.q1; have := H.q1; omega⟩)
 rw [errAs_two, if_pos ⟨G.ok, H.ok⟩] at L
 obtain ⟨X, N, M, j, m⟩ := hid5 (Z.alloc (.cells #[.bool p.n0, .bool p.s0, .slice A p.l0.length a, .bool p.n1, .bool p.s1, .slice B p.l1.length b, .bool q.n0, .bool q.s0, .slice C q.l0.length c, .bool q.n1, .bool q.s1, .slice D q.l1.length d] 39)) (g.alloc (.cells #[.bool p.n0, .bool p.s0, .slice A p.l0.length a, .bool p.n1, .bool p.s1, .slice B p.l1.length b, .bool q.n0, .bool q.s0, .slice C q.l0.length c, .bool q.n1, .bool q.s1, .slice D q.l1.length d] 39)) (i.alloc (.cells #[.bool p.n0, .bool p.s0, .slice A p.l0.length a, .bool p.n1, .bool p.s1, .slice B p.l1.length b, .bool q.n0, .bool q.s0, .slice C q.l0.length c, .bool q.n1, .bool q.s1, .slice D q.l1.length d] 39)) L S
 have o := Z.all
 obtain ⟨O, s, u, v, x, y, _, _, _, _, _, _, _⟩ := g
 have T := hid (fun (W : World) (h : Below w.heap.size w W) => iparted_w hq gq (by omega) (u3.below h) (u4.below h))
 have U : Hid (∀ W, Below w.heap.size w W → Calls Tryz.prog 166 #[.agg #[.bool q.n0, .bool q.s0, .slice C q.l0.length c, .bool q.n1, .bool q.s1, .slice D q.l1.length d]] W fun e w' => ∃ I J, e = .returned (.slice I 0 J) ∧ Below W.heap.size W w') := fun W h => by
  refine (T.out W h).mono ?_
  rintro e w' ⟨I, J, rfl, _, _, z⟩
  exact ⟨I, J, by rw [hne]; rfl, z⟩
 clear K L S i F u1 u2 u3 u4 hp hq gp gq hne G H T
 go_enter Tryz.func124, Tryz.ntmps124
 go_wp2_with fail
 refine j.out.mono ?_
 rintro e w1 ⟨rfl, E⟩
 have V := hid (from_ m.out E)
 replace M := hid (M.out.below E)
 replace X := hid (X.out.below E)
 replace N := hid (N.out.below E)
 clear o O s u v x y j m
 have O := N.out.all
 clear E
 go_wp2_with fail
 refine (U.out _ V.out).mono ?_
 rintro e w2 ⟨I, J, rfl, E⟩
 have r := hid (from_ V.out E)
 have R := M.out.below E
 have Y := hid (R.put (w := w) r.out (show w.heap.size ≤ w.heap.size + 2 by omega) (.bool false) (.bool false) (.slice none 0 0) (.bool false) (.bool false) (.slice none 0 0))
 have g0 := R.cf
 clear O E U
 go_wp2
 refine bodyPost_ret (res_itv2 rfl _ (w.heap.size + 2) rfl Y.out.box) rfl ?_
 exact ⟨by first | rfl | trivial, Y.out.bel⟩
theorem ishr_none {w : World} {p : Iv} (hp : IvW P p) (gp : IvN 3200 P.1 P.2) (hq : IvW Q q) (gq : IvN 6000 Q.1 Q.2) (u1 : U64s w Z1 A a p.l0) (u2 : U64s w Z2 B b p.l1) (u3 : U64s w Z3 C c q.l0) (u4 : U64s w Z4 D d q.l1) (hle : ¬ (shK Q).1 ≤ (shK Q).2) :
  Calls Tryz.prog 126 #[.agg #[.bool p.n0, .bool p.s0, .slice A p.l0.length a, .bool p.n1, .bool p.s1, .slice B p.l1.length b], .agg #[.bool q.n0, .bool q.s0, .slice C q.l0.length c, .bool q.n1, .bool q.s1, .slice D q.l1.length d]] w fun e w' => e = .returned (.tuple #[.agg #[.bool false, .bool false, .slice none 0 0, .bool false, .bool false, .slice none 0 0], .int .i64 2]) ∧ Below w.heap.size w w' := by
 obtain ⟨L, M, H, E⟩ := boxX w (.bool p.n0) (.bool p.s0) (.slice A p.l0.length a) (.bool p.n1) (.bool p.s1) (.slice B p.l1.length b) (.bool q.n0) (.bool q.s0) (.slice C q.l0.length c) (.bool q.n1) (.bool q.s1) (.slice D q.l1.length d) (.bool false) (.bool false) (.slice none 0 0) (.bool false) (.bool false) (.slice none 0 0) 39
 obtain ⟨J, N, O⟩ := hid3 (ishift_none (o := .func (.func 171) #[] #[]) hp gp hq gq (u1.below E) (u2.below E) (u3.below E) (u4.below E) hle) H E
 have I := L.all
 have K := M.all
 clear H E u1 u2 u3 u4 hp gp hq gq hle
 go_enter Tryz.func126, Tryz.ntmps126
 go_wp2_with fail
 refine J.out.mono ?_
 rintro e T ⟨rfl, F⟩
 have R := N.out.below F
 have G := hid (R.put (w := w) (from_ O.out F) (show w.heap.size ≤ w.heap.size + 2 by omega) (.bool false) (.bool false) (.slice none 0 0) (.bool false) (.bool false) (.slice none 0 0))
 have S := R.cf
 clear F I K
 go_wp2
 refine bodyPost_ret (res_itv2 rfl _ (w.heap.size + 2) rfl G.out.box) rfl ?_
 exact ⟨by first | rfl | trivial, G.out.bel⟩
theorem iin_w {w : World} {p : Iv} (hp : IvW P p) (gp : IvN 6000 P.1 P.2) (hq : IvW Q q) (gq : IvN 6000 Q.1 Q.2) (u1 : U64s w Z1 A a p.l0) (u2 : U64s w Z2 B b p.l1) (u3 : U64s w Z3 C c q.l0) (u4 : U64s w Z4 D d q.l1) {r : Bool} (hr : decide (Q.1 ≤ P.1 ∧ P.2 ≤ Q.2) = r) :
  Calls Tryz.prog 10 #[.agg #[.bool p.n0, .bool p.s0, .slice A p.l0.length a, .bool p.n1, .bool p.s1, .slice B p.l1.length b], .agg #[.bool q.n0, .bool q.s0, .slice C q.l0.length c, .bool q.n1, .bool q.s1, .slice D q.l1.length d]] w fun e w' => e = .returned (.tuple #[.bool r, .int .i64 0]) ∧ Below w.heap.size w w' := by
 have E := hp.k gp (by omega)
 have F := hq.k gq (by omega)
 exact iin_good u1 u2 u3 u4 E.ok F.ok (by have := E.q0; omega) (by have := E.q1; omega) (by have := F.q0; omega) (by have := F.q1; omega) (by rw [E.lo, F.lo, E.hi, F.hi]; exact hr)
theorem imeetG_w {w : World} {p : Iv} (hp : IvW P p) (gp : IvN 6000 P.1 P.2) (hq : IvW Q q) (gq : IvN 6000 Q.1 Q.2) (u1 : U64s w Z1 A a p.l0) (u2 : U64s w Z2 B b p.l1) (u3 : U64s w Z3 C c q.l0) (u4 : U64s w Z4 D d q.l1) (hr : IvW (max P.1 Q.1, min P.2 Q.2) r) (hg : max P.1 Q.1 ≤ min P.2 Q.2) :
  Calls Tryz.prog 32 #[.agg #[.bool p.n0, .bool p.s0, .slice A p.l0.length a, .bool p.n1, .bool p.s1, .slice B p.l1.length b], .agg #[.bool q.n0, .bool q.s0, .slice C q.l0.length c, .bool q.n1, .bool q.s1, .slice D q.l1.length d]] w fun e w' => ∃ rA ra rB rb, e = .returned (.tuple #[.agg #[.bool r.n0, .bool r.s0, .slice rA r.l0.length ra, .bool r.n1, .bool r.s1, .slice rB r.l1.length rb], .int .i64 0]) ∧ U64s w' (new w.heap.size) rA ra r.l0 ∧ U64s w' (new w.heap.size) rB rb r.l1 ∧ Below w.heap.size w w' := by
 have E := hp.k gp (by omega)
 have F := hq.k gq (by omega)
 exact iMeet_good u1 u2 u3 u4 E.ok F.ok (by have := E.q0; omega) (by have := E.q1; omega) (by have := F.q0; omega) (by have := F.q1; omega) (z0 := max P.1 Q.1) (z1 := min P.2 Q.2) (by rw [E.lo, F.lo]) (by rw [E.hi, F.hi]) hr.1 hr.2 hg
theorem zero_w : IvW (0, 0) ⟨false, false, [], false, false, []⟩ := by
 have A := bigZ_pos
 exact nm_ivw (P := (0, 0)) (s0 := false) (s1 := false) (l0 := []) (l1 := []) ⟨rfl, rfl⟩ ⟨rfl, rfl⟩ (by dsimp only; omega) (by dsimp only; omega)
theorem zero_n : IvN 1 (0 : Int) 0 := by
 have A := bigZ_pos
 have e : wN 1 = 18446744073709551616 := wN_one
 exact ⟨.inr (.inr (by omega)), .inr (.inr (by omega)), by omega, by omega, by omega⟩
def zeroI : Iv := ⟨false, false, [], false, false, []⟩
theorem grown_set (W : World) (g i : Nat) (v : Value) : W.grownBy (W.setCell ⟨g, i, none⟩ v) (some g) :=
 ⟨rfl, rfl, rfl, by simp [World.setCell], fun k _ hk => Below.heap_setCell _ _ _ _ (fun e => hk (by rw [e]))⟩
theorem grown_set7 (W : World) (g : Nat) (x0 x1 x2 x3 x4 x5 x6 : Value) : W.grownBy (((((((W.setCell ⟨g, 0, none⟩ x0).setCell ⟨g, 1, none⟩ x1).setCell ⟨g, 2, none⟩ x2).setCell ⟨g, 3, none⟩ x3).setCell ⟨g, 4, none⟩ x4).setCell ⟨g, 5, none⟩ x5).setCell ⟨g, 6, none⟩ x6) (some g) :=
 (((((((grown_set W g 0 x0).trans (grown_set _ g 1 x1)).trans (grown_set _ g 2 x2)).trans (grown_set _ g 3 x3)).trans (grown_set _ g 4 x4)).trans (grown_set _ g 5 x5)).trans (grown_set _ g 6 x6))
theorem BoxL.put7 (H : BoxL W g [a0, a1, a2, a3, a4, a5, a6]) (x0 x1 x2 x3 x4 x5 x6 : Value) : BoxL (((((((W.setCell ⟨g, 0, none⟩ x0).setCell ⟨g, 1, none⟩ x1).setCell ⟨g, 2, none⟩ x2).setCell ⟨g, 3, none⟩ x3).setCell ⟨g, 4, none⟩ x4).setCell ⟨g, 5, none⟩ x5).setCell ⟨g, 6, none⟩ x6) g [x0, x1, x2, x3, x4, x5, x6] :=
 (((((((H.set 0 x0 rfl).set 1 x1 rfl).set 2 x2 rfl).set 3 x3 rfl).set 4 x4 rfl).set 5 x5 rfl).set 6 x6 rfl)
theorem BoxL.all7 (H : BoxL W g [a0, a1, a2, a3, a4, a5, a6]) : (D6 W g a0 a1 a2 a3 a4 a5 (W.cell? ⟨g, 6, none⟩ = some a6)) ∧ W.frozen? ⟨g, 0, none⟩ = false ∧ W.frozen? ⟨g, 1, none⟩ = false ∧ W.frozen? ⟨g, 2, none⟩ = false ∧ W.frozen? ⟨g, 3, none⟩ = false ∧ W.frozen? ⟨g, 4, none⟩ = false ∧ W.frozen? ⟨g, 5, none⟩ = false ∧ W.frozen? ⟨g, 6, none⟩ = false :=
 ⟨⟨H.c 0 _ rfl, H.c 1 _ rfl, H.c 2 _ rfl, H.c 3 _ rfl, H.c 4 _ rfl, H.c 5 _ rfl, H.c 6 _ rfl⟩, H.f 0 _ rfl, H.f 1 _ rfl, H.f 2 _ rfl, H.f 3 _ rfl, H.f 4 _ rfl, H.f 5 _ rfl, H.f 6 _ rfl⟩
theorem BoxL.all9 {a7 a8 : Value} (H : BoxL W g [a0, a1, a2, a3, a4, a5, a6, a7, a8]) : (D6 W g a0 a1 a2 a3 a4 a5 (W.cell? ⟨g, 6, none⟩ = some a6 ∧ W.cell? ⟨g, 7, none⟩ = some a7 ∧ W.cell? ⟨g, 8, none⟩ = some a8)) ∧ W.frozen? ⟨g, 0, none⟩ = false ∧ W.frozen? ⟨g, 1, none⟩ = false ∧ W.frozen? ⟨g, 2, none⟩ = false ∧ W.frozen? ⟨g, 3, none⟩ = false ∧ W.frozen? ⟨g, 4, none⟩ = false ∧ W.frozen? ⟨g, 5, none⟩ = false ∧ W.frozen? ⟨g, 6, none⟩ = false ∧ W.frozen? ⟨g, 7, none⟩ = false ∧ W.frozen? ⟨g, 8, none⟩ = false :=
 ⟨⟨H.c 0 _ rfl, H.c 1 _ rfl, H.c 2 _ rfl, H.c 3 _ rfl, H.c 4 _ rfl, H.c 5 _ rfl, H.c 6 _ rfl, H.c 7 _ rfl, H.c 8 _ rfl⟩, H.f 0 _ rfl, H.f 1 _ rfl, H.f 2 _ rfl, H.f 3 _ rfl, H.f 4 _ rfl, H.f 5 _ rfl, H.f 6 _ rfl, H.f 7 _ rfl, H.f 8 _ rfl⟩
theorem loadVar_lined {w : World} (h : BoxL w g [a0, a1, a2, a3, a4, a5, a6]) :
  (loadVar 85 ⟨g, 0, none⟩).run Tryz.prog w = .ok (.agg #[a0, a1, a2, a3, a4, a5, a6]) w := by
 obtain ⟨⟨B, C, D, E, F, G, H⟩, _⟩ := h.all7
 unfold loadVar
 go_simp
theorem res_lined {fn : Func} {p : Tmp} (h : fn.results = #[.cell p 85]) (tmps : Array Value) {w : World} (g : Nat) (hp : tmps.getD p undef = .pointer (some ⟨g, 0, none⟩)) (hB : BoxL w g [a0, a1, a2, a3, a4, a5, a6]) :
  (results fn tmps).run Tryz.prog w = .ok (.agg #[a0, a1, a2, a3, a4, a5, a6]) w := by
 have B : tmps[p]?.getD undef = .pointer (some ⟨g, 0, none⟩) := by simpa using hp
 simp [results, h, B, asAddr, loadVar_lined hB]
theorem res_lined2 {fn : Func} {p u : Tmp} (h : fn.results = #[.cell p 85, .tmp u]) (tmps : Array Value) {w : World} (g : Nat) (hp : tmps.getD p undef = .pointer (some ⟨g, 0, none⟩)) (hB : BoxL w g [a0, a1, a2, a3, a4, a5, a6]) :
  (results fn tmps).run Tryz.prog w = .ok (.tuple #[.agg #[a0, a1, a2, a3, a4, a5, a6], tmps.getD u undef]) w := by
 rw [results_cell_tmp h, hp]
 simp [asAddr, Result.andThen, loadVar_lined hB]
theorem U64s.keepN {l : List Nat} (h : U64s W Z A c l) (hg : W.grownBy W' (some g)) (hz : ¬ Z.blk g) : U64s W' Z A c l :=
 h.keep fun b hb hl => hg.block b hl (fun e => by injection e with e; subst e; exact hz hb)
theorem IvsAt.keepN {K : Nat} {ps : List Iv} (h : IvsAt W Z A c ps) (hn : NewA K A) (hg : W.grownBy W' (some g)) (hz : ¬ Z.blk g) (hK : g < K) : IvsAt W' Z A c ps := by
 refine ⟨h.cap, h.max, fun h0 => ?_⟩
 obtain ⟨b, o, e, C, E⟩ := h.row h0
 have Q := hn b o e
 have D := hg.block b C (fun e => by injection e; omega)
 refine ⟨b, o, e, Nat.lt_of_lt_of_le C hg.size, fun j hj => ?_⟩
 obtain ⟨F, G, H, I, ⟨J, L, M, N, O, P⟩, u0, u1⟩ := E j hj
 have B := fun (i : Nat) => World.cell?_of_block (w := W) (w' := W') (a := ⟨b, i, none⟩) D
 exact ⟨F, G, H, I, ⟨(B _).trans J, (B _).trans L, (B _).trans M, (B _).trans N, (B _).trans O, (B _).trans P⟩, u0.keepN hg hz, u1.keepN hg hz⟩
def constL (d : Nat) (P : IvP) : List IvP := (List.replicate (d + 1) ((0 : Int), (0 : Int))).set 0 P
theorem constL_w {p : Iv} (h : IvW P p) : fmOf (constL d P) = (List.replicate (d + 1) nullI).set 0 p := by
 unfold fmOf constL
 rw [List.map_set, List.map_replicate, nullI_of, h.uniq (IvW.mk P)]
theorem constL_len (d : Nat) (P : IvP) : (constL d P).length = d + 1 := by simp [constL]
theorem lconstant_r {w : World} {lk pn pc : Nat} {PA : Option Addr} {p : Iv} (hk : w.cell? ⟨lk, 6, none⟩ = some (.slice PA pn pc)) (hd : pn ≤ 63) (hp : IvW P p) (gp : IvN N P.1 P.2) (hN : N ≤ 6000) (u1 : U64s w Z1 A a p.l0) (u2 : U64s w Z2 B b p.l1) :
  Calls Tryz.prog 77 #[.pointer (some ⟨lk, 0, none⟩), .agg #[.bool p.n0, .bool p.s0, .slice A p.l0.length a, .bool p.n1, .bool p.s1, .slice B p.l1.length b]] w fun e w' => ∃ F f, e = .returned (.agg #[.bool p.n0, .bool p.s0, .slice A p.l0.length a, .bool p.n1, .bool p.s1, .slice B p.l1.length b, .slice F (pn + 1) f]) ∧ IvsAt w' (new w.heap.size) F f (fmOf (constL pn P)) ∧ NewA w.heap.size F ∧ Below w.heap.size w w' := by
 have K : Below w.heap.size w (w.alloc (.cells #[.bool p.n0, .bool p.s0, .slice A p.l0.length a, .bool p.n1, .bool p.s1, .slice B p.l1.length b] 39)) := (Below.refl _ w).alloc (Nat.le_refl _) _
 have D := K.alloc K.size (.cells #[.bool false, .bool false, .slice none 0 0, .bool false, .bool false, .slice none 0 0, .slice none 0 0] 85)
 obtain ⟨C, G⟩ : ∃ W, (w.alloc (.cells #[.bool p.n0, .bool p.s0, .slice A p.l0.length a, .bool p.n1, .bool p.s1, .slice B p.l1.length b] 39)).alloc (.cells #[.bool false, .bool false, .slice none 0 0, .bool false, .bool false, .slice none 0 0, .slice none 0 0] 85) = W := ⟨_, rfl⟩
 rw [G] at D
 have H : Hid (Box6 C w.heap.size (.bool p.n0) (.bool p.s0) (.slice A p.l0.length a) (.bool p.n1) (.bool p.s1) (.slice B p.l1.length b)) := hid (by rw [← G]; exact (Box6.new w _ _ _ _ _ _ _).alloc _)
 have I : Hid (BoxL C (w.heap.size + 1) [.bool false, .bool false, .slice none 0 0, .bool false, .bool false, .slice none 0 0, .slice none 0 0]) := hid (by
  rw [← G]
  have h := BoxL.new (w.alloc (.cells #[.bool p.n0, .bool p.s0, .slice A p.l0.length a, .bool p.n1, .bool p.s1, .slice B p.l1.length b] 39)) [.bool false, .bool false, .slice none 0 0, .bool false, .bool false, .slice none 0 0, .slice none 0 0] 85
  simpa using h)
 have R : w.heap.size + 2 ≤ C.heap.size := by rw [← G]; simp
 obtain ⟨T, J⟩ := hid2 R D
 have Y := keepC D hk
 have L := D.drew
 have M := hid (lconst_goodN (w := C.drew) hd hp gp hN (u1.below L) (u2.below L))
 rw [← constL_w hp] at M
 obtain ⟨S, Z, c, d, g, i, _, _, _, _, _, _, _⟩ := id H.out
 clear K D hk hp gp u1 u2 R L hd
 go_enter Tryz.func77, Tryz.ntmps77
 go_wp2
 clear G
 first | go_region_with ((go_at_call 120; with_reducible refine M.out.mono ?_; rintro e w2 ⟨F, f, rfl, U, V, X⟩)) | fail
 all_goals
  have E : Below C.heap.size C w2 := from_ ((Below.refl C.heap.size C).drew) V
  replace H := hid (H.out.below E)
  replace I := hid (I.out.below E)
  have O := grown_set7 w2 (w.heap.size + 1) (.bool p.n0) (.bool p.s0) (.slice A p.l0.length a) (.bool p.n1) (.bool p.s1) (.slice B p.l1.length b) (.slice F (pn + 1) f)
  have Q : NewA C.heap.size F := X
  obtain ⟨j, m, q, r⟩ := hid4 ((IvsAt.keepN U Q O (fun h => by have s : C.heap.size ≤ w.heap.size + 1 := h; have := T.out; omega) (by have := T.out; omega)).mono (new_le J.out.size)) (I.out.put7 (.bool p.n0) (.bool p.s0) (.slice A p.l0.length a) (.bool p.n1) (.bool p.s1) (.slice B p.l1.length b) (.slice F (pn + 1) f)) ((from_ J.out E).grown O (by have := J.out.size; have := E.size; omega) (fun k e => by injection e; omega)) (show NewA w.heap.size F from fun b o e => Nat.le_trans J.out.size (Q b o e))
  obtain ⟨⟨u, v, x, y, z, r5, r6⟩, q0, q1, q2, q3, q4, q5, q6⟩ := I.out.all7
  clear S Z c d g i Y U V E X Q O M
  have S := H.out.all
  go_wp2
  refine bodyPost_ret (res_lined rfl _ (w.heap.size + 1) rfl m.out) rfl ?_
  exact ⟨_, _, rfl, j.out, r.out, q.out⟩
def noW (u : Value) : Prop := ∀ n, u ≠ .int .u64 n
theorem NoU.heap {w : World} {cs : Array Value} {t : TypeId} {f : Nat × Nat} (hN : NoU w g) (h : w.heap[g]? = some (.cells cs t f)) : ∀ u ∈ cs.toList, noW u := fun u hu n e => by
 obtain ⟨o, A⟩ := List.getElem?_of_mem hu
 rw [Array.getElem?_toList] at A
 refine hN o n ?_
 rw [cell_of_row w g o cs t f h, A, e]
structure BX (W : World) (g : Nat) (r : Iv) (A : Option Addr) (a : Nat) (B : Option Addr) (b : Nat) : Prop where
 box : Box6 W g (.bool r.n0) (.bool r.s0) (.slice A r.l0.length a) (.bool r.n1) (.bool r.s1) (.slice B r.l1.length b)
 noU : NoU W g
 u0 : U64s W old A a r.l0
 u1 : U64s W old B b r.l1
theorem Box6.own6 {a b c d : Value} (h : Box6 W g a b c d e f) (x0 x1 x2 x3 x4 x5 : Value) : Box6 ((((((W.setCell ⟨g, 0, none⟩ x0).setCell ⟨g, 1, none⟩ x1).setCell ⟨g, 2, none⟩ x2).setCell ⟨g, 3, none⟩ x3).setCell ⟨g, 4, none⟩ x4).setCell ⟨g, 5, none⟩ x5) g x0 x1 x2 x3 x4 x5 := BoxL.six ((((((((BoxL.of6 h).set 0 x0 rfl).set 1 x1 rfl).set 2 x2 rfl).set 3 x3 rfl).set 4 x4 rfl).set 5 x5 rfl))
section
variable {W W' : World} {g h : Nat} {r q : Iv} {A B C D : Option Addr} {a b c d : Nat} {Z Y : Zone}
theorem BX.own (h : BX W g r A a B b) (u : U64s W Z C c q.l0) (v : U64s W Y D d q.l1) : BX ((((((W.setCell ⟨g, 0, none⟩ (.bool q.n0)).setCell ⟨g, 1, none⟩ (.bool q.s0)).setCell ⟨g, 2, none⟩ (.slice C q.l0.length c)).setCell ⟨g, 3, none⟩ (.bool q.n1)).setCell ⟨g, 4, none⟩ (.bool q.s1)).setCell ⟨g, 5, none⟩ (.slice D q.l1.length d)) g q C c D d :=
 ⟨h.box.own6 _ _ _ _ _ _, h.noU.own6 h.box _ _ _ _ _ _ _ _ _ _, u.set6n h.noU _ _ _ _ _ _, v.set6n h.noU _ _ _ _ _ _⟩
end
def RowAtN (w : World) (Z : Zone) (b9 o9 n : Nat) (L : List IvP) : Prop := ∀ j, j < n → ∃ (q : Iv) (F0 : Option Addr) (f0 : Nat) (F1 : Option Addr) (f1 : Nat), (w.cell? ⟨b9, o9 + j * 6, none⟩ = some (.bool q.n0) ∧ w.cell? ⟨b9, o9 + j * 6 + 1, none⟩ = some (.bool q.s0) ∧ w.cell? ⟨b9, o9 + j * 6 + 2, none⟩ = some (.slice F0 q.l0.length f0) ∧ w.cell? ⟨b9, o9 + j * 6 + 3, none⟩ = some (.bool q.n1) ∧ w.cell? ⟨b9, o9 + j * 6 + 4, none⟩ = some (.bool q.s1) ∧ w.cell? ⟨b9, o9 + j * 6 + 5, none⟩ = some (.slice F1 q.l1.length f1)) ∧ U64s w Z F0 f0 q.l0 ∧ U64s w Z F1 f1 q.l1 ∧ IvW (L.getD j (0, 0)) q
theorem RowAtN.off {w : World} {b9 o9 n : Nat} {L : List IvP} (h : RowAtN w Z b9 o9 n L) (hn : NoU w g) : RowAtN w (zNe g) b9 o9 n L := fun j hj => by
 obtain ⟨q, A, B, C, D, E, F, G, H⟩ := h j hj
 exact ⟨q, A, B, C, D, E, F.offB hn, G.offB hn, H⟩
structure BZ (W : World) (g : Nat) : Prop where
 box : Box6 W g (.bool false) (.bool false) (.slice none 0 0) (.bool false) (.bool false) (.slice none 0 0)
 noU : NoU W g
theorem BZ.own {Y : Zone} (h : BZ W g) (u : U64s W Z C c q.l0) (v : U64s W Y D d q.l1) : BX ((((((W.setCell ⟨g, 0, none⟩ (.bool q.n0)).setCell ⟨g, 1, none⟩ (.bool q.s0)).setCell ⟨g, 2, none⟩ (.slice C q.l0.length c)).setCell ⟨g, 3, none⟩ (.bool q.n1)).setCell ⟨g, 4, none⟩ (.bool q.s1)).setCell ⟨g, 5, none⟩ (.slice D q.l1.length d)) g q C c D d :=
 ⟨h.box.own6 _ _ _ _ _ _, h.noU.own6 h.box _ _ _ _ _ _ _ _ _ _, u.set6n h.noU _ _ _ _ _ _, v.set6n h.noU _ _ _ _ _ _⟩
theorem v12_al (e : V = W.alloc o) (hs : (C6 W g a0 a1 a2 a3 a4 a5) ∧ C6 W h b0 b1 b2 b3 b4 b5) : (C6 V g a0 a1 a2 a3 a4 a5) ∧ C6 V h b0 b1 b2 b3 b4 b5 := by
 subst e
 exact d12_keep hs bal_
theorem v12_dr (e : V = W.drew) (hs : (C6 W g a0 a1 a2 a3 a4 a5) ∧ C6 W h b0 b1 b2 b3 b4 b5) : (C6 V g a0 a1 a2 a3 a4 a5) ∧ C6 V h b0 b1 b2 b3 b4 b5 := by
 subst e
 exact d12_keep hs bdr_
theorem v12_st6 {r : Nat} (e : V = ((((((W.setCell ⟨r, 0, none⟩ x0).setCell ⟨r, 1, none⟩ x1).setCell ⟨r, 2, none⟩ x2).setCell ⟨r, 3, none⟩ x3).setCell ⟨r, 4, none⟩ x4).setCell ⟨r, 5, none⟩ x5)) (hg : r ≠ g) (hh : r ≠ h) (hs : (C6 W g a0 a1 a2 a3 a4 a5) ∧ C6 W h b0 b1 b2 b3 b4 b5) : (C6 V g a0 a1 a2 a3 a4 a5) ∧ C6 V h b0 b1 b2 b3 b4 b5 := by
 subst e
 exact d12_st6 hg hh hs
end Go.Proofs.YtdncgncijbnjpaaGreat
