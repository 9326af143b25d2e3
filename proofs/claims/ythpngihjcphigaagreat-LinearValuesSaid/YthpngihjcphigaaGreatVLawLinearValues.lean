/- facetroomlaw17.LinearValues, walked: in each of its ways. No conditions. -/
import Derived.Test.YthpngihjcphigaaGreatVLvC
import Derived.Test.YthpngihjcphigaaGreatVLvF
import Derived.Test.YthpngihjcphigaaGreatVLvI
import Derived.Test.YthpngihjcphigaaGreatVLinJ
import Derived.Test.YthpngihjcphigaaGreatVWhV
import Derived.Test.YthpngihjcphigaaGreatVLinU
import Derived.Test.YthpngihjcphigaaGreatVVecK
set_option linter.unusedVariables false
set_option linter.unusedSimpArgs false
set_option maxRecDepth 100000
set_option maxHeartbeats 40000000
namespace Go.Proofs.YthpngihjcphigaaGreat
open Go.Lib (hid)
open Go.RowKit
variable {f x : Value} {w : World}
def RB (U : Int) (P : IvP) : Prop := Ext bigZ U P.1 ∧ Ext bigZ U P.2 ∧ P.1 ≤ P.2 ∧ P.1 < bigZ ∧ -bigZ < P.2
theorem RB.add {U V : Int} {P Q : IvP} (h : RB U P) (g : RB V Q) (hU : 0 < U) (hV : 0 < V) (hs : U + V ≤ bigZ) : RB (U + V) (ivA P Q) := by
 obtain ⟨a1, a2, a3, a4, a5⟩ := h
 obtain ⟨b1, b2, b3, b4, b5⟩ := g
 have h3 := bigZ_pos
 unfold ivA
 refine ⟨?_, ?_, ?_, ?_, ?_⟩
 all_goals
  simp only
  unfold plusE
  unfold Ext at *
  split <;> (try split) <;> (try split) <;> (try split) <;> omega
theorem acc_ok {K : Nat} {o : IvP} {ws : List (IvP × IvP)} (hK : K + K ≤ 59) (h : IvN (K + K) o.1 o.2) (hq : ∀ q ∈ ws, IvN K q.1.1 q.1.2 ∧ IvN K q.2.1 q.2.2) (hl : ws.length < 64) : ∀ k, k ≤ ws.length → IvN (K + K + 1) (runV o ws k).1 (runV o ws k).2 := by
 have e1 : wN (K + K + 1) = wN (K + K) * 18446744073709551616 := Int.pow_succ _ _
 have hp := wN_pos (K + K)
 have hb : wN (K + K + 1) ≤ bigZ := wN_le (by omega)
 obtain ⟨u, hu⟩ : ∃ u, wN (K + K) = u := ⟨_, rfl⟩
 have hm : ∀ q ∈ ws, RB u (ivM q.1 q.2) := fun q hm => by
  have g := ivM_ok (hq q hm).1 (hq q hm).2 (show K + K ≤ 64 by omega)
  rw [← hu]
  exact ⟨g.lo, g.hi, g.le, g.nlo, g.nhi⟩
 have key : ∀ k, k ≤ ws.length → RB (((k : Int) + 1) * u) (runV o ws k) := by
  intro k
  induction k with
  | zero =>
    intro _
    rw [runV_zero, show (((0 : Nat) : Int) + 1) * u = u by simp, ← hu]
    exact ⟨h.lo, h.hi, h.le, h.nlo, h.nhi⟩
  | succ k ih =>
    intro hk
    rw [runV_succ (show k < ws.length by omega)]
    have h1 := ih (by omega)
    have h2 := hm ws[k] (List.getElem_mem (show k < ws.length by omega))
    have e : (((k + 1 : Nat) : Int) + 1) * u = ((k : Int) + 1) * u + u := by
     rw [show (((k + 1 : Nat) : Int) + 1) = ((k : Int) + 1) + 1 by omega, Int.add_mul _ 1 u, Int.one_mul]
    have q1 : 0 < ((k : Int) + 1) * u := Int.mul_pos (by omega) (by omega)
    have q2 : ((k : Int) + 1) * u ≤ 64 * u := Int.mul_le_mul_of_nonneg_right (by omega) (by omega)
    rw [e]
    exact h1.add h2 q1 (by omega) (by omega)
 intro k hk
 obtain ⟨a1, a2, a3, a4, a5⟩ := key k hk
 have q2 : ((k : Int) + 1) * u ≤ 64 * u := Int.mul_le_mul_of_nonneg_right (by omega) (by omega)
 refine ⟨?_, ?_, a3, a4, a5⟩
 · unfold Ext at *; omega
 · unfold Ext at *; omega
theorem row17 {Ps : List IvP} {n : Nat} (h : Ps.length = n + 1) : nums17 (fun k => midI (Ps.getD (k + 1) (0, 0))) n = rowL Ps := by
 cases Ps with
 | nil => simp at h
 | cons P t =>
   simp only [List.length_cons, Nat.add_right_cancel_iff] at h
   unfold nums17 rowL
   congr 1
   refine List.ext_getElem (by simp [h]) fun j h1 h2 => ?_
   simp only [List.getElem_map, List.getElem_range, List.tail_cons, List.getD_cons_succ]
   rw [List.length_map, List.length_range] at h1
   rw [List.getD_eq_getElem?_getD, List.getElem?_eq_getElem (show j < t.length by omega)]
   rfl
theorem lvl_walk {A B : Option Addr} {c d L M : Nat} {g : Int} {r s : Iv} {zs : List (Bool × List Nat)} (G1 : ∀ W, Below w.heap.size w W → Calls Tryz.prog 19 #[.slice A L c, .int .i64 80, .int .i64 3] W fun e w' => e = .returned (.bool false) ∧ Below W.heap.size W w') (G2 : ∀ W, Below w.heap.size w W → Calls Tryz.prog 19 #[.slice B M d, .int .i64 80, .int .i64 3] W fun e w' => e = .returned (.bool false) ∧ Below W.heap.size W w')
  (V1 : (∀ W, Below w.heap.size w W → Calls Tryz.prog 20 #[.slice A L c, .slice B M d] W fun e w' => ∃ rA ra rB rb, e = .returned (.tuple #[.agg #[.bool r.n0, .bool r.s0, .slice rA r.l0.length ra, .bool r.n1, .bool r.s1, .slice rB r.l1.length rb], .int .i64 g]) ∧ U64s w' old rA ra r.l0 ∧ U64s w' old rB rb r.l1 ∧ Below W.heap.size W w')) (V2 : (∀ W, Below w.heap.size w W → Calls Tryz.prog 21 #[.slice A L c, .slice B M d] W fun e w' => ∃ rA ra rB rb, e = .returned (.tuple #[.agg #[.bool r.n0, .bool r.s0, .slice rA r.l0.length ra, .bool r.n1, .bool r.s1, .slice rB r.l1.length rb], .int .i64 g]) ∧ U64s w' old rA ra r.l0 ∧ U64s w' old rB rb r.l1 ∧ Below W.heap.size W w')) (S1 : (∀ W, Below w.heap.size w W → Calls Tryz.prog 22 #[.slice A L c, .slice B M d] W fun e w' => ∃ Av cv rA ra rB rb, e = .returned (.tuple #[.slice Av zs.length cv, .agg #[.bool s.n0, .bool s.s0, .slice rA s.l0.length ra, .bool s.n1, .bool s.s1, .slice rB s.l1.length rb], .int .i64 g]) ∧ VecAt w' old Av cv zs ∧ U64s w' old rA ra s.l0 ∧ U64s w' old rB rb s.l1 ∧ Below W.heap.size W w')) (S2 : (∀ W, Below w.heap.size w W → Calls Tryz.prog 23 #[.slice A L c, .slice B M d] W fun e w' => ∃ Av cv rA ra rB rb, e = .returned (.tuple #[.slice Av zs.length cv, .agg #[.bool s.n0, .bool s.s0, .slice rA s.l0.length ra, .bool s.n1, .bool s.s1, .slice rB s.l1.length rb], .int .i64 g]) ∧ VecAt w' old Av cv zs ∧ U64s w' old rA ra s.l0 ∧ U64s w' old rB rb s.l1 ∧ Below W.heap.size W w')) :
  Calls Tryz.prog 4 #[.slice A L c, .slice B M d] w fun e w' => e = .returned (.bool true) ∧ Below w.heap.size w w' := by
 obtain ⟨H1, H2, H3, H4, H5, H6⟩ := hid6 G1 G2 V1 V2 S1 S2
 have t2 : (g == g) = true := by simp
 clear G1 G2 V1 V2 S1 S2
 go_enter Tryz.func4, Tryz.ntmps4
 go_wp2_with fail
 refine (H1.out _ (Below.refl _ _)).mono ?_
 rintro e w1 ⟨rfl, hc⟩
 have HB := hid hc
 clear hc H1
 go_wp2_with fail
 refine (H2.out _ HB.out).mono ?_
 rintro e w1 ⟨rfl, hc⟩
 replace HB := hid (from_ HB.out hc)
 clear hc H2
 go_wp2_with fail
 refine (H3.out _ HB.out).mono ?_
 rintro e w5 ⟨E0, e0, E1, e1, rfl, u0, u1, hc⟩
 have B5 := hid (BX.new (t := 29) u0 u1)
 replace HB := hid (from_ (from_ HB.out hc) ((Below.refl w5.heap.size w5).alloc (Nat.le_refl _) (.cells #[.bool r.n0, .bool r.s0, .slice E0 r.l0.length e0, .bool r.n1, .bool r.s1, .slice E1 r.l1.length e1] 29)))
 have s5 : w5.heap.size < (w5.alloc (.cells #[.bool r.n0, .bool r.s0, .slice E0 r.l0.length e0, .bool r.n1, .bool r.s1, .slice E1 r.l1.length e1] 29)).heap.size := by simp
 clear u0 u1 hc H3
 go_wp2_with fail
 refine (H4.out _ HB.out).mono ?_
 rintro e w7 ⟨F0, f0, F1, f1, rfl, u0, u1, hc⟩
 replace B5 := hid ((B5.out.below hc).below ((Below.refl w7.heap.size w7).alloc (Nat.le_refl _) (.cells #[.bool r.n0, .bool r.s0, .slice F0 r.l0.length f0, .bool r.n1, .bool r.s1, .slice F1 r.l1.length f1] 29)))
 have B7 := hid (BX.new (t := 29) u0 u1)
 replace HB := hid (from_ (from_ HB.out hc) ((Below.refl w7.heap.size w7).alloc (Nat.le_refl _) (.cells #[.bool r.n0, .bool r.s0, .slice F0 r.l0.length f0, .bool r.n1, .bool r.s1, .slice F1 r.l1.length f1] 29)))
 have s7 : w7.heap.size < (w7.alloc (.cells #[.bool r.n0, .bool r.s0, .slice F0 r.l0.length f0, .bool r.n1, .bool r.s1, .slice F1 r.l1.length f1] 29)).heap.size := by simp
 clear u0 u1 hc H4
 go_wp2_with fail
 refine (H5.out _ HB.out).mono ?_
 rintro e w10 ⟨Av, cv, X0, x0, X1, x1, rfl, hv, u0, u1, hc⟩
 replace B5 := hid ((B5.out.below hc).below ((Below.refl w10.heap.size w10).alloc (Nat.le_refl _) (.cells #[.bool s.n0, .bool s.s0, .slice X0 s.l0.length x0, .bool s.n1, .bool s.s1, .slice X1 s.l1.length x1] 29)))
 replace B7 := hid ((B7.out.below hc).below ((Below.refl w10.heap.size w10).alloc (Nat.le_refl _) (.cells #[.bool s.n0, .bool s.s0, .slice X0 s.l0.length x0, .bool s.n1, .bool s.s1, .slice X1 s.l1.length x1] 29)))
 obtain ⟨B10, R10⟩ := hid2 (BX.new (t := 29) u0 u1) (hv.below ((Below.refl w10.heap.size w10).alloc (Nat.le_refl _) (.cells #[.bool s.n0, .bool s.s0, .slice X0 s.l0.length x0, .bool s.n1, .bool s.s1, .slice X1 s.l1.length x1] 29)))
 replace HB := hid (from_ (from_ HB.out hc) ((Below.refl w10.heap.size w10).alloc (Nat.le_refl _) (.cells #[.bool s.n0, .bool s.s0, .slice X0 s.l0.length x0, .bool s.n1, .bool s.s1, .slice X1 s.l1.length x1] 29)))
 have s10 : w10.heap.size < (w10.alloc (.cells #[.bool s.n0, .bool s.s0, .slice X0 s.l0.length x0, .bool s.n1, .bool s.s1, .slice X1 s.l1.length x1] 29)).heap.size := by simp
 clear hv u0 u1 hc H5
 go_wp2_with fail
 refine (H6.out _ HB.out).mono ?_
 rintro e w13 ⟨Aw, cw, Y0, y0, Y1, y1, rfl, hv, u0, u1, hc⟩
 replace B5 := hid ((B5.out.below hc).below ((Below.refl w13.heap.size w13).alloc (Nat.le_refl _) (.cells #[.bool s.n0, .bool s.s0, .slice Y0 s.l0.length y0, .bool s.n1, .bool s.s1, .slice Y1 s.l1.length y1] 29)))
 replace B7 := hid ((B7.out.below hc).below ((Below.refl w13.heap.size w13).alloc (Nat.le_refl _) (.cells #[.bool s.n0, .bool s.s0, .slice Y0 s.l0.length y0, .bool s.n1, .bool s.s1, .slice Y1 s.l1.length y1] 29)))
 replace B10 := hid ((B10.out.below hc).below ((Below.refl w13.heap.size w13).alloc (Nat.le_refl _) (.cells #[.bool s.n0, .bool s.s0, .slice Y0 s.l0.length y0, .bool s.n1, .bool s.s1, .slice Y1 s.l1.length y1] 29)))
 replace R10 := hid ((R10.out.below hc).below ((Below.refl w13.heap.size w13).alloc (Nat.le_refl _) (.cells #[.bool s.n0, .bool s.s0, .slice Y0 s.l0.length y0, .bool s.n1, .bool s.s1, .slice Y1 s.l1.length y1] 29)))
 obtain ⟨B13, R13⟩ := hid2 (BX.new (t := 29) u0 u1) (hv.below ((Below.refl w13.heap.size w13).alloc (Nat.le_refl _) (.cells #[.bool s.n0, .bool s.s0, .slice Y0 s.l0.length y0, .bool s.n1, .bool s.s1, .slice Y1 s.l1.length y1] 29)))
 replace HB := hid (from_ (from_ HB.out hc) ((Below.refl w13.heap.size w13).alloc (Nat.le_refl _) (.cells #[.bool s.n0, .bool s.s0, .slice Y0 s.l0.length y0, .bool s.n1, .bool s.s1, .slice Y1 s.l1.length y1] 29)))
 have s13 : w13.heap.size < (w13.alloc (.cells #[.bool s.n0, .bool s.s0, .slice Y0 s.l0.length y0, .bool s.n1, .bool s.s1, .slice Y1 s.l1.length y1] 29)).heap.size := by simp
 clear hv u0 u1 hc H6
 obtain ⟨y0, y1, y2, y3, y4, y5, _, _, _, _, _, _, _⟩ := id B5.out.box
 obtain ⟨z0, z1, z2, z3, z4, z5, _, _, _, _, _, _, _⟩ := id B7.out.box
 go_wp2_with fail
 refine (same16_yes B5.out.u0 B5.out.u1 B7.out.u0 B7.out.u1).mono ?_
 rintro e v1 ⟨rfl, hc⟩
 replace B10 := hid (B10.out.below hc)
 replace B13 := hid (B13.out.below hc)
 replace R10 := hid (R10.out.below hc)
 replace R13 := hid (R13.out.below hc)
 replace HB := hid (from_ HB.out hc)
 clear hc B5 B7 y0 y1 y2 y3 y4 y5 z0 z1 z2 z3 z4 z5
 go_wp2_with fail
 refine (same7_n R10.out R13.out).mono ?_
 rintro e v2 ⟨rfl, hc⟩
 replace B10 := hid (B10.out.below hc)
 replace B13 := hid (B13.out.below hc)
 replace HB := hid (from_ HB.out hc)
 clear hc R10 R13
 obtain ⟨y0, y1, y2, y3, y4, y5, _, _, _, _, _, _, _⟩ := id B10.out.box
 have z0 := B13.out.box.all
 go_wp2_with fail
 refine (same16_yes B10.out.u0 B10.out.u1 B13.out.u0 B13.out.u1).mono ?_
 rintro e v3 ⟨rfl, hc⟩
 replace HB := hid (from_ HB.out hc)
 go_wp2
 go_ret
 exact ⟨by first | rfl | trivial, HB.out⟩
theorem lvl_great1 {ps qs : List Iv} (hf : IsIvs w old f ps) (hx : IsIvs w old x qs) (k1 : greatF ps 80 3 = true) :
  Calls Tryz.prog 4 #[f, x] w fun e w' => e = .returned (.bool true) ∧ Below w.heap.size w w' := by
 obtain ⟨A, c, rfl, hf⟩ := hf
 obtain ⟨B, d, rfl, hx⟩ := hx
 have G1 : ∀ W, Below w.heap.size w W → Calls Tryz.prog 19 #[.slice A ps.length c, .int .i64 80, .int .i64 3] W fun e w' => e = .returned (.bool (greatF ps 80 3)) ∧ Below W.heap.size W w' := fun W h => by
  have h1 := great17_any (M := 80) (K := 3) (hf.below h) (by omega) (by omega)
  exact h1
 have G2 : ∀ W, Below w.heap.size w W → Calls Tryz.prog 19 #[.slice B qs.length d, .int .i64 80, .int .i64 3] W fun e w' => e = .returned (.bool (greatF qs 80 3)) ∧ Below W.heap.size W w' := fun W h => by
  have h1 := great17_any (M := 80) (K := 3) (hx.below h) (by omega) (by omega)
  exact h1
 rw [k1] at G1
 obtain ⟨H1, H2⟩ := hid2 G1 G2
 clear G1 G2 hf hx
 generalize ps.length = L at *
 generalize qs.length = M at *
 go_enter Tryz.func4, Tryz.ntmps4
 go_wp2_with fail
 refine (H1.out _ (Below.refl _ _)).mono ?_
 rintro e w1 ⟨rfl, hc⟩
 have HB := hid hc
 clear hc
 go_wp2
 go_ret
 exact ⟨by first | rfl | trivial, HB.out⟩
theorem lvl_great2 {ps qs : List Iv} (hf : IsIvs w old f ps) (hx : IsIvs w old x qs) (k1 : greatF ps 80 3 = false) (k2 : greatF qs 80 3 = true) :
  Calls Tryz.prog 4 #[f, x] w fun e w' => e = .returned (.bool true) ∧ Below w.heap.size w w' := by
 obtain ⟨A, c, rfl, hf⟩ := hf
 obtain ⟨B, d, rfl, hx⟩ := hx
 have G1 : ∀ W, Below w.heap.size w W → Calls Tryz.prog 19 #[.slice A ps.length c, .int .i64 80, .int .i64 3] W fun e w' => e = .returned (.bool (greatF ps 80 3)) ∧ Below W.heap.size W w' := fun W h => by
  have h1 := great17_any (M := 80) (K := 3) (hf.below h) (by omega) (by omega)
  exact h1
 have G2 : ∀ W, Below w.heap.size w W → Calls Tryz.prog 19 #[.slice B qs.length d, .int .i64 80, .int .i64 3] W fun e w' => e = .returned (.bool (greatF qs 80 3)) ∧ Below W.heap.size W w' := fun W h => by
  have h1 := great17_any (M := 80) (K := 3) (hx.below h) (by omega) (by omega)
  exact h1
 rw [k1] at G1
 rw [k2] at G2
 obtain ⟨H1, H2⟩ := hid2 G1 G2
 clear G1 G2 hf hx
 generalize ps.length = L at *
 generalize qs.length = M at *
 go_enter Tryz.func4, Tryz.ntmps4
 go_wp2_with fail
 refine (H1.out _ (Below.refl _ _)).mono ?_
 rintro e w1 ⟨rfl, hc⟩
 have HB := hid hc
 clear hc
 go_wp2_with fail
 refine (H2.out _ HB.out).mono ?_
 rintro e w1 ⟨rfl, hc⟩
 replace HB := hid (from_ HB.out hc)
 clear hc
 go_wp2
 go_ret
 exact ⟨by first | rfl | trivial, HB.out⟩
theorem lvl_bad {ps qs : List Iv} (hf : IsIvs w old f ps) (hx : IsIvs w old x qs) (k1 : greatF ps 80 3 = false) (k2 : greatF qs 80 3 = false) (hE : errFB ps qs ≠ 0) :
  Calls Tryz.prog 4 #[f, x] w fun e w' => e = .returned (.bool true) ∧ Below w.heap.size w w' := by
 obtain ⟨A, c, rfl, hf⟩ := hf
 obtain ⟨B, d, rfl, hx⟩ := hx
 have G1 : ∀ W, Below w.heap.size w W → Calls Tryz.prog 19 #[.slice A ps.length c, .int .i64 80, .int .i64 3] W fun e w' => e = .returned (.bool (greatF ps 80 3)) ∧ Below W.heap.size W w' := fun W h => by
  have h1 := great17_any (M := 80) (K := 3) (hf.below h) (by omega) (by omega)
  exact h1
 have G2 : ∀ W, Below w.heap.size w W → Calls Tryz.prog 19 #[.slice B qs.length d, .int .i64 80, .int .i64 3] W fun e w' => e = .returned (.bool (greatF qs 80 3)) ∧ Below W.heap.size W w' := fun W h => by
  have h1 := great17_any (M := 80) (K := 3) (hx.below h) (by omega) (by omega)
  exact h1
 rw [k1] at G1
 rw [k2] at G2
 obtain ⟨n1, b1⟩ := greatF_no k1
 obtain ⟨n2, b2⟩ := greatF_no k2
 have s1 : ∀ p ∈ ps, p.short := fun p hp => ⟨by have := (b1 p hp).1; omega, by have := (b1 p hp).2; omega⟩
 have s2 : ∀ p ∈ qs, p.short := fun p hp => ⟨by have := (b2 p hp).1; omega, by have := (b2 p hp).2; omega⟩
 refine lvl_walk (g := errFB ps qs) (r := ⟨false, false, [], false, false, []⟩) (s := ⟨false, false, [], false, false, []⟩) (zs := []) G1 G2 ?_ ?_ ?_ ?_
 · intro W h
   refine (lvalue_bad (hf.below h) (hx.below h) s1 s2 rfl hE).mono ?_
   rintro e w' ⟨rfl, hb⟩
   exact ⟨none, 0, none, 0, rfl, U64s.nil _ _, U64s.nil _ _, hb⟩
 · intro W h
   refine (rvalue_bad (hf.below h) (hx.below h) s1 s2 rfl hE).mono ?_
   rintro e w' ⟨rfl, hb⟩
   exact ⟨none, 0, none, 0, rfl, U64s.nil _ _, U64s.nil _ _, hb⟩
 · intro W h
   refine (lsplit_bad (hf.below h) (hx.below h) s1 s2 rfl hE).mono ?_
   rintro e w' ⟨rfl, hb⟩
   exact ⟨none, 0, none, 0, none, 0, rfl, VecAt.nil _ _, U64s.nil _ _, U64s.nil _ _, hb⟩
 · intro W h
   refine (rsplit_bad (hf.below h) (hx.below h) s1 s2 rfl hE).mono ?_
   rintro e w' ⟨rfl, hb⟩
   exact ⟨none, 0, none, 0, none, 0, rfl, VecAt.nil _ _, U64s.nil _ _, U64s.nil _ _, hb⟩
theorem lvl_good {ps qs : List Iv} (hf : IsIvs w old f ps) (hx : IsIvs w old x qs) (k1 : greatF ps 80 3 = false) (k2 : greatF qs 80 3 = false) (hE : errFB ps qs = 0) :
  Calls Tryz.prog 4 #[f, x] w fun e w' => e = .returned (.bool true) ∧ Below w.heap.size w w' := by
 obtain ⟨A, c, rfl, hf⟩ := hf
 obtain ⟨B, d, rfl, hx⟩ := hx
 have G1 : ∀ W, Below w.heap.size w W → Calls Tryz.prog 19 #[.slice A ps.length c, .int .i64 80, .int .i64 3] W fun e w' => e = .returned (.bool (greatF ps 80 3)) ∧ Below W.heap.size W w' := fun W h => by
  have h1 := great17_any (M := 80) (K := 3) (hf.below h) (by omega) (by omega)
  exact h1
 have G2 : ∀ W, Below w.heap.size w W → Calls Tryz.prog 19 #[.slice B qs.length d, .int .i64 80, .int .i64 3] W fun e w' => e = .returned (.bool (greatF qs 80 3)) ∧ Below W.heap.size W w' := fun W h => by
  have h1 := great17_any (M := 80) (K := 3) (hx.below h) (by omega) (by omega)
  exact h1
 rw [k1] at G1
 rw [k2] at G2
 obtain ⟨n1, b1⟩ := greatF_no k1
 obtain ⟨n2, b2⟩ := greatF_no k2
 have hE' : ((1 ≤ ps.length ∧ ps.length ≤ 64) ∧ ps.all Iv.ok = true) ∧ qs.all Iv.ok = true ∧ qs.length + 1 = ps.length := by
  unfold errFB at hE
  by_cases h : errF ps = 0 ∧ qs.all Iv.ok = true
  · rw [if_pos h] at hE
    by_cases h2 : qs.length + 1 = ps.length
    · refine ⟨?_, h.2, h2⟩
      have h3 := h.1
      unfold errF at h3
      by_cases h4 : (1 ≤ ps.length ∧ ps.length ≤ 64) ∧ ps.all Iv.ok = true
      · exact h4
      · rw [if_neg h4] at h3
        omega
    · rw [if_neg h2] at hE
      omega
  · rw [if_neg h] at hE
    omega
 obtain ⟨⟨⟨l1, l2⟩, o1⟩, o2, hln⟩ := hE'
 obtain ⟨n, hn⟩ : ∃ n, qs.length = n := ⟨_, rfl⟩
 have hpn : ps.length = n + 1 := by omega
 have hp : FmW 8 (ps.map Iv.P) ps := (fmw_of o1 hf.small b1 (by omega)).up (by omega)
 have hq : FmW 8 (qs.map Iv.P) qs := (fmw_of o2 hx.small b2 (by omega)).up (by omega)
 rw [hpn] at G1 ⊢
 rw [hn] at G2 ⊢
 generalize ps.map Iv.P = Ps at *
 generalize qs.map Iv.P = Qs at *
 have pl : Ps.length = n + 1 := by have := hp.len; omega
 have ql : Qs.length = n := by have := hq.len; omega
 have hL : Ps.length = Qs.length + 1 := by omega
 have h0 : 0 < Ps.length := by omega
 have hgd : ∀ k (hk : k < n), Ps.getD (k + 1) (0, 0) = Ps[k + 1]'(by omega) := fun k hk => by
  rw [List.getD_eq_getElem?_getD, List.getElem?_eq_getElem (show k + 1 < Ps.length by omega)]
  rfl
 have hwl := prS_len hL
 have hfl := prF_len hL
 have hws : ∀ q ∈ prS Ps Qs, IvN 12 q.1.1 q.1.2 ∧ IvN 12 q.2.1 q.2.2 := fun q hm => by
  obtain ⟨j, hj, rfl⟩ := List.getElem_of_mem hm
  have hj2 : j < Qs.length := by rw [← hwl]; exact hj
  have hj1 : j + 1 < Ps.length := by omega
  rw [prS_get hj hj1 hj2]
  exact ⟨lessI_ok (hp.n (j + 1) hj1), (hq.n j hj2).up (by omega)⟩
 have hwf : ∀ q ∈ prF Ps Qs, IvN 8 q.1.1 q.1.2 ∧ IvN 8 q.2.1 q.2.2 := fun q hm => by
  obtain ⟨j, hj, rfl⟩ := List.getElem_of_mem hm
  have hj2 : j < Qs.length := by rw [← hfl]; exact hj
  have hj1 : j + 1 < Ps.length := by omega
  rw [prF_get hj hj1 hj2]
  exact ⟨hp.n (j + 1) hj1, hq.n j hj2⟩
 have hh : IvN 8 (hdF Ps).1 (hdF Ps).2 := by
  rw [hdF_get h0]
  exact hp.n 0 h0
 have aF := acc_ok (K := 8) (by omega) (hh.up (by omega)) hwf (by omega)
 have aS := acc_ok (K := 12) (by omega) (hh.up (by omega)) hws (by omega)
 have z0 : ∀ (ws : List (IvP × IvP)) (h : 0 < Ps.length), runV (hdF Ps) ws 0 = Ps[0] := fun ws h => by rw [runV_zero, hdF_get h]
 have sF : ∀ k (h1 : k + 1 < Ps.length) (h2 : k < Qs.length), runV (hdF Ps) (prF Ps Qs) (k + 1) = ivA (runV (hdF Ps) (prF Ps Qs) k) (ivM Ps[k + 1] Qs[k]) := fun k h1 h2 => by
  rw [runV_succ (by rw [hfl]; exact h2), prF_get (by rw [hfl]; exact h2) h1 h2]
 have sS : ∀ k (h2 : k < Qs.length), runV (hdF Ps) (prS Ps Qs) (k + 1) = ivA (runV (hdF Ps) (prS Ps Qs) k) (ivM (lessI (Ps.getD (k + 1) (0, 0))) Qs[k]) := fun k h2 => by
  rw [runV_succ (by rw [hwl]; exact h2), prS_get (by rw [hwl]; exact h2) (by omega) h2, hgd k (by omega)]
 have gL : ∀ k, k < n → IvN 12 (lessI (Ps.getD (k + 1) (0, 0))).1 (lessI (Ps.getD (k + 1) (0, 0))).2 := fun k hk => by rw [hgd k hk]; exact lessI_ok (hp.n (k + 1) (by omega))
 have gM : ∀ k, k < n → IvN 9 (midI (Ps.getD (k + 1) (0, 0))) (midI (Ps.getD (k + 1) (0, 0))) ∧ -bigZ < midI (Ps.getD (k + 1) (0, 0)) ∧ midI (Ps.getD (k + 1) (0, 0)) < bigZ := fun k hk => by
  rw [hgd k hk]; exact ⟨(midI_ok (hp.n (k + 1) (by omega))).1, (midI_ok (hp.n (k + 1) (by omega))).2.1⟩
 refine lvl_walk (g := 0) (r := ivOf (runV (hdF Ps) (prF Ps Qs) n).1 (runV (hdF Ps) (prF Ps Qs) n).2) (s := ivOf (runV (hdF Ps) (prS Ps Qs) n).1 (runV (hdF Ps) (prS Ps Qs) n).2) (zs := encI (rowL Ps)) G1 G2 ?_ ?_ ?_ ?_
 · intro W h
   refine (lvalue_run2 (hf.below h) (hx.below h) hp hq hn hpn (by omega) (z0 _) sF (fun k hk => (aF k (by omega)).up (by omega)) (IvW.mk _)).mono ?_
   rintro e w' ⟨rA, ra, rB, rb, rfl, u0, u1, hb⟩
   exact ⟨_, _, _, _, rfl, u0.mono (le_old _), u1.mono (le_old _), hb⟩
 · intro W h
   exact rvalue_run (hf.below h) (hx.below h) hp hq hn hpn (by omega) (z0 _) (fun k h1 h2 => ⟨sF k h1 h2, (ivM_ok (hp.n (k + 1) h1) (hq.n k h2) (by omega)).up (by omega)⟩) (fun k hk => (aF k (by omega)).up (by omega)) (IvW.mk _)
 · intro W h
   have h9 := lsplit_run2 (Lf := fun k => lessI (Ps.getD (k + 1) (0, 0))) (M := fun k => midI (Ps.getD (k + 1) (0, 0))) (S := rowS Ps) (hf.below h) (hx.below h) hp hq hn hpn (by omega) (z0 (prS Ps Qs)) (fun k h => by rw [hgd k (by omega)]) gM (fun k h => by rw [hgd k (by omega)]; rfl) sS (fun k hk => (aS k (by omega)).up (by omega)) gL (IvW.mk _) (by show List.replicate Ps.length 0 = _; rw [pl]) (fun k hk => rfl)
   rw [rowS_all pl] at h9
   refine h9.mono ?_
   rintro e w' ⟨Av, cv, rA, ra, rB, rb, rfl, hv, u0, u1, hb⟩
   exact ⟨Av, cv, _, _, _, _, by rw [encI_len, rowL, List.length_cons, List.length_map, List.length_tail, pl]; rfl, hv.mono (le_old _), u0.mono (le_old _), u1.mono (le_old _), hb⟩
 · intro W h
   have h9 := rsplit_run (Lf := fun k => lessI (Ps.getD (k + 1) (0, 0))) (M := fun k => midI (Ps.getD (k + 1) (0, 0))) (hf.below h) (hx.below h) hp hq hn hpn (by omega) (z0 (prS Ps Qs)) (fun k h => by rw [hgd k (by omega)]) gM (fun k h => by rw [hgd k (by omega)]; rfl) (fun k h2 => ⟨sS k h2, (ivM_ok (gL k (by omega)) ((hq.n k h2).up (show 8 ≤ 12 by omega)) (by omega)).up (by omega)⟩) (fun k hk => (aS k (by omega)).up (by omega)) gL (IvW.mk _)
   rw [row17 pl] at h9
   refine h9.mono ?_
   rintro e w' ⟨Av, cv, rA, ra, rB, rb, rfl, hv, u0, u1, hb⟩
   exact ⟨Av, cv, _, _, _, _, by rw [encI_len, rowL, List.length_cons, List.length_map, List.length_tail, pl]; rfl, hv, u0, u1, hb⟩
theorem lawLinearValues {ps qs : List Iv} (hf : IsIvs w old f ps) (hx : IsIvs w old x qs) :
  Calls Tryz.prog 4 #[f, x] w fun e w' => e = .returned (.bool true) ∧ Below w.heap.size w w' := by
 cases k1 : greatF ps 80 3 with
 | true => exact lvl_great1 hf hx k1
 | false =>
   cases k2 : greatF qs 80 3 with
   | true => exact lvl_great2 hf hx k1 k2
   | false =>
     by_cases hE : errFB ps qs = 0
     · exact lvl_good hf hx k1 k2 hE
     · exact lvl_bad hf hx k1 k2 hE
end Go.Proofs.YthpngihjcphigaaGreat
