/- Places: itv.over, down. No conditions but bounds on lengths. -/
import Derived.Deep.RegionHeld3
import Derived.Test.YthpngihjcphigaaGreatVLinP
import Derived.Test.YthpngihjcphigaaGreatVWhV
import Derived.Test.YthpngihjcphigaaGreatVItvV
import Derived.Test.YthpngihjcphigaaGreatVWhM
import Derived.Test.YthpngihjcphigaaGreatVWhJ
import Derived.Test.YthpngihjcphigaaGreatVWhU
import Derived.Test.YthpngihjcphigaaGreatVRefI
set_option linter.unusedVariables false
set_option linter.unusedSimpArgs false
set_option maxRecDepth 100000
set_option maxHeartbeats 40000000
namespace Go.Proofs.YthpngihjcphigaaGreat
open Go.Lib (hid)
open Go.RowKit
variable {A B C D : Option Addr} {B0 M N a b c d g h i j o : Nat} {Q : IvP} {V W W' W0 w w' : World} {Z Z1 Z2 Z3 Z4 : Zone} {a0 a1 a2 a3 a4 a5 b0 b1 b2 b3 b4 b5 v x0 x1 x2 x3 x4 x5 : Value} {e : TypeId} {l l' ml rl : List Nat} {m n' r rs s s' s0 s1 t : Bool} {p q : Iv} {x y : Int} {xs : List Value}
def IvW (P : IvP) (q : Iv) : Prop := EndL P.1 q.n0 q.s0 q.l0 ∧ EndH P.2 q.n1 q.s1 q.l1
theorem IvW.mk (P : IvP) : IvW P (ivOf P.1 P.2) := ⟨⟨rfl, rfl, rfl⟩, rfl, rfl, rfl⟩
theorem IvW.uniq {P : IvP} (h : IvW P p) (g : IvW P q) : p = q := by
 obtain ⟨⟨a1, a2, a3⟩, a4, a5, a6⟩ := h
 obtain ⟨⟨b1, b2, b3⟩, b4, b5, b6⟩ := g
 cases p
 cases q
 simp only at *
 subst a1 a2 a3 a4 a5 a6 b1 b2 b3 b4 b5 b6
 rfl
theorem lo_e (h : -bigZ ≤ x ∧ x < bigZ) : loV (nLo x) (sE x) (lE x) = x ∧ okE (nLo x) (sE x) (lE x) = true := by
 have h0 := bigZ_pos
 by_cases hx : x = -bigZ
 · have e1 : nLo x = true := decide_eq_true hx
   have e2 : sE x = false := decide_eq_false (by omega)
   have e3 : lE x = [] := by unfold lE; rw [if_neg (by omega)]
   rw [e1, e2, e3]
   exact ⟨hx.symm, rfl⟩
 · have e1 : nLo x = false := decide_eq_false hx
   have e2 := nm_e (n := x) ⟨by omega, h.2⟩
   rw [e1, e2.1, e2.2]
   exact ⟨zof_z x, IsZ.ok x⟩
theorem hi_e (h : -bigZ < x ∧ x ≤ bigZ) : hiV (nHi x) (sE x) (lE x) = x ∧ okE (nHi x) (sE x) (lE x) = true := by
 have h0 := bigZ_pos
 by_cases hx : x = bigZ
 · have e1 : nHi x = true := decide_eq_true hx
   have e2 : sE x = false := decide_eq_false (by omega)
   have e3 : lE x = [] := by unfold lE; rw [if_neg (by omega)]
   rw [e1, e2, e3]
   exact ⟨hx.symm, rfl⟩
 · have e1 : nHi x = false := decide_eq_false hx
   have e2 := nm_e (n := x) ⟨h.1, by omega⟩
   rw [e1, e2.1, e2.2]
   exact ⟨zof_z x, IsZ.ok x⟩
structure IvK (N : Nat) (P : IvP) (p : Iv) : Prop where
 ok : okA p.n0 p.s0 p.l0 p.n1 p.s1 p.l1 = true
 lo : loV p.n0 p.s0 p.l0 = P.1
 hi : hiV p.n1 p.s1 p.l1 = P.2
 q0 : p.l0.length ≤ N
 q1 : p.l1.length ≤ N
theorem IvW.k {P : IvP} (h : IvW P p) (g : IvN N P.1 P.2) (hN : N ≤ 64) : IvK N P p := by
 obtain ⟨⟨a1, a2, a3⟩, a4, a5, a6⟩ := h
 have r1 := g.lo.range hN
 have r2 := g.hi.range hN
 have e1 := lo_e ⟨r1.1, g.nlo⟩
 have e2 := hi_e ⟨g.nhi, r2.2⟩
 rw [← a1, ← a2, ← a3] at e1
 rw [← a4, ← a5, ← a6] at e2
 have p1 : Pl P.1 (bE P.1) p.s0 p.l0 := by rw [a2, a3]; exact Pl.all r1
 have p2 : Pl P.2 (bE P.2) p.s1 p.l1 := by rw [a5, a6]; exact Pl.all r2
 refine ⟨?_, e1.1, e2.1, p1.len_of g.lo, p2.len_of g.hi⟩
 unfold okA
 rw [e1.2, e2.2]
 have h1 := e1.1
 have h2 := e2.1
 have h3 := g.le
 unfold loV at h1
 unfold hiV at h2
 cases hn0 : p.n0
 · cases hn1 : p.n1
   · rw [hn0] at h1
     rw [hn1] at h2
     have : zof p.s0 p.l0 ≤ zof p.s1 p.l1 := by
      have h1' : zof p.s0 p.l0 = P.1 := h1
      have h2' : zof p.s1 p.l1 = P.2 := h2
      omega
     simp [this]
   · rfl
 · rfl
theorem IvW.okP {P : IvP} (h : IvW P p) (g : IvN N P.1 P.2) (hN : N ≤ 64) : p.ok = true := (h.k g hN).ok
theorem imul_w {r : Iv} {P : IvP} (hp : IvW P p) (hq : IvW Q q) (hr : IvW (ivM P Q) r) (gp : IvN N P.1 P.2) (gq : IvN M Q.1 Q.2) (hN : N ≤ 32) (hM : M ≤ 32) (u1 : U64s w Z1 A a p.l0) (u2 : U64s w Z2 B b p.l1) (u3 : U64s w Z3 C c q.l0) (u4 : U64s w Z4 D d q.l1) :
  Calls Tryz.prog 8 #[.agg #[.bool p.n0, .bool p.s0, .slice A p.l0.length a, .bool p.n1, .bool p.s1, .slice B p.l1.length b], .agg #[.bool q.n0, .bool q.s0, .slice C q.l0.length c, .bool q.n1, .bool q.s1, .slice D q.l1.length d]] w fun e w' => ∃ rA ra rB rb, e = .returned (.tuple #[.agg #[.bool r.n0, .bool r.s0, .slice rA r.l0.length ra, .bool r.n1, .bool r.s1, .slice rB r.l1.length rb], .int .i64 0]) ∧ U64s w' (new w.heap.size) rA ra r.l0 ∧ U64s w' (new w.heap.size) rB rb r.l1 ∧ Below w.heap.size w w' := by
 have kp := hp.k gp (by omega)
 have kq := hq.k gq (by omega)
 have g := ivM_ok gp gq (by omega)
 exact iMul_good u1 u2 u3 u4 kp.ok kq.ok (Nat.le_trans kp.q0 hN) (Nat.le_trans kp.q1 hN) (Nat.le_trans kq.q0 hM) (Nat.le_trans kq.q1 hM) (by rw [kp.lo, kp.hi, kq.lo, kq.hi]; rfl) (by rw [kp.lo, kp.hi, kq.lo, kq.hi]; rfl) g.nlo g.nhi hr.1 hr.2
theorem iadd_w {r : Iv} {P : IvP} (hp : IvW P p) (hq : IvW Q q) (hr : IvW (ivA P Q) r) (gp : IvN N P.1 P.2) (gq : IvN N Q.1 Q.2) (hN : N ≤ 59) (u1 : U64s w Z1 A a p.l0) (u2 : U64s w Z2 B b p.l1) (u3 : U64s w Z3 C c q.l0) (u4 : U64s w Z4 D d q.l1) :
  Calls Tryz.prog 6 #[.agg #[.bool p.n0, .bool p.s0, .slice A p.l0.length a, .bool p.n1, .bool p.s1, .slice B p.l1.length b], .agg #[.bool q.n0, .bool q.s0, .slice C q.l0.length c, .bool q.n1, .bool q.s1, .slice D q.l1.length d]] w fun e w' => ∃ rA ra rB rb, e = .returned (.tuple #[.agg #[.bool r.n0, .bool r.s0, .slice rA r.l0.length ra, .bool r.n1, .bool r.s1, .slice rB r.l1.length rb], .int .i64 0]) ∧ U64s w' (new w.heap.size) rA ra r.l0 ∧ U64s w' (new w.heap.size) rB rb r.l1 ∧ Below w.heap.size w w' := by
 have kp := hp.k gp (by omega)
 have kq := hq.k gq (by omega)
 have g := ivA_ok gp gq (by omega)
 exact iAdd_good u1 u2 u3 u4 kp.ok kq.ok (by have := kp.q0; omega) (by have := kp.q1; omega) (by have := kq.q0; omega) (by have := kq.q1; omega) (by rw [kp.lo, kq.lo]; rfl) (by rw [kp.hi, kq.hi]; rfl) g.nlo g.nhi hr.1 hr.2
theorem ineg_w {r : Iv} {P : IvP} (hp : IvW P p) (hr : IvW (ivNg P) r) (gp : IvN N P.1 P.2) (hN : N ≤ 60) (u1 : U64s w Z1 A a p.l0) (u2 : U64s w Z2 B b p.l1) :
  Calls Tryz.prog 61 #[.agg #[.bool p.n0, .bool p.s0, .slice A p.l0.length a, .bool p.n1, .bool p.s1, .slice B p.l1.length b]] w fun e w' => ∃ rA ra rB rb, e = .returned (.tuple #[.agg #[.bool r.n0, .bool r.s0, .slice rA r.l0.length ra, .bool r.n1, .bool r.s1, .slice rB r.l1.length rb], .int .i64 0]) ∧ U64s w' (new w.heap.size) rA ra r.l0 ∧ U64s w' (new w.heap.size) rB rb r.l1 ∧ Below w.heap.size w w' := by
 have kp := hp.k gp (by omega)
 exact iNeg_good u1 u2 kp.ok (by have := kp.q0; omega) (by have := kp.q1; omega) (by rw [kp.hi]; rfl) (by rw [kp.lo]; rfl) hr.1 hr.2
theorem ijoin_w {P : IvP} (hp : IvW P p) (gp : IvN N P.1 P.2) (hN : N ≤ 60) (u1 : U64s w Z1 A a p.l0) (u2 : U64s w Z2 B b p.l1) (u3 : U64s w Z3 C c p.l0) (u4 : U64s w Z4 D d p.l1) :
  Calls Tryz.prog 57 #[.agg #[.bool p.n0, .bool p.s0, .slice A p.l0.length a, .bool p.n1, .bool p.s1, .slice B p.l1.length b], .agg #[.bool p.n0, .bool p.s0, .slice C p.l0.length c, .bool p.n1, .bool p.s1, .slice D p.l1.length d]] w fun e w' => ∃ rA ra rB rb, e = .returned (.tuple #[.agg #[.bool p.n0, .bool p.s0, .slice rA p.l0.length ra, .bool p.n1, .bool p.s1, .slice rB p.l1.length rb], .int .i64 0]) ∧ U64s w' (new w.heap.size) rA ra p.l0 ∧ U64s w' (new w.heap.size) rB rb p.l1 ∧ Below w.heap.size w w' := by
 have kp := hp.k gp (by omega)
 exact iJoin_good u1 u2 u3 u4 kp.ok kp.ok (by have := kp.q0; omega) (by have := kp.q1; omega) (by have := kp.q0; omega) (by have := kp.q1; omega) (z0 := P.1) (z1 := P.2) (by rw [kp.lo]; omega) (by rw [kp.hi]; omega) hp.1 hp.2
theorem box4 (w : World) (a0 a1 a2 a3 a4 a5 b0 b1 b2 b3 b4 b5 c0 c1 c2 c3 c4 c5 r0 r1 r2 r3 r4 r5 : Value) (t : TypeId) :
  Box6 ((((w.alloc (.cells #[a0, a1, a2, a3, a4, a5] t)).alloc (.cells #[b0, b1, b2, b3, b4, b5] t)).alloc (.cells #[c0, c1, c2, c3, c4, c5] t)).alloc (.cells #[r0, r1, r2, r3, r4, r5] t)) w.heap.size a0 a1 a2 a3 a4 a5 ∧ Box6 ((((w.alloc (.cells #[a0, a1, a2, a3, a4, a5] t)).alloc (.cells #[b0, b1, b2, b3, b4, b5] t)).alloc (.cells #[c0, c1, c2, c3, c4, c5] t)).alloc (.cells #[r0, r1, r2, r3, r4, r5] t)) (w.heap.size + 1) b0 b1 b2 b3 b4 b5 ∧ Box6 ((((w.alloc (.cells #[a0, a1, a2, a3, a4, a5] t)).alloc (.cells #[b0, b1, b2, b3, b4, b5] t)).alloc (.cells #[c0, c1, c2, c3, c4, c5] t)).alloc (.cells #[r0, r1, r2, r3, r4, r5] t)) (w.heap.size + 2) c0 c1 c2 c3 c4 c5 ∧ Box6 ((((w.alloc (.cells #[a0, a1, a2, a3, a4, a5] t)).alloc (.cells #[b0, b1, b2, b3, b4, b5] t)).alloc (.cells #[c0, c1, c2, c3, c4, c5] t)).alloc (.cells #[r0, r1, r2, r3, r4, r5] t)) (w.heap.size + 3) r0 r1 r2 r3 r4 r5 ∧ Below w.heap.size w ((((w.alloc (.cells #[a0, a1, a2, a3, a4, a5] t)).alloc (.cells #[b0, b1, b2, b3, b4, b5] t)).alloc (.cells #[c0, c1, c2, c3, c4, c5] t)).alloc (.cells #[r0, r1, r2, r3, r4, r5] t)) := by
 obtain ⟨h1, h2, h3, hb⟩ := boxX w a0 a1 a2 a3 a4 a5 b0 b1 b2 b3 b4 b5 c0 c1 c2 c3 c4 c5 t
 have h4 := Box6.new (((w.alloc (.cells #[a0, a1, a2, a3, a4, a5] t)).alloc (.cells #[b0, b1, b2, b3, b4, b5] t)).alloc (.cells #[c0, c1, c2, c3, c4, c5] t)) r0 r1 r2 r3 r4 r5 t
 rw [show (((w.alloc (.cells #[a0, a1, a2, a3, a4, a5] t)).alloc (.cells #[b0, b1, b2, b3, b4, b5] t)).alloc (.cells #[c0, c1, c2, c3, c4, c5] t)).heap.size = w.heap.size + 3 by simp] at h4
 exact ⟨h1.alloc _, h2.alloc _, h3.alloc _, h4, hb.alloc (by simp; omega) _⟩
theorem lwith_w {Z5 Z6 : Zone} {s r : Iv} {S P : IvP} {K : Nat} {E F : Option Addr} {e f : Nat} (hs : IvW S s) (hp : IvW P p) (hq : IvW Q q) (hr : IvW (ivA S (ivM P Q)) r) (gs : IvN N S.1 S.2) (gp : IvN K P.1 P.2) (gq : IvN K Q.1 Q.2) (hN : K + K ≤ N ∧ N ≤ 59)
  (u1 : U64s w Z1 A a s.l0) (u2 : U64s w Z2 B b s.l1) (u3 : U64s w Z3 C c p.l0) (u4 : U64s w Z4 D d p.l1) (u5 : U64s w Z5 E e q.l0) (u6 : U64s w Z6 F f q.l1) :
  Calls Tryz.prog 58 #[.agg #[.bool s.n0, .bool s.s0, .slice A s.l0.length a, .bool s.n1, .bool s.s1, .slice B s.l1.length b], .agg #[.bool p.n0, .bool p.s0, .slice C p.l0.length c, .bool p.n1, .bool p.s1, .slice D p.l1.length d], .agg #[.bool q.n0, .bool q.s0, .slice E q.l0.length e, .bool q.n1, .bool q.s1, .slice F q.l1.length f]] w fun e w' => ∃ rA ra rB rb, e = .returned (.agg #[.bool r.n0, .bool r.s0, .slice rA r.l0.length ra, .bool r.n1, .bool r.s1, .slice rB r.l1.length rb]) ∧ U64s w' (new w.heap.size) rA ra r.l0 ∧ U64s w' (new w.heap.size) rB rb r.l1 ∧ Below w.heap.size w w' := by
 obtain ⟨bA, bB, bC, bR, hB0⟩ := box4 w (.bool s.n0) (.bool s.s0) (.slice A s.l0.length a) (.bool s.n1) (.bool s.s1) (.slice B s.l1.length b) (.bool p.n0) (.bool p.s0) (.slice C p.l0.length c) (.bool p.n1) (.bool p.s1) (.slice D p.l1.length d) (.bool q.n0) (.bool q.s0) (.slice E q.l0.length e) (.bool q.n1) (.bool q.s1) (.slice F q.l1.length f) (.bool false) (.bool false) (.slice none 0 0) (.bool false) (.bool false) (.slice none 0 0) 29
 obtain ⟨m, hm⟩ : ∃ m, IvW (ivM P Q) m := ⟨_, IvW.mk _⟩
 have gm := ivM_ok gp gq (by omega)
 obtain ⟨MU, AD, HA, HR, Hb1⟩ := hid5 (fun (V : World) (h : Below w.heap.size w V) => imul_w (w := V) hp hq hm gp gq (by omega) (by omega) (u3.below h) (u4.below h) (u5.below h) (u6.below h)) (fun (V : World) (h : Below w.heap.size w V) (Y1 Y2 : Zone) (G H : Option Addr) (g h' : Nat) (v1 : U64s V Y1 G g m.l0) (v2 : U64s V Y2 H h' m.l1) => iadd_w (w := V) hs hm hr gs (gm.up hN.1) hN.2 (u1.below h) (u2.below h) v1 v2) bA bR hB0
 have b0 := bB.all
 have c0 := bC.all
 clear hs hp hq hr hm gs gp gq gm hN u1 u2 u3 u4 u5 u6 bA bR hB0
 generalize s.l0.length = sl0 at *
 generalize s.l1.length = sl1 at *
 generalize p.l0.length = pl0 at *
 generalize p.l1.length = pl1 at *
 generalize q.l0.length = ql0 at *
 generalize q.l1.length = ql1 at *
 go_enter Tryz.func58, Tryz.ntmps58
 go_wp2_with fail
 refine (MU.out _ Hb1.out).mono ?_
 rintro e' w1 ⟨A1, d1, A2, d2, rfl, o1, o2, hc⟩
 have hb2 := from_ Hb1.out hc
 have hm7 := Box6.new w1 (.bool m.n0) (.bool m.s0) (.slice A1 m.l0.length d1) (.bool m.n1) (.bool m.s1) (.slice A2 m.l1.length d2) 29
 have hp7 : Below w1.heap.size w1 (w1.alloc (.cells #[.bool m.n0, .bool m.s0, .slice A1 m.l0.length d1, .bool m.n1, .bool m.s1, .slice A2 m.l1.length d2] 29)) := (Below.refl _ w1).alloc (Nat.le_refl _) _
 have hA1 := ((HA.out.below hc).below hp7)
 obtain ⟨HR1, HX⟩ := hid2 ((HR.out.below hc).below hp7) (AD.out _ (from_ hb2 hp7) _ _ _ _ _ _ (o1.below hp7) (o2.below hp7))
 have hb3 := from_ hb2 hp7
 have Hz1 := HR1.out.lt
 clear o1 o2 hb2 hp7 hc b0 c0 Hb1 HA HR
 have a0 := hA1.all
 obtain ⟨m0, m1, m2, m3, m4, m5, _, _, _, _, _, _, _⟩ := hm7
 go_wp2_with fail
 refine HX.out.mono ?_
 rintro e' w2 ⟨A3, d3, A4, d4, rfl, o3, o4, hc⟩
 have hb4 := from_ hb3 hc
 have hm9 := Box6.new w2 (.bool r.n0) (.bool r.s0) (.slice A3 r.l0.length d3) (.bool r.n1) (.bool r.s1) (.slice A4 r.l1.length d4) 29
 have hp9 : Below w2.heap.size w2 (w2.alloc (.cells #[.bool r.n0, .bool r.s0, .slice A3 r.l0.length d3, .bool r.n1, .bool r.s1, .slice A4 r.l1.length d4] 29)) := (Below.refl _ w2).alloc (Nat.le_refl _) _
 have hR2 := ((HR1.out.below hc).below hp9)
 obtain ⟨HP, U1, U2⟩ := hid3 (hR2.put (w := w) (from_ hb4 hp9) (by omega) (.bool r.n0) (.bool r.s0) (.slice A3 r.l0.length d3) (.bool r.n1) (.bool r.s1) (.slice A4 r.l1.length d4)) (((o3.below hp9).set6 (g := w.heap.size + 3) (fun (h : _ ≤ w.heap.size + 3) => by omega) (.bool r.n0) (.bool r.s0) (.slice A3 r.l0.length d3) (.bool r.n1) (.bool r.s1) (.slice A4 r.l1.length d4)).mono (new_le hb3.size)) (((o4.below hp9).set6 (g := w.heap.size + 3) (fun (h : _ ≤ w.heap.size + 3) => by omega) (.bool r.n0) (.bool r.s0) (.slice A3 r.l0.length d3) (.bool r.n1) (.bool r.s1) (.slice A4 r.l1.length d4)).mono (new_le hb3.size))
 clear o3 o4 hb3 hb4 hp9 hc a0 m0 m1 m2 m3 m4 m5 HR1 Hz1
 have m0 := hm9.all
 have g0 := hR2.cf
 go_wp2
 refine bodyPost_ret (res_itv rfl _ (w.heap.size + 3) rfl HP.out.box) rfl ?_
 exact ⟨_, _, _, _, rfl, U1.out, U2.out, HP.out.bel⟩
theorem valL_snoc (o : IvP) (l : List (IvP × IvP)) (q : IvP × IvP) : valL o (l ++ [q]) = ivA (valL o l) (ivM q.1 q.2) := by
 unfold valL
 rw [List.foldl_append]
 rfl
def runV (o : IvP) (ws : List (IvP × IvP)) (k : Nat) : IvP := valL o (ws.take k)
theorem runV_zero (o : IvP) (ws : List (IvP × IvP)) : runV o ws 0 = o := rfl
theorem runV_succ {o : IvP} {ws : List (IvP × IvP)} {k : Nat} (h : k < ws.length) : runV o ws (k + 1) = ivA (runV o ws k) (ivM ws[k].1 ws[k].2) := by
 unfold runV
 rw [List.take_succ_eq_append_getElem h, valL_snoc]
theorem six_keep (h : W.cell? ⟨b, o, none⟩ = some a0 ∧ W.cell? ⟨b, o + 1, none⟩ = some a1 ∧ W.cell? ⟨b, o + 2, none⟩ = some a2 ∧ W.cell? ⟨b, o + 3, none⟩ = some a3 ∧ W.cell? ⟨b, o + 4, none⟩ = some a4 ∧ W.cell? ⟨b, o + 5, none⟩ = some a5) (hb : Below W.heap.size W W') : W'.cell? ⟨b, o, none⟩ = some a0 ∧ W'.cell? ⟨b, o + 1, none⟩ = some a1 ∧ W'.cell? ⟨b, o + 2, none⟩ = some a2 ∧ W'.cell? ⟨b, o + 3, none⟩ = some a3 ∧ W'.cell? ⟨b, o + 4, none⟩ = some a4 ∧ W'.cell? ⟨b, o + 5, none⟩ = some a5 :=
 ⟨keepC hb h.1, keepC hb h.2.1, keepC hb h.2.2.1, keepC hb h.2.2.2.1, keepC hb h.2.2.2.2.1, keepC hb h.2.2.2.2.2⟩
theorem six_st6 {r : Nat} {x0 x1 x2 x3 x4 x5 : Value} (hn : r ≠ b) (h : W.cell? ⟨b, o, none⟩ = some a0 ∧ W.cell? ⟨b, o + 1, none⟩ = some a1 ∧ W.cell? ⟨b, o + 2, none⟩ = some a2 ∧ W.cell? ⟨b, o + 3, none⟩ = some a3 ∧ W.cell? ⟨b, o + 4, none⟩ = some a4 ∧ W.cell? ⟨b, o + 5, none⟩ = some a5) :
 let V := ((((((W.setCell ⟨r, 0, none⟩ x0).setCell ⟨r, 1, none⟩ x1).setCell ⟨r, 2, none⟩ x2).setCell ⟨r, 3, none⟩ x3).setCell ⟨r, 4, none⟩ x4).setCell ⟨r, 5, none⟩ x5)
 V.cell? ⟨b, o, none⟩ = some a0 ∧ V.cell? ⟨b, o + 1, none⟩ = some a1 ∧ V.cell? ⟨b, o + 2, none⟩ = some a2 ∧ V.cell? ⟨b, o + 3, none⟩ = some a3 ∧ V.cell? ⟨b, o + 4, none⟩ = some a4 ∧ V.cell? ⟨b, o + 5, none⟩ = some a5 := ⟨st6 h.1 hn, st6 h.2.1 hn, st6 h.2.2.1 hn, st6 h.2.2.2.1 hn, st6 h.2.2.2.2.1 hn, st6 h.2.2.2.2.2 hn⟩
theorem six_keep0 (h : C6 W b a0 a1 a2 a3 a4 a5) (hb : Below W.heap.size W W') : C6 W' b a0 a1 a2 a3 a4 a5 :=
 ⟨keepC hb h.1, keepC hb h.2.1, keepC hb h.2.2.1, keepC hb h.2.2.2.1, keepC hb h.2.2.2.2.1, keepC hb h.2.2.2.2.2⟩
theorem infoIv : (Tryz.prog.info? 29).map (fun i => (i.zero, i.size, i.bytes)) = some (some (.agg #[.bool false, .bool false, .slice none 0 0, .bool false, .bool false, .slice none 0 0]), 6, 80) := by kernel_rfl
theorem c2_keep {a b : Value} (hs : W.cell? ⟨g, i, none⟩ = some a ∧ W.cell? ⟨g, j, none⟩ = some b) (hb : Below W.heap.size W V) : V.cell? ⟨g, i, none⟩ = some a ∧ V.cell? ⟨g, j, none⟩ = some b := ⟨keepC hb hs.1, keepC hb hs.2⟩
theorem c4_keep {k l : Nat} {a b c d : Value} (hs : (W.cell? ⟨g, i, none⟩ = some a ∧ W.cell? ⟨g, j, none⟩ = some b) ∧ W.cell? ⟨h, k, none⟩ = some c ∧ W.cell? ⟨h, l, none⟩ = some d) (hb : Below W.heap.size W V) : (V.cell? ⟨g, i, none⟩ = some a ∧ V.cell? ⟨g, j, none⟩ = some b) ∧ V.cell? ⟨h, k, none⟩ = some c ∧ V.cell? ⟨h, l, none⟩ = some d := ⟨c2_keep hs.1 hb, c2_keep hs.2 hb⟩
theorem nm_bound (h : Nm x s l) (hl : l.length ≤ N) : -wN N < x ∧ x < wN N := by
 obtain ⟨rfl, rfl⟩ := h
 have h1 := val_lt (small_limbs x.natAbs)
 rw [val_limbs] at h1
 have h2 : x.natAbs < 18446744073709551616 ^ N := Nat.lt_of_lt_of_le h1 (Nat.pow_le_pow_right (by decide) hl)
 have h3 : (x.natAbs : Int) < wN N := by rw [wN_cast]; exact Int.ofNat_lt.2 h2
 omega
theorem nm_lenN (h : Nm x s l) (h3 : -wN N < x ∧ x < wN N) : l.length ≤ N := by
 obtain ⟨rfl, rfl⟩ := h
 refine len_limbs_le ?_
 rw [wN_cast] at h3
 have h4 : (x.natAbs : Int) < ((18446744073709551616 ^ N : Nat) : Int) := by omega
 exact Int.ofNat_lt.1 h4
theorem wfloor_m {k m : List Nat} (h1 : Nm x s l) (h2 : Nm y t k) (hy : y ≠ 0) (h3 : Nm (rq x y true) r m) (hl : l.length ≤ 10000000000) (u1 : U64s w Z1 A c l) (u2 : U64s w Z2 B d k) :
  Calls Tryz.prog 81 #[.agg #[.bool s, .slice A l.length c], .agg #[.bool t, .slice B k.length d]] w fun e w' => ∃ Av cv, e = .returned (.tuple #[.agg #[.bool r, .slice Av m.length cv], .int .i64 0]) ∧ U64s w' (new w.heap.size) Av cv m ∧ Below w.heap.size w w' := by
 refine (wfloor_z (h1.isZ u1) (h2.isZ u2) hy (by rw [← h1.len]; exact hl)).mono ?_
 rintro e w' ⟨v, rfl, hv, hb⟩
 obtain ⟨Av, cv, rfl, hu⟩ := h3.of hv
 exact ⟨Av, cv, rfl, hu, hb⟩
theorem same16_yes (u1 : U64s w Z1 A a p.l0) (u2 : U64s w Z2 B b p.l1) (u3 : U64s w Z3 C c p.l0) (u4 : U64s w Z4 D d p.l1) :
  Calls Tryz.prog 18 #[.agg #[.bool p.n0, .bool p.s0, .slice A p.l0.length a, .bool p.n1, .bool p.s1, .slice B p.l1.length b], .agg #[.bool p.n0, .bool p.s0, .slice C p.l0.length c, .bool p.n1, .bool p.s1, .slice D p.l1.length d]] w fun e w' => e = .returned (.bool true) ∧ Below w.heap.size w w' := by
 have h := r16same_any (n0 := p.n0) (s0 := p.s0) (n1 := p.n1) (s1 := p.s1) (m0 := p.n0) (t0 := p.s0) (m1 := p.n1) (t1 := p.s1) u1 u2 u3 u4
 rw [decide_eq_true (show (p.n0 = p.n0 ∧ p.s0 = p.s0 ∧ p.l0 = p.l0) ∧ p.n1 = p.n1 ∧ p.s1 = p.s1 ∧ p.l1 = p.l1 from ⟨⟨rfl, rfl, rfl⟩, rfl, rfl, rfl⟩)] at h
 exact h
def fmOf (Ps : List IvP) : List Iv := Ps.map fun P => ivOf P.1 P.2
theorem fmOf_len (Ps : List IvP) : (fmOf Ps).length = Ps.length := List.length_map _
theorem fmOf_get {Ps : List IvP} (h : j < (fmOf Ps).length) (h' : j < Ps.length) : (fmOf Ps)[j] = ivOf Ps[j].1 Ps[j].2 := List.getElem_map _
def IvsO (w : World) (B0 : Nat) (v : Value) (xs : List Value) (ps : List Iv) : Prop :=
 ∀ j (hj : j < ps.length), ∃ A a B b, (xs[j * 6]? = some (.bool ps[j].n0) ∧ xs[j * 6 + 1]? = some (.bool ps[j].s0) ∧ xs[j * 6 + 2]? = some (.slice A ps[j].l0.length a) ∧ xs[j * 6 + 3]? = some (.bool ps[j].n1) ∧ xs[j * 6 + 4]? = some (.bool ps[j].s1) ∧ xs[j * 6 + 5]? = some (.slice B ps[j].l1.length b)) ∧ U64s w (newX B0 v) A a ps[j].l0 ∧ U64s w (newX B0 v) B b ps[j].l1
theorem IvsO.nil (w : World) (B0 : Nat) (v : Value) (xs : List Value) : IvsO w B0 v xs [] := fun j hj => absurd hj (by simp)
theorem IvsO.below {ps : List Iv} (h : IvsO w B0 v xs ps) (hb : Below w.heap.size w w') : IvsO w' B0 v xs ps := fun j hj => by
 obtain ⟨A, a, B, b, hc, h0, h1⟩ := h j hj
 exact ⟨A, a, B, b, hc, h0.below hb, h1.below hb⟩
theorem IvsO.snoc {v' : Value} {ps : List Iv} (h : IvsO w B0 v xs ps) (hl : xs.length = ps.length * 6) (hg : w.grownBy w' v.ownBlock) (hf : Fresh w v v') (hu : U64s w (newX B0 v) A a p.l0) (hv : U64s w (newX B0 v) B b p.l1) :
  IvsO w' B0 v' (xs ++ [.bool p.n0, .bool p.s0, .slice A p.l0.length a, .bool p.n1, .bool p.s1, .slice B p.l1.length b]) (ps ++ [p]) := fun j hj => by
 rw [List.length_append, List.length_singleton] at hj
 by_cases hj2 : j < ps.length
 · obtain ⟨A', a', B', b', ⟨h0, h1, h2, h3, h4, h5⟩, u0, u1⟩ := h j hj2
   refine ⟨A', a', B', b', ?_, ?_, ?_⟩
   · rw [List.getElem_append_left hj2, List.getElem?_append_left (by omega), List.getElem?_append_left (by omega), List.getElem?_append_left (by omega), List.getElem?_append_left (by omega), List.getElem?_append_left (by omega), List.getElem?_append_left (by omega)]
     exact ⟨h0, h1, h2, h3, h4, h5⟩
   · rw [List.getElem_append_left hj2]; exact u0.grow hg hf
   · rw [List.getElem_append_left hj2]; exact u1.grow hg hf
 · obtain rfl : j = ps.length := by omega
   have e : (ps ++ [p])[ps.length]'(by simp) = p := by rw [List.getElem_append_right (by omega)]; simp
   refine ⟨A, a, B, b, ?_, ?_, ?_⟩
   · rw [e, List.getElem?_append_right (by omega), List.getElem?_append_right (by omega), List.getElem?_append_right (by omega), List.getElem?_append_right (by omega), List.getElem?_append_right (by omega), List.getElem?_append_right (by omega), hl, Nat.sub_self, show ps.length * 6 + 1 - ps.length * 6 = 1 by omega, show ps.length * 6 + 2 - ps.length * 6 = 2 by omega, show ps.length * 6 + 3 - ps.length * 6 = 3 by omega, show ps.length * 6 + 4 - ps.length * 6 = 4 by omega, show ps.length * 6 + 5 - ps.length * 6 = 5 by omega]
     exact ⟨rfl, rfl, rfl, rfl, rfl, rfl⟩
   · rw [e]; exact hu.grow hg hf
   · rw [e]; exact hv.grow hg hf
theorem IvsO.fin {B : Nat} {ps : List Iv} (h : IvsO w B0 v xs ps) (hown : w.ownsRow B e 6 v ps.length xs) : ∃ A c, v = .slice A ps.length c ∧ IvsAt w (new B0) A c ps ∧ ∀ b o, A = some ⟨b, o, none⟩ → B ≤ b := by
 have hcase := hown.2
 rcases hcase with ⟨e1, h0⟩ | ⟨g, cap, cur, e1, hB, hh, hcap, hm, _⟩
 · have hq : ps = [] := List.eq_nil_of_length_eq_zero h0
   subst hq
   exact ⟨none, 0, e1, IvsAt.nil _ _, fun b o h => by cases h⟩
 · subst e1
   refine ⟨some ⟨g, 0, none⟩, cap, rfl, ⟨hcap, by simpa [maxLen] using hm, fun h0 => ⟨g, 0, rfl, (hown.lt g rfl).2, fun j hj => ?_⟩⟩, fun b o h => by injection h with h; injection h with h1 h2; omega⟩
   obtain ⟨A, a, B, b, ⟨c0, c1, c2, c3, c4, c5⟩, u0, u1⟩ := h j hj
   refine ⟨A, a, B, b, ⟨?_, ?_, ?_, ?_, ?_, ?_⟩, u0.mono (newX_le _ _), u1.mono (newX_le _ _)⟩
   · rw [Nat.zero_add, hown.cellAt (j * 6) (by omega)]; exact c0
   · rw [Nat.zero_add, hown.cellAt (j * 6 + 1) (by omega)]; exact c1
   · rw [Nat.zero_add, hown.cellAt (j * 6 + 2) (by omega)]; exact c2
   · rw [Nat.zero_add, hown.cellAt (j * 6 + 3) (by omega)]; exact c3
   · rw [Nat.zero_add, hown.cellAt (j * 6 + 4) (by omega)]; exact c4
   · rw [Nat.zero_add, hown.cellAt (j * 6 + 5) (by omega)]; exact c5
theorem big_one : (1 : Int) < bigZ := by
 have := wN_le (show 1 ≤ 64 by omega)
 have e : wN 1 = 18446744073709551616 := rfl
 omega
theorem six_news {t : TypeId} : ∀ j u, [a0, a1, a2, a3, a4, a5][j]? = some u → (W.alloc (.cells #[a0, a1, a2, a3, a4, a5] t)).cell? ⟨W.heap.size, j, none⟩ = some u := by
 intro j u h
 have hj : j < 6 := by
  have h2 := (List.getElem?_eq_some_iff.1 h).1
  have h3 : ([a0, a1, a2, a3, a4, a5] : List Value).length = 6 := rfl
  omega
 refine cell_newest rfl ?_
 rw [← h]
 exact List.getElem?_toArray
def NoU (w : World) (g : Nat) : Prop := ∀ o n, w.cell? ⟨g, o, none⟩ ≠ some (.int .u64 n)
structure Bx3 (w : World) (g : Nat) : Prop where
 box : Box3 w g (.int .i64 0) (.bool false) (.slice none 0 0)
 no : NoU w g
theorem NoU.below (h : NoU w g) (hl : g < w.heap.size) (hb : Below w.heap.size w w') : NoU w' g := fun o n e => h o n ((World.cell?_of_block (w := w) (a := ⟨g, o, none⟩) (hb.block g hl)).symm.trans e)
theorem NoU.new (w : World) (x : Int) (s : Bool) (A : Option Addr) (n c : Nat) (t : TypeId) : NoU (w.alloc (.cells #[.int .i64 x, .bool s, .slice A n c] t)) w.heap.size := fun o m e => by
 have h := cell_of_row (w.alloc (.cells #[.int .i64 x, .bool s, .slice A n c] t)) w.heap.size o #[.int .i64 x, .bool s, .slice A n c] t (0, 0) (heap_alloc_new w _)
 rw [h] at e
 match o, e with
 | 0, e => cases e
 | 1, e => cases e
 | 2, e => cases e
 | o + 3, e => simp at e
theorem Bx3.new (w : World) (t : TypeId) : Bx3 (w.alloc (.cells #[.int .i64 0, .bool false, .slice none 0 0] t)) w.heap.size := ⟨Box3.new _ _ _ _ _, NoU.new _ _ _ _ _ _ _⟩
theorem Bx3.below (h : Bx3 w g) (hb : Below w.heap.size w w') : Bx3 w' g := ⟨h.box.below hb, h.no.below h.box.lt hb⟩
def zNe (g : Nat) : Zone := ⟨fun b => b ≠ g, False⟩
theorem U64s.offB (u : U64s w Z A c l) (h : NoU w g) : U64s w (zNe g) A c l :=
 ⟨u.small, u.cap, u.max, u.nul, fun h0 => by
  obtain ⟨b, o, e, _, _, hc⟩ := u.row h0
  refine ⟨b, o, e, fun hbg => ?_, fun h => h.elim, hc⟩
  subst hbg
  have h1 := hc 0 _ (List.getElem?_eq_getElem h0)
  rw [List.getElem_map] at h1
  exact h _ _ h1⟩
theorem U64s.set3n (u : U64s w Z A c l) (h : NoU w g) (x0 x1 x2 : Value) : U64s (((w.setCell ⟨g, 0, none⟩ x0).setCell ⟨g, 1, none⟩ x1).setCell ⟨g, 2, none⟩ x2) old A c l :=
 ((((u.offB h).set1 g 0 (fun h => h rfl) x0).set1 g 1 (fun h => h rfl) x1).set1 g 2 (fun h => h rfl) x2).mono (le_old _)
theorem NoU.set3 (u : NoU w h) (hn : g ≠ h) (x0 x1 x2 : Value) : NoU (((w.setCell ⟨g, 0, none⟩ x0).setCell ⟨g, 1, none⟩ x1).setCell ⟨g, 2, none⟩ x2) h := fun o n e => by
 rw [World.cell?_setCell_other _ _ _ _ (fun h => hn (by injection h)), World.cell?_setCell_other _ _ _ _ (fun h => hn (by injection h)), World.cell?_setCell_other _ _ _ _ (fun h => hn (by injection h))] at e
 exact u o n e
structure Res1 (W0 w : World) (g : Nat) (b : Int) (s : Bool) (l : List Nat) (A : Option Addr) (c : Nat) : Prop where
 box : Box3 w g (.int .i64 b) (.bool s) (.slice A l.length c)
 no : NoU w g
 u : U64s w old A c l
 lo : W0.heap.size ≤ g
 bel : Below W0.heap.size W0 w
theorem Res1.nw {b : Int} {t : TypeId} (Hc : Below W0.heap.size W0 w) (u : U64s w Z A c l) : Res1 W0 (w.alloc (.cells #[.int .i64 b, .bool s, .slice A l.length c] t)) w.heap.size b s l A c :=
 ⟨Box3.new _ _ _ _ _, NoU.new _ _ _ _ _ _ _, (u.mono (le_old _)).below bal_, Hc.size, from_ Hc bal_⟩
theorem NoU.of3 {n : Nat} (h : NoU w g) (hb : Bx3 w g) : NoU (((w.setCell ⟨g, 0, none⟩ (.int .i64 x)).setCell ⟨g, 1, none⟩ (.bool s)).setCell ⟨g, 2, none⟩ (.slice A n c)) g := fun o m e => by
 have hb3 := hb.box.set3 (.int .i64 x) (.bool s) (.slice A n c)
 by_cases h0 : o = 0
 · subst h0; rw [hb3.c0] at e; cases e
 · by_cases h1 : o = 1
   · subst h1; rw [hb3.c1] at e; cases e
   · by_cases h2 : o = 2
     · subst h2; rw [hb3.c2] at e; cases e
     · rw [World.cell?_setCell_other _ _ _ _ (fun h => h2 (by injection h with _ h; exact h.symm)), World.cell?_setCell_other _ _ _ _ (fun h => h1 (by injection h with _ h; exact h.symm)), World.cell?_setCell_other _ _ _ _ (fun h => h0 (by injection h with _ h; exact h.symm))] at e
       exact h o m e
theorem Res1.ol {b : Int} (Hc : Below W0.heap.size W0 w) (H : Bx3 w g) (hg : W0.heap.size ≤ g) (u : U64s w Z A c l) : Res1 W0 (((w.setCell ⟨g, 0, none⟩ (.int .i64 b)).setCell ⟨g, 1, none⟩ (.bool s)).setCell ⟨g, 2, none⟩ (.slice A l.length c)) g b s l A c :=
 ⟨H.box.set3 _ _ _, H.no.of3 H, u.set3n H.no _ _ _, hg, set3_below Hc hg _ _ _⟩
structure Res2 (W0 w : World) (g h : Nat) (b : Int) (s : Bool) (l : List Nat) (A : Option Addr) (c : Nat) (d : Int) (t : Bool) (k : List Nat) (B : Option Addr) (f : Nat) : Prop where
 bx : Box3 w g (.int .i64 b) (.bool s) (.slice A l.length c)
 by_ : Box3 w h (.int .i64 d) (.bool t) (.slice B k.length f)
 nx : NoU w g
 ny : NoU w h
 u : U64s w old A c l
 v : U64s w old B f k
 lx : W0.heap.size ≤ g
 ly : W0.heap.size ≤ h
 ne : g ≠ h
 bel : Below W0.heap.size W0 w
section
variable {W0 w : World} {g h : Nat} {b : Int} {s : Bool} {l : List Nat} {A : Option Addr} {c : Nat} {d : Int} {t : Bool} {k : List Nat} {B : Option Addr} {f : Nat} {Z Y : Zone} {T : TypeId}
theorem Res2.on (Hc : Below W0.heap.size W0 w) (H : Bx3 w g) (hg : W0.heap.size ≤ g) (u : U64s w Z A c l) (v : U64s w Y B f k) : Res2 W0 ((((w.setCell ⟨g, 0, none⟩ (.int .i64 b)).setCell ⟨g, 1, none⟩ (.bool s)).setCell ⟨g, 2, none⟩ (.slice A l.length c)).alloc (.cells #[.int .i64 d, .bool t, .slice B k.length f] T)) g w.heap.size b s l A c d t k B f := by
 have r := Res1.ol (b := b) (s := s) Hc H hg u
 have v2 := v.set3n H.no (.int .i64 b) (.bool s) (.slice A l.length c)
 have r2 := Res1.nw (t := T) (b := d) (s := t) r.bel v2
 have hz : (((w.setCell ⟨g, 0, none⟩ (.int .i64 b)).setCell ⟨g, 1, none⟩ (.bool s)).setCell ⟨g, 2, none⟩ (.slice A l.length c)).heap.size = w.heap.size := by simp
 rw [hz] at r2
 have hal := (Below.refl _ (((w.setCell ⟨g, 0, none⟩ (.int .i64 b)).setCell ⟨g, 1, none⟩ (.bool s)).setCell ⟨g, 2, none⟩ (.slice A l.length c))).alloc (Nat.le_refl _) (.cells #[.int .i64 d, .bool t, .slice B k.length f] T)
 have hlt := H.box.lt
 exact ⟨r.box.below hal, r2.box, r.no.below r.box.lt hal, r2.no, r.u.below hal, r2.u, r.lo, r2.lo, by omega, r2.bel⟩
theorem Res2.no (Hc : Below W0.heap.size W0 w) (H : Bx3 w h) (hg : W0.heap.size ≤ h) (u : U64s w Z A c l) (v : U64s w Y B f k) : Res2 W0 ((((w.setCell ⟨h, 0, none⟩ (.int .i64 d)).setCell ⟨h, 1, none⟩ (.bool t)).setCell ⟨h, 2, none⟩ (.slice B k.length f)).alloc (.cells #[.int .i64 b, .bool s, .slice A l.length c] T)) w.heap.size h b s l A c d t k B f := by
 have r := Res2.on (T := T) (b := d) (s := t) (d := b) (t := s) Hc H hg v u
 exact ⟨r.by_, r.bx, r.ny, r.nx, r.v, r.u, r.ly, r.lx, r.ne.symm, r.bel⟩
end
def CellsIv (w : World) (g : Nat) (xs : List Value) (k : Nat) (qs : List Iv) : Prop :=
 ∀ j (hj : j < qs.length), j < k → ∃ A0 d0 A1 d1, (xs[j * 6]? = some (.bool qs[j].n0) ∧ xs[j * 6 + 1]? = some (.bool qs[j].s0) ∧ xs[j * 6 + 2]? = some (.slice A0 qs[j].l0.length d0) ∧ xs[j * 6 + 3]? = some (.bool qs[j].n1) ∧ xs[j * 6 + 4]? = some (.bool qs[j].s1) ∧ xs[j * 6 + 5]? = some (.slice A1 qs[j].l1.length d1)) ∧ U64s w (new (g + 1)) A0 d0 qs[j].l0 ∧ U64s w (new (g + 1)) A1 d1 qs[j].l1
theorem CellsIv.keep {k : Nat} {qs : List Iv} (h : CellsIv w g xs k qs) (hk : ∀ b, b ≠ g → b < w.heap.size → w'.heap[b]? = w.heap[b]?) : CellsIv w' g xs k qs := fun j hj hjk => by
 obtain ⟨A0, d0, A1, d1, hc, u0, u1⟩ := h j hj hjk
 exact ⟨A0, d0, A1, d1, hc, u0.keep fun b hb hl => hk b (by have : g + 1 ≤ b := hb; omega) hl, u1.keep fun b hb hl => hk b (by have : g + 1 ≤ b := hb; omega) hl⟩
def set6 (xs : List Value) (k : Nat) (x0 x1 x2 x3 x4 x5 : Value) : List Value := (((((xs.set k x0).set (k + 1) x1).set (k + 2) x2).set (k + 3) x3).set (k + 4) x4).set (k + 5) x5
theorem set6_at {k : Nat} (h : k + 5 < xs.length) :
  (set6 xs k x0 x1 x2 x3 x4 x5)[k]? = some x0 ∧ (set6 xs k x0 x1 x2 x3 x4 x5)[k + 1]? = some x1 ∧ (set6 xs k x0 x1 x2 x3 x4 x5)[k + 2]? = some x2 ∧ (set6 xs k x0 x1 x2 x3 x4 x5)[k + 3]? = some x3 ∧ (set6 xs k x0 x1 x2 x3 x4 x5)[k + 4]? = some x4 ∧ (set6 xs k x0 x1 x2 x3 x4 x5)[k + 5]? = some x5 := by
 unfold set6
 refine ⟨?_, ?_, ?_, ?_, ?_, ?_⟩
 · rw [List.getElem?_set_ne (by omega), List.getElem?_set_ne (by omega), List.getElem?_set_ne (by omega), List.getElem?_set_ne (by omega), List.getElem?_set_ne (by omega), List.getElem?_set_self (by omega)]
 · rw [List.getElem?_set_ne (by omega), List.getElem?_set_ne (by omega), List.getElem?_set_ne (by omega), List.getElem?_set_ne (by omega), List.getElem?_set_self (by simp only [List.length_set]; omega)]
 · rw [List.getElem?_set_ne (by omega), List.getElem?_set_ne (by omega), List.getElem?_set_ne (by omega), List.getElem?_set_self (by simp only [List.length_set]; omega)]
 · rw [List.getElem?_set_ne (by omega), List.getElem?_set_ne (by omega), List.getElem?_set_self (by simp only [List.length_set]; omega)]
 · rw [List.getElem?_set_ne (by omega), List.getElem?_set_self (by simp only [List.length_set]; omega)]
 · rw [List.getElem?_set_self (by simp only [List.length_set]; omega)]
theorem set6_ne {k : Nat} (h : i < k ∨ k + 5 < i) : (set6 xs k x0 x1 x2 x3 x4 x5)[i]? = xs[i]? := by
 unfold set6
 rw [List.getElem?_set_ne (by omega), List.getElem?_set_ne (by omega), List.getElem?_set_ne (by omega), List.getElem?_set_ne (by omega), List.getElem?_set_ne (by omega), List.getElem?_set_ne (by omega)]
theorem CellsIv.put {k : Nat} {qs : List Iv} {A0 A1 : Option Addr} {d0 d1 : Nat} (h : CellsIv w g xs k qs) (hl : xs.length = qs.length * 6) (hk : k < qs.length)
  (u0 : U64s w (new (g + 1)) A0 d0 (qs[k]).l0) (u1 : U64s w (new (g + 1)) A1 d1 (qs[k]).l1) (hw : ∀ b, b ≠ g → b < w.heap.size → w'.heap[b]? = w.heap[b]?) :
  CellsIv w' g (set6 xs (k * 6) (.bool (qs[k]).n0) (.bool (qs[k]).s0) (.slice A0 (qs[k]).l0.length d0) (.bool (qs[k]).n1) (.bool (qs[k]).s1) (.slice A1 (qs[k]).l1.length d1)) (k + 1) qs := fun j hj hjk => by
 rcases Nat.lt_or_ge j k with h1 | h1
 · obtain ⟨B0, e0, B1, e1, hc, v0, v1⟩ := h j hj h1
   refine ⟨B0, e0, B1, e1, ?_, v0.keep fun b hb hl => hw b (by have : g + 1 ≤ b := hb; omega) hl, v1.keep fun b hb hl => hw b (by have : g + 1 ≤ b := hb; omega) hl⟩
   rw [set6_ne (by omega), set6_ne (by omega), set6_ne (by omega), set6_ne (by omega), set6_ne (by omega), set6_ne (by omega)]
   exact hc
 · obtain rfl : j = k := by omega
   exact ⟨A0, d0, A1, d1, set6_at (by omega), u0.keep fun b hb hl => hw b (by have : g + 1 ≤ b := hb; omega) hl, u1.keep fun b hb hl => hw b (by have : g + 1 ≤ b := hb; omega) hl⟩
theorem CellsIv.fin {qs : List Iv} {B B' : Nat} (h : CellsIv w g xs qs.length qs) (hown : w.ownsRow B e 6 (.slice (some ⟨g, 0, none⟩) qs.length qs.length) qs.length xs) (hg : g < w.heap.size) (hB : B' ≤ g) (hm : qs.length ≤ 1000000000000) : IvsAt w (new B') (some ⟨g, 0, none⟩) qs.length qs := by
 refine ⟨Nat.le_refl _, by omega, fun h0 => ⟨g, 0, rfl, hg, fun j hj => ?_⟩⟩
 obtain ⟨A0, d0, A1, d1, ⟨c0, c1, c2, c3, c4, c5⟩, u0, u1⟩ := h j hj hj
 rw [Nat.zero_add]
 exact ⟨A0, d0, A1, d1, ⟨by rw [hown.cellAt (j * 6) (by omega)]; exact c0, by rw [hown.cellAt (j * 6 + 1) (by omega)]; exact c1, by rw [hown.cellAt (j * 6 + 2) (by omega)]; exact c2, by rw [hown.cellAt (j * 6 + 3) (by omega)]; exact c3, by rw [hown.cellAt (j * 6 + 4) (by omega)]; exact c4, by rw [hown.cellAt (j * 6 + 5) (by omega)]; exact c5⟩, u0.mono (new_le (by omega)), u1.mono (new_le (by omega))⟩
theorem CellsIv.none {qs : List Iv} : CellsIv w g xs 0 qs := fun j hj h => absurd h (by omega)
structure FmW (N : Nat) (Ps : List IvP) (ps : List Iv) : Prop where
 len : ps.length = Ps.length
 iv : ∀ j (h : j < ps.length) (h' : j < Ps.length), IvW Ps[j] ps[j] ∧ IvN N Ps[j].1 Ps[j].2
theorem FmW.of {Ps : List IvP} (h : ∀ j (h : j < Ps.length), IvN N Ps[j].1 Ps[j].2) : FmW N Ps (fmOf Ps) :=
 ⟨fmOf_len Ps, fun j h1 h2 => ⟨by rw [fmOf_get h1 h2]; exact IvW.mk _, h j h2⟩⟩
theorem FmW.n {Ps : List IvP} {ps : List Iv} (h : FmW N Ps ps) (j : Nat) (hj : j < Ps.length) : IvN N Ps[j].1 Ps[j].2 := (h.iv j (by rw [h.len]; exact hj) hj).2
theorem FmW.up {Ps : List IvP} {ps : List Iv} (h : FmW N Ps ps) (hN : N ≤ M) : FmW M Ps ps := ⟨h.len, fun j h1 h2 => ⟨(h.iv j h1 h2).1, (h.iv j h1 h2).2.up hN⟩⟩
theorem FmW.short {Ps : List IvP} {ps : List Iv} (h : FmW N Ps ps) (hN : N ≤ 64) : ∀ p ∈ ps, p.short := fun p hp => by
 obtain ⟨j, hj, rfl⟩ := List.getElem_of_mem hp
 obtain ⟨h1, h2⟩ := h.iv j hj (by rw [← h.len]; exact hj)
 have k := h1.k h2 hN
 exact ⟨by have := k.q0; omega, by have := k.q1; omega⟩
theorem FmW.all {Ps : List IvP} {ps : List Iv} (h : FmW N Ps ps) (hN : N ≤ 64) : ps.all Iv.ok = true := by
 rw [List.all_eq_true]
 intro p hp
 obtain ⟨j, hj, rfl⟩ := List.getElem_of_mem hp
 obtain ⟨h1, h2⟩ := h.iv j hj (by rw [← h.len]; exact hj)
 exact h1.okP h2 hN
theorem FmW.err {Ps : List IvP} {ps : List Iv} (h : FmW N Ps ps) (hN : N ≤ 64) (hl : 1 ≤ ps.length ∧ ps.length ≤ 64) : errF ps = 0 := by
 unfold errF
 rw [if_pos ⟨hl, h.all hN⟩]
def midI (P : IvP) : Int := if P.1 = -bigZ ∨ P.2 = bigZ then 0 else rq (P.1 + P.2) 2 true
theorem lless_w {r : Iv} {P : IvP} (hp : IvW P p) (hq : IvW Q q) (hr : IvW (ivA P (ivNg Q)) r) (gp : IvN 32 P.1 P.2) (gq : IvN 32 Q.1 Q.2)
  (u1 : U64s w Z1 A a p.l0) (u2 : U64s w Z2 B b p.l1) (u3 : U64s w Z3 C c q.l0) (u4 : U64s w Z4 D d q.l1) :
  Calls Tryz.prog 60 #[.agg #[.bool p.n0, .bool p.s0, .slice A p.l0.length a, .bool p.n1, .bool p.s1, .slice B p.l1.length b], .agg #[.bool q.n0, .bool q.s0, .slice C q.l0.length c, .bool q.n1, .bool q.s1, .slice D q.l1.length d]] w fun e w' => ∃ rA ra rB rb, e = .returned (.tuple #[.agg #[.bool r.n0, .bool r.s0, .slice rA r.l0.length ra, .bool r.n1, .bool r.s1, .slice rB r.l1.length rb], .int .i64 0]) ∧ U64s w' (new w.heap.size) rA ra r.l0 ∧ U64s w' (new w.heap.size) rB rb r.l1 ∧ Below w.heap.size w w' := by
 obtain ⟨bA, bB, bR, hB0⟩ := boxX w (.bool p.n0) (.bool p.s0) (.slice A p.l0.length a) (.bool p.n1) (.bool p.s1) (.slice B p.l1.length b) (.bool q.n0) (.bool q.s0) (.slice C q.l0.length c) (.bool q.n1) (.bool q.s1) (.slice D q.l1.length d) (.bool false) (.bool false) (.slice none 0 0) (.bool false) (.bool false) (.slice none 0 0) 29
 obtain ⟨m, hm⟩ : ∃ m, IvW (ivNg Q) m := ⟨_, IvW.mk _⟩
 have gm := ivNg_ok gq
 obtain ⟨NG, AD, HA, HR, Hb1⟩ := hid5 (ineg_w hq hm gq (by omega) (u3.below hB0) (u4.below hB0)) (fun (V : World) (h : Below w.heap.size w V) (Y1 Y2 : Zone) (G H : Option Addr) (g h' : Nat) (v1 : U64s V Y1 G g m.l0) (v2 : U64s V Y2 H h' m.l1) => iadd_w (w := V) hp hm hr gp gm (by omega) (u1.below h) (u2.below h) v1 v2) bA bR hB0
 have b0 := bB.all
 clear hp hq hr hm gp gq gm u1 u2 u3 u4 bA bR hB0
 generalize p.l0.length = pl0 at *
 generalize p.l1.length = pl1 at *
 generalize q.l0.length = ql0 at *
 generalize q.l1.length = ql1 at *
 go_enter Tryz.func60, Tryz.ntmps60
 go_wp2_with fail
 refine NG.out.mono ?_
 rintro e' w1 ⟨A1, d1, A2, d2, rfl, o1, o2, hc⟩
 have hb2 := from_ Hb1.out hc
 have hm7 := Box6.new w1 (.bool m.n0) (.bool m.s0) (.slice A1 m.l0.length d1) (.bool m.n1) (.bool m.s1) (.slice A2 m.l1.length d2) 29
 have hp7 : Below w1.heap.size w1 (w1.alloc (.cells #[.bool m.n0, .bool m.s0, .slice A1 m.l0.length d1, .bool m.n1, .bool m.s1, .slice A2 m.l1.length d2] 29)) := (Below.refl _ w1).alloc (Nat.le_refl _) _
 have hA1 := ((HA.out.below hc).below hp7)
 obtain ⟨HR1, HX⟩ := hid2 ((HR.out.below hc).below hp7) (AD.out _ (from_ hb2 hp7) _ _ _ _ _ _ (o1.below hp7) (o2.below hp7))
 have hb3 := from_ hb2 hp7
 have Hz1 := HR1.out.lt
 clear o1 o2 hb2 hp7 hc b0 Hb1 HA HR
 have a0 := hA1.all
 have m0 := hm7.all
 go_wp2_with fail
 refine HX.out.mono ?_
 rintro e' w2 ⟨A3, d3, A4, d4, rfl, o3, o4, hc⟩
 have hR2 := HR1.out.below hc
 obtain ⟨HP, U1, U2⟩ := hid3 (hR2.put (w := w) (from_ hb3 hc) (by omega) (.bool r.n0) (.bool r.s0) (.slice A3 r.l0.length d3) (.bool r.n1) (.bool r.s1) (.slice A4 r.l1.length d4)) ((o3.set6 (g := w.heap.size + 2) (fun (h : _ ≤ w.heap.size + 2) => by omega) (.bool r.n0) (.bool r.s0) (.slice A3 r.l0.length d3) (.bool r.n1) (.bool r.s1) (.slice A4 r.l1.length d4)).mono (new_le hb3.size)) ((o4.set6 (g := w.heap.size + 2) (fun (h : _ ≤ w.heap.size + 2) => by omega) (.bool r.n0) (.bool r.s0) (.slice A3 r.l0.length d3) (.bool r.n1) (.bool r.s1) (.slice A4 r.l1.length d4)).mono (new_le hb3.size))
 clear o3 o4 hb3 hc a0 m0 HR1 Hz1
 have g0 := hR2.cf
 go_wp2
 refine bodyPost_ret (res_itv2 rfl _ (w.heap.size + 2) rfl HP.out.box) rfl ?_
 exact ⟨_, _, _, _, rfl, U1.out, U2.out, HP.out.bel⟩
theorem boxV2 (w : World) (a0 a1 a2 a3 a4 a5 r0 r1 : Value) (t t' : TypeId) :
  Box6 ((w.alloc (.cells #[a0, a1, a2, a3, a4, a5] t)).alloc (.cells #[r0, r1] t')) w.heap.size a0 a1 a2 a3 a4 a5 ∧
  Box ((w.alloc (.cells #[a0, a1, a2, a3, a4, a5] t)).alloc (.cells #[r0, r1] t')) (w.heap.size + 1) r0 r1 ∧
  Below w.heap.size w ((w.alloc (.cells #[a0, a1, a2, a3, a4, a5] t)).alloc (.cells #[r0, r1] t')) := by
 have h1 := (Box6.new w a0 a1 a2 a3 a4 a5 t).alloc (.cells #[r0, r1] t')
 have h2 := Box.new (w.alloc (.cells #[a0, a1, a2, a3, a4, a5] t)) r0 r1 t'
 rw [show (w.alloc (.cells #[a0, a1, a2, a3, a4, a5] t)).heap.size = w.heap.size + 1 by simp] at h2
 exact ⟨h1, h2, ((Below.refl _ w).alloc (Nat.le_refl _) _).alloc (by simp) _⟩
theorem lmiddle_none {n0 n1 : Bool} {L0 L1 : Nat} (h : n0 = true ∨ (n0 = false ∧ n1 = true)) :
  Calls Tryz.prog 62 #[.agg #[.bool n0, .bool s0, .slice A L0 a, .bool n1, .bool s1, .slice B L1 b]] w fun e w' => e = .returned (.agg #[.bool false, .slice none 0 0]) ∧ Below w.heap.size w w' := by
 obtain ⟨bA, bR, hB0⟩ := boxV2 w (.bool n0) (.bool s0) (.slice A L0 a) (.bool n1) (.bool s1) (.slice B L1 b) (.bool false) (.slice none 0 0) 29 25
 have a0 := bA.all
 rcases h with rfl | ⟨rfl, rfl⟩
 all_goals
  go_enter Tryz.func62, Tryz.ntmps62
  go_wp2
  refine bodyPost_ret (res_int rfl _ (w.heap.size + 1) rfl bR.c0 bR.c1) rfl ?_
  exact ⟨rfl, hB0⟩
theorem cellTwo {x y : Value} (h : w.cell? ⟨b, j, none⟩ = some v) (hn : b ≠ g) : ((w.setCell ⟨g, 0, none⟩ x).setCell ⟨g, 1, none⟩ y).cell? ⟨b, j, none⟩ = some v := by
 rw [World.cell?_setCell_other _ _ _ _ (fun e => hn (by injection e with e _ _; exact e.symm)), World.cell?_setCell_other _ _ _ _ (fun e => hn (by injection e with e _ _; exact e.symm))]
 exact h
theorem U64s.set2 (h : U64s W Z A c l) (hz : ¬ Z.blk g) (x y : Value) : U64s ((W.setCell ⟨g, 0, none⟩ x).setCell ⟨g, 1, none⟩ y) Z A c l := (h.set1 g 0 hz x).set1 g 1 hz y
theorem nm_len_add {k m : List Nat} (h1 : Nm x s l) (h2 : Nm y t k) (h3 : Nm (x + y) r m) (q1 : l.length ≤ 64) (q2 : k.length ≤ 64) : m.length ≤ 10000000000 := by
 have e1 := nm_bound h1 q1
 have e2 := nm_bound h2 q2
 have e3 : wN 64 + wN 64 ≤ wN 65 := wN_two 64
 have := nm_lenN h3 (N := 65) (by omega)
 omega
theorem two_nm : Nm 2 false [2] := ⟨by decide, by decide⟩
theorem lmiddle_num {z : Int} {l0 l1 : List Nat} (h1 : Nm x s0 l0) (h2 : Nm y s1 l1) (hm : Nm z r ml) (hz : rq (x + y) 2 true = z) (q1 : l0.length ≤ 64) (q2 : l1.length ≤ 64) (u1 : U64s w Z1 A a l0) (u2 : U64s w Z2 B b l1) :
  Calls Tryz.prog 62 #[.agg #[.bool false, .bool s0, .slice A l0.length a, .bool false, .bool s1, .slice B l1.length b]] w fun e w' => ∃ A' c', e = .returned (.agg #[.bool r, .slice A' ml.length c']) ∧ U64s w' (new w.heap.size) A' c' ml ∧ Below w.heap.size w w' := by
 obtain ⟨bA, bR, hB0⟩ := boxV2 w (.bool false) (.bool s0) (.slice A l0.length a) (.bool false) (.bool s1) (.slice B l1.length b) (.bool false) (.slice none 0 0) 29 25
 obtain ⟨r1, m1, n1⟩ : ∃ r1 m1, Nm (x + y) r1 m1 := ⟨_, _, rfl, rfl⟩
 have AD := hid (wadd_n h1 h2 n1 rfl (by omega) (by omega) (u1.below hB0) (u2.below hB0))
 have hl1 : m1.length ≤ 10000000000 := nm_len_add h1 h2 n1 q1 q2
 obtain ⟨OF, FL⟩ := hid2 (fun (W : World) => wof_p (w := W) two_nm (by omega)) (fun (W : World) (Y1 Y2 : Zone) (G H : Option Addr) (g h : Nat) (v1 : U64s W Y1 G g m1) (v2 : U64s W Y2 H h [2]) => wfloor_m (w := W) n1 two_nm (by omega) (by rw [hz]; exact hm) hl1 v1 v2)
 simp only [List.length_cons, List.length_nil, Nat.zero_add] at OF FL
 obtain ⟨HR, Hb1⟩ := hid2 bR hB0
 have a0 := bA.all
 clear h1 h2 hm hz q1 q2 u1 u2 n1 hl1 bR hB0
 generalize l0.length = L0 at *
 generalize l1.length = L1 at *
 go_enter Tryz.func62, Tryz.ntmps62
 go_wp2_with fail
 refine AD.out.mono ?_
 rintro e' w1 ⟨A1, c1, rfl, o1, hc⟩
 have hal : Below w1.heap.size w1 (w1.alloc (.cells #[.bool r1, .slice A1 m1.length c1] 25)) := (Below.refl _ w1).alloc (Nat.le_refl _) _
 have B3 := Box.new w1 (.bool r1) (.slice A1 m1.length c1) 25
 obtain ⟨HR1, Hb2, U0⟩ := hid3 ((HR.out.below hc).below hal) (from_ (from_ Hb1.out hc) hal) (o1.below hal)
 clear a0 Hb1 HR hc o1
 obtain ⟨g3, hg3⟩ : ∃ g3, g3 = w1.heap.size := ⟨_, rfl⟩
 rw [← hg3] at B3
 generalize hV : w1.alloc (.cells #[.bool r1, .slice A1 m1.length c1] 25) = V at *
 clear hal
 go_upto_region 4 with fail
 try simp only [hV]
 try simp only [← hg3]
 clear hV hg3
 have hdr0 : Below V.heap.size V V.drew := bdr_
 have hdr : Below V.heap.size V (V.alloc (.cells #[.bool false, .slice none 0 0] 25)).drew := bal_.drew
 have bN := (Box.new V (.bool false) (.slice none 0 0) 25).below (W' := (V.alloc (.cells #[.bool false, .slice none 0 0] 25)).drew) (bdr_)
 have s0' := And.intro (keepC hdr0 B3.c0) (keepC hdr0 B3.c1)
 have sa := And.intro (keepC hdr B3.c0) (keepC hdr B3.c1)
 have hlt3 := B3.lt
 have n3 : V.heap.size ≠ g3 := by omega
 clear B3
 first | go_region_held3 (fun w' => w'.cell? ⟨g3, 0, none⟩ = some (.bool r1) ∧ w'.cell? ⟨g3, 1, none⟩ = some (.slice A1 m1.length c1))
  (first
   | (go_keep; done)
   | with_reducible exact s0'
   | with_reducible exact sa
   | with_reducible exact t6
   | exact ⟨keepC bal_ t6.1, keepC bal_ t6.2⟩
   | exact ⟨cellTwo t6.1 N4.out.symm, cellTwo t6.2 N4.out.symm⟩)
  (first
   | (go_at_call 41; with_reducible refine (OF.out V.drew).mono ?_; rintro e w3 ⟨A3, c3, rfl, u3, hc3⟩; have t6 := And.intro (keepC hc3 s0'.1) (keepC hc3 s0'.2); have HbV := hid (from_ hdr0 hc3); have hle3 := HbV.out.size; have U3 := hid ((U0.out.below hdr0).below hc3))
   | (go_at_call 41; with_reducible refine (OF.out (V.alloc (.cells #[.bool false, .slice none 0 0] 25)).drew).mono ?_; rintro e w3 ⟨A3, c3, rfl, u3, hc3⟩; have t6 := And.intro (keepC hc3 sa.1) (keepC hc3 sa.2); have HbV := hid (from_ hdr hc3); have hle3 := HbV.out.size; have U3 := hid ((U0.out.below hdr).below hc3); obtain ⟨gX, hgX⟩ : ∃ gX, gX = V.heap.size := ⟨_, rfl⟩; have b5 := hid (bN.below hc3); rw [← hgX] at b5; have N4 := hid (show gX ≠ g3 by omega); have N5 := hid (show V.heap.size ≤ gX by omega); have N6 := hid (show gX < w3.heap.size from b5.out.lt); simp only [← hgX]; clear hgX)
   | (go_at_call 81; with_reducible refine (FL.out w3 _ _ _ _ _ _ U3.out u3).mono ?_; rintro e w4 ⟨A4, c4, rfl, u4, hc4⟩; replace t6 := And.intro (keepC hc4 t6.1) (keepC hc4 t6.2); replace HbV := hid (from_ HbV.out hc4); (try replace b5 := hid (b5.out.below hc4)); (try obtain ⟨x0, x1, x2, x3, x4⟩ := id b5.out))
   | (go_at_call 81; have hax := (Below.refl w3.heap.size w3).alloc (Nat.le_refl _) (.cells #[.bool false, .slice none 0 0] 25); with_reducible refine (FL.out (w3.alloc (.cells #[.bool false, .slice none 0 0] 25)) _ _ _ _ _ _ (U3.out.below hax) (u3.below hax)).mono ?_; rintro e w4 ⟨A4, c4, rfl, u4, hc4⟩; replace t6 := And.intro (keepC hc4 (keepC hax t6.1)) (keepC hc4 (keepC hax t6.2)); have hle4 := hax.size; replace HbV := hid (from_ (from_ HbV.out hax) hc4); obtain ⟨gX, hgX⟩ : ∃ gX, gX = w3.heap.size := ⟨_, rfl⟩; have b5 := hid ((Box.new w3 (.bool false) (.slice none 0 0) 25).below hc4); rw [← hgX] at b5; have N4 := hid (show gX ≠ g3 by omega); have N5 := hid (show V.heap.size ≤ gX by omega); have N6 := hid (show gX < (w3.alloc (.cells #[.bool false, .slice none 0 0] 25)).heap.size by simp; omega); simp only [← hgX]; clear hgX; obtain ⟨x0, x1, x2, x3, x4⟩ := id b5.out)) | fail
 all_goals
  clear s0' sa hdr0 hdr bN hlt3 n3 OF FL AD U0
  first
  | (have hP5 := b5.out.put (w := V) HbV.out N5.out (.bool r) (.slice A4 ml.length c4)
     obtain ⟨UA, HbF⟩ := hid2 (u4.set2 (g := gX) (fun (h : _ ≤ gX) => by have := N6.out; omega) (.bool r) (.slice A4 ml.length c4)) hP5.bel
     have y0 := hP5.c0
     have y1 := hP5.c1
     have sz := HbF.out.size
     have R := HR1.out.below HbF.out
     obtain ⟨HP, UB⟩ := hid2 (R.put (w := w) (from_ Hb2.out HbF.out) (by omega) (.bool r) (.slice A4 ml.length c4)) ((UA.out.set2 (g := w.heap.size + 1) (fun (h : _ ≤ w.heap.size + 1) => by have := HR1.out.lt; omega) (.bool r) (.slice A4 ml.length c4)).mono (new_le (show w.heap.size ≤ _ by have := HR1.out.lt; omega)))
     obtain ⟨k0, k1, k2, k3, k4⟩ := R
     clear hP5 u4 UA sz t6 x0 x1 x2 x3 x4
     go_wp2
     refine bodyPost_ret (res_int rfl _ (w.heap.size + 1) rfl HP.out.c0 HP.out.c1) rfl ?_
     exact ⟨_, _, rfl, UB.out, HP.out.bel⟩)
  | (have hax := (Below.refl w4.heap.size w4).alloc (Nat.le_refl _) (.cells #[.bool r, .slice A4 ml.length c4] 25)
     obtain ⟨y0, y1, _, _, _⟩ := Box.new w4 (.bool r) (.slice A4 ml.length c4) 25
     have HbF := hid (from_ HbV.out hax)
     have R := HR1.out.below HbF.out
     obtain ⟨HP, UB⟩ := hid2 (R.put (w := w) (from_ Hb2.out HbF.out) (by omega) (.bool r) (.slice A4 ml.length c4)) (((u4.below hax).set2 (g := w.heap.size + 1) (fun (h : _ ≤ w.heap.size + 1) => by have := HR1.out.lt; omega) (.bool r) (.slice A4 ml.length c4)).mono (new_le (show w.heap.size ≤ _ by have := HR1.out.lt; omega)))
     obtain ⟨k0, k1, k2, k3, k4⟩ := R
     clear u4 hax t6
     go_wp2
     refine bodyPost_ret (res_int rfl _ (w.heap.size + 1) rfl HP.out.c0 HP.out.c1) rfl ?_
     exact ⟨_, _, rfl, UB.out, HP.out.bel⟩)
theorem lmiddle_w {P : IvP} (hp : IvW P p) (gp : IvN 32 P.1 P.2) (hm : Nm (midI P) r ml) (u1 : U64s w Z1 A a p.l0) (u2 : U64s w Z2 B b p.l1) :
  Calls Tryz.prog 62 #[.agg #[.bool p.n0, .bool p.s0, .slice A p.l0.length a, .bool p.n1, .bool p.s1, .slice B p.l1.length b]] w fun e w' => ∃ A' c', e = .returned (.agg #[.bool r, .slice A' ml.length c']) ∧ U64s w' (new w.heap.size) A' c' ml ∧ Below w.heap.size w w' := by
 have kp := hp.k gp (by omega)
 obtain ⟨⟨a1, a2, a3⟩, a4, a5, a6⟩ := hp
 have r1 := gp.lo.range (by omega)
 have r2 := gp.hi.range (by omega)
 have h0 := bigZ_pos
 have hl := gp.nlo
 have hh := gp.nhi
 by_cases c0 : P.1 = -bigZ ∨ P.2 = bigZ
 · have hz : midI P = 0 := by unfold midI; rw [if_pos c0]
   rw [hz] at hm
   obtain ⟨rfl, rfl⟩ : r = false ∧ ml = [] := ⟨hm.1, hm.2.trans (limbs_eq_nil.2 rfl)⟩
   have hn : p.n0 = true ∨ (p.n0 = false ∧ p.n1 = true) := by
    rw [a1, a4]
    by_cases c1 : P.1 = -bigZ
    · exact .inl (decide_eq_true c1)
    · exact .inr ⟨decide_eq_false c1, decide_eq_true (c0.resolve_left c1)⟩
   refine (lmiddle_none hn).mono ?_
   rintro e w' ⟨rfl, hb⟩
   exact ⟨none, 0, rfl, U64s.nil _ _, hb⟩
 · have hz : rq (P.1 + P.2) 2 true = midI P := by unfold midI; rw [if_neg c0]
   have n0 : p.n0 = false := a1.trans (decide_eq_false fun h => c0 (.inl h))
   have n1 : p.n1 = false := a4.trans (decide_eq_false fun h => c0 (.inr h))
   have h1 : Nm P.1 p.s0 p.l0 := by
    have e2 := nm_e (n := P.1) ⟨by omega, hl⟩
    rw [a2, a3]
    exact e2
   have h2 : Nm P.2 p.s1 p.l1 := by
    have e2 := nm_e (n := P.2) ⟨hh, by omega⟩
    rw [a5, a6]
    exact e2
   rw [n0, n1]
   exact lmiddle_num h1 h2 hm hz (by have := kp.q0; omega) (by have := kp.q1; omega) u1 u2
def hullP : List IvP → IvP
 | [] => (0, 0)
 | p :: t => t.foldl ivJ p
theorem hull_fold (M : IvP) : ∀ (t : List IvP) (o : IvP), (∀ e ∈ o :: t, M.1 ≤ e.1 ∧ e.2 ≤ M.2) → (∃ e ∈ o :: t, e.1 ≤ M.1) → (∃ e ∈ o :: t, M.2 ≤ e.2) → t.foldl ivJ o = M := by
 intro t
 induction t with
 | nil =>
   intro o h h1 h2
   obtain ⟨e, he, h1⟩ := h1
   obtain ⟨f, hf, h2⟩ := h2
   have a1 : o.1 ≤ M.1 := by rw [List.mem_singleton] at he; rw [← he]; exact h1
   have a2 : M.2 ≤ o.2 := by rw [List.mem_singleton] at hf; rw [← hf]; exact h2
   have := h o (List.mem_singleton.2 rfl)
   exact Prod.ext (by simp only [List.foldl_nil]; omega) (by simp only [List.foldl_nil]; omega)
 | cons q t ih =>
   intro o h h1 h2
   have ho := h o List.mem_cons_self
   have hq := h q (List.mem_cons_of_mem _ List.mem_cons_self)
   refine ih (ivJ o q) (fun e he => ?_) ?_ ?_
   · rcases List.mem_cons.1 he with rfl | he
     · unfold ivJ; dsimp only; omega
     · exact h e (List.mem_cons_of_mem _ (List.mem_cons_of_mem _ he))
   · obtain ⟨e, he, h1⟩ := h1
     rcases List.mem_cons.1 he with rfl | he
     · exact ⟨_, List.mem_cons_self, by unfold ivJ; dsimp only; omega⟩
     · rcases List.mem_cons.1 he with rfl | he
       · exact ⟨_, List.mem_cons_self, by unfold ivJ; dsimp only; omega⟩
       · exact ⟨e, List.mem_cons_of_mem _ he, h1⟩
   · obtain ⟨e, he, h2⟩ := h2
     rcases List.mem_cons.1 he with rfl | he
     · exact ⟨_, List.mem_cons_self, by unfold ivJ; dsimp only; omega⟩
     · rcases List.mem_cons.1 he with rfl | he
       · exact ⟨_, List.mem_cons_self, by unfold ivJ; dsimp only; omega⟩
       · exact ⟨e, List.mem_cons_of_mem _ he, h2⟩
theorem hull_eq {L : List IvP} {M : IvP} (h : ∀ e ∈ L, M.1 ≤ e.1 ∧ e.2 ≤ M.2) (h1 : ∃ e ∈ L, e.1 ≤ M.1) (h2 : ∃ e ∈ L, M.2 ≤ e.2) : L ≠ [] ∧ hullP L = M := by
 cases L with
 | nil => obtain ⟨e, he, _⟩ := h1; cases he
 | cons q t => exact ⟨List.cons_ne_nil _ _, hull_fold M t q h h1 h2⟩
def upP (P : IvP) : IvP := (max P.1 1, P.2)
def dnP (P : IvP) : IvP := (max (-P.2) 1, -P.1)
def ivPr (x y : IvP) : IvP := (timesE bigZ x.1 y.1, timesE bigZ x.2 y.2)
def sideP (P : IvP) (b : Bool) : IvP := bif b then dnP P else upP P
def roundP (P Q : IvP) (i : Nat) : List IvP :=
 if (sideP P (i % 2 == 1)).1 ≤ (sideP P (i % 2 == 1)).2 ∧ (sideP Q (i / 2 == 1)).1 ≤ (sideP Q (i / 2 == 1)).2 then
  [if i = 1 ∨ i = 2 then ivNg (ivPr (sideP P (i % 2 == 1)) (sideP Q (i / 2 == 1))) else ivPr (sideP P (i % 2 == 1)) (sideP Q (i / 2 == 1))] else []
def timesL (P Q : IvP) : List IvP := (if (P.1 ≤ 0 ∧ 0 ≤ P.2) ∨ (Q.1 ≤ 0 ∧ 0 ≤ Q.2) then [(0, 0)] else []) ++ (roundP P Q 0 ++ (roundP P Q 1 ++ (roundP P Q 2 ++ roundP P Q 3)))
theorem timesE_negl (x y : Int) : timesE bigZ (-x) y = -timesE bigZ x y := by
 have h0 := bigZ_pos
 unfold timesE
 by_cases h1 : x = 0 ∨ y = 0
 · rw [if_pos h1, if_pos (by omega)]; rfl
 · rw [if_neg h1, if_neg (by omega)]
   by_cases h2 : x = bigZ ∨ x = -bigZ ∨ y = bigZ ∨ y = -bigZ
   · rw [if_pos h2, if_pos (by omega)]
     by_cases h3 : (0 < x ↔ 0 < y)
     · rw [if_pos h3, if_neg (by omega)]
     · rw [if_neg h3, if_pos (by omega)]; omega
   · rw [if_neg h2, if_neg (by omega), Int.neg_mul]
theorem timesE_negr (x y : Int) : timesE bigZ x (-y) = -timesE bigZ x y := by rw [timesE_comm, timesE_negl, timesE_comm]
theorem timesE_zero (x : Int) : timesE bigZ x 0 = 0 ∧ timesE bigZ 0 x = 0 := ⟨if_pos (.inr rfl), if_pos (.inl rfl)⟩
theorem timesE_up {a b : Int} (hx : 0 < x) (hy : 0 < y) (h1 : x ≤ a) (h2 : y ≤ b) (ea : a ≤ bigZ) (eb : b ≤ bigZ) (ex : Ext bigZ (wN 32) x) (ey : Ext bigZ (wN 32) y) (fa : Ext bigZ (wN 32) a) (fb : Ext bigZ (wN 32) b) : timesE bigZ x y ≤ timesE bigZ a b := by
 have hM : wN 32 * wN 32 ≤ bigZ := by rw [wN_mul]; exact Int.le_refl _
 have k := timesE_in (x0 := x) (x := a) (x1 := a) (y0 := y) (y := b) (y1 := b) bigZ_pos hM (wN_le (by omega)) ex fa fa ey fb fb h1 (Int.le_refl _) h2 (Int.le_refl _)
 have h := timesE_in (x0 := x) (x := x) (x1 := a) (y0 := y) (y := y) (y1 := b) bigZ_pos hM (wN_le (by omega)) ex ex fa ey ey fb (Int.le_refl _) h1 (Int.le_refl _) h2
 have h0 := bigZ_pos
 have w0 := wN_pos 32
 have q := wN_le (show 32 ≤ 64 by omega)
 unfold timesE
 rw [if_neg (show ¬ (x = 0 ∨ y = 0) by omega), if_neg (show ¬ (a = 0 ∨ b = 0) by omega)]
 by_cases hb : a = bigZ ∨ a = -bigZ ∨ b = bigZ ∨ b = -bigZ
 · rw [if_pos hb, if_pos (show (0 < a ↔ 0 < b) from ⟨fun _ => by omega, fun _ => by omega⟩)]
   by_cases hc : x = bigZ ∨ x = -bigZ ∨ y = bigZ ∨ y = -bigZ
   · rw [if_pos hc, if_pos (show (0 < x ↔ 0 < y) from ⟨fun _ => by omega, fun _ => by omega⟩)]; omega
   · rw [if_neg hc]
     unfold Ext at ex ey
     have hx2 : x < wN 32 := by omega
     have hy2 : y < wN 32 := by omega
     have m1 := Int.mul_le_mul (Int.le_of_lt hx2) (Int.le_of_lt hy2) (by omega) (by omega)
     omega
 · rw [if_neg hb, if_neg (by omega)]
   exact Int.mul_le_mul h1 h2 (by omega) (by omega)
theorem side_mem {P : IvP} (h1 : P.1 ≤ x) (h2 : x ≤ P.2) (hx : x ≠ 0) : (sideP P (decide (x < 0))).1 ≤ x.natAbs ∧ (x.natAbs : Int) ≤ (sideP P (decide (x < 0))).2 := by
 by_cases h : x < 0
 · rw [decide_eq_true h]; unfold sideP dnP; simp only [cond_true]; omega
 · rw [decide_eq_false h]; unfold sideP upP; simp only [cond_false]; omega
theorem side_in {P : IvP} {b : Bool} (h : (sideP P b).1 ≤ x ∧ x ≤ (sideP P b).2) : 0 < x ∧ P.1 ≤ (if b then -x else x) ∧ (if b then -x else x) ≤ P.2 := by
 unfold sideP upP dnP at h
 cases b <;> simp at h ⊢ <;> omega
theorem timesE_abs (x y : Int) : timesE bigZ x y = if (decide (x < 0) == decide (y < 0)) then timesE bigZ x.natAbs y.natAbs else -timesE bigZ x.natAbs y.natAbs := by
 by_cases hx : x < 0
 · have ex : x = -(x.natAbs : Int) := by omega
   by_cases hy : y < 0
   · have ey : y = -(y.natAbs : Int) := by omega
     rw [decide_eq_true hx, decide_eq_true hy, if_pos (show (true == true) = true from rfl)]
     conv => lhs; rw [ex, ey, timesE_negl, timesE_negr, Int.neg_neg]
   · have ey : y = (y.natAbs : Int) := by omega
     rw [decide_eq_true hx, decide_eq_false hy, if_neg (by decide)]
     conv => lhs; rw [ex, ey, timesE_negl]
 · have ex : x = (x.natAbs : Int) := by omega
   by_cases hy : y < 0
   · have ey : y = -(y.natAbs : Int) := by omega
     rw [decide_eq_false hx, decide_eq_true hy, if_neg (by decide)]
     conv => lhs; rw [ex, ey, timesE_negr]
   · have ey : y = (y.natAbs : Int) := by omega
     rw [decide_eq_false hx, decide_eq_false hy, if_pos (show (false == false) = true from rfl)]
     conv => lhs; rw [ex, ey]
theorem side_ext {P : IvP} {b : Bool} (g : IvN 32 P.1 P.2) : Ext bigZ (wN 32) (sideP P b).1 ∧ Ext bigZ (wN 32) (sideP P b).2 := by
 have e : wN 1 = 18446744073709551616 := rfl
 have e2 := wN_mono (show 1 ≤ 32 by omega)
 have c1 : Ext bigZ (wN 32) 1 := .inr (.inr (by omega))
 cases b
 · exact ⟨ext_max g.lo c1, g.hi⟩
 · exact ⟨ext_max g.hi.neg c1, g.lo.neg⟩
theorem round_mem {P : IvP} {e : IvP} (he : e ∈ roundP P Q i) : ((sideP P (i % 2 == 1)).1 ≤ (sideP P (i % 2 == 1)).2 ∧ (sideP Q (i / 2 == 1)).1 ≤ (sideP Q (i / 2 == 1)).2) ∧ e = if i = 1 ∨ i = 2 then ivNg (ivPr (sideP P (i % 2 == 1)) (sideP Q (i / 2 == 1))) else ivPr (sideP P (i % 2 == 1)) (sideP Q (i / 2 == 1)) := by
 unfold roundP at he
 split at he
 · rename_i h
   exact ⟨h, List.mem_singleton.1 he⟩
 · cases he
theorem mem_times {P : IvP} {e : IvP} : e ∈ timesL P Q ↔ (((P.1 ≤ 0 ∧ 0 ≤ P.2) ∨ (Q.1 ≤ 0 ∧ 0 ≤ Q.2)) ∧ e = (0, 0)) ∨ ∃ i, i < 4 ∧ e ∈ roundP P Q i := by
 unfold timesL
 rw [List.mem_append, List.mem_append, List.mem_append, List.mem_append]
 constructor
 · rintro (h | h | h | h | h)
   · split at h
     · rename_i h1; exact .inl ⟨h1, List.mem_singleton.1 h⟩
     · cases h
   · exact .inr ⟨0, by omega, h⟩
   · exact .inr ⟨1, by omega, h⟩
   · exact .inr ⟨2, by omega, h⟩
   · exact .inr ⟨3, by omega, h⟩
 · rintro (⟨h, rfl⟩ | ⟨i, hi, h⟩)
   · rw [if_pos h]; exact .inl (List.mem_singleton.2 rfl)
   · match i, hi, h with
     | 0, _, h => exact .inr (.inl h)
     | 1, _, h => exact .inr (.inr (.inl h))
     | 2, _, h => exact .inr (.inr (.inr (.inl h)))
     | 3, _, h => exact .inr (.inr (.inr (.inr h)))
theorem times_cover {P : IvP} {a b : Int} (gP : IvN 32 P.1 P.2) (gQ : IvN 32 Q.1 Q.2) (ea : Ext bigZ (wN 32) a) (eb : Ext bigZ (wN 32) b) (h1 : P.1 ≤ a ∧ a ≤ P.2) (h2 : Q.1 ≤ b ∧ b ≤ Q.2) : ∃ e ∈ timesL P Q, e.1 ≤ timesE bigZ a b ∧ timesE bigZ a b ≤ e.2 := by
 by_cases h0 : a = 0 ∨ b = 0
 · refine ⟨(0, 0), mem_times.2 (.inl ⟨by omega, rfl⟩), ?_⟩
   rw [show timesE bigZ a b = 0 from if_pos h0]
   exact ⟨Int.le_refl _, Int.le_refl _⟩
 · have m1 := side_mem h1.1 h1.2 (by omega)
   have m2 := side_mem h2.1 h2.2 (by omega)
   have q1 := side_ext (b := decide (a < 0)) gP
   have q2 := side_ext (b := decide (b < 0)) gQ
   have z0 := bigZ_pos
   have w0 := wN_pos 32
   have w1 := wN_le (show 32 ≤ 64 by omega)
   have ea' : Ext bigZ (wN 32) (a.natAbs : Int) := by unfold Ext at *; omega
   have eb' : Ext bigZ (wN 32) (b.natAbs : Int) := by unfold Ext at *; omega
   have p1 := (side_in ⟨Int.le_refl _, Int.le_trans m1.1 m1.2⟩).1
   have p2 := (side_in ⟨Int.le_refl _, Int.le_trans m2.1 m2.2⟩).1
   have b1 : (sideP P (decide (a < 0))).2 ≤ bigZ := by have := q1.2; unfold Ext at this; omega
   have b2 : (sideP Q (decide (b < 0))).2 ≤ bigZ := by have := q2.2; unfold Ext at this; omega
   have k1 := timesE_up p1 p2 m1.1 m2.1 (by omega) (by omega) q1.1 q2.1 ea' eb'
   have k2 := timesE_up (x := a.natAbs) (y := b.natAbs) (by omega) (by omega) m1.2 m2.2 b1 b2 ea' eb' q1.2 q2.2
   have hab := timesE_abs a b
   obtain ⟨i, hi, hx, hy⟩ : ∃ i : Nat, i < 4 ∧ (i % 2 == 1) = decide (a < 0) ∧ (i / 2 == 1) = decide (b < 0) := by
    cases decide (a < 0) <;> cases decide (b < 0)
    · exact ⟨0, by omega, rfl, rfl⟩
    · exact ⟨2, by omega, rfl, rfl⟩
    · exact ⟨1, by omega, rfl, rfl⟩
    · exact ⟨3, by omega, rfl, rfl⟩
   have hle : (sideP P (i % 2 == 1)).1 ≤ (sideP P (i % 2 == 1)).2 ∧ (sideP Q (i / 2 == 1)).1 ≤ (sideP Q (i / 2 == 1)).2 := by rw [hx, hy]; exact ⟨Int.le_trans m1.1 m1.2, Int.le_trans m2.1 m2.2⟩
   refine ⟨_, mem_times.2 (.inr ⟨i, hi, by unfold roundP; rw [if_pos hle]; exact List.mem_singleton.2 rfl⟩), ?_⟩
   rw [hab, ← hx, ← hy]
   rw [← hx, ← hy] at k1 k2
   match i, hi with
   | 0, _ => exact ⟨k1, k2⟩
   | 1, _ => exact ⟨Int.neg_le_neg k2, Int.neg_le_neg k1⟩
   | 2, _ => exact ⟨Int.neg_le_neg k2, Int.neg_le_neg k1⟩
   | 3, _ => exact ⟨k1, k2⟩
theorem sign_times (x y : Int) (i : Nat) (hi : i < 4) : timesE bigZ (if (i % 2 == 1) = true then -x else x) (if (i / 2 == 1) = true then -y else y) = if i = 1 ∨ i = 2 then -timesE bigZ x y else timesE bigZ x y := by
 match i, hi with
 | 0, _ => rfl
 | 1, _ => exact timesE_negl x y
 | 2, _ => exact timesE_negr x y
 | 3, _ =>
   show timesE bigZ (-x) (-y) = timesE bigZ x y
   rw [timesE_negl, timesE_negr, Int.neg_neg]
theorem timesL_hull {P : IvP} (gP : IvN 32 P.1 P.2) (gQ : IvN 32 Q.1 Q.2) : timesL P Q ≠ [] ∧ hullP (timesL P Q) = ivM P Q := by
 have hM : wN 32 * wN 32 ≤ bigZ := by rw [wN_mul]; exact Int.le_refl _
 have k := fun a b (ea : Ext bigZ (wN 32) a) (eb : Ext bigZ (wN 32) b) h1 h2 h3 h4 => timesE_in (x0 := P.1) (x := a) (x1 := P.2) (y0 := Q.1) (y := b) (y1 := Q.2) bigZ_pos hM (wN_le (by omega)) gP.lo ea gP.hi gQ.lo eb gQ.hi h1 h2 h3 h4
 have lp := gP.le
 have lq := gQ.le
 have w0 := wN_pos 32
 have zE : Ext bigZ (wN 32) 0 := .inr (.inr (by omega))
 refine hull_eq (fun e he => ?_) ?_ ?_
 · rcases mem_times.1 he with ⟨h, rfl⟩ | ⟨i, hi, h⟩
   · rcases h with h | h
     · have := k 0 Q.1 zE gQ.lo h.1 h.2 (Int.le_refl _) lq
       rw [(timesE_zero _).2] at this
       exact this
     · have := k P.1 0 gP.lo zE (Int.le_refl _) lp h.1 h.2
       rw [(timesE_zero _).1] at this
       exact this
   · obtain ⟨⟨l1, l2⟩, rfl⟩ := round_mem h
     have a1 := side_in (P := P) (b := i % 2 == 1) ⟨Int.le_refl _, l1⟩
     have a2 := side_in (P := P) (b := i % 2 == 1) ⟨l1, Int.le_refl _⟩
     have b1 := side_in (P := Q) (b := i / 2 == 1) ⟨Int.le_refl _, l2⟩
     have b2 := side_in (P := Q) (b := i / 2 == 1) ⟨l2, Int.le_refl _⟩
     have q1 := side_ext (b := i % 2 == 1) gP
     have q2 := side_ext (b := i / 2 == 1) gQ
     have sg : ∀ (c : Bool) (x : Int), Ext bigZ (wN 32) x → Ext bigZ (wN 32) (if c = true then -x else x) := fun c x hx => by cases c <;> first | exact hx | exact hx.neg
     have c1 := k _ _ (sg _ _ q1.1) (sg _ _ q2.1) a1.2.1 a1.2.2 b1.2.1 b1.2.2
     have c2 := k _ _ (sg _ _ q1.2) (sg _ _ q2.2) a2.2.1 a2.2.2 b2.2.1 b2.2.2
     rw [sign_times _ _ _ hi] at c1 c2
     have m1 : ivPr (sideP P (i % 2 == 1)) (sideP Q (i / 2 == 1)) = (timesE bigZ (sideP P (i % 2 == 1)).1 (sideP Q (i / 2 == 1)).1, timesE bigZ (sideP P (i % 2 == 1)).2 (sideP Q (i / 2 == 1)).2) := rfl
     by_cases h12 : i = 1 ∨ i = 2
     · rw [if_pos h12] at c1 c2 ⊢
       exact ⟨c2.1, c1.2⟩
     · rw [if_neg h12] at c1 c2 ⊢
       exact ⟨c1.1, c2.2⟩
 · have hl : mulLo P.1 P.2 Q.1 Q.2 = timesE bigZ P.1 Q.1 ∨ mulLo P.1 P.2 Q.1 Q.2 = timesE bigZ P.1 Q.2 ∨ mulLo P.1 P.2 Q.1 Q.2 = timesE bigZ P.2 Q.1 ∨ mulLo P.1 P.2 Q.1 Q.2 = timesE bigZ P.2 Q.2 := by unfold mulLo lo4; omega
   show ∃ e ∈ timesL P Q, e.1 ≤ mulLo P.1 P.2 Q.1 Q.2
   rcases hl with h | h | h | h
   · obtain ⟨e, he, h1, _⟩ := times_cover gP gQ gP.lo gQ.lo ⟨Int.le_refl _, lp⟩ ⟨Int.le_refl _, lq⟩; exact ⟨e, he, by rw [h]; exact h1⟩
   · obtain ⟨e, he, h1, _⟩ := times_cover gP gQ gP.lo gQ.hi ⟨Int.le_refl _, lp⟩ ⟨lq, Int.le_refl _⟩; exact ⟨e, he, by rw [h]; exact h1⟩
   · obtain ⟨e, he, h1, _⟩ := times_cover gP gQ gP.hi gQ.lo ⟨lp, Int.le_refl _⟩ ⟨Int.le_refl _, lq⟩; exact ⟨e, he, by rw [h]; exact h1⟩
   · obtain ⟨e, he, h1, _⟩ := times_cover gP gQ gP.hi gQ.hi ⟨lp, Int.le_refl _⟩ ⟨lq, Int.le_refl _⟩; exact ⟨e, he, by rw [h]; exact h1⟩
 · have hl : mulHi P.1 P.2 Q.1 Q.2 = timesE bigZ P.1 Q.1 ∨ mulHi P.1 P.2 Q.1 Q.2 = timesE bigZ P.1 Q.2 ∨ mulHi P.1 P.2 Q.1 Q.2 = timesE bigZ P.2 Q.1 ∨ mulHi P.1 P.2 Q.1 Q.2 = timesE bigZ P.2 Q.2 := by unfold mulHi hi4; omega
   show ∃ e ∈ timesL P Q, mulHi P.1 P.2 Q.1 Q.2 ≤ e.2
   rcases hl with h | h | h | h
   · obtain ⟨e, he, _, h1⟩ := times_cover gP gQ gP.lo gQ.lo ⟨Int.le_refl _, lp⟩ ⟨Int.le_refl _, lq⟩; exact ⟨e, he, by rw [h]; exact h1⟩
   · obtain ⟨e, he, _, h1⟩ := times_cover gP gQ gP.lo gQ.hi ⟨Int.le_refl _, lp⟩ ⟨lq, Int.le_refl _⟩; exact ⟨e, he, by rw [h]; exact h1⟩
   · obtain ⟨e, he, _, h1⟩ := times_cover gP gQ gP.hi gQ.lo ⟨lp, Int.le_refl _⟩ ⟨Int.le_refl _, lq⟩; exact ⟨e, he, by rw [h]; exact h1⟩
   · obtain ⟨e, he, _, h1⟩ := times_cover gP gQ gP.hi gQ.hi ⟨lp, Int.le_refl _⟩ ⟨lq, Int.le_refl _⟩; exact ⟨e, he, by rw [h]; exact h1⟩
theorem NoU.oth6 (u : NoU w h) (hn : g ≠ h) (x0 x1 x2 x3 x4 x5 : Value) : NoU ((((((w.setCell ⟨g, 0, none⟩ x0).setCell ⟨g, 1, none⟩ x1).setCell ⟨g, 2, none⟩ x2).setCell ⟨g, 3, none⟩ x3).setCell ⟨g, 4, none⟩ x4).setCell ⟨g, 5, none⟩ x5) h := fun o n e => by
 rw [World.cell?_setCell_other _ _ _ _ (fun h => hn (by injection h)), World.cell?_setCell_other _ _ _ _ (fun h => hn (by injection h)), World.cell?_setCell_other _ _ _ _ (fun h => hn (by injection h)), World.cell?_setCell_other _ _ _ _ (fun h => hn (by injection h)), World.cell?_setCell_other _ _ _ _ (fun h => hn (by injection h)), World.cell?_setCell_other _ _ _ _ (fun h => hn (by injection h))] at e
 exact u o n e
theorem NoU.one {u : Value} (h : NoU w g) (hc : w.cell? ⟨g, j, none⟩ = some u) (hv : ∀ n, v ≠ .int .u64 n) : NoU (w.setCell ⟨g, j, none⟩ v) g := fun o m e => by
 by_cases ho : o = j
 · subst ho
   rw [World.cell?_setCell_same _ _ _ hc] at e
   injection e with e
   exact hv _ e
 · rw [World.cell?_setCell_other _ _ _ _ (fun h => ho (by injection h with _ h; exact h.symm))] at e
   exact h o m e
theorem NoU.own6 (h : NoU w g) (hb : Box6 w g a0 a1 a2 a3 a4 a5) (n0 s0 n1 s1 : Bool) (A B : Option Addr) (a c b d : Nat) : NoU ((((((w.setCell ⟨g, 0, none⟩ (.bool n0)).setCell ⟨g, 1, none⟩ (.bool s0)).setCell ⟨g, 2, none⟩ (.slice A a c)).setCell ⟨g, 3, none⟩ (.bool n1)).setCell ⟨g, 4, none⟩ (.bool s1)).setCell ⟨g, 5, none⟩ (.slice B b d)) g :=
 ((((((h.one (((BoxL.of6 hb)).c 0 _ rfl) (v := (.bool n0)) (fun n e => by cases e)).one ((((BoxL.of6 hb).set 0 (.bool n0) rfl)).c 1 _ rfl) (v := (.bool s0)) (fun n e => by cases e)).one (((((BoxL.of6 hb).set 0 (.bool n0) rfl).set 1 (.bool s0) rfl)).c 2 _ rfl) (v := (.slice A a c)) (fun n e => by cases e)).one ((((((BoxL.of6 hb).set 0 (.bool n0) rfl).set 1 (.bool s0) rfl).set 2 (.slice A a c) rfl)).c 3 _ rfl) (v := (.bool n1)) (fun n e => by cases e)).one (((((((BoxL.of6 hb).set 0 (.bool n0) rfl).set 1 (.bool s0) rfl).set 2 (.slice A a c) rfl).set 3 (.bool n1) rfl)).c 4 _ rfl) (v := (.bool s1)) (fun n e => by cases e)).one ((((((((BoxL.of6 hb).set 0 (.bool n0) rfl).set 1 (.bool s0) rfl).set 2 (.slice A a c) rfl).set 3 (.bool n1) rfl).set 4 (.bool s1) rfl)).c 5 _ rfl) (v := (.slice B b d)) (fun n e => by cases e))
theorem NoU.new6 (w : World) (n0 s0 n1 s1 : Bool) (A B : Option Addr) (a c b d : Nat) (t : TypeId) : NoU (w.alloc (.cells #[.bool n0, .bool s0, .slice A a c, .bool n1, .bool s1, .slice B b d] t)) w.heap.size := fun o m e => by
 have h := cell_of_row (w.alloc (.cells #[.bool n0, .bool s0, .slice A a c, .bool n1, .bool s1, .slice B b d] t)) w.heap.size o #[.bool n0, .bool s0, .slice A a c, .bool n1, .bool s1, .slice B b d] t (0, 0) (heap_alloc_new w _)
 rw [h] at e
 match o, e with
 | 0, e => cases e
 | 1, e => cases e
 | 2, e => cases e
 | 3, e => cases e
 | 4, e => cases e
 | 5, e => cases e
 | o + 6, e => simp at e
theorem U64s.awayJ (h : U64s w Z A c l) : ∃ Y : Zone, U64s w Y A c l ∧ ∀ g, w.heap.size ≤ g → ¬ Y.blk g :=
 ⟨⟨fun b => b < w.heap.size, False⟩, ⟨h.small, h.cap, h.max, h.nul, fun h0 => by
  obtain ⟨b, o, e, hz, _, hc⟩ := h.row h0
  exact ⟨b, o, e, lt_of_cell (hc 0 _ (List.getElem?_eq_getElem h0)), fun h => h.elim, hc⟩⟩, fun g hg (hb : g < w.heap.size) => by omega⟩
theorem U64s.set6n (u : U64s w Z A c l) (h : NoU w g) (x0 x1 x2 x3 x4 x5 : Value) : U64s ((((((w.setCell ⟨g, 0, none⟩ x0).setCell ⟨g, 1, none⟩ x1).setCell ⟨g, 2, none⟩ x2).setCell ⟨g, 3, none⟩ x3).setCell ⟨g, 4, none⟩ x4).setCell ⟨g, 5, none⟩ x5) old A c l :=
 ((u.offB h).set6 (g := g) (fun h => h rfl) x0 x1 x2 x3 x4 x5).mono (le_old _)
theorem c4_st6 {r k l : Nat} {a b c d : Value} (hg : r ≠ g) (hh : r ≠ h) (hs : (W.cell? ⟨g, i, none⟩ = some a ∧ W.cell? ⟨g, j, none⟩ = some b) ∧ W.cell? ⟨h, k, none⟩ = some c ∧ W.cell? ⟨h, l, none⟩ = some d) :
 ((((((((W.setCell ⟨r, 0, none⟩ x0).setCell ⟨r, 1, none⟩ x1).setCell ⟨r, 2, none⟩ x2).setCell ⟨r, 3, none⟩ x3).setCell ⟨r, 4, none⟩ x4).setCell ⟨r, 5, none⟩ x5).cell? ⟨g, i, none⟩ = some a ∧ ((((((W.setCell ⟨r, 0, none⟩ x0).setCell ⟨r, 1, none⟩ x1).setCell ⟨r, 2, none⟩ x2).setCell ⟨r, 3, none⟩ x3).setCell ⟨r, 4, none⟩ x4).setCell ⟨r, 5, none⟩ x5).cell? ⟨g, j, none⟩ = some b) ∧ ((((((W.setCell ⟨r, 0, none⟩ x0).setCell ⟨r, 1, none⟩ x1).setCell ⟨r, 2, none⟩ x2).setCell ⟨r, 3, none⟩ x3).setCell ⟨r, 4, none⟩ x4).setCell ⟨r, 5, none⟩ x5).cell? ⟨h, k, none⟩ = some c ∧ ((((((W.setCell ⟨r, 0, none⟩ x0).setCell ⟨r, 1, none⟩ x1).setCell ⟨r, 2, none⟩ x2).setCell ⟨r, 3, none⟩ x3).setCell ⟨r, 4, none⟩ x4).setCell ⟨r, 5, none⟩ x5).cell? ⟨h, l, none⟩ = some d) := ⟨⟨st6 hs.1.1 hg, st6 hs.1.2 hg⟩, st6 hs.2.1 hh, st6 hs.2.2 hh⟩
theorem r16end_w (n : Nm x s l) (hl : l.length ≤ 1000) (u : U64s w Z A c l) :
  Calls Tryz.prog 82 #[.agg #[.bool s, .slice A l.length c]] w fun e w' => ∃ B d, e = .returned (.agg #[.bool false, .bool s, .slice B l.length d]) ∧ U64s w' (new w.heap.size) B d l ∧ Below w.heap.size w w' := by
 obtain ⟨bA, bR, hB0⟩ := boxR w (.bool s) (.slice A l.length c) (.bool false) (.bool false) (.slice none 0 0) 25 27
 obtain ⟨s', l', n'⟩ : ∃ s l, Nm (-x) s l := ⟨_, _, rfl, rfl⟩
 have hl' : l'.length ≤ 1000 := by rw [n'.2, Int.natAbs_neg, ← n.2]; exact hl
 obtain ⟨T1, T2, HR, HB⟩ := hid4 (r5turned_v n n' rfl (by omega) (u.below hB0)) (fun (W : World) (B : Option Addr) (d : Nat) (Y : Zone) (v : U64s W Y B d l') => r5turned_v n' n (Int.neg_neg x) (by omega) v) bR hB0
 obtain ⟨a0, a1, _, _, _⟩ := bA
 clear u hB0 bR n n' hl hl'
 go_enter Tryz.func82, Tryz.ntmps82
 go_wp2_with fail
 refine T1.out.mono ?_
 rintro e w1 ⟨A1, c1, rfl, u1, hc⟩
 obtain ⟨H1, R1⟩ := hid2 (from_ HB.out hc) (HR.out.below hc)
 clear hc a0 a1
 go_wp2_with fail
 refine (T2.out _ _ _ _ u1).mono ?_
 rintro e w2 ⟨A2, c2, rfl, u2, hc⟩
 have H2 := from_ H1.out hc
 have R2 := R1.out.below hc
 have z := R1.out.lt
 have hP := R2.put H2 (by omega) (.bool false) (.bool s) (.slice A2 l.length c2)
 have hu := hP.keep (fun (h : _ ≤ w.heap.size + 1) => by omega) u2
 obtain ⟨HP, HU⟩ := hid2 hP hu
 have h1 := H1.out.size
 obtain ⟨q0, q1, q2, f0, f1, f2, _⟩ := R2
 clear hP hu u1 u2 hc H2 z
 go_wp2
 refine bodyPost_ret (res_bound rfl _ (w.heap.size + 1) rfl HP.out.c0 HP.out.c1 HP.out.c2) rfl ?_
 exact ⟨_, _, rfl, HU.out.mono (new_le h1), HP.out.bel⟩
theorem boxBt (w : World) (a0 a1 b0 b1 r0 r1 r2 r3 r4 r5 : Value) (t u : TypeId) :
  (Box (((w.alloc (.cells #[a0, a1] t)).alloc (.cells #[b0, b1] t)).alloc (.cells #[r0, r1, r2, r3, r4, r5] u)) w.heap.size a0 a1 ∧
  Box (((w.alloc (.cells #[a0, a1] t)).alloc (.cells #[b0, b1] t)).alloc (.cells #[r0, r1, r2, r3, r4, r5] u)) (w.heap.size + 1) b0 b1) ∧
  Box6 (((w.alloc (.cells #[a0, a1] t)).alloc (.cells #[b0, b1] t)).alloc (.cells #[r0, r1, r2, r3, r4, r5] u)) (w.heap.size + 2) r0 r1 r2 r3 r4 r5 ∧
  Below w.heap.size w (((w.alloc (.cells #[a0, a1] t)).alloc (.cells #[b0, b1] t)).alloc (.cells #[r0, r1, r2, r3, r4, r5] u)) := by
 have h1 := ((Box.new w a0 a1 t).alloc (.cells #[b0, b1] t)).alloc (.cells #[r0, r1, r2, r3, r4, r5] u)
 have h2 := (Box.new (w.alloc (.cells #[a0, a1] t)) b0 b1 t).alloc (.cells #[r0, r1, r2, r3, r4, r5] u)
 have h3 := Box6.new ((w.alloc (.cells #[a0, a1] t)).alloc (.cells #[b0, b1] t)) r0 r1 r2 r3 r4 r5 u
 simp only [World.size_alloc] at h2 h3
 exact ⟨⟨h1, h2⟩, h3, (((Below.refl _ w).alloc (Nat.le_refl _) _).alloc (by simp) _).alloc (by simp; omega) _⟩
theorem r16between_w {k : List Nat} (n : Nm x s l) (m : Nm y t k) (hl : l.length ≤ 1000) (hk : k.length ≤ 1000) (u : U64s w Z1 A c l) (v : U64s w Z2 B d k) :
  Calls Tryz.prog 48 #[.agg #[.bool s, .slice A l.length c], .agg #[.bool t, .slice B k.length d]] w fun e w' => ∃ A1 c1 A2 c2, e = .returned (.agg #[.bool false, .bool s, .slice A1 l.length c1, .bool false, .bool t, .slice A2 k.length c2]) ∧ U64s w' (new w.heap.size) A1 c1 l ∧ U64s w' (new w.heap.size) A2 c2 k ∧ Below w.heap.size w w' := by
 obtain ⟨⟨bA, bB⟩, bR, hB0⟩ := boxBt w (.bool s) (.slice A l.length c) (.bool t) (.slice B k.length d) (.bool false) (.bool false) (.slice none 0 0) (.bool false) (.bool false) (.slice none 0 0) 25 29
 obtain ⟨C1, C2⟩ := hid2 (fun (W : World) (h : Below w.heap.size w W) => r16end_w n hl (u.below h)) (fun (W : World) (h : Below w.heap.size w W) => r16end_w m hk (v.below h))
 have s0 := bA.c0
 have s1 := bA.c1
 have s2 := bB.c0
 have s3 := bB.c1
 obtain ⟨HR, HB⟩ := hid2 bR hB0
 clear u v bA bB bR hB0 n m hl hk
 have hs := (show (_ ∧ _) ∧ _ ∧ _ from ⟨⟨s0, s1⟩, s2, s3⟩)
 replace hs := c4_keep hs bdr_
 have Hc := hid HB.out.drew
 replace HR := hid (HR.out.below bdr_)
 clear s0 s1 s2 s3
 obtain ⟨gR, hgR⟩ : ∃ gR, gR = w.heap.size + 2 := ⟨_, rfl⟩
 rw [← hgR] at HR
 go_enter Tryz.func48, Tryz.ntmps48
 go_upto_region 1 with fail
 (try simp only [show w.heap.size + 1 + 1 = w.heap.size + 2 from rfl])
 simp only [show w.heap.size + 2 = gR from hgR.symm]
 obtain ⟨N1, N2, N3⟩ := hid3 (show gR ≠ w.heap.size by omega) (show gR ≠ w.heap.size + 1 by omega) (show w.heap.size ≤ gR by omega)
 clear hgR HB
 first | go_region_held3 (fun w' => (w'.cell? ⟨w.heap.size, 0, none⟩ = some (.bool s) ∧ w'.cell? ⟨w.heap.size, 1, none⟩ = some (.slice A l.length c)) ∧ w'.cell? ⟨w.heap.size + 1, 0, none⟩ = some (.bool t) ∧ w'.cell? ⟨w.heap.size + 1, 1, none⟩ = some (.slice B k.length d))
  (first
   | with_reducible exact hs
   | with_reducible exact c4_st6 N1.out N2.out hs
   | exact c4_keep hs bal_)
  (first
   | (go_at_call 82; with_reducible refine (C1.out _ Hc.out).mono ?_; rintro e w2 ⟨D1, d1, rfl, vv1, hc2⟩; (try replace vv2 := vv2.below hc2); (try clear g0 g1 g2 g3 g4 g5 f0 f1 f2 f3 f4 f5); replace hs := c4_keep hs hc2; have zl := HR.out.lt; replace HR := hid (HR.out.below hc2); have Hp := Hc; replace Hc := hid (from_ Hc.out hc2); obtain ⟨g0, g1, g2, g3, g4, g5, f0, f1, f2, f3, f4, f5, _⟩ := id HR.out)
   | (go_at_call 82; with_reducible refine (C2.out _ Hc.out).mono ?_; rintro e w3 ⟨D2, d2, rfl, vv2, hc2⟩; (try replace vv1 := vv1.below hc2); (try clear g0 g1 g2 g3 g4 g5 f0 f1 f2 f3 f4 f5); replace hs := c4_keep hs hc2; have zm := HR.out.lt; replace HR := hid (HR.out.below hc2); have Hq := Hc; replace Hc := hid (from_ Hc.out hc2); have g0 := HR.out.cf)) | fail
 all_goals
  obtain ⟨HP, U1, U2⟩ := hid3 (HR.out.put Hc.out N3.out (.bool false) (.bool s) (.slice D1 l.length d1) (.bool false) (.bool t) (.slice D2 k.length d2)) ((vv1.set6 (g := gR) (fun (h : _ ≤ gR) => by omega) (.bool false) (.bool s) (.slice D1 l.length d1) (.bool false) (.bool t) (.slice D2 k.length d2)).mono (new_le Hp.out.size)) ((vv2.set6 (g := gR) (fun (h : _ ≤ gR) => by omega) (.bool false) (.bool s) (.slice D1 l.length d1) (.bool false) (.bool t) (.slice D2 k.length d2)).mono (new_le Hq.out.size))
  clear vv1 vv2
  go_wp2
  refine bodyPost_ret (res_itv rfl _ gR rfl HP.out.box) rfl ?_
  exact ⟨_, _, _, _, rfl, U1.out, U2.out, HP.out.bel⟩
theorem r16turned_w {n : Bool} (h : (n = true ∧ n' = true ∧ s' = s ∧ l' = l) ∨ (n = false ∧ n' = false ∧ ∃ x, Nm x s l ∧ Nm (-x) s' l')) (hl : l.length ≤ 1000) (u : U64s w Z A c l) :
  Calls Tryz.prog 116 #[.agg #[.bool n, .bool s, .slice A l.length c]] w fun e w' => ∃ B d, e = .returned (.agg #[.bool n', .bool s', .slice B l'.length d]) ∧ U64s w' old B d l' ∧ Below w.heap.size w w' := by
 obtain ⟨Y, v, hY⟩ := u.awayJ
 obtain ⟨bA, bR, hB0⟩ := boxQ w (.bool n) (.bool s) (.slice A l.length c) (.bool false) (.bool false) (.slice none 0 0) 27 27
 obtain ⟨HB, HR⟩ := hid2 hB0 bR
 obtain ⟨a0, a1, a2, _, _, _, _⟩ := bA
 rcases h with ⟨rfl, rfl, rfl, rfl⟩ | ⟨rfl, rfl, x, n1, n2⟩
 · obtain ⟨_, bR2, hB2⟩ := boxQ w (.bool true) (.bool s') (.slice A l'.length c) (.bool true) (.bool s') (.slice A l'.length c) 27 27
   obtain ⟨U, HP, HQ⟩ := hid3 ((u.below hB2).mono (le_old _)) bR2 hB2
   obtain ⟨q0, q1, q2, f0, f1, f2, _⟩ := bR
   clear u v hY hB0 hB2 bR2
   go_enter Tryz.func116, Tryz.ntmps116
   go_wp2
   refine bodyPost_ret (res_bound rfl _ (w.heap.size + 1) rfl HP.out.c0 HP.out.c1 HP.out.c2) rfl ?_
   exact ⟨_, _, rfl, U.out, HQ.out⟩
 · have T1 := hid (r5turned_v n1 n2 rfl (by omega) (u.below hB0))
   clear u v hY bR hB0 n1 n2
   go_enter Tryz.func116, Tryz.ntmps116
   go_wp2_with fail
   refine T1.out.mono ?_
   rintro e w2 ⟨A2, c2, rfl, u2, hc⟩
   have H2 := from_ HB.out hc
   have R2 := HR.out.below hc
   have z := HR.out.lt
   have hP := R2.put H2 (by omega) (.bool false) (.bool s') (.slice A2 l'.length c2)
   have hu := hP.keep (fun (h : _ ≤ w.heap.size + 1) => by omega) u2
   obtain ⟨HP, HU⟩ := hid2 hP (hu.mono (le_old _))
   obtain ⟨q0, q1, q2, f0, f1, f2, _⟩ := R2
   clear hP hu u2 hc H2 z a0 a1 a2
   go_wp2
   refine bodyPost_ret (res_bound rfl _ (w.heap.size + 1) rfl HP.out.c0 HP.out.c1 HP.out.c2) rfl ?_
   exact ⟨_, _, rfl, HU.out, HP.out.bel⟩
theorem ends_neg {n : Bool} (hx : -bigZ ≤ x ∧ x ≤ bigZ) (h : (n = nHi x ∧ s = sE x ∧ l = lE x ∧ n' = nLo (-x)) ∨ (n = nLo x ∧ s = sE x ∧ l = lE x ∧ n' = nHi (-x) )) (hb : (n = nHi x → x ≠ -bigZ) ∧ (n = nLo x → x ≠ bigZ) ∨ True) (h2 : s' = sE (-x) ∧ l' = lE (-x)) (hk : n = false → -bigZ < x ∧ x < bigZ) (hk2 : n = true → x = bigZ ∨ x = -bigZ) : (n = true ∧ n' = true ∧ s' = s ∧ l' = l) ∨ (n = false ∧ n' = false ∧ ∃ y, Nm y s l ∧ Nm (-y) s' l') := by
 have h0 := bigZ_pos
 obtain ⟨rfl, rfl⟩ := h2
 cases n with
 | false =>
   have hk := hk rfl
   have e1 := nm_e (n := x) hk
   have e2 := nm_e (n := -x) (by omega)
   refine .inr ⟨rfl, ?_, x, ?_, e2⟩
   · rcases h with h | h
     · rw [h.2.2.2]; exact nLo_no (by omega)
     · rw [h.2.2.2]; exact nHi_no (by omega)
   · rcases h with h | h
     · rw [h.2.1, h.2.2.1]; exact e1
     · rw [h.2.1, h.2.2.1]; exact e1
 | true =>
   have hk := hk2 rfl
   have es : sE (-x) = sE x := by unfold sE; rw [decide_eq_false (by omega), decide_eq_false (by omega)]
   have el : lE (-x) = lE x := by unfold lE; rw [if_neg (by omega), if_neg (by omega)]
   refine .inl ⟨rfl, ?_, ?_, ?_⟩
   · rcases h with h | h
     · rw [h.2.2.2]
       have : x = bigZ := of_decide_eq_true (h.1.symm)
       exact decide_eq_true (by omega)
     · rw [h.2.2.2]
       have : x = -bigZ := of_decide_eq_true (h.1.symm)
       exact decide_eq_true (by omega)
   · rcases h with h | h <;> rw [es, h.2.1]
   · rcases h with h | h <;> rw [el, h.2.2.1]
theorem r16other_w {r : Iv} {P : IvP} (hp : IvW P p) (gp : IvN 60 P.1 P.2) (hr : IvW (ivNg P) r) (u1 : U64s w Z1 A a p.l0) (u2 : U64s w Z2 B b p.l1) :
  Calls Tryz.prog 76 #[.agg #[.bool p.n0, .bool p.s0, .slice A p.l0.length a, .bool p.n1, .bool p.s1, .slice B p.l1.length b]] w fun e w' => ∃ rA ra rB rb, e = .returned (.agg #[.bool r.n0, .bool r.s0, .slice rA r.l0.length ra, .bool r.n1, .bool r.s1, .slice rB r.l1.length rb]) ∧ U64s w' old rA ra r.l0 ∧ U64s w' old rB rb r.l1 ∧ Below w.heap.size w w' := by
 have kp := hp.k gp (by omega)
 have h0 := bigZ_pos
 have r1 := gp.lo.range (by omega)
 have r2 := gp.hi.range (by omega)
 have n1 := gp.nlo
 have n2 := gp.nhi
 obtain ⟨⟨p0, p1, p2⟩, p3, p4, p5⟩ := hp
 obtain ⟨⟨q0, q1, q2⟩, q3, q4, q5⟩ := hr
 have e1 := ends_neg (x := P.2) (n := p.n1) (s := p.s1) (l := p.l1) (n' := r.n0) (s' := r.s0) (l' := r.l0) r2 (.inl ⟨p3, p4, p5, q0⟩) (.inr trivial) ⟨q1, q2⟩ (fun h => by rw [p3] at h; have := of_decide_eq_false h; omega) (fun h => by rw [p3] at h; exact .inl (of_decide_eq_true h))
 have e2 := ends_neg (x := P.1) (n := p.n0) (s := p.s0) (l := p.l0) (n' := r.n1) (s' := r.s1) (l' := r.l1) r1 (.inr ⟨p0, p1, p2, q3⟩) (.inr trivial) ⟨q4, q5⟩ (fun h => by rw [p0] at h; have := of_decide_eq_false h; omega) (fun h => by rw [p0] at h; exact .inr (of_decide_eq_true h))
 obtain ⟨bA, bR, hB0⟩ := boxT w (.bool p.n0) (.bool p.s0) (.slice A p.l0.length a) (.bool p.n1) (.bool p.s1) (.slice B p.l1.length b) (.bool false) (.bool false) (.slice none 0 0) (.bool false) (.bool false) (.slice none 0 0) 29
 have nR := NoU.new6 (w.alloc (.cells #[.bool p.n0, .bool p.s0, .slice A p.l0.length a, .bool p.n1, .bool p.s1, .slice B p.l1.length b] 29)) false false false false none none 0 0 0 0 29
 rw [World.size_alloc] at nR
 obtain ⟨C1, C2⟩ := hid2 (fun (W : World) (h : Below w.heap.size w W) => r16turned_w e1 (by have := kp.q1; omega) (u2.below h)) (fun (W : World) (h : Below w.heap.size w W) => r16turned_w e2 (by have := kp.q0; omega) (u1.below h))
 have hs := bA.all
 replace hs := box6_keep hs bdr_
 obtain ⟨Hc, HR, HN⟩ := hid3 hB0.drew (bR.below bdr_) (nR.below bR.lt bdr_)
 clear u1 u2 kp r1 r2 n1 n2 p0 p1 p2 p3 p4 p5 q0 q1 q2 q3 q4 q5 e1 e2 bA bR nR hB0 gp
 obtain ⟨gR, hgR⟩ : ∃ gR, gR = w.heap.size + 1 := ⟨_, rfl⟩
 rw [← hgR] at HR HN
 go_enter Tryz.func76, Tryz.ntmps76
 go_upto_region 1 with fail
 simp only [show w.heap.size + 1 = gR from hgR.symm]
 obtain ⟨N1, N3⟩ := hid2 (show gR ≠ w.heap.size by omega) (show w.heap.size ≤ gR by omega)
 clear hgR
 first | go_region_held3 (fun w' => C6 w' w.heap.size (.bool p.n0) (.bool p.s0) (.slice A p.l0.length a) (.bool p.n1) (.bool p.s1) (.slice B p.l1.length b))
  (first
   | with_reducible exact hs
   | with_reducible exact box6_st6 N1.out hs
   | exact box6_keep hs bal_)
  (first
   | (go_at_call 116; with_reducible refine (C1.out _ Hc.out).mono ?_; rintro e w2 ⟨D1, d1, rfl, vv1, hc2⟩; (try replace vv2 := vv2.below hc2); (try clear g0 g1 g2 g3 g4 g5 f0 f1 f2 f3 f4 f5); replace hs := box6_keep hs hc2; replace HN := hid (HN.out.below HR.out.lt hc2); replace HR := hid (HR.out.below hc2); replace Hc := hid (from_ Hc.out hc2); obtain ⟨g0, g1, g2, g3, g4, g5, f0, f1, f2, f3, f4, f5, _⟩ := id HR.out)
   | (go_at_call 116; with_reducible refine (C2.out _ Hc.out).mono ?_; rintro e w3 ⟨D2, d2, rfl, vv2, hc2⟩; (try replace vv1 := vv1.below hc2); (try clear g0 g1 g2 g3 g4 g5 f0 f1 f2 f3 f4 f5); replace hs := box6_keep hs hc2; replace HN := hid (HN.out.below HR.out.lt hc2); replace HR := hid (HR.out.below hc2); replace Hc := hid (from_ Hc.out hc2); have g0 := HR.out.cf)) | fail
 all_goals
  obtain ⟨HP, U1, U2⟩ := hid3 (HR.out.put Hc.out N3.out (.bool r.n0) (.bool r.s0) (.slice D1 r.l0.length d1) (.bool r.n1) (.bool r.s1) (.slice D2 r.l1.length d2)) (vv1.set6n HN.out (.bool r.n0) (.bool r.s0) (.slice D1 r.l0.length d1) (.bool r.n1) (.bool r.s1) (.slice D2 r.l1.length d2)) (vv2.set6n HN.out (.bool r.n0) (.bool r.s0) (.slice D1 r.l0.length d1) (.bool r.n1) (.bool r.s1) (.slice D2 r.l1.length d2))
  clear vv1 vv2
  go_wp2
  refine bodyPost_ret (res_itv rfl _ gR rfl HP.out.box) rfl ?_
  exact ⟨_, _, _, _, rfl, U1.out, U2.out, HP.out.bel⟩
theorem r05of_p {n : Int} (h : Nm n s l) (hn : -9223372036854775808 ≤ n ∧ n ≤ 9223372036854775807) :
  Calls Tryz.prog 49 #[.int .i64 n] w fun e w' => ∃ A c, e = .returned (.agg #[.bool s, .slice A l.length c]) ∧ U64s w' (new w.heap.size) A c l ∧ Below w.heap.size w w' := by
 refine (r05of_any hn).mono ?_
 rintro e w' ⟨v, rfl, hv, hb⟩
 obtain ⟨A, c, rfl, hu⟩ := h.of hv
 exact ⟨A, c, rfl, hu, hb⟩
theorem r16sum_w {n : Bool} {k : List Nat} (h : ((n = true ∨ m = true) ∧ r = true ∧ rs = false ∧ rl = []) ∨ (n = false ∧ m = false ∧ r = false ∧ ∃ x y, Nm x s l ∧ Nm y t k ∧ Nm (x + y) rs rl)) (hl : l.length ≤ 1000) (hk : k.length ≤ 1000) (u : U64s w Z1 A c l) (v : U64s w Z2 B d k) :
  Calls Tryz.prog 70 #[.agg #[.bool n, .bool s, .slice A l.length c], .agg #[.bool m, .bool t, .slice B k.length d]] w fun e w' => ∃ E e', e = .returned (.agg #[.bool r, .bool rs, .slice E rl.length e']) ∧ U64s w' (new w.heap.size) E e' rl ∧ Below w.heap.size w w' := by
 rcases h with ⟨hn, rfl, rfl, rfl⟩ | ⟨rfl, rfl, rfl, x, y, n1, n2, n3⟩
 · obtain ⟨bA, bB, bR, hB0⟩ := boxS w (.bool n) (.bool s) (.slice A l.length c) (.bool m) (.bool t) (.slice B k.length d) (.bool true) (.bool false) (.slice none 0 0) 27
   obtain ⟨bA', bB', bR', _⟩ := boxS w (.bool n) (.bool s) (.slice A l.length c) (.bool m) (.bool t) (.slice B k.length d) (.bool false) (.bool false) (.slice none 0 0) 27
   obtain ⟨HP, HB⟩ := hid2 bR hB0
   obtain ⟨a0, a1, a2, _, _, _, _⟩ := bA'
   obtain ⟨b0, b1, b2, _, _, _, _⟩ := bB'
   obtain ⟨q0, q1, q2, f0, f1, f2, _⟩ := bR'
   clear u v hl hk bA bB bR hB0
   rcases hn with rfl | rfl
   · go_enter Tryz.func70, Tryz.ntmps70
     go_wp2
     refine bodyPost_ret (res_bound rfl _ (w.heap.size + 2) rfl HP.out.c0 HP.out.c1 HP.out.c2) rfl ?_
     exact ⟨none, 0, rfl, U64s.nil _ _, HB.out⟩
   · cases n
     · go_enter Tryz.func70, Tryz.ntmps70
       go_wp2
       refine bodyPost_ret (res_bound rfl _ (w.heap.size + 2) rfl HP.out.c0 HP.out.c1 HP.out.c2) rfl ?_
       exact ⟨none, 0, rfl, U64s.nil _ _, HB.out⟩
     · go_enter Tryz.func70, Tryz.ntmps70
       go_wp2
       refine bodyPost_ret (res_bound rfl _ (w.heap.size + 2) rfl HP.out.c0 HP.out.c1 HP.out.c2) rfl ?_
       exact ⟨none, 0, rfl, U64s.nil _ _, HB.out⟩
 · obtain ⟨bA, bB, bR, hB0⟩ := boxS w (.bool false) (.bool s) (.slice A l.length c) (.bool false) (.bool t) (.slice B k.length d) (.bool false) (.bool false) (.slice none 0 0) 27
   obtain ⟨T1, HR, HB⟩ := hid3 (r5sum_n n1 n2 n3 rfl (by omega) (by omega) (u.below hB0) (v.below hB0)) bR hB0
   obtain ⟨a0, a1, a2, _, _, _, _⟩ := bA
   obtain ⟨b0, b1, b2, _, _, _, _⟩ := bB
   clear u v n1 n2 n3 hl hk bR hB0
   go_enter Tryz.func70, Tryz.ntmps70
   go_wp2_with fail
   refine T1.out.mono ?_
   rintro e w2 ⟨A2, c2, rfl, u2, hc⟩
   have hs := HB.out.size
   have H2 := from_ HB.out hc
   have R2 := HR.out.below hc
   have z := HR.out.lt
   have hP := R2.put H2 (show w.heap.size ≤ w.heap.size + 2 by omega) (.bool false) (.bool rs) (.slice A2 rl.length c2)
   have hu := hP.keep (fun (h : _ ≤ w.heap.size + 2) => by omega) u2
   obtain ⟨HP, HU⟩ := hid2 hP (hu.mono (new_le hs))
   obtain ⟨q0, q1, q2, f0, f1, f2, _⟩ := R2
   clear hP hu u2 hc H2 z hs a0 a1 a2 b0 b1 b2
   go_wp2
   refine bodyPost_ret (res_bound rfl _ (w.heap.size + 2) rfl HP.out.c0 HP.out.c1 HP.out.c2) rfl ?_
   exact ⟨_, _, rfl, HU.out, HP.out.bel⟩
theorem r16product_w {n : Bool} {k : List Nat} (h : ((n = true ∨ m = true) ∧ r = true ∧ rs = false ∧ rl = []) ∨ (n = false ∧ m = false ∧ r = false ∧ ∃ x y, Nm x s l ∧ Nm y t k ∧ Nm (x * y) rs rl)) (hl : l.length ≤ 1000) (hk : k.length ≤ 1000) (u : U64s w Z1 A c l) (v : U64s w Z2 B d k) :
  Calls Tryz.prog 77 #[.agg #[.bool n, .bool s, .slice A l.length c], .agg #[.bool m, .bool t, .slice B k.length d]] w fun e w' => ∃ E e', e = .returned (.agg #[.bool r, .bool rs, .slice E rl.length e']) ∧ U64s w' (new w.heap.size) E e' rl ∧ Below w.heap.size w w' := by
 rcases h with ⟨hn, rfl, rfl, rfl⟩ | ⟨rfl, rfl, rfl, x, y, n1, n2, n3⟩
 · obtain ⟨bA, bB, bR, hB0⟩ := boxS w (.bool n) (.bool s) (.slice A l.length c) (.bool m) (.bool t) (.slice B k.length d) (.bool true) (.bool false) (.slice none 0 0) 27
   obtain ⟨bA', bB', bR', _⟩ := boxS w (.bool n) (.bool s) (.slice A l.length c) (.bool m) (.bool t) (.slice B k.length d) (.bool false) (.bool false) (.slice none 0 0) 27
   obtain ⟨HP, HB⟩ := hid2 bR hB0
   obtain ⟨a0, a1, a2, _, _, _, _⟩ := bA'
   obtain ⟨b0, b1, b2, _, _, _, _⟩ := bB'
   obtain ⟨q0, q1, q2, f0, f1, f2, _⟩ := bR'
   clear u v hl hk bA bB bR hB0
   rcases hn with rfl | rfl
   · go_enter Tryz.func77, Tryz.ntmps77
     go_wp2
     refine bodyPost_ret (res_bound rfl _ (w.heap.size + 2) rfl HP.out.c0 HP.out.c1 HP.out.c2) rfl ?_
     exact ⟨none, 0, rfl, U64s.nil _ _, HB.out⟩
   · cases n
     · go_enter Tryz.func77, Tryz.ntmps77
       go_wp2
       refine bodyPost_ret (res_bound rfl _ (w.heap.size + 2) rfl HP.out.c0 HP.out.c1 HP.out.c2) rfl ?_
       exact ⟨none, 0, rfl, U64s.nil _ _, HB.out⟩
     · go_enter Tryz.func77, Tryz.ntmps77
       go_wp2
       refine bodyPost_ret (res_bound rfl _ (w.heap.size + 2) rfl HP.out.c0 HP.out.c1 HP.out.c2) rfl ?_
       exact ⟨none, 0, rfl, U64s.nil _ _, HB.out⟩
 · obtain ⟨bA, bB, bR, hB0⟩ := boxS w (.bool false) (.bool s) (.slice A l.length c) (.bool false) (.bool t) (.slice B k.length d) (.bool false) (.bool false) (.slice none 0 0) 27
   obtain ⟨T1, HR, HB⟩ := hid3 (r5times_n n1 n2 n3 rfl (by omega) (by omega) (u.below hB0) (v.below hB0)) bR hB0
   obtain ⟨a0, a1, a2, _, _, _, _⟩ := bA
   obtain ⟨b0, b1, b2, _, _, _, _⟩ := bB
   clear u v n1 n2 n3 hl hk bR hB0
   go_enter Tryz.func77, Tryz.ntmps77
   go_wp2_with fail
   refine T1.out.mono ?_
   rintro e w2 ⟨A2, c2, rfl, u2, hc⟩
   have hs := HB.out.size
   have H2 := from_ HB.out hc
   have R2 := HR.out.below hc
   have z := HR.out.lt
   have hP := R2.put H2 (show w.heap.size ≤ w.heap.size + 2 by omega) (.bool false) (.bool rs) (.slice A2 rl.length c2)
   have hu := hP.keep (fun (h : _ ≤ w.heap.size + 2) => by omega) u2
   obtain ⟨HP, HU⟩ := hid2 hP (hu.mono (new_le hs))
   obtain ⟨q0, q1, q2, f0, f1, f2, _⟩ := R2
   clear hP hu u2 hc H2 z hs a0 a1 a2 b0 b1 b2
   go_wp2
   refine bodyPost_ret (res_bound rfl _ (w.heap.size + 2) rfl HP.out.c0 HP.out.c1 HP.out.c2) rfl ?_
   exact ⟨_, _, rfl, HU.out, HP.out.bel⟩
theorem d12_keep (hs : (C6 W g a0 a1 a2 a3 a4 a5) ∧ C6 W h b0 b1 b2 b3 b4 b5) (hb : Below W.heap.size W V) : (C6 V g a0 a1 a2 a3 a4 a5) ∧ C6 V h b0 b1 b2 b3 b4 b5 := ⟨box6_keep hs.1 hb, box6_keep hs.2 hb⟩
theorem d12_st6 {r : Nat} (hg : r ≠ g) (hh : r ≠ h) (hs : (C6 W g a0 a1 a2 a3 a4 a5) ∧ C6 W h b0 b1 b2 b3 b4 b5) : (((((((W.setCell ⟨r, 0, none⟩ x0).setCell ⟨r, 1, none⟩ x1).setCell ⟨r, 2, none⟩ x2).setCell ⟨r, 3, none⟩ x3).setCell ⟨r, 4, none⟩ x4).setCell ⟨r, 5, none⟩ x5).cell? ⟨g, 0, none⟩ = some a0 ∧ ((((((W.setCell ⟨r, 0, none⟩ x0).setCell ⟨r, 1, none⟩ x1).setCell ⟨r, 2, none⟩ x2).setCell ⟨r, 3, none⟩ x3).setCell ⟨r, 4, none⟩ x4).setCell ⟨r, 5, none⟩ x5).cell? ⟨g, 1, none⟩ = some a1 ∧ ((((((W.setCell ⟨r, 0, none⟩ x0).setCell ⟨r, 1, none⟩ x1).setCell ⟨r, 2, none⟩ x2).setCell ⟨r, 3, none⟩ x3).setCell ⟨r, 4, none⟩ x4).setCell ⟨r, 5, none⟩ x5).cell? ⟨g, 2, none⟩ = some a2 ∧ ((((((W.setCell ⟨r, 0, none⟩ x0).setCell ⟨r, 1, none⟩ x1).setCell ⟨r, 2, none⟩ x2).setCell ⟨r, 3, none⟩ x3).setCell ⟨r, 4, none⟩ x4).setCell ⟨r, 5, none⟩ x5).cell? ⟨g, 3, none⟩ = some a3 ∧ ((((((W.setCell ⟨r, 0, none⟩ x0).setCell ⟨r, 1, none⟩ x1).setCell ⟨r, 2, none⟩ x2).setCell ⟨r, 3, none⟩ x3).setCell ⟨r, 4, none⟩ x4).setCell ⟨r, 5, none⟩ x5).cell? ⟨g, 4, none⟩ = some a4 ∧ ((((((W.setCell ⟨r, 0, none⟩ x0).setCell ⟨r, 1, none⟩ x1).setCell ⟨r, 2, none⟩ x2).setCell ⟨r, 3, none⟩ x3).setCell ⟨r, 4, none⟩ x4).setCell ⟨r, 5, none⟩ x5).cell? ⟨g, 5, none⟩ = some a5) ∧ ((((((W.setCell ⟨r, 0, none⟩ x0).setCell ⟨r, 1, none⟩ x1).setCell ⟨r, 2, none⟩ x2).setCell ⟨r, 3, none⟩ x3).setCell ⟨r, 4, none⟩ x4).setCell ⟨r, 5, none⟩ x5).cell? ⟨h, 0, none⟩ = some b0 ∧ ((((((W.setCell ⟨r, 0, none⟩ x0).setCell ⟨r, 1, none⟩ x1).setCell ⟨r, 2, none⟩ x2).setCell ⟨r, 3, none⟩ x3).setCell ⟨r, 4, none⟩ x4).setCell ⟨r, 5, none⟩ x5).cell? ⟨h, 1, none⟩ = some b1 ∧ ((((((W.setCell ⟨r, 0, none⟩ x0).setCell ⟨r, 1, none⟩ x1).setCell ⟨r, 2, none⟩ x2).setCell ⟨r, 3, none⟩ x3).setCell ⟨r, 4, none⟩ x4).setCell ⟨r, 5, none⟩ x5).cell? ⟨h, 2, none⟩ = some b2 ∧ ((((((W.setCell ⟨r, 0, none⟩ x0).setCell ⟨r, 1, none⟩ x1).setCell ⟨r, 2, none⟩ x2).setCell ⟨r, 3, none⟩ x3).setCell ⟨r, 4, none⟩ x4).setCell ⟨r, 5, none⟩ x5).cell? ⟨h, 3, none⟩ = some b3 ∧ ((((((W.setCell ⟨r, 0, none⟩ x0).setCell ⟨r, 1, none⟩ x1).setCell ⟨r, 2, none⟩ x2).setCell ⟨r, 3, none⟩ x3).setCell ⟨r, 4, none⟩ x4).setCell ⟨r, 5, none⟩ x5).cell? ⟨h, 4, none⟩ = some b4 ∧ ((((((W.setCell ⟨r, 0, none⟩ x0).setCell ⟨r, 1, none⟩ x1).setCell ⟨r, 2, none⟩ x2).setCell ⟨r, 3, none⟩ x3).setCell ⟨r, 4, none⟩ x4).setCell ⟨r, 5, none⟩ x5).cell? ⟨h, 5, none⟩ = some b5 := ⟨box6_st6 hg hs.1, box6_st6 hh hs.2⟩
theorem sum_lo {n : Bool} {k : List Nat} (hx : Ext bigZ (wN N) x) (hy : Ext bigZ (wN N) y) (hN : N ≤ 59) (hb : x < bigZ ∧ y < bigZ) (e1 : EndL x n s l) (e2 : EndL y m t k) (e3 : EndL (plusE bigZ x y) r rs rl) : ((n = true ∨ m = true) ∧ r = true ∧ rs = false ∧ rl = []) ∨ (n = false ∧ m = false ∧ r = false ∧ ∃ a b, Nm a s l ∧ Nm b t k ∧ Nm (a + b) rs rl) := by
 have h0 := bigZ_pos
 have h4 := wN_le (show N + 1 ≤ 64 by omega)
 have h5 := wN_two N
 obtain ⟨rfl, rfl, rfl⟩ := e1
 obtain ⟨rfl, rfl, rfl⟩ := e2
 obtain ⟨rfl, rfl, rfl⟩ := e3
 unfold Ext at hx hy
 by_cases h : x = -bigZ ∨ y = -bigZ
 · have e : plusE bigZ x y = -bigZ := by unfold plusE; rw [if_pos h]
   rw [e]
   refine .inl ⟨?_, decide_eq_true rfl, decide_eq_false (by omega), if_neg (by omega)⟩
   rcases h with h | h
   · exact .inl (decide_eq_true h)
   · exact .inr (decide_eq_true h)
 · have e : plusE bigZ x y = x + y := by unfold plusE; rw [if_neg (by omega), if_neg (by omega)]
   rw [e]
   exact .inr ⟨decide_eq_false (by omega), decide_eq_false (by omega), decide_eq_false (by omega), x, y, nm_e (by omega), nm_e (by omega), nm_e (by omega)⟩
theorem sum_hi {n : Bool} {k : List Nat} (hx : Ext bigZ (wN N) x) (hy : Ext bigZ (wN N) y) (hN : N ≤ 59) (hb : -bigZ < x ∧ -bigZ < y) (e1 : EndH x n s l) (e2 : EndH y m t k) (e3 : EndH (plusE bigZ x y) r rs rl) : ((n = true ∨ m = true) ∧ r = true ∧ rs = false ∧ rl = []) ∨ (n = false ∧ m = false ∧ r = false ∧ ∃ a b, Nm a s l ∧ Nm b t k ∧ Nm (a + b) rs rl) := by
 have h0 := bigZ_pos
 have h4 := wN_le (show N + 1 ≤ 64 by omega)
 have h5 := wN_two N
 obtain ⟨rfl, rfl, rfl⟩ := e1
 obtain ⟨rfl, rfl, rfl⟩ := e2
 obtain ⟨rfl, rfl, rfl⟩ := e3
 unfold Ext at hx hy
 by_cases h : x = bigZ ∨ y = bigZ
 · have e : plusE bigZ x y = bigZ := by unfold plusE; rw [if_neg (by omega), if_pos h]
   rw [e]
   refine .inl ⟨?_, decide_eq_true rfl, decide_eq_false (by omega), if_neg (by omega)⟩
   rcases h with h | h
   · exact .inl (decide_eq_true h)
   · exact .inr (decide_eq_true h)
 · have e : plusE bigZ x y = x + y := by unfold plusE; rw [if_neg (by omega), if_neg (by omega)]
   rw [e]
   exact .inr ⟨decide_eq_false (by omega), decide_eq_false (by omega), decide_eq_false (by omega), x, y, nm_e (by omega), nm_e (by omega), nm_e (by omega)⟩
theorem r16plus_w {r : Iv} {P : IvP} (hp : IvW P p) (gp : IvN N P.1 P.2) (hq : IvW Q q) (gq : IvN N Q.1 Q.2) (hN : N ≤ 59) (hr : IvW (ivA P Q) r) (u1 : U64s w Z1 A a p.l0) (u2 : U64s w Z2 B b p.l1) (u3 : U64s w Z3 C c q.l0) (u4 : U64s w Z4 D d q.l1) :
  Calls Tryz.prog 31 #[.agg #[.bool p.n0, .bool p.s0, .slice A p.l0.length a, .bool p.n1, .bool p.s1, .slice B p.l1.length b], .agg #[.bool q.n0, .bool q.s0, .slice C q.l0.length c, .bool q.n1, .bool q.s1, .slice D q.l1.length d]] w fun e w' => ∃ rA ra rB rb, e = .returned (.agg #[.bool r.n0, .bool r.s0, .slice rA r.l0.length ra, .bool r.n1, .bool r.s1, .slice rB r.l1.length rb]) ∧ U64s w' (new w.heap.size) rA ra r.l0 ∧ U64s w' (new w.heap.size) rB rb r.l1 ∧ Below w.heap.size w w' := by
 have kp := hp.k gp (by omega)
 have kq := hq.k gq (by omega)
 have e1 := sum_lo gp.lo gq.lo hN ⟨gp.nlo, gq.nlo⟩ hp.1 hq.1 hr.1
 have e2 := sum_hi gp.hi gq.hi hN ⟨gp.nhi, gq.nhi⟩ hp.2 hq.2 hr.2
 obtain ⟨bA, bB, bR, hB0⟩ := boxX w (.bool p.n0) (.bool p.s0) (.slice A p.l0.length a) (.bool p.n1) (.bool p.s1) (.slice B p.l1.length b) (.bool q.n0) (.bool q.s0) (.slice C q.l0.length c) (.bool q.n1) (.bool q.s1) (.slice D q.l1.length d) (.bool false) (.bool false) (.slice none 0 0) (.bool false) (.bool false) (.slice none 0 0) 29
 obtain ⟨C1, C2⟩ := hid2 (fun (W : World) (h : Below w.heap.size w W) => r16sum_w e1 (by have := kp.q0; omega) (by have := kq.q0; omega) (u1.below h) (u3.below h)) (fun (W : World) (h : Below w.heap.size w W) => r16sum_w e2 (by have := kp.q1; omega) (by have := kq.q1; omega) (u2.below h) (u4.below h))
 have hs := And.intro bA.all bB.all
 replace hs := d12_keep hs bdr_
 obtain ⟨Hc, HR⟩ := hid2 hB0.drew (bR.below bdr_)
 clear u1 u2 u3 u4 kp kq hp hq hr gp gq e1 e2 bA bB bR hB0
 obtain ⟨gR, hgR⟩ : ∃ gR, gR = w.heap.size + 2 := ⟨_, rfl⟩
 rw [← hgR] at HR
 go_enter Tryz.func31, Tryz.ntmps31
 go_upto_region 1 with fail
 (try simp only [show w.heap.size + 1 + 1 = w.heap.size + 2 from rfl])
 simp only [show w.heap.size + 2 = gR from hgR.symm]
 obtain ⟨N1, N2, N3⟩ := hid3 (show gR ≠ w.heap.size by omega) (show gR ≠ w.heap.size + 1 by omega) (show w.heap.size ≤ gR by omega)
 clear hgR
 first | go_region_held3 (fun w' => (C6 w' w.heap.size (.bool p.n0) (.bool p.s0) (.slice A p.l0.length a) (.bool p.n1) (.bool p.s1) (.slice B p.l1.length b)) ∧ C6 w' (w.heap.size + 1) (.bool q.n0) (.bool q.s0) (.slice C q.l0.length c) (.bool q.n1) (.bool q.s1) (.slice D q.l1.length d))
  (first
   | with_reducible exact hs
   | with_reducible exact d12_st6 N1.out N2.out hs
   | exact d12_keep hs bal_)
  (first
   | (go_at_call 70; with_reducible refine (C1.out _ Hc.out).mono ?_; rintro e w2 ⟨D1, d1, rfl, vv1, hc2⟩; (try replace vv2 := vv2.below hc2); (try clear g0 g1 g2 g3 g4 g5 f0 f1 f2 f3 f4 f5); replace hs := d12_keep hs hc2; have zl := HR.out.lt; replace HR := hid (HR.out.below hc2); have Hp := Hc; replace Hc := hid (from_ Hc.out hc2); obtain ⟨g0, g1, g2, g3, g4, g5, f0, f1, f2, f3, f4, f5, _⟩ := id HR.out)
   | (go_at_call 70; with_reducible refine (C2.out _ Hc.out).mono ?_; rintro e w3 ⟨D2, d2, rfl, vv2, hc2⟩; (try replace vv1 := vv1.below hc2); (try clear g0 g1 g2 g3 g4 g5 f0 f1 f2 f3 f4 f5); replace hs := d12_keep hs hc2; have zm := HR.out.lt; replace HR := hid (HR.out.below hc2); have Hq := Hc; replace Hc := hid (from_ Hc.out hc2); have g0 := HR.out.cf)) | fail
 all_goals
  obtain ⟨HP, U1, U2⟩ := hid3 (HR.out.put Hc.out N3.out (.bool r.n0) (.bool r.s0) (.slice D1 r.l0.length d1) (.bool r.n1) (.bool r.s1) (.slice D2 r.l1.length d2)) ((vv1.set6 (g := gR) (fun (h : _ ≤ gR) => by omega) (.bool r.n0) (.bool r.s0) (.slice D1 r.l0.length d1) (.bool r.n1) (.bool r.s1) (.slice D2 r.l1.length d2)).mono (new_le Hp.out.size)) ((vv2.set6 (g := gR) (fun (h : _ ≤ gR) => by omega) (.bool r.n0) (.bool r.s0) (.slice D1 r.l0.length d1) (.bool r.n1) (.bool r.s1) (.slice D2 r.l1.length d2)).mono (new_le Hq.out.size))
  clear vv1 vv2
  go_wp2
  refine bodyPost_ret (res_itv rfl _ gR rfl HP.out.box) rfl ?_
  exact ⟨_, _, _, _, rfl, U1.out, U2.out, HP.out.bel⟩
end Go.Proofs.YthpngihjcphigaaGreat
