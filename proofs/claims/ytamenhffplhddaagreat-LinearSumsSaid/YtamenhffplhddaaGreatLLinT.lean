/-
  Linear forms: what they may be, plain. No conditions.
  Intervals by their ends' numbers: Mul, Add, Neg, Join. No conditions but bounds on lengths.
  Linear forms, the program's: with, the closures of Add, Scale, Neg. No conditions but bounds on lengths.
  Linear forms, the program's: Neg, Scale, Add of forms given by their ends' numbers. No conditions but bounds on lengths.
  Linear forms, the program's: the closure of Split; middle. No conditions but bounds on lengths.
  Linear forms: the sums so far of Value and of Split, plain. No conditions.
  The law's of: an interval of two ints; the program's point. No conditions but bounds on numbers.
  The law's some: a form of two intervals. No conditions.
-/
import Derived.Deep.RegionHeld3
import Derived.Test.YtamenhffplhddaaGreatLItwE
import Derived.Test.YtamenhffplhddaaGreatLFrameJ
import Derived.Test.YtamenhffplhddaaGreatLLinG
import Derived.Test.YtamenhffplhddaaGreatLWhM
namespace Go.Proofs.YtamenhffplhddaaGreat
set_option linter.unusedVariables false
set_option linter.unusedSimpArgs false

/-- An interval's ends as numbers. -/
abbrev IvP := Int × Int
def ivA (p q : IvP) : IvP := (plusE bigZ p.1 q.1, plusE bigZ p.2 q.2)
def ivM (p q : IvP) : IvP := (mulLo p.1 p.2 q.1 q.2, mulHi p.1 p.2 q.1 q.2)
def ivNg (p : IvP) : IvP := (-p.2, -p.1)
def inI (a : Int) (p : IvP) : Prop := p.1 ≤ a ∧ a ≤ p.2
/-- What a form may be, of a box. -/
def valL (out : IvP) (fb : List (IvP × IvP)) : IvP := fb.foldl (fun o q => ivA o (ivM q.1 q.2)) out
/-- What it is, of numbers. -/
def sumL (a : Int) (ws : List (Int × Int)) : Int := ws.foldl (fun o p => o + p.1 * p.2) a
theorem ivA_ok {N : Nat} {p q : IvP} (h : IvN N p.1 p.2) (g : IvN N q.1 q.2) (hN : N ≤ 60) : IvN (N + 1) (ivA p q).1 (ivA p q).2 := ivn_plus h g hN
theorem ivM_ok {N M : Nat} {p q : IvP} (h : IvN N p.1 p.2) (g : IvN M q.1 q.2) (hN : N + M ≤ 64) : IvN (N + M) (ivM p q).1 (ivM p q).2 := ivn_times h g hN
theorem ivNg_ok {N : Nat} {p : IvP} (h : IvN N p.1 p.2) : IvN N (ivNg p).1 (ivNg p).2 := ivn_neg h
theorem neg_in {a : Int} {p : IvP} (h : inI a p) : inI (-a) (ivNg p) := by
  unfold inI ivNg at *
  dsimp only
  omega
theorem bound_ext {N : Nat} {a : Int} (h : -wN N < a ∧ a < wN N) : Ext bigZ (wN N) a := .inr (.inr h)
theorem bound_fin {N : Nat} {a : Int} (h : -wN N < a ∧ a < wN N) (hN : N ≤ 64) : -bigZ < a ∧ a < bigZ := by
  have := wN_le hN
  omega
theorem bound_mul {N M : Nat} {a b : Int} (h : -wN N < a ∧ a < wN N) (g : -wN M < b ∧ b < wN M) : -wN (N + M) < a * b ∧ a * b < wN (N + M) := by
  have a1 : (a * b).natAbs = a.natAbs * b.natAbs := Int.natAbs_mul a b
  have a2 : a.natAbs < 18446744073709551616 ^ N := by rw [wN_cast] at h; omega
  have a3 : b.natAbs < 18446744073709551616 ^ M := by rw [wN_cast] at g; omega
  have a4 : a.natAbs * b.natAbs < 18446744073709551616 ^ (N + M) := by
    rw [Nat.pow_add]
    exact Nat.mul_lt_mul_of_lt_of_lt a2 a3
  have a5 : ((a * b).natAbs : Int) < wN (N + M) := by rw [wN_cast, a1]; exact Int.ofNat_lt.2 a4
  omega
theorem bound_up {N M : Nat} {a : Int} (h : -wN N < a ∧ a < wN N) (hN : N ≤ M) : -wN M < a ∧ a < wN M := by
  have := wN_mono hN
  omega
theorem bound_add {N : Nat} {a b : Int} (h : -wN N < a ∧ a < wN N) (g : -wN N < b ∧ b < wN N) : -wN (N + 1) < a + b ∧ a + b < wN (N + 1) := by
  have := wN_two N
  omega
theorem mul_in {p q : IvP} {a b : Int} (h : IvN 32 p.1 p.2) (g : IvN 32 q.1 q.2) (ea : -wN 32 < a ∧ a < wN 32) (eb : -wN 32 < b ∧ b < wN 32) (h1 : inI a p) (h2 : inI b q) : inI (a * b) (ivM p q) :=
  times_in h g (bound_ext ea) (bound_ext eb) (bound_fin ea (by omega)) (bound_fin eb (by omega)) h1.1 h1.2 h2.1 h2.2
theorem add_in {N : Nat} {p q : IvP} {a b : Int} (h : IvN N p.1 p.2) (g : IvN N q.1 q.2) (hN : N ≤ 60) (ea : -wN N < a ∧ a < wN N) (eb : -wN N < b ∧ b < wN N) (h1 : inI a p) (h2 : inI b q) : inI (a + b) (ivA p q) :=
  plus_in h g hN h1.1 h1.2 h2.1 h2.2 (bound_fin (bound_add ea eb) (by omega))

theorem val_ok : ∀ (fb : List (IvP × IvP)) (out : IvP) (N : Nat), 16 ≤ N → N + fb.length ≤ 60 → IvN N out.1 out.2 → (∀ q ∈ fb, IvN 8 q.1.1 q.1.2 ∧ IvN 8 q.2.1 q.2.2) → IvN (N + fb.length) (valL out fb).1 (valL out fb).2 := by
  intro fb
  induction fb with
  | nil => intro out N _ _ h _; exact h
  | cons q t ih =>
    intro out N hN hl h hq
    rw [List.length_cons] at hl ⊢
    have h1 := hq q (by simp)
    have h2 := ivA_ok h ((ivM_ok h1.1 h1.2 (by omega)).up hN) (by omega)
    have h3 := ih (ivA out (ivM q.1 q.2)) (N + 1) (by omega) (by omega) h2 fun x hx => hq x (by simp [hx])
    rw [show N + (t.length + 1) = N + 1 + t.length by omega]
    exact h3
theorem val_in : ∀ (fb : List (IvP × IvP)) (ws : List (Int × Int)) (out : IvP) (N : Nat) (a : Int), ws.length = fb.length → 16 ≤ N → N + fb.length ≤ 60 → IvN N out.1 out.2 → (∀ q ∈ fb, IvN 8 q.1.1 q.1.2 ∧ IvN 8 q.2.1 q.2.2) →
    inI a out → (-wN N < a ∧ a < wN N) → (∀ j (h1 : j < ws.length) (h2 : j < fb.length), (inI ws[j].1 fb[j].1 ∧ inI ws[j].2 fb[j].2) ∧ (-wN 8 < ws[j].1 ∧ ws[j].1 < wN 8) ∧ (-wN 8 < ws[j].2 ∧ ws[j].2 < wN 8)) → inI (sumL a ws) (valL out fb) := by
  intro fb
  induction fb with
  | nil =>
    intro ws out N a hl _ _ _ _ ha _ _
    have : ws = [] := List.eq_nil_of_length_eq_zero hl
    subst this
    exact ha
  | cons q t ih =>
    intro ws out N a hl hN hlen h hq ha hb hw
    cases ws with
    | nil => simp at hl
    | cons p ws =>
      rw [List.length_cons] at hlen
      rw [List.length_cons, List.length_cons] at hl
      have h1 := hq q (by simp)
      have h0 := hw 0 (by simp) (by simp)
      rw [List.getElem_cons_zero, List.getElem_cons_zero] at h0
      obtain ⟨⟨i1, i2⟩, b1, b2⟩ := h0
      have hm := mul_in (h1.1.up (by omega)) (h1.2.up (by omega)) (bound_up b1 (by omega)) (bound_up b2 (by omega)) i1 i2
      have hbm := bound_up (bound_mul b1 b2) hN
      have h2 := ivA_ok h ((ivM_ok h1.1 h1.2 (by omega)).up hN) (by omega)
      have h3 := add_in h ((ivM_ok h1.1 h1.2 (by omega)).up hN) (by omega) hb hbm ha hm
      refine ih ws (ivA out (ivM q.1 q.2)) (N + 1) (a + p.1 * p.2) (by omega) (by omega) (by omega) h2 (fun x hx => hq x (by simp [hx])) h3 (bound_add hb hbm) fun j g1 g2 => ?_
      have h9 := hw (j + 1) (by rw [List.length_cons]; omega) (by rw [List.length_cons]; omega)
      rwa [List.getElem_cons_succ, List.getElem_cons_succ] at h9

end Go.Proofs.YtamenhffplhddaaGreat

namespace Go.Proofs.YtamenhffplhddaaGreat
open Go.RowKit
set_option linter.unusedVariables false
set_option linter.unusedSimpArgs false

/-- An interval's words, of its ends' numbers. -/
def IvW (P : IvP) (q : Iv) : Prop := EndL P.1 q.n0 q.s0 q.l0 ∧ EndH P.2 q.n1 q.s1 q.l1
theorem IvW.mk (P : IvP) : IvW P (ivOf P.1 P.2) := ⟨⟨rfl, rfl, rfl⟩, rfl, rfl, rfl⟩
theorem IvW.uniq {P : IvP} {p q : Iv} (h : IvW P p) (g : IvW P q) : p = q := by
  obtain ⟨⟨a1, a2, a3⟩, a4, a5, a6⟩ := h
  obtain ⟨⟨b1, b2, b3⟩, b4, b5, b6⟩ := g
  cases p
  cases q
  simp only at *
  subst a1 a2 a3 a4 a5 a6 b1 b2 b3 b4 b5 b6
  rfl
theorem lo_e {x : Int} (h : -bigZ ≤ x ∧ x < bigZ) : loV (nLo x) (sE x) (lE x) = x ∧ okE (nLo x) (sE x) (lE x) = true := by
  have h0 := bigZ_pos
  by_cases hx : x = -bigZ
  · have e1 : nLo x = true := decide_eq_true hx
    have e2 : sE x = false := decide_eq_false (by omega)
    have e3 : lE x = [] := by unfold lE; rw [if_neg (by omega)]
    rw [e1, e2, e3]
    exact ⟨hx.symm, rfl⟩
  · have e1 : nLo x = false := decide_eq_false hx
    have e2 := nm_e (n := x) ⟨by omega, h.2⟩
    rw [e1, e2.1, e2.2]
    exact ⟨zof_z x, IsZ.ok x⟩
theorem hi_e {x : Int} (h : -bigZ < x ∧ x ≤ bigZ) : hiV (nHi x) (sE x) (lE x) = x ∧ okE (nHi x) (sE x) (lE x) = true := by
  have h0 := bigZ_pos
  by_cases hx : x = bigZ
  · have e1 : nHi x = true := decide_eq_true hx
    have e2 : sE x = false := decide_eq_false (by omega)
    have e3 : lE x = [] := by unfold lE; rw [if_neg (by omega)]
    rw [e1, e2, e3]
    exact ⟨hx.symm, rfl⟩
  · have e1 : nHi x = false := decide_eq_false hx
    have e2 := nm_e (n := x) ⟨h.1, by omega⟩
    rw [e1, e2.1, e2.2]
    exact ⟨zof_z x, IsZ.ok x⟩
/-- What such words are. -/
structure IvK (N : Nat) (P : IvP) (p : Iv) : Prop where
  ok : okA p.n0 p.s0 p.l0 p.n1 p.s1 p.l1 = true
  lo : loV p.n0 p.s0 p.l0 = P.1
  hi : hiV p.n1 p.s1 p.l1 = P.2
  q0 : p.l0.length ≤ N
  q1 : p.l1.length ≤ N
theorem IvW.k {N : Nat} {P : IvP} {p : Iv} (h : IvW P p) (g : IvN N P.1 P.2) (hN : N ≤ 64) : IvK N P p := by
  obtain ⟨⟨a1, a2, a3⟩, a4, a5, a6⟩ := h
  have r1 := g.lo.range hN
  have r2 := g.hi.range hN
  have e1 := lo_e ⟨r1.1, g.nlo⟩
  have e2 := hi_e ⟨g.nhi, r2.2⟩
  rw [← a1, ← a2, ← a3] at e1
  rw [← a4, ← a5, ← a6] at e2
  have p1 : Pl P.1 (bE P.1) p.s0 p.l0 := by rw [a2, a3]; exact Pl.all r1
  have p2 : Pl P.2 (bE P.2) p.s1 p.l1 := by rw [a5, a6]; exact Pl.all r2
  refine ⟨?_, e1.1, e2.1, p1.len_of g.lo, p2.len_of g.hi⟩
  unfold okA
  rw [e1.2, e2.2]
  have h1 := e1.1
  have h2 := e2.1
  have h3 := g.le
  unfold loV at h1
  unfold hiV at h2
  cases hn0 : p.n0
  · cases hn1 : p.n1
    · rw [hn0] at h1
      rw [hn1] at h2
      have : zof p.s0 p.l0 ≤ zof p.s1 p.l1 := by
        have h1' : zof p.s0 p.l0 = P.1 := h1
        have h2' : zof p.s1 p.l1 = P.2 := h2
        omega
      simp [this]
    · rfl
  · rfl
theorem IvW.okP {N : Nat} {P : IvP} {p : Iv} (h : IvW P p) (g : IvN N P.1 P.2) (hN : N ≤ 64) : p.ok = true := (h.k g hN).ok

theorem imul_w {w : World} {Z1 Z2 Z3 Z4 : Zone} {p q r : Iv} {P Q : IvP} {N M : Nat} {A B C D : Option Addr} {a b c d : Nat} (hp : IvW P p) (hq : IvW Q q) (hr : IvW (ivM P Q) r) (gp : IvN N P.1 P.2) (gq : IvN M Q.1 Q.2) (hN : N ≤ 32) (hM : M ≤ 32) (u1 : U64s w Z1 A a p.l0) (u2 : U64s w Z2 B b p.l1) (u3 : U64s w Z3 C c q.l0) (u4 : U64s w Z4 D d q.l1) :
    Calls Tryz.prog 13 #[.agg #[.bool p.n0, .bool p.s0, .slice A p.l0.length a, .bool p.n1, .bool p.s1, .slice B p.l1.length b], .agg #[.bool q.n0, .bool q.s0, .slice C q.l0.length c, .bool q.n1, .bool q.s1, .slice D q.l1.length d]] w fun e w' => ∃ rA ra rB rb, e = .returned (.tuple #[.agg #[.bool r.n0, .bool r.s0, .slice rA r.l0.length ra, .bool r.n1, .bool r.s1, .slice rB r.l1.length rb], .int .i64 0]) ∧ U64s w' (new w.heap.size) rA ra r.l0 ∧ U64s w' (new w.heap.size) rB rb r.l1 ∧ Below w.heap.size w w' := by
  have kp := hp.k gp (by omega)
  have kq := hq.k gq (by omega)
  have g := ivM_ok gp gq (by omega)
  exact iMul_good u1 u2 u3 u4 kp.ok kq.ok (Nat.le_trans kp.q0 hN) (Nat.le_trans kp.q1 hN) (Nat.le_trans kq.q0 hM) (Nat.le_trans kq.q1 hM) (by rw [kp.lo, kp.hi, kq.lo, kq.hi]; rfl) (by rw [kp.lo, kp.hi, kq.lo, kq.hi]; rfl) g.nlo g.nhi hr.1 hr.2
theorem iadd_w {w : World} {Z1 Z2 Z3 Z4 : Zone} {p q r : Iv} {P Q : IvP} {N : Nat} {A B C D : Option Addr} {a b c d : Nat} (hp : IvW P p) (hq : IvW Q q) (hr : IvW (ivA P Q) r) (gp : IvN N P.1 P.2) (gq : IvN N Q.1 Q.2) (hN : N ≤ 59) (u1 : U64s w Z1 A a p.l0) (u2 : U64s w Z2 B b p.l1) (u3 : U64s w Z3 C c q.l0) (u4 : U64s w Z4 D d q.l1) :
    Calls Tryz.prog 11 #[.agg #[.bool p.n0, .bool p.s0, .slice A p.l0.length a, .bool p.n1, .bool p.s1, .slice B p.l1.length b], .agg #[.bool q.n0, .bool q.s0, .slice C q.l0.length c, .bool q.n1, .bool q.s1, .slice D q.l1.length d]] w fun e w' => ∃ rA ra rB rb, e = .returned (.tuple #[.agg #[.bool r.n0, .bool r.s0, .slice rA r.l0.length ra, .bool r.n1, .bool r.s1, .slice rB r.l1.length rb], .int .i64 0]) ∧ U64s w' (new w.heap.size) rA ra r.l0 ∧ U64s w' (new w.heap.size) rB rb r.l1 ∧ Below w.heap.size w w' := by
  have kp := hp.k gp (by omega)
  have kq := hq.k gq (by omega)
  have g := ivA_ok gp gq (by omega)
  exact iAdd_good u1 u2 u3 u4 kp.ok kq.ok (by have := kp.q0; omega) (by have := kp.q1; omega) (by have := kq.q0; omega) (by have := kq.q1; omega) (by rw [kp.lo, kq.lo]; rfl) (by rw [kp.hi, kq.hi]; rfl) g.nlo g.nhi hr.1 hr.2
theorem ineg_w {w : World} {Z1 Z2 : Zone} {p r : Iv} {P : IvP} {N : Nat} {A B : Option Addr} {a b : Nat} (hp : IvW P p) (hr : IvW (ivNg P) r) (gp : IvN N P.1 P.2) (hN : N ≤ 60) (u1 : U64s w Z1 A a p.l0) (u2 : U64s w Z2 B b p.l1) :
    Calls Tryz.prog 15 #[.agg #[.bool p.n0, .bool p.s0, .slice A p.l0.length a, .bool p.n1, .bool p.s1, .slice B p.l1.length b]] w fun e w' => ∃ rA ra rB rb, e = .returned (.tuple #[.agg #[.bool r.n0, .bool r.s0, .slice rA r.l0.length ra, .bool r.n1, .bool r.s1, .slice rB r.l1.length rb], .int .i64 0]) ∧ U64s w' (new w.heap.size) rA ra r.l0 ∧ U64s w' (new w.heap.size) rB rb r.l1 ∧ Below w.heap.size w w' := by
  have kp := hp.k gp (by omega)
  exact iNeg_good u1 u2 kp.ok (by have := kp.q0; omega) (by have := kp.q1; omega) (by rw [kp.hi]; rfl) (by rw [kp.lo]; rfl) hr.1 hr.2
/-- An interval joined with itself. -/
theorem ijoin_w {w : World} {Z1 Z2 Z3 Z4 : Zone} {p : Iv} {P : IvP} {N : Nat} {A B C D : Option Addr} {a b c d : Nat} (hp : IvW P p) (gp : IvN N P.1 P.2) (hN : N ≤ 60) (u1 : U64s w Z1 A a p.l0) (u2 : U64s w Z2 B b p.l1) (u3 : U64s w Z3 C c p.l0) (u4 : U64s w Z4 D d p.l1) :
    Calls Tryz.prog 84 #[.agg #[.bool p.n0, .bool p.s0, .slice A p.l0.length a, .bool p.n1, .bool p.s1, .slice B p.l1.length b], .agg #[.bool p.n0, .bool p.s0, .slice C p.l0.length c, .bool p.n1, .bool p.s1, .slice D p.l1.length d]] w fun e w' => ∃ rA ra rB rb, e = .returned (.tuple #[.agg #[.bool p.n0, .bool p.s0, .slice rA p.l0.length ra, .bool p.n1, .bool p.s1, .slice rB p.l1.length rb], .int .i64 0]) ∧ U64s w' (new w.heap.size) rA ra p.l0 ∧ U64s w' (new w.heap.size) rB rb p.l1 ∧ Below w.heap.size w w' := by
  have kp := hp.k gp (by omega)
  exact iJoin_good u1 u2 u3 u4 kp.ok kp.ok (by have := kp.q0; omega) (by have := kp.q1; omega) (by have := kp.q0; omega) (by have := kp.q1; omega) (z0 := P.1) (z1 := P.2) (by rw [kp.lo]; omega) (by rw [kp.hi]; omega) hp.1 hp.2

end Go.Proofs.YtamenhffplhddaaGreat

namespace Go.Proofs.YtamenhffplhddaaGreat
open Go.RowKit
set_option linter.unusedVariables false
set_option linter.unusedSimpArgs false

/-- Four boxes of six. -/
theorem box4 (w : World) (a0 a1 a2 a3 a4 a5 b0 b1 b2 b3 b4 b5 c0 c1 c2 c3 c4 c5 r0 r1 r2 r3 r4 r5 : Value) (t : TypeId) :
    Box6 ((((w.alloc (.cells #[a0, a1, a2, a3, a4, a5] t)).alloc (.cells #[b0, b1, b2, b3, b4, b5] t)).alloc (.cells #[c0, c1, c2, c3, c4, c5] t)).alloc (.cells #[r0, r1, r2, r3, r4, r5] t)) w.heap.size a0 a1 a2 a3 a4 a5 ∧ Box6 ((((w.alloc (.cells #[a0, a1, a2, a3, a4, a5] t)).alloc (.cells #[b0, b1, b2, b3, b4, b5] t)).alloc (.cells #[c0, c1, c2, c3, c4, c5] t)).alloc (.cells #[r0, r1, r2, r3, r4, r5] t)) (w.heap.size + 1) b0 b1 b2 b3 b4 b5 ∧ Box6 ((((w.alloc (.cells #[a0, a1, a2, a3, a4, a5] t)).alloc (.cells #[b0, b1, b2, b3, b4, b5] t)).alloc (.cells #[c0, c1, c2, c3, c4, c5] t)).alloc (.cells #[r0, r1, r2, r3, r4, r5] t)) (w.heap.size + 2) c0 c1 c2 c3 c4 c5 ∧ Box6 ((((w.alloc (.cells #[a0, a1, a2, a3, a4, a5] t)).alloc (.cells #[b0, b1, b2, b3, b4, b5] t)).alloc (.cells #[c0, c1, c2, c3, c4, c5] t)).alloc (.cells #[r0, r1, r2, r3, r4, r5] t)) (w.heap.size + 3) r0 r1 r2 r3 r4 r5 ∧ Below w.heap.size w ((((w.alloc (.cells #[a0, a1, a2, a3, a4, a5] t)).alloc (.cells #[b0, b1, b2, b3, b4, b5] t)).alloc (.cells #[c0, c1, c2, c3, c4, c5] t)).alloc (.cells #[r0, r1, r2, r3, r4, r5] t)) := by
  obtain ⟨h1, h2, h3, hb⟩ := boxX w a0 a1 a2 a3 a4 a5 b0 b1 b2 b3 b4 b5 c0 c1 c2 c3 c4 c5 t
  have h4 := Box6.new (((w.alloc (.cells #[a0, a1, a2, a3, a4, a5] t)).alloc (.cells #[b0, b1, b2, b3, b4, b5] t)).alloc (.cells #[c0, c1, c2, c3, c4, c5] t)) r0 r1 r2 r3 r4 r5 t
  rw [show (((w.alloc (.cells #[a0, a1, a2, a3, a4, a5] t)).alloc (.cells #[b0, b1, b2, b3, b4, b5] t)).alloc (.cells #[c0, c1, c2, c3, c4, c5] t)).heap.size = w.heap.size + 3 by simp] at h4
  exact ⟨h1.alloc _, h2.alloc _, h3.alloc _, h4, hb.alloc (by simp; omega) _⟩

set_option maxRecDepth 100000 in
set_option maxHeartbeats 4000000 in
theorem lwith_w {w : World} {Z1 Z2 Z3 Z4 Z5 Z6 : Zone} {s p q r : Iv} {S P Q : IvP} {N K : Nat} {A B C D E F : Option Addr} {a b c d e f : Nat} (hs : IvW S s) (hp : IvW P p) (hq : IvW Q q) (hr : IvW (ivA S (ivM P Q)) r) (gs : IvN N S.1 S.2) (gp : IvN K P.1 P.2) (gq : IvN K Q.1 Q.2) (hN : K + K ≤ N ∧ N ≤ 59)
    (u1 : U64s w Z1 A a s.l0) (u2 : U64s w Z2 B b s.l1) (u3 : U64s w Z3 C c p.l0) (u4 : U64s w Z4 D d p.l1) (u5 : U64s w Z5 E e q.l0) (u6 : U64s w Z6 F f q.l1) :
    Calls Tryz.prog 85 #[.agg #[.bool s.n0, .bool s.s0, .slice A s.l0.length a, .bool s.n1, .bool s.s1, .slice B s.l1.length b], .agg #[.bool p.n0, .bool p.s0, .slice C p.l0.length c, .bool p.n1, .bool p.s1, .slice D p.l1.length d], .agg #[.bool q.n0, .bool q.s0, .slice E q.l0.length e, .bool q.n1, .bool q.s1, .slice F q.l1.length f]] w fun e w' => ∃ rA ra rB rb, e = .returned (.agg #[.bool r.n0, .bool r.s0, .slice rA r.l0.length ra, .bool r.n1, .bool r.s1, .slice rB r.l1.length rb]) ∧ U64s w' (new w.heap.size) rA ra r.l0 ∧ U64s w' (new w.heap.size) rB rb r.l1 ∧ Below w.heap.size w w' := by
  obtain ⟨bA, bB, bC, bR, hB0⟩ := box4 w (.bool s.n0) (.bool s.s0) (.slice A s.l0.length a) (.bool s.n1) (.bool s.s1) (.slice B s.l1.length b) (.bool p.n0) (.bool p.s0) (.slice C p.l0.length c) (.bool p.n1) (.bool p.s1) (.slice D p.l1.length d) (.bool q.n0) (.bool q.s0) (.slice E q.l0.length e) (.bool q.n1) (.bool q.s1) (.slice F q.l1.length f) (.bool false) (.bool false) (.slice none 0 0) (.bool false) (.bool false) (.slice none 0 0) 29
  obtain ⟨m, hm⟩ : ∃ m, IvW (ivM P Q) m := ⟨_, IvW.mk _⟩
  have gm := ivM_ok gp gq (by omega)
  have MU := Lib.hid (fun (V : World) (h : Below w.heap.size w V) => imul_w (w := V) hp hq hm gp gq (by omega) (by omega) (u3.below h) (u4.below h) (u5.below h) (u6.below h))
  have AD := Lib.hid (fun (V : World) (h : Below w.heap.size w V) (Y1 Y2 : Zone) (G H : Option Addr) (g h' : Nat) (v1 : U64s V Y1 G g m.l0) (v2 : U64s V Y2 H h' m.l1) => iadd_w (w := V) hs hm hr gs (gm.up hN.1) hN.2 (u1.below h) (u2.below h) v1 v2)
  have HA := Lib.hid bA
  have HR := Lib.hid bR
  have Hb1 := Lib.hid hB0
  obtain ⟨b0, b1, b2, b3, b4, b5, _, _, _, _, _, _, _⟩ := bB
  obtain ⟨c0, c1, c2, c3, c4, c5, _, _, _, _, _, _, _⟩ := bC
  clear hs hp hq hr hm gs gp gq gm hN u1 u2 u3 u4 u5 u6 bA bR hB0
  generalize s.l0.length = sl0 at *
  generalize s.l1.length = sl1 at *
  generalize p.l0.length = pl0 at *
  generalize p.l1.length = pl1 at *
  generalize q.l0.length = ql0 at *
  generalize q.l1.length = ql1 at *
  go_enter Tryz.func85, Tryz.ntmps85
  go_wp2_with fail
  refine (MU.out _ Hb1.out).mono ?_
  rintro e' w1 ⟨A1, d1, A2, d2, rfl, o1, o2, hc⟩
  have hb2 := from_ Hb1.out hc
  have hm7 := Box6.new w1 (.bool m.n0) (.bool m.s0) (.slice A1 m.l0.length d1) (.bool m.n1) (.bool m.s1) (.slice A2 m.l1.length d2) 29
  have hp7 : Below w1.heap.size w1 (w1.alloc (.cells #[.bool m.n0, .bool m.s0, .slice A1 m.l0.length d1, .bool m.n1, .bool m.s1, .slice A2 m.l1.length d2] 29)) := (Below.refl _ w1).alloc (Nat.le_refl _) _
  have hA1 := ((HA.out.below hc).below hp7)
  have HR1 := Lib.hid ((HR.out.below hc).below hp7)
  have HX := Lib.hid (AD.out _ (from_ hb2 hp7) _ _ _ _ _ _ (o1.below hp7) (o2.below hp7))
  have hb3 := from_ hb2 hp7
  have Hz1 := HR1.out.lt
  clear o1 o2 hb2 hp7 hc b0 b1 b2 b3 b4 b5 c0 c1 c2 c3 c4 c5 Hb1 HA HR
  obtain ⟨a0, a1, a2, a3, a4, a5, _, _, _, _, _, _, _⟩ := hA1
  obtain ⟨m0, m1, m2, m3, m4, m5, _, _, _, _, _, _, _⟩ := hm7
  go_wp2_with fail
  refine HX.out.mono ?_
  rintro e' w2 ⟨A3, d3, A4, d4, rfl, o3, o4, hc⟩
  have hb4 := from_ hb3 hc
  have hm9 := Box6.new w2 (.bool r.n0) (.bool r.s0) (.slice A3 r.l0.length d3) (.bool r.n1) (.bool r.s1) (.slice A4 r.l1.length d4) 29
  have hp9 : Below w2.heap.size w2 (w2.alloc (.cells #[.bool r.n0, .bool r.s0, .slice A3 r.l0.length d3, .bool r.n1, .bool r.s1, .slice A4 r.l1.length d4] 29)) := (Below.refl _ w2).alloc (Nat.le_refl _) _
  have hR2 := ((HR1.out.below hc).below hp9)
  have HP := Lib.hid (hR2.put (w := w) (from_ hb4 hp9) (by omega) (.bool r.n0) (.bool r.s0) (.slice A3 r.l0.length d3) (.bool r.n1) (.bool r.s1) (.slice A4 r.l1.length d4))
  have U1 := Lib.hid (((o3.below hp9).set6 (g := w.heap.size + 3) (fun (h : _ ≤ w.heap.size + 3) => by omega) (.bool r.n0) (.bool r.s0) (.slice A3 r.l0.length d3) (.bool r.n1) (.bool r.s1) (.slice A4 r.l1.length d4)).mono (new_le hb3.size))
  have U2 := Lib.hid (((o4.below hp9).set6 (g := w.heap.size + 3) (fun (h : _ ≤ w.heap.size + 3) => by omega) (.bool r.n0) (.bool r.s0) (.slice A3 r.l0.length d3) (.bool r.n1) (.bool r.s1) (.slice A4 r.l1.length d4)).mono (new_le hb3.size))
  clear o3 o4 hb3 hb4 hp9 hc a0 a1 a2 a3 a4 a5 m0 m1 m2 m3 m4 m5 HR1 Hz1
  obtain ⟨m0, m1, m2, m3, m4, m5, _, _, _, _, _, _, _⟩ := hm9
  obtain ⟨g0, g1, g2, g3, g4, g5, f0, f1, f2, f3, f4, f5, _⟩ := hR2
  go_wp2
  refine bodyPost_ret (res_itv rfl _ (w.heap.size + 3) rfl HP.out.box) rfl ?_
  exact ⟨_, _, _, _, rfl, U1.out, U2.out, HP.out.bel⟩

set_option maxRecDepth 100000 in
set_option maxHeartbeats 4000000 in
theorem lscale1_w {w : World} {Z1 Z2 Z3 Z4 : Zone} {p q r : Iv} {P Q : IvP} {A B C D : Option Addr} {a b c d g : Nat} {i : Value} (hp : IvW P p) (hq : IvW Q q) (hr : IvW (ivM P Q) r) (gp : IvN 32 P.1 P.2) (gq : IvN 32 Q.1 Q.2)
    (hg : Box6 w g (.bool q.n0) (.bool q.s0) (.slice C q.l0.length c) (.bool q.n1) (.bool q.s1) (.slice D q.l1.length d)) (u1 : U64s w Z1 A a p.l0) (u2 : U64s w Z2 B b p.l1) (u3 : U64s w Z3 C c q.l0) (u4 : U64s w Z4 D d q.l1) :
    Calls Tryz.prog 88 #[i, .agg #[.bool p.n0, .bool p.s0, .slice A p.l0.length a, .bool p.n1, .bool p.s1, .slice B p.l1.length b], .pointer (some ⟨g, 0, none⟩)] w fun e w' => ∃ rA ra rB rb, e = .returned (.tuple #[.agg #[.bool r.n0, .bool r.s0, .slice rA r.l0.length ra, .bool r.n1, .bool r.s1, .slice rB r.l1.length rb], .int .i64 0]) ∧ U64s w' (new w.heap.size) rA ra r.l0 ∧ U64s w' (new w.heap.size) rB rb r.l1 ∧ Below w.heap.size w w' := by
  obtain ⟨bA, bR, hB0⟩ := boxT w (.bool p.n0) (.bool p.s0) (.slice A p.l0.length a) (.bool p.n1) (.bool p.s1) (.slice B p.l1.length b) (.bool false) (.bool false) (.slice none 0 0) (.bool false) (.bool false) (.slice none 0 0) 29
  have hG := (hg.alloc (.cells #[.bool p.n0, .bool p.s0, .slice A p.l0.length a, .bool p.n1, .bool p.s1, .slice B p.l1.length b] 29)).alloc (.cells #[.bool false, .bool false, .slice none 0 0, .bool false, .bool false, .slice none 0 0] 29)
  have MU := Lib.hid (imul_w hp hq hr gp gq (by omega) (by omega) (u1.below hB0) (u2.below hB0) (u3.below hB0) (u4.below hB0))
  have HR := Lib.hid bR
  have Hb1 := Lib.hid hB0
  obtain ⟨a0, a1, a2, a3, a4, a5, _, _, _, _, _, _, _⟩ := bA
  obtain ⟨q0, q1, q2, q3, q4, q5, _, _, _, _, _, _, _⟩ := hG
  clear hp hq hr gp gq u1 u2 u3 u4 bR hB0 hg
  generalize p.l0.length = pl0 at *
  generalize p.l1.length = pl1 at *
  generalize q.l0.length = ql0 at *
  generalize q.l1.length = ql1 at *
  go_enter Tryz.func88, Tryz.ntmps88
  go_wp2_with fail
  refine MU.out.mono ?_
  rintro e' w1 ⟨A1, d1, A2, d2, rfl, o1, o2, hc⟩
  have hz := HR.out.lt
  have hR1 := HR.out.below hc
  have HP := Lib.hid (hR1.put (from_ Hb1.out hc) (by omega) (.bool r.n0) (.bool r.s0) (.slice A1 r.l0.length d1) (.bool r.n1) (.bool r.s1) (.slice A2 r.l1.length d2))
  have U1 := Lib.hid ((o1.set6 (g := w.heap.size + 1) (fun (h : _ ≤ w.heap.size + 1) => by omega) (.bool r.n0) (.bool r.s0) (.slice A1 r.l0.length d1) (.bool r.n1) (.bool r.s1) (.slice A2 r.l1.length d2)).mono (new_le Hb1.out.size))
  have U2 := Lib.hid ((o2.set6 (g := w.heap.size + 1) (fun (h : _ ≤ w.heap.size + 1) => by omega) (.bool r.n0) (.bool r.s0) (.slice A1 r.l0.length d1) (.bool r.n1) (.bool r.s1) (.slice A2 r.l1.length d2)).mono (new_le Hb1.out.size))
  clear o1 o2 hc a0 a1 a2 a3 a4 a5 hz
  obtain ⟨g0, g1, g2, g3, g4, g5, f0, f1, f2, f3, f4, f5, _⟩ := hR1
  go_wp2
  refine bodyPost_ret (res_itv2 rfl _ (w.heap.size + 1) rfl HP.out.box) rfl ?_
  exact ⟨_, _, _, _, rfl, U1.out, U2.out, HP.out.bel⟩

set_option maxRecDepth 100000 in
set_option maxHeartbeats 4000000 in
theorem lneg1_w {w : World} {Z1 Z2 : Zone} {p r : Iv} {P : IvP} {A B : Option Addr} {a b : Nat} {i : Value} (hp : IvW P p) (hr : IvW (ivNg P) r) (gp : IvN 32 P.1 P.2)
    (u1 : U64s w Z1 A a p.l0) (u2 : U64s w Z2 B b p.l1) :
    Calls Tryz.prog 86 #[i, .agg #[.bool p.n0, .bool p.s0, .slice A p.l0.length a, .bool p.n1, .bool p.s1, .slice B p.l1.length b]] w fun e w' => ∃ rA ra rB rb, e = .returned (.tuple #[.agg #[.bool r.n0, .bool r.s0, .slice rA r.l0.length ra, .bool r.n1, .bool r.s1, .slice rB r.l1.length rb], .int .i64 0]) ∧ U64s w' (new w.heap.size) rA ra r.l0 ∧ U64s w' (new w.heap.size) rB rb r.l1 ∧ Below w.heap.size w w' := by
  obtain ⟨bA, bR, hB0⟩ := boxT w (.bool p.n0) (.bool p.s0) (.slice A p.l0.length a) (.bool p.n1) (.bool p.s1) (.slice B p.l1.length b) (.bool false) (.bool false) (.slice none 0 0) (.bool false) (.bool false) (.slice none 0 0) 29
  have MU := Lib.hid (ineg_w hp hr gp (by omega) (u1.below hB0) (u2.below hB0))
  have HR := Lib.hid bR
  have Hb1 := Lib.hid hB0
  obtain ⟨a0, a1, a2, a3, a4, a5, _, _, _, _, _, _, _⟩ := bA
  clear hp hr gp u1 u2 bR hB0
  generalize p.l0.length = pl0 at *
  generalize p.l1.length = pl1 at *
  go_enter Tryz.func86, Tryz.ntmps86
  go_wp2_with fail
  refine MU.out.mono ?_
  rintro e' w1 ⟨A1, d1, A2, d2, rfl, o1, o2, hc⟩
  have hz := HR.out.lt
  have hR1 := HR.out.below hc
  have HP := Lib.hid (hR1.put (from_ Hb1.out hc) (by omega) (.bool r.n0) (.bool r.s0) (.slice A1 r.l0.length d1) (.bool r.n1) (.bool r.s1) (.slice A2 r.l1.length d2))
  have U1 := Lib.hid ((o1.set6 (g := w.heap.size + 1) (fun (h : _ ≤ w.heap.size + 1) => by omega) (.bool r.n0) (.bool r.s0) (.slice A1 r.l0.length d1) (.bool r.n1) (.bool r.s1) (.slice A2 r.l1.length d2)).mono (new_le Hb1.out.size))
  have U2 := Lib.hid ((o2.set6 (g := w.heap.size + 1) (fun (h : _ ≤ w.heap.size + 1) => by omega) (.bool r.n0) (.bool r.s0) (.slice A1 r.l0.length d1) (.bool r.n1) (.bool r.s1) (.slice A2 r.l1.length d2)).mono (new_le Hb1.out.size))
  clear o1 o2 hc a0 a1 a2 a3 a4 a5 hz
  obtain ⟨g0, g1, g2, g3, g4, g5, f0, f1, f2, f3, f4, f5, _⟩ := hR1
  go_wp2
  refine bodyPost_ret (res_itv2 rfl _ (w.heap.size + 1) rfl HP.out.box) rfl ?_
  exact ⟨_, _, _, _, rfl, U1.out, U2.out, HP.out.bel⟩

set_option maxRecDepth 100000 in
set_option maxHeartbeats 4000000 in
theorem ladd1_w {w : World} {Z1 Z2 Z3 Z4 : Zone} {p q r : Iv} {P Q : IvP} {A B C D : Option Addr} {a b c d g h o L M : Nat} {j : Nat} (hp : IvW P p) (hq : IvW Q q) (hr : IvW (ivA P Q) r) (gp : IvN 32 P.1 P.2) (gq : IvN 32 Q.1 Q.2)
    (hg : w.cell? ⟨g, 0, none⟩ = some (.slice (some ⟨h, o, none⟩) L M)) (hj : j < L) (hL : L ≤ 64) (hc : w.cell? ⟨h, o + j * 6, none⟩ = some (.bool q.n0) ∧ w.cell? ⟨h, o + j * 6 + 1, none⟩ = some (.bool q.s0) ∧ w.cell? ⟨h, o + j * 6 + 2, none⟩ = some (.slice C q.l0.length c) ∧ w.cell? ⟨h, o + j * 6 + 3, none⟩ = some (.bool q.n1) ∧ w.cell? ⟨h, o + j * 6 + 4, none⟩ = some (.bool q.s1) ∧ w.cell? ⟨h, o + j * 6 + 5, none⟩ = some (.slice D q.l1.length d))
    (u1 : U64s w Z1 A a p.l0) (u2 : U64s w Z2 B b p.l1) (u3 : U64s w Z3 C c q.l0) (u4 : U64s w Z4 D d q.l1) :
    Calls Tryz.prog 82 #[.int .i64 (j : Int), .agg #[.bool p.n0, .bool p.s0, .slice A p.l0.length a, .bool p.n1, .bool p.s1, .slice B p.l1.length b], .pointer (some ⟨g, 0, none⟩)] w fun e w' => ∃ rA ra rB rb, e = .returned (.tuple #[.agg #[.bool r.n0, .bool r.s0, .slice rA r.l0.length ra, .bool r.n1, .bool r.s1, .slice rB r.l1.length rb], .int .i64 0]) ∧ U64s w' (new w.heap.size) rA ra r.l0 ∧ U64s w' (new w.heap.size) rB rb r.l1 ∧ Below w.heap.size w w' := by
  obtain ⟨bA, bR, hB0⟩ := boxT w (.bool p.n0) (.bool p.s0) (.slice A p.l0.length a) (.bool p.n1) (.bool p.s1) (.slice B p.l1.length b) (.bool false) (.bool false) (.slice none 0 0) (.bool false) (.bool false) (.slice none 0 0) 29
  have hB1 := hB0.drew
  have MU := Lib.hid (iadd_w hp hq hr gp gq (by omega) (u1.below hB1) (u2.below hB1) (u3.below hB1) (u4.below hB1))
  have HR := Lib.hid (bR.below (Below.refl _ _).drew)
  have Hb1 := Lib.hid hB1
  obtain ⟨a0, a1, a2, a3, a4, a5, _, _, _, _, _, _, _⟩ := bA
  have HG := keepC hB0 hg
  obtain ⟨c0, c1, c2, c3, c4, c5⟩ := hc
  have q0 := keepC hB0 c0
  have q1 := keepC hB0 c1
  have q2 := keepC hB0 c2
  have q3 := keepC hB0 c3
  have q4 := keepC hB0 c4
  have q5 := keepC hB0 c5
  clear hp hq hr gp gq u1 u2 u3 u4 bR hB0 hB1 hg c0 c1 c2 c3 c4 c5
  generalize p.l0.length = pl0 at *
  generalize p.l1.length = pl1 at *
  generalize q.l0.length = ql0 at *
  generalize q.l1.length = ql1 at *
  go_enter Tryz.func82, Tryz.ntmps82
  go_upto_region 1 with fail
  go_region_with (first
      | (go_at_call 11; refine MU.out.mono ?_; rintro e' w1 ⟨A1, d1, A2, d2, rfl, o1, o2, hc⟩; have hz := HR.out.lt; have hR1 := HR.out.below hc; have HP := Lib.hid (hR1.put (from_ Hb1.out hc) (by omega) (.bool r.n0) (.bool r.s0) (.slice A1 r.l0.length d1) (.bool r.n1) (.bool r.s1) (.slice A2 r.l1.length d2)); have U1 := Lib.hid ((o1.set6 (g := w.heap.size + 1) (fun (h : _ ≤ w.heap.size + 1) => by omega) (.bool r.n0) (.bool r.s0) (.slice A1 r.l0.length d1) (.bool r.n1) (.bool r.s1) (.slice A2 r.l1.length d2)).mono (new_le Hb1.out.size)); have U2 := Lib.hid ((o2.set6 (g := w.heap.size + 1) (fun (h : _ ≤ w.heap.size + 1) => by omega) (.bool r.n0) (.bool r.s0) (.slice A1 r.l0.length d1) (.bool r.n1) (.bool r.s1) (.slice A2 r.l1.length d2)).mono (new_le Hb1.out.size)); clear o1 o2 hc hz; obtain ⟨g0, g1, g2, g3, g4, g5, f0, f1, f2, f3, f4, f5, _⟩ := hR1)
      | fail)
  all_goals
    go_wp2
    refine bodyPost_ret (res_itv2 rfl _ (w.heap.size + 1) rfl HP.out.box) rfl ?_
    exact ⟨_, _, _, _, rfl, U1.out, U2.out, HP.out.bel⟩

end Go.Proofs.YtamenhffplhddaaGreat

namespace Go.Proofs.YtamenhffplhddaaGreat
open Go.RowKit
set_option linter.unusedVariables false
set_option linter.unusedSimpArgs false

/-- A form's words, of its ends' numbers. -/
structure FmW (N : Nat) (Ps : List IvP) (ps : List Iv) : Prop where
  len : ps.length = Ps.length
  iv : ∀ j (h : j < ps.length) (h' : j < Ps.length), IvW Ps[j] ps[j] ∧ IvN N Ps[j].1 Ps[j].2
def fmOf (Ps : List IvP) : List Iv := Ps.map fun P => ivOf P.1 P.2
theorem fmOf_len (Ps : List IvP) : (fmOf Ps).length = Ps.length := List.length_map _
theorem fmOf_get {Ps : List IvP} {j : Nat} (h : j < (fmOf Ps).length) (h' : j < Ps.length) : (fmOf Ps)[j] = ivOf Ps[j].1 Ps[j].2 := List.getElem_map _
theorem FmW.of {N : Nat} {Ps : List IvP} (h : ∀ j (h : j < Ps.length), IvN N Ps[j].1 Ps[j].2) : FmW N Ps (fmOf Ps) :=
  ⟨fmOf_len Ps, fun j h1 h2 => ⟨by rw [fmOf_get h1 h2]; exact IvW.mk _, h j h2⟩⟩
theorem FmW.n {N : Nat} {Ps : List IvP} {ps : List Iv} (h : FmW N Ps ps) (j : Nat) (hj : j < Ps.length) : IvN N Ps[j].1 Ps[j].2 := (h.iv j (by rw [h.len]; exact hj) hj).2
theorem FmW.up {N M : Nat} {Ps : List IvP} {ps : List Iv} (h : FmW N Ps ps) (hN : N ≤ M) : FmW M Ps ps := ⟨h.len, fun j h1 h2 => ⟨(h.iv j h1 h2).1, (h.iv j h1 h2).2.up hN⟩⟩
theorem FmW.short {N : Nat} {Ps : List IvP} {ps : List Iv} (h : FmW N Ps ps) (hN : N ≤ 64) : ∀ p ∈ ps, p.short := fun p hp => by
  obtain ⟨j, hj, rfl⟩ := List.getElem_of_mem hp
  obtain ⟨h1, h2⟩ := h.iv j hj (by rw [← h.len]; exact hj)
  have k := h1.k h2 hN
  exact ⟨by have := k.q0; omega, by have := k.q1; omega⟩
theorem FmW.all {N : Nat} {Ps : List IvP} {ps : List Iv} (h : FmW N Ps ps) (hN : N ≤ 64) : ps.all Iv.ok = true := by
  rw [List.all_eq_true]
  intro p hp
  obtain ⟨j, hj, rfl⟩ := List.getElem_of_mem hp
  obtain ⟨h1, h2⟩ := h.iv j hj (by rw [← h.len]; exact hj)
  exact h1.okP h2 hN
theorem FmW.err {N : Nat} {Ps : List IvP} {ps : List Iv} (h : FmW N Ps ps) (hN : N ≤ 64) (hl : 1 ≤ ps.length ∧ ps.length ≤ 64) : errF ps = 0 := by
  unfold errF
  rw [if_pos ⟨hl, h.all hN⟩]
def negL (Ps : List IvP) : List IvP := Ps.map ivNg
def scaL (Ps : List IvP) (Q : IvP) : List IvP := Ps.map fun P => ivM P Q
def addLL (Ps Qs : List IvP) : List IvP := List.zipWith ivA Ps Qs
theorem negL_get {Ps : List IvP} {j : Nat} (h : j < (negL Ps).length) (h' : j < Ps.length) : (negL Ps)[j] = ivNg Ps[j] := List.getElem_map _
theorem scaL_get {Ps : List IvP} {Q : IvP} {j : Nat} (h : j < (scaL Ps Q).length) (h' : j < Ps.length) : (scaL Ps Q)[j] = ivM Ps[j] Q := List.getElem_map _
theorem addLL_get {Ps Qs : List IvP} {j : Nat} (h : j < (addLL Ps Qs).length) (h' : j < Ps.length) (h2 : j < Qs.length) : (addLL Ps Qs)[j] = ivA Ps[j] Qs[j] := List.getElem_zipWith

set_option maxRecDepth 100000 in
set_option maxHeartbeats 1000000 in
theorem lneg_w {w : World} {Z : Zone} {A : Option Addr} {c : Nat} {ps : List Iv} {Ps : List IvP} (ha : IvsAt w Z A c ps) (hp : FmW 32 Ps ps) (hl : 1 ≤ ps.length ∧ ps.length ≤ 64) :
    Calls Tryz.prog 40 #[.slice A ps.length c] w fun e w' => ∃ Av cv, e = .returned (.tuple #[.slice Av (fmOf (negL Ps)).length cv, .int .i64 0]) ∧ IvsAt w' (new w.heap.size) Av cv (fmOf (negL Ps)) ∧ Below w.heap.size w w' := by
  have hq : (fmOf (negL Ps)).length = ps.length := by rw [fmOf_len, negL, List.length_map, hp.len]
  have hE := leach_neg ha (hp.short (by omega)) (hp.err (by omega) hl) hq (fun j hj hj' w1 B0 d0 B1 d1 hb v0 v1 => by
    obtain ⟨h1, h2⟩ := hp.iv j hj (by rw [← hp.len]; exact hj)
    exact lneg1_w h1 (by rw [fmOf_get hj' (by rw [← fmOf_len]; exact hj'), negL_get _ (by rw [← hp.len]; exact hj)]; exact IvW.mk _) h2 v0 v1)
  have HE := Lib.hid hE
  clear hE hq ha hp hl
  generalize ps.length = L at *
  generalize fmOf (negL Ps) = rs at *
  go_enter Tryz.func40, Tryz.ntmps40
  go_wp2_with fail
  refine HE.out.mono ?_
  rintro e w1 ⟨Av, cv, rfl, hv, hc⟩
  have HV := Lib.hid hv
  clear hv
  go_wp2
  go_ret2
  exact ⟨_, _, rfl, HV.out, hc⟩
theorem lneg_bad {w : World} {Z : Zone} {A : Option Addr} {c : Nat} {ps : List Iv} (ha : IvsAt w Z A c ps) (hs : ∀ p ∈ ps, p.short) (he : errF ps = 8) :
    Calls Tryz.prog 40 #[.slice A ps.length c] w fun e w' => e = .returned (.tuple #[.slice none 0 0, .int .i64 8]) ∧ Below w.heap.size w w' := by
  have HE := Lib.hid (fun v => leach_bad (v := v) ha hs he)
  clear ha hs he
  generalize ps.length = L at *
  go_enter Tryz.func40, Tryz.ntmps40
  go_wp2_with fail
  refine (HE.out _).mono ?_
  rintro e w1 ⟨rfl, hc⟩
  go_wp2
  go_ret2
  exact ⟨rfl, hc⟩

set_option maxRecDepth 100000 in
set_option maxHeartbeats 1000000 in
theorem lscale_w {w : World} {Z Z3 Z4 : Zone} {A C D : Option Addr} {c c' d' : Nat} {ps : List Iv} {Ps : List IvP} {q : Iv} {Q : IvP} (ha : IvsAt w Z A c ps) (hp : FmW 32 Ps ps) (hl : 1 ≤ ps.length ∧ ps.length ≤ 64) (hq : IvW Q q) (gq : IvN 32 Q.1 Q.2) (u3 : U64s w Z3 C c' q.l0) (u4 : U64s w Z4 D d' q.l1) :
    Calls Tryz.prog 41 #[.slice A ps.length c, .agg #[.bool q.n0, .bool q.s0, .slice C q.l0.length c', .bool q.n1, .bool q.s1, .slice D q.l1.length d']] w fun e w' => ∃ Av cv, e = .returned (.tuple #[.slice Av (fmOf (scaL Ps Q)).length cv, .int .i64 0]) ∧ IvsAt w' (new w.heap.size) Av cv (fmOf (scaL Ps Q)) ∧ Below w.heap.size w w' := by
  have hl2 : (fmOf (scaL Ps Q)).length = ps.length := by rw [fmOf_len, scaL, List.length_map, hp.len]
  have kq := hq.k gq (by omega)
  have hB0 : Below w.heap.size w (w.alloc (.cells #[.bool q.n0, .bool q.s0, .slice C q.l0.length c', .bool q.n1, .bool q.s1, .slice D q.l1.length d'] 29)) := (Below.refl _ w).alloc (Nat.le_refl _) _
  have hG := Box6.new w (.bool q.n0) (.bool q.s0) (.slice C q.l0.length c') (.bool q.n1) (.bool q.s1) (.slice D q.l1.length d') 29
  have hodd := lodd_any (w := w.alloc (.cells #[.bool q.n0, .bool q.s0, .slice C q.l0.length c', .bool q.n1, .bool q.s1, .slice D q.l1.length d'] 29)) (p := q) (u3.below hB0) (u4.below hB0) ⟨by have := kq.q0; omega, by have := kq.q1; omega⟩
  rw [show (!q.ok) = false by rw [hq.okP gq (by omega)]; rfl] at hodd
  have HO := Lib.hid hodd
  have HE := Lib.hid (fun (W : World) (hb0 : Below w.heap.size w W) (hb : Box6 W w.heap.size (.bool q.n0) (.bool q.s0) (.slice C q.l0.length c') (.bool q.n1) (.bool q.s1) (.slice D q.l1.length d')) => leach_scale (w := W) (p0 := ⟨w.heap.size, 0, none⟩) (ha.below hb0) (hp.short (by omega)) (hp.err (by omega) hl) hl2 (fun j hj hj' w1 B0 d0 B1 d1 hb1 v0 v1 => by
    obtain ⟨h1, h2⟩ := hp.iv j hj (by rw [← hp.len]; exact hj)
    exact lscale1_w h1 hq (by rw [fmOf_get hj' (by rw [← fmOf_len]; exact hj'), scaL_get _ (by rw [← hp.len]; exact hj)]; exact IvW.mk _) h2 gq (hb.below hb1) v0 v1 ((u3.below hb0).below hb1) ((u4.below hb0).below hb1)))
  have Hb0 := Lib.hid hB0
  have HG := Lib.hid hG
  obtain ⟨q0, q1, q2, q3, q4, q5, _, _, _, _, _, _, _⟩ := hG
  clear hodd hl2 ha hp hl hq gq kq hB0 u3 u4
  generalize ps.length = L at *
  generalize fmOf (scaL Ps Q) = rs at *
  go_enter Tryz.func41, Tryz.ntmps41
  go_wp2_with fail
  refine HO.out.mono ?_
  rintro e w1 ⟨rfl, hc⟩
  have H1 := Lib.hid (from_ Hb0.out hc)
  have G1 := Lib.hid (HG.out.below hc)
  clear q0 q1 q2 q3 q4 q5 hc
  go_wp2_with fail
  refine (HE.out _ H1.out G1.out).mono ?_
  rintro e w2 ⟨Av, cv, rfl, hv, hc⟩
  have HV := Lib.hid (hv.mono (Y := new w.heap.size) (new_le H1.out.size))
  have HB := Lib.hid (from_ H1.out hc)
  clear hv hc
  go_wp2
  go_ret2
  exact ⟨_, _, rfl, HV.out, HB.out⟩

set_option maxRecDepth 100000 in
set_option maxHeartbeats 1000000 in
theorem ladd_w {w : World} {Z Y : Zone} {A B : Option Addr} {c d : Nat} {ps qs : List Iv} {Ps Qs : List IvP} (ha : IvsAt w Z A c ps) (hb : IvsAt w Y B d qs) (hp : FmW 32 Ps ps) (hq : FmW 32 Qs qs) (hl : 1 ≤ ps.length ∧ ps.length ≤ 64) (hpq : qs.length = ps.length) :
    Calls Tryz.prog 36 #[.slice A ps.length c, .slice B qs.length d] w fun e w' => ∃ Av cv, e = .returned (.tuple #[.slice Av (fmOf (addLL Ps Qs)).length cv, .int .i64 0]) ∧ IvsAt w' (new w.heap.size) Av cv (fmOf (addLL Ps Qs)) ∧ Below w.heap.size w w' := by
  have hl2 : (fmOf (addLL Ps Qs)).length = ps.length := by rw [fmOf_len, addLL, List.length_zipWith, ← hp.len, ← hq.len]; omega
  have hB0 : Below w.heap.size w (w.alloc (.cells #[.slice B qs.length d] 54)) := (Below.refl _ w).alloc (Nat.le_refl _) _
  have hG : (w.alloc (.cells #[.slice B qs.length d] 54)).cell? ⟨w.heap.size, 0, none⟩ = some (.slice B qs.length d) := cell_newest rfl rfl
  have k1 := lcheck_any (ha.below hB0) (hp.short (by omega))
  rw [hp.err (by omega) hl] at k1
  have k2 : Hid (∀ W, Below w.heap.size w W → Calls Tryz.prog 80 #[.slice B qs.length d] W fun e w' => e = .returned (.int .i64 0) ∧ Below W.heap.size W w') := fun W h => by
    have := lcheck_any (hb.below h) (hq.short (by omega))
    rwa [hq.err (by omega) (by omega)] at this
  have HE := Lib.hid (fun (W : World) (hb0 : Below w.heap.size w W) (hg : W.cell? ⟨w.heap.size, 0, none⟩ = some (.slice B qs.length d)) => leach_add (w := W) (p0 := ⟨w.heap.size, 0, none⟩) (ha.below hb0) (hp.short (by omega)) (hp.err (by omega) hl) hl2 (fun j hj hj' w1 B0 d0 B1 d1 hb1 v0 v1 => by
    obtain ⟨h1, h2⟩ := hp.iv j hj (by rw [← hp.len]; exact hj)
    obtain ⟨h3, h4⟩ := hq.iv j (by omega) (by rw [← hq.len]; omega)
    obtain ⟨b, o, E0, e0, E1, e1, rfl, hbb, ⟨c0, c1, c2, c3, c4, c5⟩, x0, x1⟩ := hb.at (j := j) (by omega)
    exact ladd1_w h1 h3 (by rw [fmOf_get hj' (by rw [← fmOf_len]; exact hj'), addLL_get _ (by rw [← hp.len]; exact hj) (by rw [← hq.len]; omega)]; exact IvW.mk _) h2 h4 (keepC hb1 hg) (by omega) (by omega) ⟨keepC hb1 (keepC hb0 c0), keepC hb1 (keepC hb0 c1), keepC hb1 (keepC hb0 c2), keepC hb1 (keepC hb0 c3), keepC hb1 (keepC hb0 c4), keepC hb1 (keepC hb0 c5)⟩ v0 v1 ((x0.below hb0).below hb1) ((x1.below hb0).below hb1)))
  have Hb0 := Lib.hid hB0
  have HK := Lib.hid k1
  clear k1 hl2 ha hb hp hq hl hB0
  rw [hpq] at HE k2 hG Hb0 HK ⊢
  clear hpq
  have t1 : ((ps.length : Int) != (ps.length : Int)) = false := bne_self_eq_false _
  generalize ps.length = L at *
  generalize fmOf (addLL Ps Qs) = rs at *
  have HG := Lib.hid hG
  go_enter Tryz.func36, Tryz.ntmps36
  go_wp2_with fail
  refine HK.out.mono ?_
  rintro e w1 ⟨rfl, hc⟩
  have H1 := Lib.hid (from_ Hb0.out hc)
  have g1 := keepC hc hG
  clear hG hc
  go_wp2_with fail
  refine (k2.out _ H1.out).mono ?_
  rintro e w2 ⟨rfl, hc⟩
  have H2 := Lib.hid (from_ H1.out hc)
  have g2 := keepC hc g1
  have G2 := Lib.hid g2
  clear g1 hc
  go_wp2_with fail
  refine (HE.out _ H2.out G2.out).mono ?_
  rintro e w3 ⟨Av, cv, rfl, hv, hc⟩
  have HV := Lib.hid (hv.mono (Y := new w.heap.size) (new_le H2.out.size))
  have HB := Lib.hid (from_ H2.out hc)
  clear hv hc
  go_wp2
  go_ret2
  exact ⟨_, _, rfl, HV.out, HB.out⟩

/-- The error of Add. -/
def errAdd (ps qs : List Iv) : Int := if errF ps = 0 ∧ errF qs = 0 then (if qs.length = ps.length then 0 else 70) else 8

set_option maxRecDepth 100000 in
set_option maxHeartbeats 1000000 in
theorem ladd_bad {w : World} {Z Y : Zone} {A B : Option Addr} {c d : Nat} {ps qs : List Iv} {g : Int} (ha : IvsAt w Z A c ps) (hb : IvsAt w Y B d qs) (hs : ∀ p ∈ ps, p.short) (hs2 : ∀ p ∈ qs, p.short) (hg : errAdd ps qs = g) (h0 : g ≠ 0) :
    Calls Tryz.prog 36 #[.slice A ps.length c, .slice B qs.length d] w fun e w' => e = .returned (.tuple #[.slice none 0 0, .int .i64 g]) ∧ Below w.heap.size w w' := by
  have hB0 : Below w.heap.size w (w.alloc (.cells #[.slice B qs.length d] 54)) := (Below.refl _ w).alloc (Nat.le_refl _) _
  have hG : (w.alloc (.cells #[.slice B qs.length d] 54)).cell? ⟨w.heap.size, 0, none⟩ = some (.slice B qs.length d) := cell_newest rfl rfl
  have k1 := lcheck_any (ha.below hB0) hs
  have k2 : Hid (∀ W, Below w.heap.size w W → Calls Tryz.prog 80 #[.slice B qs.length d] W fun e w' => e = .returned (.int .i64 (errF qs)) ∧ Below W.heap.size W w') := fun W h => lcheck_any (hb.below h) hs2
  have hla := ha.len
  have hlb := hb.len
  have Hb0 := Lib.hid hB0
  clear ha hb hs hs2 hB0
  unfold errAdd at hg
  rcases errF_vals ps with h1 | h1
  · rcases errF_vals qs with h2 | h2
    · rw [if_pos ⟨h1, h2⟩] at hg
      have h3 : qs.length ≠ ps.length := fun h => h0 (by rw [if_pos h] at hg; exact hg.symm)
      rw [if_neg h3] at hg
      subst hg
      have t1 : ((ps.length : Int) != (qs.length : Int)) = true := bne_iff_ne.2 (by omega)
      rw [h1] at k1
      rw [h2] at k2
      have HK := Lib.hid k1
      clear k1 h0 h1 h2 h3
      generalize ps.length = L at *
      generalize qs.length = M at *
      go_enter Tryz.func36, Tryz.ntmps36
      go_wp2_with fail
      refine HK.out.mono ?_
      rintro e w1 ⟨rfl, hc⟩
      have H1 := Lib.hid (from_ Hb0.out hc)
      have g1 := keepC hc hG
      clear hG hc
      go_wp2_with fail
      refine (k2.out _ H1.out).mono ?_
      rintro e w2 ⟨rfl, hc⟩
      have H2 := Lib.hid (from_ H1.out hc)
      have g2 := keepC hc g1
      clear g1 hc
      go_wp2
      go_ret2
      exact ⟨rfl, H2.out⟩
    · rw [if_neg (fun h => by rw [h2] at h; cases h.2)] at hg
      subst hg
      rw [h1] at k1
      rw [h2] at k2
      have HK := Lib.hid k1
      clear k1 h0 h1 h2
      generalize ps.length = L at *
      generalize qs.length = M at *
      go_enter Tryz.func36, Tryz.ntmps36
      go_wp2_with fail
      refine HK.out.mono ?_
      rintro e w1 ⟨rfl, hc⟩
      have H1 := Lib.hid (from_ Hb0.out hc)
      have g1 := keepC hc hG
      clear hG hc
      go_wp2_with fail
      refine (k2.out _ H1.out).mono ?_
      rintro e w2 ⟨rfl, hc⟩
      have H2 := Lib.hid (from_ H1.out hc)
      clear hc
      go_wp2
      go_ret2
      exact ⟨rfl, H2.out⟩
  · rw [if_neg (fun h => by rw [h1] at h; cases h.1)] at hg
    subst hg
    rw [h1] at k1
    have HK := Lib.hid k1
    clear k1 h0 h1 k2
    generalize ps.length = L at *
    generalize qs.length = M at *
    go_enter Tryz.func36, Tryz.ntmps36
    go_wp2_with fail
    refine HK.out.mono ?_
    rintro e w1 ⟨rfl, hc⟩
    have H1 := Lib.hid (from_ Hb0.out hc)
    clear hc
    go_wp2
    go_ret2
    exact ⟨rfl, H1.out⟩

end Go.Proofs.YtamenhffplhddaaGreat

namespace Go.Proofs.YtamenhffplhddaaGreat
open Go.RowKit
set_option linter.unusedVariables false
set_option linter.unusedSimpArgs false

/-- The number in the midst of an interval. -/
def midI (P : IvP) : Int := if P.1 = -bigZ ∨ P.2 = bigZ then 0 else rq (P.1 + P.2) 2 true

set_option maxRecDepth 100000 in
set_option maxHeartbeats 4000000 in
theorem lless_w {w : World} {Z1 Z2 Z3 Z4 : Zone} {p q r : Iv} {P Q : IvP} {A B C D : Option Addr} {a b c d : Nat} (hp : IvW P p) (hq : IvW Q q) (hr : IvW (ivA P (ivNg Q)) r) (gp : IvN 32 P.1 P.2) (gq : IvN 32 Q.1 Q.2)
    (u1 : U64s w Z1 A a p.l0) (u2 : U64s w Z2 B b p.l1) (u3 : U64s w Z3 C c q.l0) (u4 : U64s w Z4 D d q.l1) :
    Calls Tryz.prog 89 #[.agg #[.bool p.n0, .bool p.s0, .slice A p.l0.length a, .bool p.n1, .bool p.s1, .slice B p.l1.length b], .agg #[.bool q.n0, .bool q.s0, .slice C q.l0.length c, .bool q.n1, .bool q.s1, .slice D q.l1.length d]] w fun e w' => ∃ rA ra rB rb, e = .returned (.tuple #[.agg #[.bool r.n0, .bool r.s0, .slice rA r.l0.length ra, .bool r.n1, .bool r.s1, .slice rB r.l1.length rb], .int .i64 0]) ∧ U64s w' (new w.heap.size) rA ra r.l0 ∧ U64s w' (new w.heap.size) rB rb r.l1 ∧ Below w.heap.size w w' := by
  obtain ⟨bA, bB, bR, hB0⟩ := boxX w (.bool p.n0) (.bool p.s0) (.slice A p.l0.length a) (.bool p.n1) (.bool p.s1) (.slice B p.l1.length b) (.bool q.n0) (.bool q.s0) (.slice C q.l0.length c) (.bool q.n1) (.bool q.s1) (.slice D q.l1.length d) (.bool false) (.bool false) (.slice none 0 0) (.bool false) (.bool false) (.slice none 0 0) 29
  obtain ⟨m, hm⟩ : ∃ m, IvW (ivNg Q) m := ⟨_, IvW.mk _⟩
  have gm := ivNg_ok gq
  have NG := Lib.hid (ineg_w hq hm gq (by omega) (u3.below hB0) (u4.below hB0))
  have AD := Lib.hid (fun (V : World) (h : Below w.heap.size w V) (Y1 Y2 : Zone) (G H : Option Addr) (g h' : Nat) (v1 : U64s V Y1 G g m.l0) (v2 : U64s V Y2 H h' m.l1) => iadd_w (w := V) hp hm hr gp gm (by omega) (u1.below h) (u2.below h) v1 v2)
  have HA := Lib.hid bA
  have HR := Lib.hid bR
  have Hb1 := Lib.hid hB0
  obtain ⟨b0, b1, b2, b3, b4, b5, _, _, _, _, _, _, _⟩ := bB
  clear hp hq hr hm gp gq gm u1 u2 u3 u4 bA bR hB0
  generalize p.l0.length = pl0 at *
  generalize p.l1.length = pl1 at *
  generalize q.l0.length = ql0 at *
  generalize q.l1.length = ql1 at *
  go_enter Tryz.func89, Tryz.ntmps89
  go_wp2_with fail
  refine NG.out.mono ?_
  rintro e' w1 ⟨A1, d1, A2, d2, rfl, o1, o2, hc⟩
  have hb2 := from_ Hb1.out hc
  have hm7 := Box6.new w1 (.bool m.n0) (.bool m.s0) (.slice A1 m.l0.length d1) (.bool m.n1) (.bool m.s1) (.slice A2 m.l1.length d2) 29
  have hp7 : Below w1.heap.size w1 (w1.alloc (.cells #[.bool m.n0, .bool m.s0, .slice A1 m.l0.length d1, .bool m.n1, .bool m.s1, .slice A2 m.l1.length d2] 29)) := (Below.refl _ w1).alloc (Nat.le_refl _) _
  have hA1 := ((HA.out.below hc).below hp7)
  have HR1 := Lib.hid ((HR.out.below hc).below hp7)
  have HX := Lib.hid (AD.out _ (from_ hb2 hp7) _ _ _ _ _ _ (o1.below hp7) (o2.below hp7))
  have hb3 := from_ hb2 hp7
  have Hz1 := HR1.out.lt
  clear o1 o2 hb2 hp7 hc b0 b1 b2 b3 b4 b5 Hb1 HA HR
  obtain ⟨a0, a1, a2, a3, a4, a5, _, _, _, _, _, _, _⟩ := hA1
  obtain ⟨m0, m1, m2, m3, m4, m5, _, _, _, _, _, _, _⟩ := hm7
  go_wp2_with fail
  refine HX.out.mono ?_
  rintro e' w2 ⟨A3, d3, A4, d4, rfl, o3, o4, hc⟩
  have hR2 := HR1.out.below hc
  have HP := Lib.hid (hR2.put (w := w) (from_ hb3 hc) (by omega) (.bool r.n0) (.bool r.s0) (.slice A3 r.l0.length d3) (.bool r.n1) (.bool r.s1) (.slice A4 r.l1.length d4))
  have U1 := Lib.hid ((o3.set6 (g := w.heap.size + 2) (fun (h : _ ≤ w.heap.size + 2) => by omega) (.bool r.n0) (.bool r.s0) (.slice A3 r.l0.length d3) (.bool r.n1) (.bool r.s1) (.slice A4 r.l1.length d4)).mono (new_le hb3.size))
  have U2 := Lib.hid ((o4.set6 (g := w.heap.size + 2) (fun (h : _ ≤ w.heap.size + 2) => by omega) (.bool r.n0) (.bool r.s0) (.slice A3 r.l0.length d3) (.bool r.n1) (.bool r.s1) (.slice A4 r.l1.length d4)).mono (new_le hb3.size))
  clear o3 o4 hb3 hc a0 a1 a2 a3 a4 a5 m0 m1 m2 m3 m4 m5 HR1 Hz1
  obtain ⟨g0, g1, g2, g3, g4, g5, f0, f1, f2, f3, f4, f5, _⟩ := hR2
  go_wp2
  refine bodyPost_ret (res_itv2 rfl _ (w.heap.size + 2) rfl HP.out.box) rfl ?_
  exact ⟨_, _, _, _, rfl, U1.out, U2.out, HP.out.bel⟩

theorem boxV2 (w : World) (a0 a1 a2 a3 a4 a5 r0 r1 : Value) (t t' : TypeId) :
    Box6 ((w.alloc (.cells #[a0, a1, a2, a3, a4, a5] t)).alloc (.cells #[r0, r1] t')) w.heap.size a0 a1 a2 a3 a4 a5 ∧
    Box ((w.alloc (.cells #[a0, a1, a2, a3, a4, a5] t)).alloc (.cells #[r0, r1] t')) (w.heap.size + 1) r0 r1 ∧
    Below w.heap.size w ((w.alloc (.cells #[a0, a1, a2, a3, a4, a5] t)).alloc (.cells #[r0, r1] t')) := by
  have h1 := (Box6.new w a0 a1 a2 a3 a4 a5 t).alloc (.cells #[r0, r1] t')
  have h2 := Box.new (w.alloc (.cells #[a0, a1, a2, a3, a4, a5] t)) r0 r1 t'
  rw [show (w.alloc (.cells #[a0, a1, a2, a3, a4, a5] t)).heap.size = w.heap.size + 1 by simp] at h2
  exact ⟨h1, h2, ((Below.refl _ w).alloc (Nat.le_refl _) _).alloc (by simp) _⟩

set_option maxRecDepth 100000 in
set_option maxHeartbeats 4000000 in
theorem lmiddle_none {w : World} {n0 s0 n1 s1 : Bool} {L0 L1 : Nat} {A B : Option Addr} {a b : Nat} (h : n0 = true ∨ (n0 = false ∧ n1 = true)) :
    Calls Tryz.prog 90 #[.agg #[.bool n0, .bool s0, .slice A L0 a, .bool n1, .bool s1, .slice B L1 b]] w fun e w' => e = .returned (.agg #[.bool false, .slice none 0 0]) ∧ Below w.heap.size w w' := by
  obtain ⟨bA, bR, hB0⟩ := boxV2 w (.bool n0) (.bool s0) (.slice A L0 a) (.bool n1) (.bool s1) (.slice B L1 b) (.bool false) (.slice none 0 0) 29 25
  obtain ⟨a0, a1, a2, a3, a4, a5, _, _, _, _, _, _, _⟩ := bA
  rcases h with rfl | ⟨rfl, rfl⟩
  all_goals
    go_enter Tryz.func90, Tryz.ntmps90
    go_wp2
    refine bodyPost_ret (res_int rfl _ (w.heap.size + 1) rfl bR.c0 bR.c1) rfl ?_
    exact ⟨rfl, hB0⟩

theorem cellTwo {w : World} {g b j : Nat} {v x y : Value} (h : w.cell? ⟨b, j, none⟩ = some v) (hn : b ≠ g) : ((w.setCell ⟨g, 0, none⟩ x).setCell ⟨g, 1, none⟩ y).cell? ⟨b, j, none⟩ = some v := by
  rw [World.cell?_setCell_other _ _ _ _ (fun e => hn (by injection e with e _ _; exact e.symm)), World.cell?_setCell_other _ _ _ _ (fun e => hn (by injection e with e _ _; exact e.symm))]
  exact h
theorem U64s.set2 {W : World} {Z : Zone} {A : Option Addr} {c : Nat} {l : List Nat} (h : U64s W Z A c l) {g : Nat} (hz : ¬ Z.blk g) (x y : Value) : U64s ((W.setCell ⟨g, 0, none⟩ x).setCell ⟨g, 1, none⟩ y) Z A c l := (h.set1 g 0 hz x).set1 g 1 hz y
theorem nm_bound {x : Int} {s : Bool} {l : List Nat} {N : Nat} (h : Nm x s l) (hl : l.length ≤ N) : -wN N < x ∧ x < wN N := by
  obtain ⟨rfl, rfl⟩ := h
  have h1 := val_lt (small_limbs x.natAbs)
  rw [val_limbs] at h1
  have h2 : x.natAbs < 18446744073709551616 ^ N := Nat.lt_of_lt_of_le h1 (Nat.pow_le_pow_right (by decide) hl)
  have h3 : (x.natAbs : Int) < wN N := by rw [wN_cast]; exact Int.ofNat_lt.2 h2
  omega
theorem nm_lenN {x : Int} {s : Bool} {l : List Nat} {N : Nat} (h : Nm x s l) (h3 : -wN N < x ∧ x < wN N) : l.length ≤ N := by
  obtain ⟨rfl, rfl⟩ := h
  refine len_limbs_le ?_
  rw [wN_cast] at h3
  have h4 : (x.natAbs : Int) < ((18446744073709551616 ^ N : Nat) : Int) := by omega
  exact Int.ofNat_lt.1 h4
theorem nm_len_add {x y : Int} {s t r : Bool} {l k m : List Nat} (h1 : Nm x s l) (h2 : Nm y t k) (h3 : Nm (x + y) r m) (q1 : l.length ≤ 64) (q2 : k.length ≤ 64) : m.length ≤ 10000000000 := by
  have e1 := nm_bound h1 q1
  have e2 := nm_bound h2 q2
  have e3 : wN 64 + wN 64 ≤ wN 65 := wN_two 64
  have := nm_lenN h3 (N := 65) (by omega)
  omega
theorem wfloor_m {w : World} {Z1 Z2 : Zone} {x y : Int} {s t r : Bool} {l k m : List Nat} {A B : Option Addr} {c d : Nat} (h1 : Nm x s l) (h2 : Nm y t k) (hy : y ≠ 0) (h3 : Nm (rq x y true) r m) (hl : l.length ≤ 10000000000) (u1 : U64s w Z1 A c l) (u2 : U64s w Z2 B d k) :
    Calls Tryz.prog 20 #[.agg #[.bool s, .slice A l.length c], .agg #[.bool t, .slice B k.length d]] w fun e w' => ∃ Av cv, e = .returned (.tuple #[.agg #[.bool r, .slice Av m.length cv], .int .i64 0]) ∧ U64s w' (new w.heap.size) Av cv m ∧ Below w.heap.size w w' := by
  refine (wfloor_z (h1.isZ u1) (h2.isZ u2) hy (by rw [← h1.len]; exact hl)).mono ?_
  rintro e w' ⟨v, rfl, hv, hb⟩
  obtain ⟨Av, cv, rfl, hu⟩ := h3.of hv
  exact ⟨Av, cv, rfl, hu, hb⟩

theorem two_nm : Nm 2 false [2] := ⟨by decide, by decide⟩

set_option maxRecDepth 100000 in
set_option maxHeartbeats 4000000 in
theorem lmiddle_num {w : World} {Z1 Z2 : Zone} {x y z : Int} {s0 s1 r : Bool} {l0 l1 ml : List Nat} {A B : Option Addr} {a b : Nat} (h1 : Nm x s0 l0) (h2 : Nm y s1 l1) (hm : Nm z r ml) (hz : rq (x + y) 2 true = z) (q1 : l0.length ≤ 64) (q2 : l1.length ≤ 64) (u1 : U64s w Z1 A a l0) (u2 : U64s w Z2 B b l1) :
    Calls Tryz.prog 90 #[.agg #[.bool false, .bool s0, .slice A l0.length a, .bool false, .bool s1, .slice B l1.length b]] w fun e w' => ∃ A' c', e = .returned (.agg #[.bool r, .slice A' ml.length c']) ∧ U64s w' (new w.heap.size) A' c' ml ∧ Below w.heap.size w w' := by
  obtain ⟨bA, bR, hB0⟩ := boxV2 w (.bool false) (.bool s0) (.slice A l0.length a) (.bool false) (.bool s1) (.slice B l1.length b) (.bool false) (.slice none 0 0) 29 25
  obtain ⟨r1, m1, n1⟩ : ∃ r1 m1, Nm (x + y) r1 m1 := ⟨_, _, rfl, rfl⟩
  have AD := Lib.hid (wadd_n h1 h2 n1 rfl (by omega) (by omega) (u1.below hB0) (u2.below hB0))
  have hl1 : m1.length ≤ 10000000000 := nm_len_add h1 h2 n1 q1 q2
  have OF := Lib.hid (fun (W : World) => wof_p (w := W) two_nm (by omega))
  have FL := Lib.hid (fun (W : World) (Y1 Y2 : Zone) (G H : Option Addr) (g h : Nat) (v1 : U64s W Y1 G g m1) (v2 : U64s W Y2 H h [2]) => wfloor_m (w := W) n1 two_nm (by omega) (by rw [hz]; exact hm) hl1 v1 v2)
  simp only [List.length_cons, List.length_nil, Nat.zero_add] at OF FL
  have HR := Lib.hid bR
  have Hb1 := Lib.hid hB0
  obtain ⟨a0, a1, a2, a3, a4, a5, _, _, _, _, _, _, _⟩ := bA
  clear h1 h2 hm hz q1 q2 u1 u2 n1 hl1 bR hB0
  generalize l0.length = L0 at *
  generalize l1.length = L1 at *
  go_enter Tryz.func90, Tryz.ntmps90
  go_wp2_with fail
  refine AD.out.mono ?_
  rintro e' w1 ⟨A1, c1, rfl, o1, hc⟩
  have hal : Below w1.heap.size w1 (w1.alloc (.cells #[.bool r1, .slice A1 m1.length c1] 25)) := (Below.refl _ w1).alloc (Nat.le_refl _) _
  have B3 := Box.new w1 (.bool r1) (.slice A1 m1.length c1) 25
  have HR1 := Lib.hid ((HR.out.below hc).below hal)
  have Hb2 := Lib.hid (from_ (from_ Hb1.out hc) hal)
  have U0 := Lib.hid (o1.below hal)
  clear a0 a1 a2 a3 a4 a5 Hb1 HR hc o1
  obtain ⟨g3, hg3⟩ : ∃ g3, g3 = w1.heap.size := ⟨_, rfl⟩
  rw [← hg3] at B3
  generalize hV : w1.alloc (.cells #[.bool r1, .slice A1 m1.length c1] 25) = V at *
  clear hal
  go_upto_region 4 with fail
  try simp only [hV]
  try simp only [← hg3]
  clear hV hg3
  have hdr0 : Below V.heap.size V V.drew := (Below.refl _ _).drew
  have hdr : Below V.heap.size V (V.alloc (.cells #[.bool false, .slice none 0 0] 25)).drew := ((Below.refl _ _).alloc (Nat.le_refl _) _).drew
  have bN := (Box.new V (.bool false) (.slice none 0 0) 25).below (W' := (V.alloc (.cells #[.bool false, .slice none 0 0] 25)).drew) ((Below.refl _ _).drew)
  have s0' := And.intro (keepC hdr0 B3.c0) (keepC hdr0 B3.c1)
  have sa := And.intro (keepC hdr B3.c0) (keepC hdr B3.c1)
  have hlt3 := B3.lt
  have n3 : V.heap.size ≠ g3 := by omega
  clear B3
  first | go_region_held3 (fun w' => w'.cell? ⟨g3, 0, none⟩ = some (.bool r1) ∧ w'.cell? ⟨g3, 1, none⟩ = some (.slice A1 m1.length c1))
    (first
      | (go_keep; done)
      | with_reducible exact s0'
      | with_reducible exact sa
      | with_reducible exact t6
      | exact ⟨keepC ((Below.refl _ _).alloc (Nat.le_refl _) _) t6.1, keepC ((Below.refl _ _).alloc (Nat.le_refl _) _) t6.2⟩
      | exact ⟨cellTwo t6.1 N4.out.symm, cellTwo t6.2 N4.out.symm⟩)
    (first
      | (go_at_call 19; with_reducible refine (OF.out V.drew).mono ?_; rintro e w3 ⟨A3, c3, rfl, u3, hc3⟩; have t6 := And.intro (keepC hc3 s0'.1) (keepC hc3 s0'.2); have HbV := Lib.hid (from_ hdr0 hc3); have hle3 := HbV.out.size; have U3 := Lib.hid ((U0.out.below hdr0).below hc3))
      | (go_at_call 19; with_reducible refine (OF.out (V.alloc (.cells #[.bool false, .slice none 0 0] 25)).drew).mono ?_; rintro e w3 ⟨A3, c3, rfl, u3, hc3⟩; have t6 := And.intro (keepC hc3 sa.1) (keepC hc3 sa.2); have HbV := Lib.hid (from_ hdr hc3); have hle3 := HbV.out.size; have U3 := Lib.hid ((U0.out.below hdr).below hc3); obtain ⟨gX, hgX⟩ : ∃ gX, gX = V.heap.size := ⟨_, rfl⟩; have b5 := Lib.hid (bN.below hc3); rw [← hgX] at b5; have N4 := Lib.hid (show gX ≠ g3 by omega); have N5 := Lib.hid (show V.heap.size ≤ gX by omega); have N6 := Lib.hid (show gX < w3.heap.size from b5.out.lt); simp only [← hgX]; clear hgX)
      | (go_at_call 20; with_reducible refine (FL.out w3 _ _ _ _ _ _ U3.out u3).mono ?_; rintro e w4 ⟨A4, c4, rfl, u4, hc4⟩; replace t6 := And.intro (keepC hc4 t6.1) (keepC hc4 t6.2); replace HbV := Lib.hid (from_ HbV.out hc4); (try replace b5 := Lib.hid (b5.out.below hc4)); (try obtain ⟨x0, x1, x2, x3, x4⟩ := id b5.out))
      | (go_at_call 20; have hax := (Below.refl w3.heap.size w3).alloc (Nat.le_refl _) (.cells #[.bool false, .slice none 0 0] 25); with_reducible refine (FL.out (w3.alloc (.cells #[.bool false, .slice none 0 0] 25)) _ _ _ _ _ _ (U3.out.below hax) (u3.below hax)).mono ?_; rintro e w4 ⟨A4, c4, rfl, u4, hc4⟩; replace t6 := And.intro (keepC hc4 (keepC hax t6.1)) (keepC hc4 (keepC hax t6.2)); have hle4 := hax.size; replace HbV := Lib.hid (from_ (from_ HbV.out hax) hc4); obtain ⟨gX, hgX⟩ : ∃ gX, gX = w3.heap.size := ⟨_, rfl⟩; have b5 := Lib.hid ((Box.new w3 (.bool false) (.slice none 0 0) 25).below hc4); rw [← hgX] at b5; have N4 := Lib.hid (show gX ≠ g3 by omega); have N5 := Lib.hid (show V.heap.size ≤ gX by omega); have N6 := Lib.hid (show gX < (w3.alloc (.cells #[.bool false, .slice none 0 0] 25)).heap.size by simp; omega); simp only [← hgX]; clear hgX; obtain ⟨x0, x1, x2, x3, x4⟩ := id b5.out)) | fail
  all_goals
    clear s0' sa hdr0 hdr bN hlt3 n3 OF FL AD U0
    first
    | (have hP5 := b5.out.put (w := V) HbV.out N5.out (.bool r) (.slice A4 ml.length c4)
       have UA := Lib.hid (u4.set2 (g := gX) (fun (h : _ ≤ gX) => by have := N6.out; omega) (.bool r) (.slice A4 ml.length c4))
       have HbF := Lib.hid hP5.bel
       have y0 := hP5.c0
       have y1 := hP5.c1
       have sz := HbF.out.size
       have R := HR1.out.below HbF.out
       have HP := Lib.hid (R.put (w := w) (from_ Hb2.out HbF.out) (by omega) (.bool r) (.slice A4 ml.length c4))
       have UB := Lib.hid ((UA.out.set2 (g := w.heap.size + 1) (fun (h : _ ≤ w.heap.size + 1) => by have := HR1.out.lt; omega) (.bool r) (.slice A4 ml.length c4)).mono (new_le (show w.heap.size ≤ _ by have := HR1.out.lt; omega)))
       obtain ⟨k0, k1, k2, k3, k4⟩ := R
       clear hP5 u4 UA sz t6 x0 x1 x2 x3 x4
       go_wp2
       refine bodyPost_ret (res_int rfl _ (w.heap.size + 1) rfl HP.out.c0 HP.out.c1) rfl ?_
       exact ⟨_, _, rfl, UB.out, HP.out.bel⟩)
    | (have hax := (Below.refl w4.heap.size w4).alloc (Nat.le_refl _) (.cells #[.bool r, .slice A4 ml.length c4] 25)
       obtain ⟨y0, y1, _, _, _⟩ := Box.new w4 (.bool r) (.slice A4 ml.length c4) 25
       have HbF := Lib.hid (from_ HbV.out hax)
       have R := HR1.out.below HbF.out
       have HP := Lib.hid (R.put (w := w) (from_ Hb2.out HbF.out) (by omega) (.bool r) (.slice A4 ml.length c4))
       have UB := Lib.hid (((u4.below hax).set2 (g := w.heap.size + 1) (fun (h : _ ≤ w.heap.size + 1) => by have := HR1.out.lt; omega) (.bool r) (.slice A4 ml.length c4)).mono (new_le (show w.heap.size ≤ _ by have := HR1.out.lt; omega)))
       obtain ⟨k0, k1, k2, k3, k4⟩ := R
       clear u4 hax t6
       go_wp2
       refine bodyPost_ret (res_int rfl _ (w.heap.size + 1) rfl HP.out.c0 HP.out.c1) rfl ?_
       exact ⟨_, _, rfl, UB.out, HP.out.bel⟩)

theorem lmiddle_w {w : World} {Z1 Z2 : Zone} {p : Iv} {P : IvP} {r : Bool} {ml : List Nat} {A B : Option Addr} {a b : Nat} (hp : IvW P p) (gp : IvN 32 P.1 P.2) (hm : Nm (midI P) r ml) (u1 : U64s w Z1 A a p.l0) (u2 : U64s w Z2 B b p.l1) :
    Calls Tryz.prog 90 #[.agg #[.bool p.n0, .bool p.s0, .slice A p.l0.length a, .bool p.n1, .bool p.s1, .slice B p.l1.length b]] w fun e w' => ∃ A' c', e = .returned (.agg #[.bool r, .slice A' ml.length c']) ∧ U64s w' (new w.heap.size) A' c' ml ∧ Below w.heap.size w w' := by
  have kp := hp.k gp (by omega)
  obtain ⟨⟨a1, a2, a3⟩, a4, a5, a6⟩ := hp
  have r1 := gp.lo.range (by omega)
  have r2 := gp.hi.range (by omega)
  have h0 := bigZ_pos
  have hl := gp.nlo
  have hh := gp.nhi
  by_cases c0 : P.1 = -bigZ ∨ P.2 = bigZ
  · have hz : midI P = 0 := by unfold midI; rw [if_pos c0]
    rw [hz] at hm
    obtain ⟨rfl, rfl⟩ : r = false ∧ ml = [] := ⟨hm.1, hm.2.trans (limbs_eq_nil.2 rfl)⟩
    have hn : p.n0 = true ∨ (p.n0 = false ∧ p.n1 = true) := by
      rw [a1, a4]
      by_cases c1 : P.1 = -bigZ
      · exact .inl (decide_eq_true c1)
      · exact .inr ⟨decide_eq_false c1, decide_eq_true (c0.resolve_left c1)⟩
    refine (lmiddle_none hn).mono ?_
    rintro e w' ⟨rfl, hb⟩
    exact ⟨none, 0, rfl, U64s.nil _ _, hb⟩
  · have hz : rq (P.1 + P.2) 2 true = midI P := by unfold midI; rw [if_neg c0]
    have n0 : p.n0 = false := a1.trans (decide_eq_false fun h => c0 (.inl h))
    have n1 : p.n1 = false := a4.trans (decide_eq_false fun h => c0 (.inr h))
    have h1 : Nm P.1 p.s0 p.l0 := by
      have e2 := nm_e (n := P.1) ⟨by omega, hl⟩
      rw [a2, a3]
      exact e2
    have h2 : Nm P.2 p.s1 p.l1 := by
      have e2 := nm_e (n := P.2) ⟨hh, by omega⟩
      rw [a5, a6]
      exact e2
    rw [n0, n1]
    exact lmiddle_num h1 h2 hm hz (by have := kp.q0; omega) (by have := kp.q1; omega) u1 u2

end Go.Proofs.YtamenhffplhddaaGreat

namespace Go.Proofs.YtamenhffplhddaaGreat
set_option linter.unusedVariables false
set_option linter.unusedSimpArgs false

theorem valL_snoc (o : IvP) (l : List (IvP × IvP)) (q : IvP × IvP) : valL o (l ++ [q]) = ivA (valL o l) (ivM q.1 q.2) := by
  unfold valL
  rw [List.foldl_append]
  rfl
/-- The sum so far. -/
def runV (o : IvP) (ws : List (IvP × IvP)) (k : Nat) : IvP := valL o (ws.take k)
theorem runV_zero (o : IvP) (ws : List (IvP × IvP)) : runV o ws 0 = o := rfl
theorem runV_succ {o : IvP} {ws : List (IvP × IvP)} {k : Nat} (h : k < ws.length) : runV o ws (k + 1) = ivA (runV o ws k) (ivM ws[k].1 ws[k].2) := by
  unfold runV
  rw [List.take_succ_eq_append_getElem h, valL_snoc]
theorem runV_all (o : IvP) (ws : List (IvP × IvP)) : runV o ws ws.length = valL o ws := by
  unfold runV
  rw [List.take_length]
theorem runV_ok {o : IvP} {ws : List (IvP × IvP)} {N k : Nat} (hN : 16 ≤ N) (hk : N + k ≤ 60) (h : IvN N o.1 o.2) (hq : ∀ q ∈ ws, IvN 8 q.1.1 q.1.2 ∧ IvN 8 q.2.1 q.2.2) : IvN (N + k) (runV o ws k).1 (runV o ws k).2 := by
  have h1 := val_ok (ws.take k) o N hN (by rw [List.length_take]; omega) h fun q hm => hq q (List.mem_of_mem_take hm)
  exact h1.up (by rw [List.length_take]; omega)

end Go.Proofs.YtamenhffplhddaaGreat

namespace Go.Proofs.YtamenhffplhddaaGreat
open Go.RowKit
set_option linter.unusedVariables false
set_option linter.unusedSimpArgs false

set_option maxRecDepth 100000 in
set_option maxHeartbeats 2000000 in
theorem l17of_w {w : World} {x y : Int} (hx : -9223372036854775808 ≤ x ∧ x ≤ 9223372036854775807) (hy : -9223372036854775808 ≤ y ∧ y ≤ 9223372036854775807) (h : x ≤ y) :
    Calls Tryz.prog 77 #[.int .i64 x, .int .i64 y] w fun e w' => ∃ A c B d, e = .returned (.agg #[.bool (nLo x), .bool (sE x), .slice A (lE x).length c, .bool (nHi y), .bool (sE y), .slice B (lE y).length d]) ∧ U64s w' (new w.heap.size) A c (lE x) ∧ U64s w' (new w.heap.size) B d (lE y) ∧ Below w.heap.size w w' := by
  have hB0 : Below w.heap.size w (w.alloc (.cells #[.bool false, .bool false, .slice none 0 0, .bool false, .bool false, .slice none 0 0] 29)) := (Below.refl _ w).alloc (Nat.le_refl _) _
  have HR := Lib.hid (Box6.new w (.bool false) (.bool false) (.slice none 0 0) (.bool false) (.bool false) (.slice none 0 0) 29)
  have HO := Lib.hid (iof_good (w := w.alloc (.cells #[.bool false, .bool false, .slice none 0 0, .bool false, .bool false, .slice none 0 0] 29)) hx hy h)
  have Hb0 := Lib.hid hB0
  clear hx hy h hB0
  generalize nLo x = n0 at *
  generalize nHi y = n1 at *
  generalize lE x = l0 at *
  generalize sE x = s0 at *
  generalize lE y = l1 at *
  generalize sE y = s1 at *
  go_enter Tryz.func77, Tryz.ntmps77
  go_wp2_with fail
  refine HO.out.mono ?_
  rintro e w1 ⟨A1, c1, B1, d1, rfl, o1, o2, hc⟩
  have hax := (Below.refl w1.heap.size w1).alloc (Nat.le_refl _) (.cells #[.bool n0, .bool s0, .slice A1 l0.length c1, .bool n1, .bool s1, .slice B1 l1.length d1] 29)
  have R := (HR.out.below hc).below hax
  have hz := HR.out.lt
  have HP := Lib.hid (R.put (w := w) (from_ (from_ Hb0.out hc) hax) (Nat.le_refl _) (.bool n0) (.bool s0) (.slice A1 l0.length c1) (.bool n1) (.bool s1) (.slice B1 l1.length d1))
  have U1 := Lib.hid (((o1.below hax).set6 (g := w.heap.size) (fun (h : _ ≤ w.heap.size) => by omega) (.bool n0) (.bool s0) (.slice A1 l0.length c1) (.bool n1) (.bool s1) (.slice B1 l1.length d1)).mono (new_le Hb0.out.size))
  have U2 := Lib.hid (((o2.below hax).set6 (g := w.heap.size) (fun (h : _ ≤ w.heap.size) => by omega) (.bool n0) (.bool s0) (.slice A1 l0.length c1) (.bool n1) (.bool s1) (.slice B1 l1.length d1)).mono (new_le Hb0.out.size))
  obtain ⟨m0, m1, m2, m3, m4, m5, _, _, _, _, _, _, _⟩ := Box6.new w1 (.bool n0) (.bool s0) (.slice A1 l0.length c1) (.bool n1) (.bool s1) (.slice B1 l1.length d1) 29
  obtain ⟨g0, g1, g2, g3, g4, g5, f0, f1, f2, f3, f4, f5, _⟩ := R
  clear o1 o2 hc hax hz
  go_wp2
  refine bodyPost_ret (res_itv rfl _ w.heap.size rfl HP.out.box) rfl ?_
  exact ⟨_, _, _, _, rfl, U1.out, U2.out, HP.out.bel⟩

end Go.Proofs.YtamenhffplhddaaGreat

namespace Go.Proofs.YtamenhffplhddaaGreat
open Go.RowKit
set_option linter.unusedVariables false
set_option linter.unusedSimpArgs false

set_option maxRecDepth 100000 in
set_option maxHeartbeats 2000000 in
theorem l17some_w {w : World} : Calls Tryz.prog 76 #[] w fun e w' => ∃ A c, e = .returned (.slice A 2 c) ∧ IvsAt w' (new w.heap.size) A c (fmOf [(1, 2), (3, 5)]) ∧ Below w.heap.size w w' := by
  have O1 := Lib.hid (l17of_w (w := w) (x := 1) (y := 2) (by omega) (by omega) (by omega))
  have O2 := Lib.hid (fun W : World => l17of_w (w := W) (x := 3) (y := 5) (by omega) (by omega) (by omega))
  have hf : fmOf [(1, 2), (3, 5)] = [⟨nLo 1, sE 1, lE 1, nHi 2, sE 2, lE 2⟩, ⟨nLo 3, sE 3, lE 3, nHi 5, sE 5, lE 5⟩] := rfl
  rw [hf]
  clear hf
  generalize nLo 1 = a0 at *
  generalize sE 1 = a1 at *
  generalize lE 1 = a2 at *
  generalize nHi 2 = a3 at *
  generalize sE 2 = a4 at *
  generalize lE 2 = a5 at *
  generalize nLo 3 = b0 at *
  generalize sE 3 = b1 at *
  generalize lE 3 = b2 at *
  generalize nHi 5 = b3 at *
  generalize sE 5 = b4 at *
  generalize lE 5 = b5 at *
  go_enter Tryz.func76, Tryz.ntmps76
  go_wp2_with fail
  refine O1.out.mono ?_
  rintro e w1 ⟨A1, c1, B1, d1, rfl, o1, o2, hc⟩
  have Hc := Lib.hid hc
  clear hc
  go_wp2_with fail
  refine (O2.out _).mono ?_
  rintro e w2 ⟨A2, c2, B2, d2, rfl, o3, o4, hc⟩
  have HB := Lib.hid (from_ Hc.out hc)
  have U1 := Lib.hid (o1.below hc)
  have U2 := Lib.hid (o2.below hc)
  have U3 := Lib.hid (o3.mono (Y := new w.heap.size) (new_le Hc.out.size))
  have U4 := Lib.hid (o4.mono (Y := new w.heap.size) (new_le Hc.out.size))
  clear o1 o2 o3 o4 hc Hc
  go_wp2
  go_ret
  have hax : ∀ o, Below w2.heap.size w2 (w2.alloc o) := fun o => (Below.refl _ _).alloc (Nat.le_refl _) o
  refine ⟨_, _, rfl, ⟨by simp, by omega, fun _ => ⟨_, 0, rfl, by simp, fun j hj => ?_⟩⟩, from_ HB.out (hax _)⟩
  rcases j with _ | _ | j
  · exact ⟨A1, c1, B1, d1, ⟨cell_newest rfl rfl, cell_newest rfl rfl, cell_newest rfl rfl, cell_newest rfl rfl, cell_newest rfl rfl, cell_newest rfl rfl⟩, U1.out.below (hax _), U2.out.below (hax _)⟩
  · exact ⟨A2, c2, B2, d2, ⟨cell_newest rfl rfl, cell_newest rfl rfl, cell_newest rfl rfl, cell_newest rfl rfl, cell_newest rfl rfl, cell_newest rfl rfl⟩, U3.out.below (hax _), U4.out.below (hax _)⟩
  · simp at hj
    omega

end Go.Proofs.YtamenhffplhddaaGreat
