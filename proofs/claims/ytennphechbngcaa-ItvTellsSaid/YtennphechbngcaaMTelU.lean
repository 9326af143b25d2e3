/-
  Intervals of four limbs: the document's Great; what such words are. No conditions but bounds on lengths.
-/
import Derived.Test.YtennphechbngcaaMLinB
import Derived.Test.YtennphechbngcaaMItvR
namespace Go.Proofs.Ytennphechbngcaa
open Go.RowKit
set_option linter.unusedVariables false
set_option linter.unusedSimpArgs false

/-- Is an end longer than K? -/
def gtJ (p : Iv) (K : Nat) : Bool := decide (K < p.l0.length) || decide (K < p.l1.length)
theorem gtJ_no {p : Iv} {K : Nat} (h : gtJ p K = false) : p.l0.length ≤ K ∧ p.l1.length ≤ K := by
  unfold gtJ at h
  rw [Bool.or_eq_false_iff] at h
  exact ⟨by have := of_decide_eq_false h.1; omega, by have := of_decide_eq_false h.2; omega⟩
theorem g16J_any {w : World} {n0 s0 n1 s1 : Bool} {L0 L1 : Nat} {A B : Option Addr} {a b K : Nat} (hK : K ≤ 1000) (h0 : L0 ≤ 9223372036854775807) (h1 : L1 ≤ 9223372036854775807) :
    Calls Try.prog 6 #[.agg #[.bool n0, .bool s0, .slice A L0 a, .bool n1, .bool s1, .slice B L1 b], .int .i64 (K : Int)] w fun e w' => e = .returned (.bool (decide (K < L0) || decide (K < L1))) ∧ Below w.heap.size w w' := by
  have hB : Below w.heap.size w (w.alloc (.cells #[.bool n0, .bool s0, .slice A L0 a, .bool n1, .bool s1, .slice B L1 b] 29)) := (Below.refl _ w).alloc (Nat.le_refl _) _
  obtain ⟨b0, b1, b2, b3, b4, b5, _⟩ := Box6.new w (.bool n0) (.bool s0) (.slice A L0 a) (.bool n1) (.bool s1) (.slice B L1 b) 29
  rcases (by omega : K < L0 ∨ ¬ (K < L0)) with g0 | g0
  · have d1 : decide ((K : Int) < (L0 : Int)) = true := decide_eq_true (by omega)
    have e1 : decide (K < L0) = true := decide_eq_true g0
    rw [e1, Bool.true_or]
    clear g0
    go_enter Try.func6, Try.ntmps6
    go_wp2
    go_ret
    exact ⟨rfl, hB⟩
  · have d1 : decide ((K : Int) < (L0 : Int)) = false := decide_eq_false (by omega)
    have e1 : decide (K < L0) = false := decide_eq_false g0
    rw [e1, Bool.false_or]
    clear g0
    go_enter Try.func6, Try.ntmps6
    go_wp2
    go_ret
    exact ⟨by simp, hB⟩
theorem g16J_w {w : World} {Z1 Z2 : Zone} {p : Iv} {A B : Option Addr} {a b : Nat} (u : U64s w Z1 A a p.l0) (v : U64s w Z2 B b p.l1) :
    Calls Try.prog 6 #[.agg #[.bool p.n0, .bool p.s0, .slice A p.l0.length a, .bool p.n1, .bool p.s1, .slice B p.l1.length b], .int .i64 4] w fun e w' => e = .returned (.bool (gtJ p 4)) ∧ Below w.heap.size w w' := by
  have h1 := g16J_any (w := w) (n0 := p.n0) (s0 := p.s0) (n1 := p.n1) (s1 := p.s1) (A := A) (B := B) (a := a) (b := b) (K := 4) (by omega) u.len v.len
  exact h1
theorem itwJ_of {N : Nat} {p : Iv} (h : p.ok = true) (m0 : Small p.l0) (m1 : Small p.l1) (q0 : p.l0.length ≤ N) (q1 : p.l1.length ≤ N) (hN : N ≤ 60) : IvW (p.lo, p.hi) p ∧ IvN N p.lo p.hi := by
  have hf : p.fine 60 := ⟨m0, m1, by omega, by omega⟩
  have e := Iv.is h hf
  obtain ⟨h1, h2⟩ := okA_ends h
  have r1 := lo_range (n := p.n0) (s := p.s0) m0 (show p.l0.length ≤ 60 by omega)
  have r2 := hi_range (n := p.n1) (s := p.s1) m1 (show p.l1.length ≤ 60 by omega)
  have hle := okA_le h m0 m1 (by omega) (by omega)
  obtain ⟨b, s', l', A', c', P⟩ := Plc.ex (-1) p.n0 p.s0 p.l0 none 0
  obtain ⟨d, t', k', B', e', Q⟩ := Plc.ex 1 p.n1 p.s1 p.l1 none 0
  have u := P.lo h1 m0 (show p.l0.length ≤ 60 by omega)
  have v := Q.hi h2 m1 (show p.l1.length ≤ 60 by omega)
  have g1 := P.len
  have g2 := Q.len
  refine ⟨?_, u.ext (by omega), v.ext (by omega), hle, r1.2, r2.1⟩
  have hk := IvW.mk (p.lo, p.hi)
  rw [show ivOf (p.lo, p.hi).1 (p.lo, p.hi).2 = p from e.symm] at hk
  exact hk
theorem nmJ_zof {s : Bool} {l : List Nat} (h : okI s l = true) (hs : Small l) : Nm (zof s l) s l := ⟨(zof_enc h hs).1.symm, (zof_enc h hs).2.symm⟩

end Go.Proofs.Ytennphechbngcaa
