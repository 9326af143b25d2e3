/-
  Intervals, the document's: Both and Either. No conditions but bounds on lengths.
-/
import Derived.Deep.DeepCutAuto
import Derived.Test.YtennphechbngcaaMItvXa
import Derived.Test.YtennphechbngcaaMItvXb
import Derived.Test.YtennphechbngcaaMItvXc
import Derived.Test.YtennphechbngcaaMItvXd
namespace Go.Proofs.Ytennphechbngcaa
open Go.RowKit
set_option linter.unusedVariables false
set_option linter.unusedSimpArgs false


set_option maxRecDepth 100000 in
theorem r16both_w {w : World} {Z1 Z2 Z3 Z4 : Zone} {n0 s0 n1 s1 m0 t0 m1 t1 : Bool} {l0 l1 k0 k1 : List Nat} {A B C D : Option Addr} {a b c d : Nat}
    (u1 : U64s w Z1 A a l0) (u2 : U64s w Z2 B b l1) (u3 : U64s w Z3 C c k0) (u4 : U64s w Z4 D d k1) (h1 : okE n0 s0 l0 = true) (h2 : okE n1 s1 l1 = true) (h3 : okE m0 t0 k0 = true) (h4 : okE m1 t1 k1 = true)
    (q1 : l0.length ≤ 60) (q2 : l1.length ≤ 60) (q3 : k0.length ≤ 60) (q4 : k1.length ≤ 60) {z0 z1 : Int} {rn0 rs0 rn1 rs1 : Bool} {rl0 rl1 : List Nat} (hz0 : z0 = max (loV n0 s0 l0) (loV m0 t0 k0)) (hz1 : z1 = min (hiV n1 s1 l1) (hiV m1 t1 k1)) (e0 : EndL z0 rn0 rs0 rl0) (e1 : EndH z1 rn1 rs1 rl1) {g : Bool} (hg : okA rn0 rs0 rl0 rn1 rs1 rl1 = g) :
    Calls Try.prog 41 #[.agg #[.bool n0, .bool s0, .slice A l0.length a, .bool n1, .bool s1, .slice B l1.length b], .agg #[.bool m0, .bool t0, .slice C k0.length c, .bool m1, .bool t1, .slice D k1.length d]] w fun e w' => ∃ rA ra rB rb, e = .returned (.tuple #[bif g then .agg #[.bool rn0, .bool rs0, .slice rA rl0.length ra, .bool rn1, .bool rs1, .slice rB rl1.length rb] else .agg #[.bool false, .bool false, .slice none 0 0, .bool false, .bool false, .slice none 0 0], .bool g]) ∧ U64s w' old rA ra rl0 ∧ U64s w' old rB rb rl1 ∧ Below w.heap.size w w' := by
  have HL : (n0 = true) ∨ (n0 = false ∧ m0 = true) ∨ (n0 = false ∧ m0 = false ∧ 0 < sgn (zof t0 k0 - zof s0 l0)) ∨ (n0 = false ∧ m0 = false ∧ ¬ 0 < sgn (zof t0 k0 - zof s0 l0)) := by
    cases m0 <;> cases n0 <;> by_cases h : 0 < sgn (zof t0 k0 - zof s0 l0) <;> simp [h]
  rcases HL with h | h | h | h
  · exact r16both_w0 u1 u2 u3 u4 h1 h2 h3 h4 q1 q2 q3 q4 hz0 hz1 e0 e1 hg h
  · exact r16both_w1 u1 u2 u3 u4 h1 h2 h3 h4 q1 q2 q3 q4 hz0 hz1 e0 e1 hg h
  · exact r16both_w2 u1 u2 u3 u4 h1 h2 h3 h4 q1 q2 q3 q4 hz0 hz1 e0 e1 hg h
  · exact r16both_w3 u1 u2 u3 u4 h1 h2 h3 h4 q1 q2 q3 q4 hz0 hz1 e0 e1 hg h


end Go.Proofs.Ytennphechbngcaa
