/-
  Intervals: what the program and the document answer, in pairs. No conditions but bounds on lengths.
-/
import Derived.Test.YtennphechbngcaaMTelA
import Derived.Test.YtennphechbngcaaMLinB
import Derived.Test.YtennphechbngcaaMItvR
import Derived.Test.YtennphechbngcaaMItwN
namespace Go.Proofs.Ytennphechbngcaa
open Go.RowKit
set_option linter.unusedVariables false
set_option linter.unusedSimpArgs false

def zeroJ : Iv := ⟨false, false, [], false, false, []⟩
/-- Answers with no interval, as such with one. -/
theorem noI {w : World} {f : FuncId} {args : Array Value} {E : Int} {Z : Zone} (h : Calls Try.prog f args w fun e w' => e = .returned (.tuple #[.agg #[.bool false, .bool false, .slice none 0 0, .bool false, .bool false, .slice none 0 0], .int .i64 E]) ∧ Below w.heap.size w w') : Calls Try.prog f args w fun e w' => ∃ rA ra rB rb, e = .returned (.tuple #[.agg #[.bool zeroJ.n0, .bool zeroJ.s0, .slice rA zeroJ.l0.length ra, .bool zeroJ.n1, .bool zeroJ.s1, .slice rB zeroJ.l1.length rb], .int .i64 E]) ∧ U64s w' Z rA ra zeroJ.l0 ∧ U64s w' Z rB rb zeroJ.l1 ∧ Below w.heap.size w w' := by
  refine h.mono ?_
  rintro e w' ⟨rfl, hb⟩
  exact ⟨none, 0, none, 0, rfl, U64s.nil _ _, U64s.nil _ _, hb⟩
theorem ok_none {z0 z1 : Int} {r : Iv} (h0 : EndL z0 r.n0 r.s0 r.l0) (h1 : EndH z1 r.n1 r.s1 r.l1) (b0 : -bigZ ≤ z0 ∧ z0 < bigZ) (b1 : -bigZ < z1 ∧ z1 ≤ bigZ) (h : z1 < z0) : r.ok = false := by
  obtain ⟨a1, a2, a3⟩ := h0
  obtain ⟨c1, c2, c3⟩ := h1
  have e0 := (lo_e b0).1
  have e1 := (hi_e b1).1
  rw [← a1, ← a2, ← a3] at e0
  rw [← c1, ← c2, ← c3] at e1
  have n0 : r.n0 = false := by rw [a1]; exact decide_eq_false (by omega)
  have n1 : r.n1 = false := by rw [c1]; exact decide_eq_false (by omega)
  rw [n0] at e0
  rw [n1] at e1
  have e0' : zof r.s0 r.l0 = z0 := e0
  have e1' : zof r.s1 r.l1 = z1 := e1
  unfold Iv.ok okA
  rw [n0, n1, e0', e1', show decide (z0 ≤ z1) = false from decide_eq_false (by omega)]
  simp
theorem pair_meet {p q : Iv} (q1 : p.l0.length ≤ 4) (q2 : p.l1.length ≤ 4) (q3 : q.l0.length ≤ 4) (q4 : q.l1.length ≤ 4) (m0 : Small p.l0) (m1 : Small p.l1) (m2 : Small q.l0) (m3 : Small q.l1) : ∃ (r : Iv) (E : Int), (∀ (w : World) (Z1 Z2 Z3 Z4 : Zone) (A B C D : Option Addr) (a b c d : Nat), U64s w Z1 A a p.l0 → U64s w Z2 B b p.l1 → U64s w Z3 C c q.l0 → U64s w Z4 D d q.l1 → Calls Try.prog 10 #[.agg #[.bool p.n0, .bool p.s0, .slice A p.l0.length a, .bool p.n1, .bool p.s1, .slice B p.l1.length b], .agg #[.bool q.n0, .bool q.s0, .slice C q.l0.length c, .bool q.n1, .bool q.s1, .slice D q.l1.length d]] w fun e w' => ∃ rA ra rB rb, e = .returned (.tuple #[.agg #[.bool r.n0, .bool r.s0, .slice rA r.l0.length ra, .bool r.n1, .bool r.s1, .slice rB r.l1.length rb], .int .i64 E]) ∧ U64s w' (new w.heap.size) rA ra r.l0 ∧ U64s w' (new w.heap.size) rB rb r.l1 ∧ Below w.heap.size w w') ∧ (∀ (w : World) (Z1 Z2 Z3 Z4 : Zone) (A B C D : Option Addr) (a b c d : Nat), U64s w Z1 A a p.l0 → U64s w Z2 B b p.l1 → U64s w Z3 C c q.l0 → U64s w Z4 D d q.l1 → Calls Try.prog 11 #[.agg #[.bool p.n0, .bool p.s0, .slice A p.l0.length a, .bool p.n1, .bool p.s1, .slice B p.l1.length b], .agg #[.bool q.n0, .bool q.s0, .slice C q.l0.length c, .bool q.n1, .bool q.s1, .slice D q.l1.length d]] w fun e w' => ∃ rA ra rB rb, e = .returned (.tuple #[.agg #[.bool r.n0, .bool r.s0, .slice rA r.l0.length ra, .bool r.n1, .bool r.s1, .slice rB r.l1.length rb], .int .i64 E]) ∧ U64s w' old rA ra r.l0 ∧ U64s w' old rB rb r.l1 ∧ Below w.heap.size w w') := by
  by_cases h : p.ok = true ∧ q.ok = true
  · obtain ⟨_, gp⟩ := itwJ_of h.1 m0 m1 q1 q2 (by omega)
    obtain ⟨_, gq⟩ := itwJ_of h.2 m2 m3 q3 q4 (by omega)
    obtain ⟨r, hr⟩ : ∃ r, IvW (max p.lo q.lo, min p.hi q.hi) r := ⟨_, IvW.mk _⟩
    by_cases hle : max p.lo q.lo ≤ min p.hi q.hi
    · have gr : IvN 4 (max p.lo q.lo) (min p.hi q.hi) := ⟨ext_max gp.lo gq.lo, ext_min gp.hi gq.hi, hle, by have := gp.nlo; have := gq.nlo; omega, by have := gp.nhi; have := gq.nhi; omega⟩
      exact ⟨r, 0, fun w Z1 Z2 Z3 Z4 A B C D a b c d u1 u2 u3 u4 => iMeet_good u1 u2 u3 u4 h.1 h.2 (by omega) (by omega) (by omega) (by omega) (z0 := max p.lo q.lo) (z1 := min p.hi q.hi) rfl rfl hr.1 hr.2 hle, fun w Z1 Z2 Z3 Z4 A B C D a b c d u1 u2 u3 u4 => r16meet_good u1 u2 u3 u4 (by omega) (by omega) (by omega) (by omega) h.1 h.2 hr.1 hr.2 (hr.okP gr (by omega))⟩
    · have b1 := gp.lo.range (by omega)
      have b2 := gq.lo.range (by omega)
      have b3 := gp.hi.range (by omega)
      have b4 := gq.hi.range (by omega)
      have hno := ok_none (z0 := max p.lo q.lo) (z1 := min p.hi q.hi) hr.1 hr.2 ⟨by omega, by have := gp.nlo; have := gq.nlo; omega⟩ ⟨by have := gp.nhi; have := gq.nhi; omega, by omega⟩ (by omega)
      exact ⟨zeroJ, 6, fun w Z1 Z2 Z3 Z4 A B C D a b c d u1 u2 u3 u4 => noI (iMeet_none u1 u2 u3 u4 h.1 h.2 (by omega) (by omega) (by omega) (by omega) (z0 := max p.lo q.lo) (z1 := min p.hi q.hi) rfl rfl hr.1 hr.2 (by omega)), fun w Z1 Z2 Z3 Z4 A B C D a b c d u1 u2 u3 u4 => noI (r16meet_none u1 u2 u3 u4 (by omega) (by omega) (by omega) (by omega) h.1 h.2 hr.1 hr.2 hno)⟩
  · exact ⟨zeroJ, 8, fun w Z1 Z2 Z3 Z4 A B C D a b c d u1 u2 u3 u4 => noI (iMeet_bad u1 u2 u3 u4 (fun a b => h ⟨a, b⟩) (by omega) (by omega) (by omega) (by omega)), fun w Z1 Z2 Z3 Z4 A B C D a b c d u1 u2 u3 u4 => noI (r16meet_bad u1 u2 u3 u4 (by omega) (by omega) (by omega) (by omega) h)⟩
theorem pair_join {p q : Iv} (q1 : p.l0.length ≤ 4) (q2 : p.l1.length ≤ 4) (q3 : q.l0.length ≤ 4) (q4 : q.l1.length ≤ 4) (m0 : Small p.l0) (m1 : Small p.l1) (m2 : Small q.l0) (m3 : Small q.l1) : ∃ (r : Iv) (E : Int), (∀ (w : World) (Z1 Z2 Z3 Z4 : Zone) (A B C D : Option Addr) (a b c d : Nat), U64s w Z1 A a p.l0 → U64s w Z2 B b p.l1 → U64s w Z3 C c q.l0 → U64s w Z4 D d q.l1 → Calls Try.prog 7 #[.agg #[.bool p.n0, .bool p.s0, .slice A p.l0.length a, .bool p.n1, .bool p.s1, .slice B p.l1.length b], .agg #[.bool q.n0, .bool q.s0, .slice C q.l0.length c, .bool q.n1, .bool q.s1, .slice D q.l1.length d]] w fun e w' => ∃ rA ra rB rb, e = .returned (.tuple #[.agg #[.bool r.n0, .bool r.s0, .slice rA r.l0.length ra, .bool r.n1, .bool r.s1, .slice rB r.l1.length rb], .int .i64 E]) ∧ U64s w' (new w.heap.size) rA ra r.l0 ∧ U64s w' (new w.heap.size) rB rb r.l1 ∧ Below w.heap.size w w') ∧ (∀ (w : World) (Z1 Z2 Z3 Z4 : Zone) (A B C D : Option Addr) (a b c d : Nat), U64s w Z1 A a p.l0 → U64s w Z2 B b p.l1 → U64s w Z3 C c q.l0 → U64s w Z4 D d q.l1 → Calls Try.prog 12 #[.agg #[.bool p.n0, .bool p.s0, .slice A p.l0.length a, .bool p.n1, .bool p.s1, .slice B p.l1.length b], .agg #[.bool q.n0, .bool q.s0, .slice C q.l0.length c, .bool q.n1, .bool q.s1, .slice D q.l1.length d]] w fun e w' => ∃ rA ra rB rb, e = .returned (.tuple #[.agg #[.bool r.n0, .bool r.s0, .slice rA r.l0.length ra, .bool r.n1, .bool r.s1, .slice rB r.l1.length rb], .int .i64 E]) ∧ U64s w' old rA ra r.l0 ∧ U64s w' old rB rb r.l1 ∧ Below w.heap.size w w') := by
  by_cases h : p.ok = true ∧ q.ok = true
  · obtain ⟨r, hr⟩ : ∃ r, IvW (min p.lo q.lo, max p.hi q.hi) r := ⟨_, IvW.mk _⟩
    exact ⟨r, 0, fun w Z1 Z2 Z3 Z4 A B C D a b c d u1 u2 u3 u4 => iJoin_good u1 u2 u3 u4 h.1 h.2 (by omega) (by omega) (by omega) (by omega) (z0 := min p.lo q.lo) (z1 := max p.hi q.hi) rfl rfl hr.1 hr.2, fun w Z1 Z2 Z3 Z4 A B C D a b c d u1 u2 u3 u4 => r16join_good u1 u2 u3 u4 (by omega) (by omega) (by omega) (by omega) h.1 h.2 hr.1 hr.2⟩
  · exact ⟨zeroJ, 8, fun w Z1 Z2 Z3 Z4 A B C D a b c d u1 u2 u3 u4 => noI (iJoin_bad u1 u2 u3 u4 (fun a b => h ⟨a, b⟩) (by omega) (by omega) (by omega) (by omega)), fun w Z1 Z2 Z3 Z4 A B C D a b c d u1 u2 u3 u4 => noI (r16join_bad u1 u2 u3 u4 (by omega) (by omega) (by omega) (by omega) h)⟩
theorem pair_in {p q : Iv} (q1 : p.l0.length ≤ 4) (q2 : p.l1.length ≤ 4) (q3 : q.l0.length ≤ 4) (q4 : q.l1.length ≤ 4) (m0 : Small p.l0) (m1 : Small p.l1) (m2 : Small q.l0) (m3 : Small q.l1) : ∃ (r : Bool) (E : Int), (∀ (w : World) (Z1 Z2 Z3 Z4 : Zone) (A B C D : Option Addr) (a b c d : Nat), U64s w Z1 A a p.l0 → U64s w Z2 B b p.l1 → U64s w Z3 C c q.l0 → U64s w Z4 D d q.l1 → Calls Try.prog 9 #[.agg #[.bool p.n0, .bool p.s0, .slice A p.l0.length a, .bool p.n1, .bool p.s1, .slice B p.l1.length b], .agg #[.bool q.n0, .bool q.s0, .slice C q.l0.length c, .bool q.n1, .bool q.s1, .slice D q.l1.length d]] w fun e w' => e = .returned (.tuple #[.bool r, .int .i64 E]) ∧ Below w.heap.size w w') ∧ (∀ (w : World) (Z1 Z2 Z3 Z4 : Zone) (A B C D : Option Addr) (a b c d : Nat), U64s w Z1 A a p.l0 → U64s w Z2 B b p.l1 → U64s w Z3 C c q.l0 → U64s w Z4 D d q.l1 → Calls Try.prog 13 #[.agg #[.bool p.n0, .bool p.s0, .slice A p.l0.length a, .bool p.n1, .bool p.s1, .slice B p.l1.length b], .agg #[.bool q.n0, .bool q.s0, .slice C q.l0.length c, .bool q.n1, .bool q.s1, .slice D q.l1.length d]] w fun e w' => e = .returned (.tuple #[.bool r, .int .i64 E]) ∧ Below w.heap.size w w') := by
  by_cases h : p.ok = true ∧ q.ok = true
  · exact ⟨_, 0, fun w Z1 Z2 Z3 Z4 A B C D a b c d u1 u2 u3 u4 => iin_good u1 u2 u3 u4 h.1 h.2 (by omega) (by omega) (by omega) (by omega) rfl, fun w Z1 Z2 Z3 Z4 A B C D a b c d u1 u2 u3 u4 => r16in_good u1 u2 u3 u4 h.1 h.2 (by omega) (by omega) (by omega) (by omega) rfl⟩
  · exact ⟨false, 8, fun w Z1 Z2 Z3 Z4 A B C D a b c d u1 u2 u3 u4 => iin_bad u1 u2 u3 u4 (by omega) (by omega) (by omega) (by omega) h, fun w Z1 Z2 Z3 Z4 A B C D a b c d u1 u2 u3 u4 => r16in_bad u1 u2 u3 u4 (by omega) (by omega) (by omega) (by omega) h⟩
theorem pair_has {p : Iv} {t : Bool} {k : List Nat} (q1 : p.l0.length ≤ 4) (q2 : p.l1.length ≤ 4) (q3 : k.length ≤ 4) : ∃ (r : Bool) (E : Int), (∀ (w : World) (Z1 Z2 Z3 : Zone) (A B C : Option Addr) (a b c : Nat), U64s w Z1 A a p.l0 → U64s w Z2 B b p.l1 → U64s w Z3 C c k → Calls Try.prog 14 #[.agg #[.bool p.n0, .bool p.s0, .slice A p.l0.length a, .bool p.n1, .bool p.s1, .slice B p.l1.length b], .agg #[.bool t, .slice C k.length c]] w fun e w' => e = .returned (.tuple #[.bool r, .int .i64 E]) ∧ Below w.heap.size w w') ∧ (∀ (w : World) (Z1 Z2 Z3 : Zone) (A B C : Option Addr) (a b c : Nat), U64s w Z1 A a p.l0 → U64s w Z2 B b p.l1 → U64s w Z3 C c k → Calls Try.prog 15 #[.agg #[.bool p.n0, .bool p.s0, .slice A p.l0.length a, .bool p.n1, .bool p.s1, .slice B p.l1.length b], .agg #[.bool t, .slice C k.length c]] w fun e w' => e = .returned (.tuple #[.bool r, .int .i64 E]) ∧ Below w.heap.size w w') := by
  by_cases h : p.ok = true ∧ okI t k = true
  · exact ⟨_, 0, fun w Z1 Z2 Z3 A B C a b c u1 u2 u3 => ihas_good u1 u2 u3 h.1 h.2 (by omega) (by omega) (by omega) rfl, fun w Z1 Z2 Z3 A B C a b c u1 u2 u3 => r16has_good u1 u2 u3 h.1 h.2 (by omega) (by omega) (by omega) rfl⟩
  · exact ⟨false, 8, fun w Z1 Z2 Z3 A B C a b c u1 u2 u3 => ihas_bad u1 u2 u3 (by omega) (by omega) (by omega) h, fun w Z1 Z2 Z3 A B C a b c u1 u2 u3 => r16has_bad u1 u2 u3 (by omega) (by omega) (by omega) h⟩
theorem pair_neg {p : Iv} (q1 : p.l0.length ≤ 4) (q2 : p.l1.length ≤ 4) (m0 : Small p.l0) (m1 : Small p.l1) : ∃ (r : Iv) (E : Int), (∀ (w : World) (Z1 Z2 : Zone) (A B : Option Addr) (a b : Nat), U64s w Z1 A a p.l0 → U64s w Z2 B b p.l1 → Calls Try.prog 16 #[.agg #[.bool p.n0, .bool p.s0, .slice A p.l0.length a, .bool p.n1, .bool p.s1, .slice B p.l1.length b]] w fun e w' => ∃ rA ra rB rb, e = .returned (.tuple #[.agg #[.bool r.n0, .bool r.s0, .slice rA r.l0.length ra, .bool r.n1, .bool r.s1, .slice rB r.l1.length rb], .int .i64 E]) ∧ U64s w' (new w.heap.size) rA ra r.l0 ∧ U64s w' (new w.heap.size) rB rb r.l1 ∧ Below w.heap.size w w') ∧ (∀ (w : World) (Z1 Z2 : Zone) (A B : Option Addr) (a b : Nat), U64s w Z1 A a p.l0 → U64s w Z2 B b p.l1 → Calls Try.prog 17 #[.agg #[.bool p.n0, .bool p.s0, .slice A p.l0.length a, .bool p.n1, .bool p.s1, .slice B p.l1.length b]] w fun e w' => ∃ rA ra rB rb, e = .returned (.tuple #[.agg #[.bool r.n0, .bool r.s0, .slice rA r.l0.length ra, .bool r.n1, .bool r.s1, .slice rB r.l1.length rb], .int .i64 E]) ∧ U64s w' old rA ra r.l0 ∧ U64s w' old rB rb r.l1 ∧ Below w.heap.size w w') := by
  cases h : p.ok
  · exact ⟨zeroJ, 8, fun w Z1 Z2 A B a b u1 u2 => noI (iNeg_bad u1 u2 h (by omega) (by omega)), fun w Z1 Z2 A B a b u1 u2 => noI (r16neg_bad u1 u2 (by omega) (by omega) h)⟩
  · obtain ⟨wp, gp⟩ := itwJ_of h m0 m1 q1 q2 (by omega)
    obtain ⟨r, hr⟩ : ∃ r, IvW (ivNg (p.lo, p.hi)) r := ⟨_, IvW.mk _⟩
    exact ⟨r, 0, fun w Z1 Z2 A B a b u1 u2 => iNeg_good u1 u2 h (by omega) (by omega) (z0 := -p.hi) (z1 := -p.lo) rfl rfl hr.1 hr.2, fun w Z1 Z2 A B a b u1 u2 => r16neg_good wp (gp.up (by omega)) hr u1 u2⟩
theorem pair_point {t : Bool} {k : List Nat} (q3 : k.length ≤ 4) (m : Small k) : ∃ (r : Iv) (E : Int), (∀ (w : World) (Z : Zone) (C : Option Addr) (c : Nat), U64s w Z C c k → Calls Try.prog 20 #[.agg #[.bool t, .slice C k.length c]] w fun e w' => ∃ rA ra rB rb, e = .returned (.tuple #[.agg #[.bool r.n0, .bool r.s0, .slice rA r.l0.length ra, .bool r.n1, .bool r.s1, .slice rB r.l1.length rb], .int .i64 E]) ∧ U64s w' (new w.heap.size) rA ra r.l0 ∧ U64s w' (new w.heap.size) rB rb r.l1 ∧ Below w.heap.size w w') ∧ (∀ (w : World) (Z : Zone) (C : Option Addr) (c : Nat), U64s w Z C c k → Calls Try.prog 21 #[.agg #[.bool t, .slice C k.length c]] w fun e w' => ∃ rA ra rB rb, e = .returned (.tuple #[.agg #[.bool r.n0, .bool r.s0, .slice rA r.l0.length ra, .bool r.n1, .bool r.s1, .slice rB r.l1.length rb], .int .i64 E]) ∧ U64s w' old rA ra r.l0 ∧ U64s w' old rB rb r.l1 ∧ Below w.heap.size w w') := by
  cases h : okI t k
  · exact ⟨zeroJ, 8, fun w Z C c u => noI (ipoint_bad u h), fun w Z C c u => noI (r16point_bad h u)⟩
  · have n := nmJ_zof h m
    refine ⟨⟨false, t, k, false, t, k⟩, 0, fun w Z C c u => ?_, fun w Z C c u => ?_⟩
    · refine (ipoint_good u h (by omega)).mono ?_
      rintro e w' ⟨A1, c1, A2, c2, rfl, v1, v2, hb⟩
      exact ⟨A1, c1, A2, c2, rfl, v1, v2, hb⟩
    · refine (r16point_good n h (by omega) u).mono ?_
      rintro e w' ⟨A1, c1, A2, c2, rfl, v1, v2, hb⟩
      exact ⟨A1, c1, A2, c2, rfl, v1.mono (le_old _), v2.mono (le_old _), hb⟩
theorem pair_of {x y : Int} (hx : -9223372036854775808 ≤ x ∧ x ≤ 9223372036854775807) (hy : -9223372036854775808 ≤ y ∧ y ≤ 9223372036854775807) : ∃ (r : Iv) (E : Int), (∀ (w : World), Calls Try.prog 18 #[.int .i64 x, .int .i64 y] w fun e w' => ∃ rA ra rB rb, e = .returned (.tuple #[.agg #[.bool r.n0, .bool r.s0, .slice rA r.l0.length ra, .bool r.n1, .bool r.s1, .slice rB r.l1.length rb], .int .i64 E]) ∧ U64s w' (new w.heap.size) rA ra r.l0 ∧ U64s w' (new w.heap.size) rB rb r.l1 ∧ Below w.heap.size w w') ∧ (∀ (w : World), Calls Try.prog 19 #[.int .i64 x, .int .i64 y] w fun e w' => ∃ rA ra rB rb, e = .returned (.tuple #[.agg #[.bool r.n0, .bool r.s0, .slice rA r.l0.length ra, .bool r.n1, .bool r.s1, .slice rB r.l1.length rb], .int .i64 E]) ∧ U64s w' old rA ra r.l0 ∧ U64s w' old rB rb r.l1 ∧ Below w.heap.size w w') := by
  by_cases h : x ≤ y
  · have n1 := nm_e (int_big hx)
    have n2 := nm_e (int_big hy)
    have l1 := len_e hx
    have l2 := len_e hy
    have e1 := nLo_no (int_big hx).1
    have e2 := nHi_no (int_big hy).2
    refine ⟨⟨false, sE x, lE x, false, sE y, lE y⟩, 0, fun w => ?_, fun w => ?_⟩
    · refine (iof_good hx hy h).mono ?_
      rintro e w' ⟨A1, c1, A2, c2, rfl, v1, v2, hb⟩
      rw [e1, e2]
      exact ⟨A1, c1, A2, c2, rfl, v1, v2, hb⟩
    · refine (r16of_good hx hy h n1 n2 (by omega) (by omega)).mono ?_
      rintro e w' ⟨A1, c1, A2, c2, rfl, v1, v2, hb⟩
      exact ⟨A1, c1, A2, c2, rfl, v1.mono (le_old _), v2.mono (le_old _), hb⟩
  · exact ⟨zeroJ, 2, fun w => noI (iof_bad (by omega)), fun w => noI (r16of_bad (by omega))⟩
theorem c12_keep {W V : World} {g h : Nat} {a0 a1 a2 a3 a4 a5 b0 b1 b2 b3 b4 b5 : Value} (hs : (W.cell? ⟨g, 0, none⟩ = some a0 ∧ W.cell? ⟨g, 1, none⟩ = some a1 ∧ W.cell? ⟨g, 2, none⟩ = some a2 ∧ W.cell? ⟨g, 3, none⟩ = some a3 ∧ W.cell? ⟨g, 4, none⟩ = some a4 ∧ W.cell? ⟨g, 5, none⟩ = some a5) ∧ W.cell? ⟨h, 0, none⟩ = some b0 ∧ W.cell? ⟨h, 1, none⟩ = some b1 ∧ W.cell? ⟨h, 2, none⟩ = some b2 ∧ W.cell? ⟨h, 3, none⟩ = some b3 ∧ W.cell? ⟨h, 4, none⟩ = some b4 ∧ W.cell? ⟨h, 5, none⟩ = some b5) (hb : Below W.heap.size W V) : (V.cell? ⟨g, 0, none⟩ = some a0 ∧ V.cell? ⟨g, 1, none⟩ = some a1 ∧ V.cell? ⟨g, 2, none⟩ = some a2 ∧ V.cell? ⟨g, 3, none⟩ = some a3 ∧ V.cell? ⟨g, 4, none⟩ = some a4 ∧ V.cell? ⟨g, 5, none⟩ = some a5) ∧ V.cell? ⟨h, 0, none⟩ = some b0 ∧ V.cell? ⟨h, 1, none⟩ = some b1 ∧ V.cell? ⟨h, 2, none⟩ = some b2 ∧ V.cell? ⟨h, 3, none⟩ = some b3 ∧ V.cell? ⟨h, 4, none⟩ = some b4 ∧ V.cell? ⟨h, 5, none⟩ = some b5 := ⟨box6_keep hs.1 hb, box6_keep hs.2 hb⟩
def Q3n (W : World) (B : Nat) (a0 a1 a2 a3 a4 a5 b0 b1 b2 b3 b4 b5 c0 c1 : Value) : Prop := Box6 W B a0 a1 a2 a3 a4 a5 ∧ Box6 W (B + 1) b0 b1 b2 b3 b4 b5 ∧ Box W (B + 2) c0 c1
theorem Q3n.new (w : World) (a0 a1 a2 a3 a4 a5 b0 b1 b2 b3 b4 b5 c0 c1 : Value) (t u : TypeId) : Q3n (((w.alloc (.cells #[a0, a1, a2, a3, a4, a5] t)).alloc (.cells #[b0, b1, b2, b3, b4, b5] t)).alloc (.cells #[c0, c1] u)) w.heap.size a0 a1 a2 a3 a4 a5 b0 b1 b2 b3 b4 b5 c0 c1 ∧ Below w.heap.size w (((w.alloc (.cells #[a0, a1, a2, a3, a4, a5] t)).alloc (.cells #[b0, b1, b2, b3, b4, b5] t)).alloc (.cells #[c0, c1] u)) := by
  have k1 : Below w.heap.size w (w.alloc (.cells #[a0, a1, a2, a3, a4, a5] t)) := (Below.refl _ _).alloc (Nat.le_refl _) _
  have k2 : Below w.heap.size w ((w.alloc (.cells #[a0, a1, a2, a3, a4, a5] t)).alloc (.cells #[b0, b1, b2, b3, b4, b5] t)) := k1.alloc k1.size _
  have b0' := ((Box6.new w a0 a1 a2 a3 a4 a5 t).alloc (.cells #[b0, b1, b2, b3, b4, b5] t)).alloc (.cells #[c0, c1] u)
  have b1' := (Box6.new (w.alloc (.cells #[a0, a1, a2, a3, a4, a5] t)) b0 b1 b2 b3 b4 b5 t).alloc (.cells #[c0, c1] u)
  simp only [World.size_alloc] at b1'
  have b2' := Box.new ((w.alloc (.cells #[a0, a1, a2, a3, a4, a5] t)).alloc (.cells #[b0, b1, b2, b3, b4, b5] t)) c0 c1 u
  simp only [World.size_alloc] at b2'
  exact ⟨⟨b0', b1', b2'⟩, k2.alloc k2.size _⟩
theorem Q3n.below {W V : World} {B : Nat} {a0 a1 a2 a3 a4 a5 b0 b1 b2 b3 b4 b5 c0 c1 : Value} (h : Q3n W B a0 a1 a2 a3 a4 a5 b0 b1 b2 b3 b4 b5 c0 c1) (hb : Below W.heap.size W V) : Q3n V B a0 a1 a2 a3 a4 a5 b0 b1 b2 b3 b4 b5 c0 c1 := ⟨h.1.below hb, h.2.1.below hb, h.2.2.below hb⟩

end Go.Proofs.Ytennphechbngcaa
