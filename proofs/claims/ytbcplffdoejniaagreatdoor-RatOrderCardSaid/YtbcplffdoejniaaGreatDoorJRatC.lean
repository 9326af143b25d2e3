/-
  The document's own answer, layer 3: Over (the quotient and what is left over, bit by bit). No conditions but bounds on lengths, and that the second number is not 0.
  The document's own answer, layer 3: Div and Exact at any words. No conditions but bounds on lengths.
  The document's own answer, layer 4: Common, Gcd and Lcm. No conditions but bounds on lengths.
  Common divisors: gcd.Lcm, and the document's Gcd and Lcm, at any words. No conditions but bounds on lengths.
  Fractions: the document's Low and Same. No conditions but bounds on lengths.
-/
import Derived.Deep.RegionHeld3
import Derived.Test.YtbcplffdoejniaaGreatDoorJRefI
import Derived.Test.YtbcplffdoejniaaGreatDoorJRefO
import Derived.Test.YtbcplffdoejniaaGreatDoorJWhJ
import Derived.Test.YtbcplffdoejniaaGreatDoorJWhK
import Derived.Test.YtbcplffdoejniaaGreatDoorJRatB
import Derived.Test.YtbcplffdoejniaaGreatDoorJRefM
namespace Go.Proofs.YtbcplffdoejniaaGreatDoor
open Go.RowKit
set_option linter.unusedVariables false
set_option linter.unusedSimpArgs false

theorem set_bit (i d : Nat) (hi : List Nat) : (List.replicate (i + 1) 0 ++ hi).set i d = List.replicate i 0 ++ d :: hi := by
  rw [List.replicate_succ', List.append_assoc, List.set_append_right _ _ (by simp)]
  simp
theorem no_bit (i : Nat) (hi : List Nat) : List.replicate (i + 1) 0 ++ hi = List.replicate i 0 ++ 0 :: hi := by
  rw [List.replicate_succ', List.append_assoc]
  rfl

theorem over_step {m n i q r x : Nat} (hn : 0 < n) (hr : m / 2 ^ (i + 1) % n = r) (hq : m / 2 ^ (i + 1) / n = q) (hx : m / 2 ^ i % 2 = x) :
    (n ≤ r * 2 ^ 1 + x → m / 2 ^ i % n = r * 2 ^ 1 + x - n ∧ m / 2 ^ i / n = 2 * q + 1) ∧ (r * 2 ^ 1 + x < n → m / 2 ^ i % n = r * 2 ^ 1 + x ∧ m / 2 ^ i / n = 2 * q) := by
  have h1 : m / 2 ^ (i + 1) = m / 2 ^ i / 2 := by rw [Nat.pow_succ, Nat.div_div_eq_div_mul]
  rw [h1] at hr hq
  generalize m / 2 ^ i = M at *
  have h2 := Nat.div_add_mod (M / 2) n
  have h3 := Nat.mod_lt (M / 2) hn
  rw [hr] at h2 h3
  rw [hq] at h2
  have h4 : M = n * (2 * q) + (r * 2 ^ 1 + x) := by
    rw [show n * (2 * q) = 2 * (n * q) by rw [Nat.mul_left_comm]]
    omega
  constructor
  · intro h
    have h5 : M = (r * 2 ^ 1 + x - n) + n * (2 * q + 1) := by rw [Nat.mul_add]; omega
    have h6 : r * 2 ^ 1 + x - n < n := by omega
    rw [h5]
    exact ⟨by rw [Nat.add_mul_mod_self_left]; exact Nat.mod_eq_of_lt h6, by rw [Nat.add_mul_div_left _ _ hn, Nat.div_eq_of_lt h6, Nat.zero_add]⟩
  · intro h
    have h5 : M = (r * 2 ^ 1 + x) + n * (2 * q) := by omega
    rw [h5]
    exact ⟨by rw [Nat.add_mul_mod_self_left]; exact Nat.mod_eq_of_lt h, by rw [Nat.add_mul_div_left _ _ hn, Nat.div_eq_of_lt h, Nat.zero_add]⟩

end Go.Proofs.YtbcplffdoejniaaGreatDoor

namespace Go.Proofs.YtbcplffdoejniaaGreatDoor
open Go.RowKit
set_option linter.unusedVariables false
set_option linter.unusedSimpArgs false

end Go.Proofs.YtbcplffdoejniaaGreatDoor

namespace Go.Proofs.YtbcplffdoejniaaGreatDoor
open Go.RowKit
set_option linter.unusedVariables false
set_option linter.unusedSimpArgs false

end Go.Proofs.YtbcplffdoejniaaGreatDoor

namespace Go.Proofs.YtbcplffdoejniaaGreatDoor
open Go.RowKit
set_option linter.unusedVariables false
set_option linter.unusedSimpArgs false

theorem lcm_quot {m n : Nat} (hm : m ≠ 0) : m / Nat.gcd m n * n = Nat.lcm m n ∧ m % Nat.gcd m n = 0 := by
  have h1 := Nat.gcd_dvd_left m n
  refine ⟨?_, Nat.mod_eq_zero_of_dvd h1⟩
  unfold Nat.lcm
  rw [Nat.mul_comm, ← Nat.mul_div_assoc _ h1, Nat.mul_comm]

theorem len_gcdN (g x : Nat) : (limbs (Nat.gcd g x)).length ≤ max (limbs g).length (limbs x).length := by
  rcases Nat.eq_zero_or_pos g with rfl | h
  · rw [Nat.gcd_zero_left]
    omega
  · have := len_mono (Nat.le_of_dvd h (Nat.gcd_dvd_left g x))
    omega

end Go.Proofs.YtbcplffdoejniaaGreatDoor

namespace Go.Proofs.YtbcplffdoejniaaGreatDoor
open Go.RowKit
set_option linter.unusedVariables false
set_option linter.unusedSimpArgs false

set_option maxRecDepth 100000 in
set_option maxHeartbeats 2000000 in
theorem same6_yes {w : World} {Z1 Z2 Z3 Z4 : Zone} {s : Bool} {l k : List Nat} {A B C D : Option Addr} {a b c d : Nat} (u1 : U64s w Z1 A a l) (u2 : U64s w Z2 B b k) (u3 : U64s w Z3 C c l) (u4 : U64s w Z4 D d k) :
    Calls Tryz.prog 10 #[.agg #[.bool s, .slice A l.length a, .slice B k.length b], .agg #[.bool s, .slice C l.length c, .slice D k.length d]] w fun e w' => e = .returned (.bool true) ∧ Below w.heap.size w w' := by
  have hB0 : Below w.heap.size w ((w.alloc (.cells #[.bool s, .slice A l.length a, .slice B k.length b] 28)).alloc (.cells #[.bool s, .slice C l.length c, .slice D k.length d] 28)) := ((Below.refl _ w).alloc (Nat.le_refl _) _).alloc (by simp) _
  have bA := (Box3.new w (.bool s) (.slice A l.length a) (.slice B k.length b) 28).alloc (.cells #[.bool s, .slice C l.length c, .slice D k.length d] 28)
  have bC := Box3.new (w.alloc (.cells #[.bool s, .slice A l.length a, .slice B k.length b] 28)) (.bool s) (.slice C l.length c) (.slice D k.length d) 28
  rw [show (w.alloc (.cells #[.bool s, .slice A l.length a, .slice B k.length b] 28)).heap.size = w.heap.size + 1 by simp] at bC
  have v1 := u1.below hB0
  have v2 := u2.below hB0
  have v3 := u3.below hB0
  have v4 := u4.below hB0
  have C0 := Lib.hid (same5_any (a := .agg #[.bool s, .slice A l.length a]) (b := .agg #[.bool s, .slice C l.length c]) ⟨_, rfl, A, a, rfl, v1⟩ ⟨_, rfl, C, c, rfl, v3⟩)
  have C1 := Lib.hid (fun (w1 : World) (h : Below w.heap.size w w1) => same_yes (l := k) (w := w1) ⟨B, b, rfl, u2.below h⟩ ⟨D, d, rfl, u4.below h⟩)
  rw [show decide (s = s ∧ l = l) = true by simp] at C0
  have Hal := Lib.hid hB0
  obtain ⟨a0, a1, a2, _, _, _, _⟩ := bA
  obtain ⟨c0, c1, c2, _, _, _, _⟩ := bC
  clear v1 v2 v3 v4 u1 u2 u3 u4 hB0
  generalize l.length = L at *
  generalize k.length = K at *
  go_enter Tryz.func10, Tryz.ntmps10
  go_wp2_with fail
  refine C0.out.mono ?_
  rintro e w1 ⟨rfl, hb1⟩
  replace a2 := keepC hb1 a2
  replace c2 := keepC hb1 c2
  have hB1 := from_ Hal.out hb1
  go_wp2_with fail
  refine (C1.out _ hB1).mono ?_
  rintro e w2 ⟨rfl, hb2⟩
  have hB2 := from_ hB1 hb2
  go_wp2
  go_ret
  exact ⟨by first | rfl | trivial, hB2⟩

end Go.Proofs.YtbcplffdoejniaaGreatDoor
