/-
  The document's own answer, layer 3: Over (the quotient and what is left over, bit by bit). No conditions but bounds on lengths, and that the second number is not 0.
  The document's own answer, layer 3: Div and Exact at any words. No conditions but bounds on lengths.
  The document's own answer, layer 4: Common, Gcd and Lcm. No conditions but bounds on lengths.
  Common divisors: gcd.Lcm, and the document's Gcd and Lcm, at any words. No conditions but bounds on lengths.
-/
import Derived.Deep.RegionHeld3
import Derived.Test.YtncnbcdppdkmcaaGreatDoorDRefI
import Derived.Test.YtncnbcdppdkmcaaGreatDoorDRefO
import Derived.Test.YtncnbcdppdkmcaaGreatDoorDVecB
import Derived.Test.YtncnbcdppdkmcaaGreatDoorDDivP
import Derived.Test.YtncnbcdppdkmcaaGreatDoorDGcdA
import Derived.Test.YtncnbcdppdkmcaaGreatDoorDRefM
namespace Go.Proofs.YtncnbcdppdkmcaaGreatDoor
open Go.RowKit
set_option linter.unusedVariables false
set_option linter.unusedSimpArgs false

theorem set_bit (i d : Nat) (hi : List Nat) : (List.replicate (i + 1) 0 ++ hi).set i d = List.replicate i 0 ++ d :: hi := by
  rw [List.replicate_succ', List.append_assoc, List.set_append_right _ _ (by simp)]
  simp
theorem no_bit (i : Nat) (hi : List Nat) : List.replicate (i + 1) 0 ++ hi = List.replicate i 0 ++ 0 :: hi := by
  rw [List.replicate_succ', List.append_assoc]
  rfl

theorem over_step {m n i q r x : Nat} (hn : 0 < n) (hr : m / 2 ^ (i + 1) % n = r) (hq : m / 2 ^ (i + 1) / n = q) (hx : m / 2 ^ i % 2 = x) :
    (n ≤ r * 2 ^ 1 + x → m / 2 ^ i % n = r * 2 ^ 1 + x - n ∧ m / 2 ^ i / n = 2 * q + 1) ∧ (r * 2 ^ 1 + x < n → m / 2 ^ i % n = r * 2 ^ 1 + x ∧ m / 2 ^ i / n = 2 * q) := by
  have h1 : m / 2 ^ (i + 1) = m / 2 ^ i / 2 := by rw [Nat.pow_succ, Nat.div_div_eq_div_mul]
  rw [h1] at hr hq
  generalize m / 2 ^ i = M at *
  have h2 := Nat.div_add_mod (M / 2) n
  have h3 := Nat.mod_lt (M / 2) hn
  rw [hr] at h2 h3
  rw [hq] at h2
  have h4 : M = n * (2 * q) + (r * 2 ^ 1 + x) := by
    rw [show n * (2 * q) = 2 * (n * q) by rw [Nat.mul_left_comm]]
    omega
  constructor
  · intro h
    have h5 : M = (r * 2 ^ 1 + x - n) + n * (2 * q + 1) := by rw [Nat.mul_add]; omega
    have h6 : r * 2 ^ 1 + x - n < n := by omega
    rw [h5]
    exact ⟨by rw [Nat.add_mul_mod_self_left]; exact Nat.mod_eq_of_lt h6, by rw [Nat.add_mul_div_left _ _ hn, Nat.div_eq_of_lt h6, Nat.zero_add]⟩
  · intro h
    have h5 : M = (r * 2 ^ 1 + x) + n * (2 * q) := by omega
    rw [h5]
    exact ⟨by rw [Nat.add_mul_mod_self_left]; exact Nat.mod_eq_of_lt h, by rw [Nat.add_mul_div_left _ _ hn, Nat.div_eq_of_lt h, Nat.zero_add]⟩

end Go.Proofs.YtncnbcdppdkmcaaGreatDoor

namespace Go.Proofs.YtncnbcdppdkmcaaGreatDoor
open Go.RowKit
set_option linter.unusedVariables false
set_option linter.unusedSimpArgs false

end Go.Proofs.YtncnbcdppdkmcaaGreatDoor

namespace Go.Proofs.YtncnbcdppdkmcaaGreatDoor
open Go.RowKit
set_option linter.unusedVariables false
set_option linter.unusedSimpArgs false

end Go.Proofs.YtncnbcdppdkmcaaGreatDoor

namespace Go.Proofs.YtncnbcdppdkmcaaGreatDoor
open Go.RowKit
set_option linter.unusedVariables false
set_option linter.unusedSimpArgs false

theorem lcm_quot {m n : Nat} (hm : m ≠ 0) : m / Nat.gcd m n * n = Nat.lcm m n ∧ m % Nat.gcd m n = 0 := by
  have h1 := Nat.gcd_dvd_left m n
  refine ⟨?_, Nat.mod_eq_zero_of_dvd h1⟩
  unfold Nat.lcm
  rw [Nat.mul_comm, ← Nat.mul_div_assoc _ h1, Nat.mul_comm]

theorem len_gcdN (g x : Nat) : (limbs (Nat.gcd g x)).length ≤ max (limbs g).length (limbs x).length := by
  rcases Nat.eq_zero_or_pos g with rfl | h
  · rw [Nat.gcd_zero_left]
    omega
  · have := len_mono (Nat.le_of_dvd h (Nat.gcd_dvd_left g x))
    omega

set_option maxRecDepth 100000 in
set_option maxHeartbeats 1000000 in
theorem lcm_good {w : World} {Z Y : Zone} {a b : Value} {m n : Nat} (ha : IsN w Z a m) (hb : IsN w Y b n) (hl : (limbs m).length ≤ 20000) (hl2 : (limbs n).length ≤ 20000) :
    Calls Tryz.prog 51 #[a, b] w fun e w' => ∃ v, e = .returned (.tuple #[v, .int .i64 0]) ∧ IsN w' (new w.heap.size) v (Nat.lcm m n) ∧ Below w.heap.size w w' := by
  have hgc := gcd_good ha hb hl hl2
  have Hgc := Lib.hid hgc
  have Ia := Lib.hid ha.old
  have Ib := Lib.hid hb.old
  have e0 : limbs 0 = [] := limbs_eq_nil.2 rfl
  by_cases hm : m = 0
  · have hL : Nat.lcm m n = 0 := by rw [hm, Nat.lcm_zero_left]
    have HL := Lib.hid hL
    obtain ⟨A, ca, rfl, hua⟩ := ha
    obtain ⟨B, cb, rfl, hub⟩ := hb
    have hlen : (limbs m).length = 0 := by rw [hm, e0]; rfl
    rw [hlen] at Hgc Ia ⊢
    clear hua hub hgc hL hlen hm
    generalize (limbs n).length = K at *
    go_enter Tryz.func51, Tryz.ntmps51
    go_wp2_with fail
    refine Hgc.out.mono ?_
    rintro e w1 ⟨g, rfl, _, hb1⟩
    go_wp2
    go_ret2
    exact ⟨.slice none 0 0, rfl, by rw [HL.out]; exact IsN.zero _ _, hb1⟩
  by_cases hn : n = 0
  · have hL : Nat.lcm m n = 0 := by rw [hn, Nat.lcm_zero_right]
    have HL := Lib.hid hL
    have hpos : 0 < (limbs m).length := len_pos.2 hm
    obtain ⟨A, ca, rfl, hua⟩ := ha
    obtain ⟨B, cb, rfl, hub⟩ := hb
    have hlen : (limbs n).length = 0 := by rw [hn, e0]; rfl
    rw [hlen] at Hgc Ib ⊢
    clear hua hub hgc hL hlen hn hm
    generalize (limbs m).length = L at *
    have z1 : ((L : Int) == 0) = false := beq_eq_false_iff_ne.2 (by omega)
    go_enter Tryz.func51, Tryz.ntmps51
    go_wp2_with fail
    refine Hgc.out.mono ?_
    rintro e w1 ⟨g, rfl, _, hb1⟩
    go_wp2
    go_ret2
    exact ⟨.slice none 0 0, rfl, by rw [HL.out]; exact IsN.zero _ _, hb1⟩
  · obtain ⟨q1, q2⟩ := lcm_quot (n := n) hm
    have hg0 : 0 < Nat.gcd m n := Nat.gcd_pos_of_pos_left _ (by omega)
    have hmq : m = m / Nat.gcd m n * Nat.gcd m n := by
      have := Nat.div_add_mod m (Nat.gcd m n)
      rw [q2, Nat.add_zero, Nat.mul_comm] at this
      exact this.symm
    have hex := fun (w1 : World) (v : Value) (h : Below w.heap.size w w1) (hv : IsN w1 (new w.heap.size) v (Nat.gcd m n)) => dexact_mul (m := m / Nat.gcd m n) (by rw [← hmq]; exact ha.below h) hv hg0 (by rw [← hmq]; exact hl)
    have hml := fun (w1 : World) (Z : Zone) (v : Value) (h : Below w.heap.size w w1) (hv : IsN w1 Z v (m / Nat.gcd m n)) => mul_good hv (hb.below h) (Nat.le_trans (len_div _ _) (show (limbs m).length ≤ 100000 by omega)) (show (limbs n).length ≤ 100000 by omega)
    have Hex := Lib.hid hex
    have Hml := Lib.hid hml
    have Hq1 := Lib.hid q1
    have hposm : 0 < (limbs m).length := len_pos.2 hm
    have hposn : 0 < (limbs n).length := len_pos.2 hn
    obtain ⟨A, ca, rfl, hua⟩ := ha
    obtain ⟨B, cb, rfl, hub⟩ := hb
    have z1 : (((limbs m).length : Int) == 0) = false := beq_eq_false_iff_ne.2 (by omega)
    have z2 : (((limbs n).length : Int) == 0) = false := beq_eq_false_iff_ne.2 (by omega)
    clear hua hub hgc hex hml q1 q2 hmq hm hn
    generalize (limbs m).length = L at *
    generalize (limbs n).length = K at *
    go_enter Tryz.func51, Tryz.ntmps51
    go_wp2_with fail
    refine Hgc.out.mono ?_
    rintro e w1 ⟨g, rfl, hg, hb1⟩
    go_wp2_with fail
    refine (Hex.out _ _ hb1 hg).mono ?_
    rintro e w2 ⟨q, rfl, hq, hb2⟩
    have hB2 := from_ hb1 hb2
    go_wp2_with fail
    refine (Hml.out _ _ _ hB2 hq).mono ?_
    rintro e w3 ⟨v, rfl, hv, hb3⟩
    rw [Hq1.out] at hv
    have HV := Lib.hid (hv.mono (Y := new w.heap.size) (new_le hB2.size))
    have hB3 := from_ hB2 hb3
    clear hv hq hg
    go_wp2
    go_ret2
    exact ⟨_, rfl, HV.out, hB3⟩

set_option maxRecDepth 100000 in
set_option maxHeartbeats 1000000 in
theorem lcm_bad {w : World} {Z Y : Zone} {a b : Value} {la lb : List Nat} (ha : IsU w Z a la) (hb : IsU w Y b lb) (hg : ¬ (good la = true ∧ good lb = true)) :
    Calls Tryz.prog 51 #[a, b] w fun e w' => e = .returned (.tuple #[.slice none 0 0, .int .i64 8]) ∧ Below w.heap.size w w' := by
  have Hgc := Lib.hid (gcd_bad ha hb hg)
  obtain ⟨A, ca, rfl, hua⟩ := ha
  obtain ⟨B, cb, rfl, hub⟩ := hb
  clear hua hub hg
  generalize la.length = L at *
  generalize lb.length = K at *
  go_enter Tryz.func51, Tryz.ntmps51
  go_wp2_with fail
  refine Hgc.out.mono ?_
  rintro e w1 ⟨rfl, hb1⟩
  go_wp2
  go_ret2
  exact ⟨rfl, hb1⟩

theorem lcm_all {w : World} {Z Y : Zone} {a b : Value} {la lb : List Nat} (ha : IsU w Z a la) (hb : IsU w Y b lb) (hl : la.length ≤ 20000) (hl2 : lb.length ≤ 20000) :
    Calls Tryz.prog 51 #[a, b] w fun e w' => ∃ v, e = .returned (.tuple #[v, .int .i64 (err2 la lb)]) ∧ IsU w' (new w.heap.size) v (lcmL la lb) ∧ Below w.heap.size w w' := by
  by_cases hg : good la = true ∧ good lb = true
  · have q1 : (limbs (val la)).length ≤ 20000 := by rw [limbs_val la ha.small hg.1]; exact hl
    have q2 : (limbs (val lb)).length ≤ 20000 := by rw [limbs_val lb hb.small hg.2]; exact hl2
    refine (lcm_good (ha.num hg.1) (hb.num hg.2) q1 q2).mono ?_
    rintro e w' ⟨v, rfl, hv, hb⟩
    exact ⟨v, by simp only [err2, hg, and_self, if_true], by unfold IsN at hv; unfold lcmL; rw [if_pos hg]; exact hv, hb⟩
  · refine (lcm_bad ha hb hg).mono ?_
    rintro e w' ⟨rfl, hb⟩
    exact ⟨.slice none 0 0, by simp only [err2, hg, if_false], by unfold lcmL; rw [if_neg hg]; exact IsU.nil _ _, hb⟩

end Go.Proofs.YtncnbcdppdkmcaaGreatDoor
