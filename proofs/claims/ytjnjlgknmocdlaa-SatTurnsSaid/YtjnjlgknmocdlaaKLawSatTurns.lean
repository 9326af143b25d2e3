/-
  facetroomlaw19.SatTurns, walked. No conditions.
-/
import Derived.Test.YtjnjlgknmocdlaaKSatS
import Derived.Test.YtjnjlgknmocdlaaKSatR
namespace Go.Proofs.Ytjnjlgknmocdlaa
open Go.RowKit
set_option linter.unusedVariables false
set_option linter.unusedSimpArgs false

theorem maskN_bit2 (z : Nat → Bool) : ∀ (n i : Nat), i < n → bitB (maskN z n) i = z i := by
  intro n
  induction n with
  | zero => intro i hi; omega
  | succ n ih =>
    intro i hi
    have hl := maskN_lt z n
    by_cases h : i < n
    · rw [← ih i h, maskN]
      split
      · rw [bitB_test, bitB_test, ← or_pow hl, Nat.testBit_or, Nat.testBit_two_pow_of_ne (by omega), Bool.or_false]
      · rw [Nat.add_zero]
    · obtain rfl : i = n := by omega
      rw [maskN]
      cases hz : z i
      · rw [if_neg (by simp), Nat.add_zero, bitB_test]
        exact Nat.testBit_lt_two_pow hl
      · rw [if_pos rfl, bitB_test, ← or_pow hl, Nat.testBit_or, Nat.testBit_two_pow_self, Bool.or_true]
theorem colK_mask (ms : List Nat) (i k : Nat) : colK ms i k = maskN (fun j => bitB (ms.getD j 0) i) k := by
  induction k with
  | zero => rfl
  | succ k ih => rw [colK, maskN, ih]
theorem maskN_congr2 {f g : Nat → Bool} {n : Nat} (h : ∀ i, i < n → f i = g i) : maskN f n = maskN g n := by
  induction n with
  | zero => rfl
  | succ n ih => rw [maskN, maskN, ih fun i hi => h i (by omega), h n (by omega)]
theorem maskN_self {m n : Nat} (hm : m < 18446744073709551616) (hf : fitB m n = true) : maskN (fun i => bitB m i) n = m := by
  refine Nat.eq_of_testBit_eq fun i => ?_
  rw [← bitB_test, ← bitB_test]
  by_cases h : i < n
  · exact maskN_bit2 _ n i h
  · have h1 : bitB (maskN (fun i => bitB m i) n) i = false := by
      rw [bitB_test]
      exact Nat.testBit_lt_two_pow (Nat.lt_of_lt_of_le (maskN_lt _ n) (Nat.pow_le_pow_right (by omega) (by omega)))
    rw [h1]
    by_cases h64 : i < 64
    · cases hb : bitB m i
      · rfl
      · have := fitB_iff.1 hf i h64 hb
        omega
    · rw [bitB_over hm (by omega)]
theorem turnE_zero {ms : List Nat} {n : Int} (h : turnE ms n = 0) : ms.length ≤ 64 ∧ 0 ≤ n ∧ n ≤ 64 ∧ ∀ m ∈ ms, fitB m n.toNat = true := by
  unfold turnE at h
  split at h
  · split at h
    · rename_i h2
      split at h
      · rename_i h3
        exact ⟨h2.2.2, h2.1, h2.2.1, List.all_eq_true.1 h3⟩
      · cases h
    · cases h
  · cases h
/-- Turned twice: as they were. -/
theorem turn_twice {ms : List Nat} {n : Int} (hs : Small ms) (h : turnE ms n = 0) : turnE (turnL ms n) ms.length = 0 ∧ turnL (turnL ms n) ms.length = ms ∧ ((turnL ms n).length : Int) = n := by
  obtain ⟨h1, h2, h3, h4⟩ := turnE_zero h
  obtain ⟨k, rfl⟩ : ∃ k : Nat, n = (k : Int) := ⟨n.toNat, by omega⟩
  rw [Int.toNat_natCast] at h4
  rw [turnL_yes h]
  have hE : turnE (colsN ms k ms.length) (ms.length : Int) = 0 := turnE_good (by rw [colsN_len]; omega) h1 fun m hm => by
    unfold colsN at hm
    obtain ⟨i, _, rfl⟩ := List.mem_map.1 hm
    refine fitB_iff.2 fun j hj hb => Classical.byContradiction fun hn => ?_
    have h5 : bitB (colK ms i ms.length) j = false := by
      rw [bitB_test]
      exact Nat.testBit_lt_two_pow (Nat.lt_of_lt_of_le (colK_lt ms i ms.length) (Nat.pow_le_pow_right (by omega) (by omega)))
    rw [h5] at hb
    cases hb
  refine ⟨hE, ?_, by rw [colsN_len]⟩
  rw [turnL_yes hE, colsN_len]
  apply List.ext_getElem (by rw [colsN_len])
  intro j g1 g2
  have e1 : (colsN (colsN ms k ms.length) ms.length k)[j] = colK (colsN ms k ms.length) j k := by simp [colsN]
  rw [e1, colK_mask]
  have e2 : maskN (fun i => bitB ((colsN ms k ms.length).getD i 0) j) k = maskN (fun i => bitB ms[j] i) k := maskN_congr2 fun i hi => by
    have e3 : (colsN ms k ms.length).getD i 0 = colK ms i ms.length := by simp [colsN, List.getD, hi]
    have e4 : ms.getD j 0 = ms[j] := by simp [List.getD, g2]
    show bitB ((colsN ms k ms.length).getD i 0) j = bitB ms[j] i
    rw [e3, colK_mask, maskN_bit2 _ _ _ g2]
    show bitB (ms.getD j 0) i = _
    rw [e4]
  rw [e2]
  exact maskN_self (hs.get g2) (h4 _ (List.getElem_mem g2))

set_option maxRecDepth 100000 in
set_option maxHeartbeats 4000000 in
theorem lawSatTurns {w : World} {v : Value} {ms : List Nat} {n : Int} (hm : IsU w old v ms) (hn : -9223372036854775808 ≤ n ∧ n ≤ 9223372036854775807) :
    Calls Try.prog 9 #[v, .int .i64 n] w fun e w' => e = .returned (.bool true) ∧ Below w.heap.size w w' := by
  obtain ⟨A, c, rfl, hu⟩ := hm
  have hlen := hu.len
  have HA := Lib.hid (alive19 w)
  by_cases h64 : ms.length ≤ 64
  · have m0 : decide ((64 : Int) < (ms.length : Int)) = false := decide_eq_false (by omega)
    have HU : Hid (∀ w1, Below w.heap.size w w1 → IsU w1 old (.slice A ms.length c) ms) := fun w1 h => ⟨A, c, rfl, hu.below h⟩
    have hsm := hu.small
    by_cases hE : turnE ms n = 0
    · obtain ⟨t1, t2, t3⟩ := turn_twice hsm hE
      have HE := Lib.hid hE
      have HT : Hid (∀ (w1 : World) (u : Value), IsU w1 old u (turnL ms n) → Calls Try.prog 17 #[u, .int .i64 (ms.length : Int)] w1 fun e w' => ∃ x, e = .returned (.tuple #[x, .int .i64 0]) ∧ IsU w' old x ms ∧ Below w1.heap.size w1 w') := fun w1 u h => by
        have h5 := satturn_any (n := (ms.length : Int)) h (by omega)
        rw [t1, t2] at h5
        exact h5
      have tl : (((turnL ms n).length : Int) == n) = true := beq_iff_eq.2 t3
      clear t1 t2 hE hu
      have HN : Hid (∀ w1, Below w.heap.size w w1 → Calls Try.prog 17 #[.slice A ms.length c, .int .i64 n] w1 fun e w' => ∃ As cs, e = .returned (.tuple #[.slice As (turnL ms n).length cs, .int .i64 0]) ∧ IsU w' old (.slice As (turnL ms n).length cs) (turnL ms n) ∧ Below w1.heap.size w1 w') := fun w1 h => by
        have h5 := satturn_any (HU.out w1 h) hn
        rw [HE.out] at h5
        refine h5.mono ?_
        rintro e w' ⟨u, rfl, ⟨As, cs, rfl, hq⟩, hb⟩
        exact ⟨As, cs, rfl, ⟨As, cs, rfl, hq⟩, hb⟩
      have T3 := Lib.hid t3
      clear t3
      generalize hLn : (turnL ms n).length = Ln at *
      clear hLn
      go_enter Try.func9, Try.ntmps9
      go_wp2_with fail
      refine HA.out.mono ?_
      rintro e w1 ⟨rfl, hB⟩
      go_wp2_with fail
      refine (HN.out _ hB).mono ?_
      rintro e w2 ⟨As, cs, rfl, ia, hb⟩
      replace hB := from_ hB hb
      clear hb
      go_wp2_with fail
      refine (HT.out _ _ ia).mono ?_
      rintro e w3 ⟨x, rfl, ix, hb⟩
      replace hB := from_ hB hb
      clear hb
      have D := Lib.hid (words_dec ix (HU.out _ hB))
      rw [decide_eq_true (rfl : ms = ms)] at D
      clear ia ix
      go_wp2_with fail
      refine D.out.mono ?_
      rintro e w4 ⟨rfl, hb⟩
      go_wp2
      go_ret
      exact ⟨by first | rfl | trivial, from_ hB hb⟩
    · have t0 : (turnE ms n != 0) = true := by simp [hE]
      have hL : turnL ms n = [] := turnL_no hE
      have HN : Hid (∀ w1, Below w.heap.size w w1 → Calls Try.prog 17 #[.slice A ms.length c, .int .i64 n] w1 fun e w' => ∃ As cs, e = .returned (.tuple #[.slice As 0 cs, .int .i64 (turnE ms n)]) ∧ Below w1.heap.size w1 w') := fun w1 h => by
        have h5 := satturn_any (HU.out w1 h) hn
        rw [hL] at h5
        refine h5.mono ?_
        rintro e w' ⟨u, rfl, ⟨As, cs, rfl, hq⟩, hb⟩
        exact ⟨As, cs, rfl, hb⟩
      clear hE hL hu HU
      generalize turnE ms n = E at *
      generalize ms.length = L at *
      go_enter Try.func9, Try.ntmps9
      go_wp2_with fail
      refine HA.out.mono ?_
      rintro e w1 ⟨rfl, hB⟩
      go_wp2_with fail
      refine (HN.out _ hB).mono ?_
      rintro e w2 ⟨As, cs, rfl, hb⟩
      replace hB := from_ hB hb
      clear hb
      go_wp2
      go_ret
      exact ⟨by first | rfl | trivial, hB⟩
  · have m0 : decide ((64 : Int) < (ms.length : Int)) = true := decide_eq_true (by omega)
    clear hu
    generalize ms.length = L at *
    go_enter Try.func9, Try.ntmps9
    go_wp2_with fail
    refine HA.out.mono ?_
    rintro e w1 ⟨rfl, hB⟩
    go_wp2
    go_ret
    exact ⟨by first | rfl | trivial, hB⟩

end Go.Proofs.Ytjnjlgknmocdlaa
