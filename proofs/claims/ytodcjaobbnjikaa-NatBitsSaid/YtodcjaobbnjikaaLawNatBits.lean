/-
  The walk of NatBits. No conditions.
-/
import Derived.Test.YtodcjaobbnjikaaNatH
namespace Go.Proofs.Ytodcjaobbnjikaa
open Go.RowKit
set_option linter.unusedVariables false
set_option linter.unusedSimpArgs false

set_option maxRecDepth 100000 in
set_option maxHeartbeats 2000000 in
theorem lawNatBits {w : World} {a : Value} {la : List Nat} {bits : Int} (ha : IsU w old a la) (hbits : -9223372036854775808 ≤ bits ∧ bits ≤ 9223372036854775807) :
    Calls Try.prog 11 #[a, .int .i64 bits] w fun e w' => e = .returned (.bool true) ∧ Below w.heap.size w w' := by
  obtain ⟨A, ca, rfl, ha⟩ := ha
  have hla := ha.len
  have ua : IsU w old (.slice A la.length ca) la := ⟨A, ca, rfl, ha⟩
  clear ha
  have hcase : (100 < (la.length : Int)) ∨ (decide (100 < (la.length : Int)) = false ∧ bits < 0) ∨ (decide (100 < (la.length : Int)) = false ∧ decide (bits < 0) = false ∧ 2000 < bits) ∨ (la.length ≤ 100 ∧ ∃ b : Nat, bits = b ∧ b ≤ 2000) := by
    by_cases h1 : la.length ≤ 100
    · by_cases h2 : bits < 0
      · exact .inr (.inl ⟨by simp; omega, h2⟩)
      · by_cases h3 : 2000 < bits
        · exact .inr (.inr (.inl ⟨by simp; omega, by simp; omega, h3⟩))
        · exact .inr (.inr (.inr ⟨h1, bits.toNat, by omega, by omega⟩))
    · exact .inl (by omega)
  rcases hcase with t1 | ⟨t1, t2⟩ | ⟨t1, t2, t3⟩ | ⟨h1, b, rfl, hb2⟩
  · go_enter Try.func11, Try.ntmps11
    go_wp2_with fail
    refine (alive1 _).mono ?_
    rintro e w1 ⟨rfl, hb⟩
    have hs : Below w.heap.size w w1 := step (by first | exact Below.refl _ _ | go_grown) hb
    have hB := hs
    clear hb hs
    go_wp2
    go_ret
    exact ⟨rfl, hB⟩
  · go_enter Try.func11, Try.ntmps11
    go_wp2_with fail
    refine (alive1 _).mono ?_
    rintro e w1 ⟨rfl, hb⟩
    have hs : Below w.heap.size w w1 := step (by first | exact Below.refl _ _ | go_grown) hb
    have hB := hs
    clear hb hs
    go_wp2
    go_ret
    exact ⟨rfl, hB⟩
  · go_enter Try.func11, Try.ntmps11
    go_wp2_with fail
    refine (alive1 _).mono ?_
    rintro e w1 ⟨rfl, hb⟩
    have hs : Below w.heap.size w w1 := step (by first | exact Below.refl _ _ | go_grown) hb
    have hB := hs
    clear hb hs
    go_wp2
    go_ret
    exact ⟨rfl, hB⟩
  · have t1 : decide ((100 : Int) < (la.length : Int)) = false := by simp; omega
    have t2 : decide ((b : Int) < 0) = false := by simp
    have t3 : decide ((2000 : Int) < (b : Int)) = false := by simp; omega
    rcases ua.decN with ⟨ga, na, ea⟩ | ga
    · have ka : (limbs (val la)).length ≤ 100 := by omega
      clear ea ga ua
      have s1 := len_shift (val la) b
      have s2 := len_shift (val la) 1
      have s3 := len_div (val la) (2 ^ b)
      have s4 := len_shift (val la / 2 ^ b) b
      have p2 : 0 < 2 ^ b := Nat.pow_pos (by omega)
      have m1 : val la / 2 ^ b * 2 ^ b ≤ val la := Nat.div_mul_le_self _ _
      have m2 : size (val la - val la / 2 ^ b * 2 ^ b) ≤ b := size_le_of (by
        have h1 := Nat.div_add_mod (val la) (2 ^ b)
        have h2 := Nat.mod_lt (val la) p2
        rw [Nat.mul_comm] at h1
        omega)
      have s5 : (limbs (val la - val la / 2 ^ b * 2 ^ b)).length ≤ 100 := Nat.le_trans (len_mono (Nat.sub_le _ _)) (by omega)
      have q1 := Lib.hid (show val la * 2 ^ b / 2 ^ b = val la from Nat.mul_div_cancel _ p2)
      have q2 := Lib.hid (show val la * 2 ^ 1 = val la + val la by omega)
      have q3 := size_shift (val la) b
      have q4 := size_eq_zero (n := val la)
      have q5 : val la = 0 → size (val la * 2 ^ b) = 0 := fun h => by rw [h, Nat.zero_mul]; rfl
      generalize hrest : val la - val la / 2 ^ b * 2 ^ b = rest at *
      generalize hup : val la * 2 ^ b = up at *
      generalize hdown : val la / 2 ^ b = down at *
      have Hrest := Lib.hid hrest
      have Hup := Lib.hid hup
      have Hdown := Lib.hid hdown
      have z1 := size_len (val la)
      have hsz : (decide (0 < size (val la)) = false ∧ (size (val la) : Int) = size up) ∨ (0 < size (val la) ∧ (size (val la) : Int) + b = size up) := by
        by_cases h0 : val la = 0
        · left
          have := q4.2 h0
          have := q5 h0
          exact ⟨by simp; omega, by omega⟩
        · right
          have h2 := q3 h0
          have h3 : size (val la) ≠ 0 := fun e => h0 (q4.1 e)
          exact ⟨by omega, by omega⟩
      have Hsz := Lib.hid hsz
      clear hrest hup hdown q3 q4 q5 hsz
      go_enter Try.func11, Try.ntmps11
      go_wp2_with fail
      refine (alive1 _).mono ?_
      rintro e w1 ⟨rfl, hb⟩
      have hs : Below w.heap.size w w1 := step (by first | exact Below.refl _ _ | go_grown) hb
      replace na := na.below hs
      have hB := hs
      clear hb hs
      go_wp2_with fail
      refine (up_good (na.below (by first | exact Below.refl _ _ | go_grown)) (by omega) (by omega)).mono ?_
      rintro e w2 ⟨up', rfl, hup, hb⟩
      have hs : Below w1.heap.size w1 w2 := step (by first | exact Below.refl _ _ | go_grown) hb
      replace na := na.below hs
      replace hB := from_ hB hs
      clear hb hs
      rw [Hup.out] at hup
      go_wp2_with fail
      refine (down_good (hup.below (by first | exact Below.refl _ _ | go_grown)) (by omega) (by omega)).mono ?_
      rintro e w3 ⟨back, rfl, hback, hb⟩
      have hs : Below w2.heap.size w2 w3 := step (by first | exact Below.refl _ _ | go_grown) hb
      replace na := na.below hs
      replace hup := hup.below hs
      replace hB := from_ hB hs
      clear hb hs
      rw [q1.out] at hback
      go_wp2_with fail
      refine (long_good (na.below (by first | exact Below.refl _ _ | go_grown)) (by omega)).mono ?_
      rintro e _ ⟨rfl, rfl⟩
      go_wp2_with fail
      refine (long_good (hup.below (by first | exact Below.refl _ _ | go_grown)) (by omega)).mono ?_
      rintro e _ ⟨rfl, rfl⟩
      go_wp2_with fail
      refine (up_good (b := 1) (na.below (by first | exact Below.refl _ _ | go_grown)) (by omega) (by omega)).mono ?_
      rintro e w4 ⟨twice, rfl, htwice, hb⟩
      have hs : Below w3.heap.size w3 w4 := step (by first | exact Below.refl _ _ | go_grown) hb
      replace na := na.below hs
      replace hup := hup.below hs
      replace hback := hback.below hs
      replace hB := from_ hB hs
      clear hb hs
      rw [q2.out] at htwice
      go_wp2_with fail
      refine (add_good (na.below (by first | exact Below.refl _ _ | go_grown)) (na.below (by first | exact Below.refl _ _ | go_grown)) (by omega) (by omega)).mono ?_
      rintro e w5 ⟨sum, rfl, hsum, hb⟩
      have hs : Below w4.heap.size w4 w5 := step (by first | exact Below.refl _ _ | go_grown) hb
      replace na := na.below hs
      replace hup := hup.below hs
      replace hback := hback.below hs
      replace htwice := htwice.below hs
      replace hB := from_ hB hs
      clear hb hs
      go_wp2_with fail
      refine (down_good (na.below (by first | exact Below.refl _ _ | go_grown)) (by omega) (by omega)).mono ?_
      rintro e w6 ⟨dn, rfl, hdn, hb⟩
      have hs : Below w5.heap.size w5 w6 := step (by first | exact Below.refl _ _ | go_grown) hb
      replace na := na.below hs
      replace hup := hup.below hs
      replace hback := hback.below hs
      replace htwice := htwice.below hs
      replace hsum := hsum.below hs
      replace hB := from_ hB hs
      clear hb hs
      rw [Hdown.out] at hdn
      go_wp2_with fail
      refine (up_good (hdn.below (by first | exact Below.refl _ _ | go_grown)) (by omega) (by omega)).mono ?_
      rintro e w7 ⟨again, rfl, hagain, hb⟩
      have hs : Below w6.heap.size w6 w7 := step (by first | exact Below.refl _ _ | go_grown) hb
      replace na := na.below hs
      replace hup := hup.below hs
      replace hback := hback.below hs
      replace htwice := htwice.below hs
      replace hsum := hsum.below hs
      replace hdn := hdn.below hs
      replace hB := from_ hB hs
      clear hb hs
      go_wp2_with fail
      refine (sub_good (na.below (by first | exact Below.refl _ _ | go_grown)) (hagain.below (by first | exact Below.refl _ _ | go_grown)) (by omega) (by omega) (by omega)).mono ?_
      rintro e w8 ⟨rs, rfl, hrs, hb⟩
      have hs : Below w7.heap.size w7 w8 := step (by first | exact Below.refl _ _ | go_grown) hb
      replace na := na.below hs
      replace hup := hup.below hs
      replace hback := hback.below hs
      replace htwice := htwice.below hs
      replace hsum := hsum.below hs
      replace hdn := hdn.below hs
      replace hagain := hagain.below hs
      replace hB := from_ hB hs
      clear hb hs
      rw [Hrest.out] at hrs
      go_wp2_with fail
      refine (long_good (hrs.below (by first | exact Below.refl _ _ | go_grown)) (by omega)).mono ?_
      rintro e _ ⟨rfl, rfl⟩
      rcases Hsz.out with ⟨hz1, hz2⟩ | ⟨hz1, hz2⟩
      all_goals
        have Hz2 := Lib.hid hz2
        clear hz2
        go_wp2_with fail
        refine (same_num (hback.below (by first | exact Below.refl _ _ | go_grown)) (na.below (by first | exact Below.refl _ _ | go_grown)) rfl).mono ?_
        rintro e w9 ⟨rfl, hb⟩
        have hs : Below w8.heap.size w8 w9 := step (by first | exact Below.refl _ _ | go_grown) hb
        replace na := na.below hs
        replace hup := hup.below hs
        replace hback := hback.below hs
        replace htwice := htwice.below hs
        replace hsum := hsum.below hs
        replace hdn := hdn.below hs
        replace hagain := hagain.below hs
        replace hrs := hrs.below hs
        replace hB := from_ hB hs
        clear hb hs
        have he := beq_iff_eq.2 Hz2.out
        go_wp2_with fail
        refine (same_num (htwice.below (by first | exact Below.refl _ _ | go_grown)) (hsum.below (by first | exact Below.refl _ _ | go_grown)) rfl).mono ?_
        rintro e w10 ⟨rfl, hb⟩
        have hs : Below w9.heap.size w9 w10 := step (by first | exact Below.refl _ _ | go_grown) hb
        replace na := na.below hs
        replace hup := hup.below hs
        replace hback := hback.below hs
        replace htwice := htwice.below hs
        replace hsum := hsum.below hs
        replace hdn := hdn.below hs
        replace hagain := hagain.below hs
        replace hrs := hrs.below hs
        replace hB := from_ hB hs
        clear hb hs
        have hle : (size rest : Int) ≤ (b : Int) := by omega
        go_wp2
        go_ret
        exact ⟨rfl, hB⟩
    · have Gx := Lib.hid ga
      clear ga
      go_enter Try.func11, Try.ntmps11
      go_wp2_with fail
      refine (alive1 _).mono ?_
      rintro e w1 ⟨rfl, hb⟩
      have hs : Below w.heap.size w w1 := step (by first | exact Below.refl _ _ | go_grown) hb
      replace ua := ua.below hs
      have hB := hs
      clear hb hs
      go_wp2_with fail
      refine (up_bad (ua.below (by first | exact Below.refl _ _ | go_grown)) Gx.out).mono ?_
      rintro e _ ⟨rfl, rfl⟩
      go_wp2
      go_ret
      exact ⟨rfl, hB⟩
end Go.Proofs.Ytodcjaobbnjikaa
