/- The contracts of mul.Pow. -/
import Derived.Lib.RabinKarpLaws
import Derived.Test.YtdncgncijbnjpaaGreatRRefE
set_option linter.unusedVariables false
set_option linter.unusedSimpArgs false
set_option maxRecDepth 100000
set_option maxHeartbeats 40000000
namespace Go.Proofs.YtdncgncijbnjpaaGreat
open Go.Lib (hid)
open Go.RowKit
variable {i m : Nat}
theorem pow_le_pow_all {j : Nat} (h : i ≤ j) : m ^ i ≤ max 1 (m ^ j) := by
 rcases Nat.eq_zero_or_pos m with rfl | hm
 · rcases Nat.eq_zero_or_pos i with rfl | hi
   · simp
     omega
   · rw [Nat.zero_pow hi]
     omega
 · exact Nat.le_trans (Nat.pow_le_pow_right hm h) (Nat.le_max_right _ _)
theorem pow_lens {n : Nat} (hs : n * size m ≤ 65536) (hi : i ≤ n) : (limbs (m ^ i)).length ≤ 1025 := by
 obtain ⟨K, F⟩ : ∃ K, K = 1024 := ⟨_, rfl⟩
 suffices hh : (limbs (m ^ i)).length ≤ K + 1 by omega
 refine len_limbs_le ?_
 have A := pow_le_pow_all (m := m) hi
 have B : m ^ n ≤ 2 ^ (n * size m) := by
  rw [Nat.mul_comm, Nat.pow_mul]
  exact Nat.pow_le_pow_left (Nat.le_of_lt (lt_size m)) n
 have C : 2 ^ (n * size m) ≤ 18446744073709551616 ^ K := by
  rw [W_pow]
  exact Nat.pow_le_pow_right (by omega) (by omega)
 have D : 18446744073709551616 ^ K < 18446744073709551616 ^ (K + 1) := Nat.pow_lt_pow_right (by omega) (by omega)
 have E : 0 < 18446744073709551616 ^ K := Nat.pow_pos (by omega)
 generalize 18446744073709551616 ^ K = X at *
 generalize 18446744073709551616 ^ (K + 1) = Y at *
 omega
theorem half_step (n b : Nat) : n / 2 ^ b = n / 2 ^ (b + 1) + n / 2 ^ (b + 1) + n / 2 ^ b % 2 := by
 rw [Nat.pow_succ, ← Nat.div_div_eq_div_mul]
 omega
theorem and_one64 (i : Nat) (hi : i < 9223372036854775808) : bits BinOp.and IntKind.i64 (i : Int) 1 = ((i % 2 : Nat) : Int) := by
 have A : (2 : Int) ^ 63 = 9223372036854775808 := by decide
 have h := bits_mask .i64 63 (by decide) (fun n h0 h1 => by rw [A] at h1; rw [IntKind.wrap_i64]; omega) 1 (by decide) (i : Int) (by omega) (by rw [A]; omega)
 have e : ((2 : Int) ^ 1 - 1) = 1 := by decide
 rw [e] at h
 rw [h]
 omega
theorem isN_unit (w : World) (t : TypeId) : IsN (w.alloc (.cells #[.int .u64 1] t)) (new w.heap.size) (.slice (some ⟨w.heap.size, 0, none⟩) 1 1) 1 := by
 unfold IsN
 rw [limbs_one (by omega) (by omega)]
 refine ⟨_, 1, rfl, Small.cons (by omega) Small.nil, Nat.le_refl _, by omega, (fun h => by cases h), fun h0 => ⟨w.heap.size, 0, rfl, Nat.le_refl _, fun _ j => World.frozen?_alloc_at _ _ _ _ rfl, fun j u hu => ?_⟩⟩
 match j, hu with
 | 0, hu => cases hu; exact cell_newest rfl rfl
theorem pow_good {w : World} {Z : Zone} {a : Value} {n : Nat} (ha : IsN w Z a m) (hla : (limbs m).length ≤ 100000000000) (hn : n ≤ 1024) (hs : n * size m ≤ 65536) :
  Calls Tryz.prog 222 #[a, .int .i64 (n : Int)] w fun e w' => ∃ v, e = .returned (.tuple #[v, .int .i64 0]) ∧ IsN w' (new w.heap.size) v (m ^ n) ∧ Below w.heap.size w w' := by
 have L := hid (fun i (hi : i ≤ n) => pow_lens hs hi)
 obtain ⟨z, S⟩ : ∃ z, z = size m := ⟨_, rfl⟩
 have M := hid (long_good ha (by omega))
 rw [← S] at M hs
 clear S
 have q : (n : Int) * (z : Int) ≤ 65536 := by rw [← Int.natCast_mul]; omega
 have r : 0 ≤ (n : Int) * (z : Int) := by rw [← Int.natCast_mul]; omega
 obtain ⟨t, I⟩ : ∃ t, t = size n := ⟨_, rfl⟩
 have N : n < 2 ^ t := by rw [I]; exact lt_size n
 have s : t ≤ 11 := by rw [I]; exact size_le_of (by omega)
 have O := hid (fun w => bits_len n w (by omega))
 rw [bitLen_size n (by omega), ← I] at O
 have X := hid N
 clear N I
 go_enter Tryz.func222, Tryz.ntmps222
 go_wp2_with fail
 refine M.out.mono ?_
 rintro e T ⟨rfl, rfl⟩
 go_wp2_with fail
 refine (O.out _).mono ?_
 rintro e j ⟨rfl, rfl⟩
 go_wp2
 go_loopw [8, 9] (fun v i wr => ∃ b : Nat, b ≤ t ∧ i = .int .i64 ((b : Int) - 1) ∧ IsN wr (new w.heap.size) v (m ^ (n / 2 ^ b)) ∧ Below w.heap.size w wr) (fun _ i _ => ((intOf i) + 1).toNat)
 case atStart => exact ⟨t, Nat.le_refl _, rfl, by rw [Nat.div_eq_of_lt X.out, Nat.pow_zero]; exact isN_unit w _, (Below.refl _ w).alloc (Nat.le_refl _) _⟩
 case round =>
  obtain ⟨b, U, rfl, B, D⟩ := hrel
  match b, U, B with
  | 0, _, B =>
    have K : (((0 : Nat) : Int) - 1) = -1 := rfl
    rw [K]
    go_wp2
    go_ret2
    exact ⟨_, rfl, by simpa using B, D⟩
  | b + 1, U, B =>
    have K : (((b + 1 : Nat) : Int) - 1) = (b : Int) := by omega
    rw [K]
    have Y := L.out (n / 2 ^ (b + 1)) (Nat.div_le_self _ _)
    have u := L.out (n / 2 ^ b) (Nat.div_le_self _ _)
    have c := ha.below D
    obtain ⟨h, V⟩ : ∃ h, h = n / 2 ^ (b + 1) := ⟨_, rfl⟩
    have F := half_step n b
    rw [← V] at F B Y
    have P : n / 2 ^ b < 9223372036854775808 := by have := Nat.div_le_self n (2 ^ b); omega
    have C := and_one64 (n / 2 ^ b) P
    have Q : ((n / 2 ^ b : Nat) : Int) = (n : Int) / 2 ^ b := by simp
    rw [Q] at C
    have Ka : (limbs (m ^ (h + h))).length ≤ 1025 := by
     have G := Nat.le_trans (len_mono (pow_le_pow_all (m := m) (show h + h ≤ n / 2 ^ b by omega))) (Nat.le_refl _)
     rcases Nat.le_total 1 (m ^ (n / 2 ^ b)) with h2 | h2
     · rw [Nat.max_eq_right h2] at G; omega
     · rw [Nat.max_eq_left h2] at G
       have := limbs_one (x := 1) (by omega) (by omega)
       rw [this] at G
       simp at G
       omega
    clear V P Q
    have H := hid F
    rcases Nat.mod_two_eq_zero_or_one (n / 2 ^ b) with h0 | h0
    · have d : (bits .and .i64 ((n : Int) / 2 ^ b) 1 == 1) = false := by rw [C, h0]; rfl
      rw [h0] at H
      clear F C h0
      go_wp2_with fail
      refine (mul_good B B (by omega) (by omega)).mono ?_
      rintro e T ⟨x, rfl, E, J⟩
      rw [← Nat.pow_add] at E
      go_wp2
      go_roundw
      case rel => exact ⟨b, by omega, rfl, by rw [H.out]; exact E.mono (new_le D.size), from_ D J⟩
      case measure => simp [intOf]
    · have d : (bits .and .i64 ((n : Int) / 2 ^ b) 1 == 1) = true := by rw [C, h0]; rfl
      rw [h0] at H
      clear F C h0
      go_wp2_with fail
      refine (mul_good B B (by omega) (by omega)).mono ?_
      rintro e T ⟨x, rfl, E, J⟩
      rw [← Nat.pow_add] at E
      have g := c.below J
      go_wp2_with fail
      refine (mul_good E g (by omega) (by omega)).mono ?_
      rintro e j ⟨y, rfl, W, o⟩
      rw [← Nat.pow_succ] at W
      have R := from_ D J
      go_wp2
      go_roundw
      case rel => exact ⟨b, by omega, rfl, by rw [H.out]; exact W.mono (new_le R.size), from_ R o⟩
      case measure => simp [intOf]
end Go.Proofs.YtdncgncijbnjpaaGreat
