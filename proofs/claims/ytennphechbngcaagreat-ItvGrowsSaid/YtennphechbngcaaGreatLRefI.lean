/-
  The contracts of mul.Pow.
  The examples with which each law of mul begins. No conditions.
  The document's own answer, layer 1: Compared. No conditions but bounds on lengths.
  The document's own answer, layer 1: Of, Sum, Rest. No conditions but bounds on lengths.
  The document's own answer, layer 1: Rest. No conditions but bounds on lengths.
  What nat's and the document's Cmp, Add, Sub, Word, Check answer, at any words: the same.
-/
import Derived.Lib.RabinKarpLaws
import Derived.Test.YtennphechbngcaaGreatLRefE
namespace Go.Proofs.YtennphechbngcaaGreat
open Go.RowKit
set_option linter.unusedVariables false
set_option linter.unusedSimpArgs false

theorem pow_le_pow_all {m i j : Nat} (h : i ≤ j) : m ^ i ≤ max 1 (m ^ j) := by
  rcases Nat.eq_zero_or_pos m with rfl | hm
  · rcases Nat.eq_zero_or_pos i with rfl | hi
    · simp
      omega
    · rw [Nat.zero_pow hi]
      omega
  · exact Nat.le_trans (Nat.pow_le_pow_right hm h) (Nat.le_max_right _ _)

theorem pow_lens {m n i : Nat} (hs : n * size m ≤ 65536) (hi : i ≤ n) : (limbs (m ^ i)).length ≤ 1025 := by
  obtain ⟨K, hK⟩ : ∃ K, K = 1024 := ⟨_, rfl⟩
  suffices hh : (limbs (m ^ i)).length ≤ K + 1 by omega
  refine len_limbs_le ?_
  have h1 := pow_le_pow_all (m := m) hi
  have h2 : m ^ n ≤ 2 ^ (n * size m) := by
    rw [Nat.mul_comm, Nat.pow_mul]
    exact Nat.pow_le_pow_left (Nat.le_of_lt (lt_size m)) n
  have h3 : 2 ^ (n * size m) ≤ 18446744073709551616 ^ K := by
    rw [W_pow]
    exact Nat.pow_le_pow_right (by omega) (by omega)
  have h4 : 18446744073709551616 ^ K < 18446744073709551616 ^ (K + 1) := Nat.pow_lt_pow_right (by omega) (by omega)
  have h5 : 0 < 18446744073709551616 ^ K := Nat.pow_pos (by omega)
  generalize 18446744073709551616 ^ K = X at *
  generalize 18446744073709551616 ^ (K + 1) = Y at *
  omega

/-- One round of Pow. -/
theorem half_step (n b : Nat) : n / 2 ^ b = n / 2 ^ (b + 1) + n / 2 ^ (b + 1) + n / 2 ^ b % 2 := by
  rw [Nat.pow_succ, ← Nat.div_div_eq_div_mul]
  omega

theorem and_one64 (i : Nat) (hi : i < 9223372036854775808) : bits BinOp.and IntKind.i64 (i : Int) 1 = ((i % 2 : Nat) : Int) := by
  have h63 : (2 : Int) ^ 63 = 9223372036854775808 := by decide
  have h := bits_mask .i64 63 (by decide) (fun n h0 h1 => by rw [h63] at h1; rw [IntKind.wrap_i64]; omega) 1 (by decide) (i : Int) (by omega) (by rw [h63]; omega)
  have e : ((2 : Int) ^ 1 - 1) = 1 := by decide
  rw [e] at h
  rw [h]
  omega

theorem isN_unit (w : World) (t : TypeId) : IsN (w.alloc (.cells #[.int .u64 1] t)) (new w.heap.size) (.slice (some ⟨w.heap.size, 0, none⟩) 1 1) 1 := by
  unfold IsN
  rw [limbs_one (by omega) (by omega)]
  refine ⟨_, 1, rfl, Small.cons (by omega) Small.nil, Nat.le_refl _, by omega, (fun h => by cases h), fun h0 => ⟨w.heap.size, 0, rfl, Nat.le_refl _, fun _ j => World.frozen?_alloc_at _ _ _ _ rfl, fun j u hu => ?_⟩⟩
  match j, hu with
  | 0, hu => cases hu; exact cell_newest rfl rfl

set_option maxHeartbeats 1000000 in
theorem pow_good {w : World} {Z : Zone} {a : Value} {m n : Nat} (ha : IsN w Z a m) (hla : (limbs m).length ≤ 100000000000) (hn : n ≤ 1024) (hs : n * size m ≤ 65536) :
    Calls Tryz.prog 95 #[a, .int .i64 (n : Int)] w fun e w' => ∃ v, e = .returned (.tuple #[v, .int .i64 0]) ∧ IsN w' (new w.heap.size) v (m ^ n) ∧ Below w.heap.size w w' := by
  have hpl := Lib.hid (fun i (hi : i ≤ n) => pow_lens hs hi)
  obtain ⟨z, hz⟩ : ∃ z, z = size m := ⟨_, rfl⟩
  have hlong := Lib.hid (long_good ha (by omega))
  rw [← hz] at hlong hs
  clear hz
  have hs1 : (n : Int) * (z : Int) ≤ 65536 := by rw [← Int.natCast_mul]; omega
  have hs2 : 0 ≤ (n : Int) * (z : Int) := by rw [← Int.natCast_mul]; omega
  obtain ⟨t, ht⟩ : ∃ t, t = size n := ⟨_, rfl⟩
  have htn : n < 2 ^ t := by rw [ht]; exact lt_size n
  have ht1 : t ≤ 11 := by rw [ht]; exact size_le_of (by omega)
  have hbl := Lib.hid (fun w => bits_len n w (by omega))
  rw [bitLen_size n (by omega), ← ht] at hbl
  have Htn := Lib.hid htn
  clear htn ht
  go_enter Tryz.func95, Tryz.ntmps95
  go_wp2_with fail
  refine hlong.out.mono ?_
  rintro e w1 ⟨rfl, rfl⟩
  go_wp2_with fail
  refine (hbl.out _).mono ?_
  rintro e w2 ⟨rfl, rfl⟩
  go_wp2
  go_loopw [8, 9] (fun v i wr => ∃ b : Nat, b ≤ t ∧ i = .int .i64 ((b : Int) - 1) ∧ IsN wr (new w.heap.size) v (m ^ (n / 2 ^ b)) ∧ Below w.heap.size w wr) (fun _ i _ => ((intOf i) + 1).toNat)
  case atStart => exact ⟨t, Nat.le_refl _, rfl, by rw [Nat.div_eq_of_lt Htn.out, Nat.pow_zero]; exact isN_unit w _, (Below.refl _ w).alloc (Nat.le_refl _) _⟩
  case round =>
    obtain ⟨b, hbt, rfl, hv, hbel⟩ := hrel
    match b, hbt, hv with
    | 0, _, hv =>
      have e0 : (((0 : Nat) : Int) - 1) = -1 := rfl
      rw [e0]
      go_wp2
      go_ret2
      exact ⟨_, rfl, by simpa using hv, hbel⟩
    | b + 1, hbt, hv =>
      have e0 : (((b + 1 : Nat) : Int) - 1) = (b : Int) := by omega
      rw [e0]
      have hl1 := hpl.out (n / 2 ^ (b + 1)) (Nat.div_le_self _ _)
      have hl2 := hpl.out (n / 2 ^ b) (Nat.div_le_self _ _)
      have ha1 := ha.below hbel
      obtain ⟨h, hh⟩ : ∃ h, h = n / 2 ^ (b + 1) := ⟨_, rfl⟩
      have hst := half_step n b
      rw [← hh] at hst hv hl1
      have hlt : n / 2 ^ b < 9223372036854775808 := by have := Nat.div_le_self n (2 ^ b); omega
      have hbit := and_one64 (n / 2 ^ b) hlt
      have hq : ((n / 2 ^ b : Nat) : Int) = (n : Int) / 2 ^ b := by simp
      rw [hq] at hbit
      have hl3 : (limbs (m ^ (h + h))).length ≤ 1025 := by
        have h1 := Nat.le_trans (len_mono (pow_le_pow_all (m := m) (show h + h ≤ n / 2 ^ b by omega))) (Nat.le_refl _)
        rcases Nat.le_total 1 (m ^ (n / 2 ^ b)) with h2 | h2
        · rw [Nat.max_eq_right h2] at h1; omega
        · rw [Nat.max_eq_left h2] at h1
          have := limbs_one (x := 1) (by omega) (by omega)
          rw [this] at h1
          simp at h1
          omega
      clear hh hlt hq
      have Hst := Lib.hid hst
      rcases Nat.mod_two_eq_zero_or_one (n / 2 ^ b) with h0 | h0
      · have hd : (bits .and .i64 ((n : Int) / 2 ^ b) 1 == 1) = false := by rw [hbit, h0]; rfl
        rw [h0] at Hst
        clear hst hbit h0
        go_wp2_with fail
        refine (mul_good hv hv (by omega) (by omega)).mono ?_
        rintro e w1 ⟨x, rfl, hx, hb1⟩
        rw [← Nat.pow_add] at hx
        go_wp2
        go_roundw
        case rel => exact ⟨b, by omega, rfl, by rw [Hst.out]; exact hx.mono (new_le hbel.size), from_ hbel hb1⟩
        case measure => simp [intOf]
      · have hd : (bits .and .i64 ((n : Int) / 2 ^ b) 1 == 1) = true := by rw [hbit, h0]; rfl
        rw [h0] at Hst
        clear hst hbit h0
        go_wp2_with fail
        refine (mul_good hv hv (by omega) (by omega)).mono ?_
        rintro e w1 ⟨x, rfl, hx, hb1⟩
        rw [← Nat.pow_add] at hx
        have ha2 := ha1.below hb1
        go_wp2_with fail
        refine (mul_good hx ha2 (by omega) (by omega)).mono ?_
        rintro e w2 ⟨y, rfl, hy, hb2⟩
        rw [← Nat.pow_succ] at hy
        have hbel2 := from_ hbel hb1
        go_wp2
        go_roundw
        case rel => exact ⟨b, by omega, rfl, by rw [Hst.out]; exact hy.mono (new_le hbel2.size), from_ hbel2 hb2⟩
        case measure => simp [intOf]

end Go.Proofs.YtennphechbngcaaGreat

namespace Go.Proofs.YtennphechbngcaaGreat
open Go.RowKit
set_option linter.unusedVariables false
set_option linter.unusedSimpArgs false

end Go.Proofs.YtennphechbngcaaGreat

namespace Go.Proofs.YtennphechbngcaaGreat
open Go.RowKit
set_option linter.unusedVariables false
set_option linter.unusedSimpArgs false

end Go.Proofs.YtennphechbngcaaGreat

namespace Go.Proofs.YtennphechbngcaaGreat
open Go.RowKit
set_option linter.unusedVariables false
set_option linter.unusedSimpArgs false

end Go.Proofs.YtennphechbngcaaGreat

namespace Go.Proofs.YtennphechbngcaaGreat
open Go.RowKit
set_option linter.unusedVariables false
set_option linter.unusedSimpArgs false

end Go.Proofs.YtennphechbngcaaGreat

namespace Go.Proofs.YtennphechbngcaaGreat
open Go.RowKit
set_option linter.unusedVariables false
set_option linter.unusedSimpArgs false

end Go.Proofs.YtennphechbngcaaGreat
