/-
  The contracts of nat.Long, nat.Bit and nat.Word. No conditions but that a number has at most a million limbs.
-/
import Derived.Test.YtodcjaobbnjikaaNatE
import Derived.Test.YtodcjaobbnjikaaSize
import Derived.Test.YtodcjaobbnjikaaBits
namespace Go.Proofs.Ytodcjaobbnjikaa
open Go.RowKit
set_option linter.unusedVariables false
set_option linter.unusedSimpArgs false

theorem ret2_int {k : IntKind} {a b : Int} {v : Value} (h : a = b) : Ending.returned (.tuple #[.int k a, v]) = .returned (.tuple #[.int k b, v]) := by rw [h]

set_option maxHeartbeats 800000 in
theorem long_good {w : World} {Z : Zone} {a : Value} {n : Nat} (ha : IsN w Z a n) (hl : (limbs n).length ≤ 900000) :
    Calls Try.prog 31 #[a] w fun e w' => e = .returned (.tuple #[.int .i64 (size n : Int), .int .i64 0]) ∧ w = w' := by
  obtain ⟨A, c, rfl, ha⟩ := ha
  have hg := Lib.hid (good_limbs n)
  rcases Nat.eq_zero_or_pos (limbs n).length with h0 | h0
  · have hz : n = 0 := limbs_eq_nil.1 (List.length_eq_zero_iff.1 h0)
    have hs : size n = 0 := size_eq_zero.2 hz
    have Hs := Lib.hid hs
    have hd : (((limbs n).length : Int) == 0) = true := by rw [h0]; rfl
    clear hz hs h0
    go_enter Try.func31, Try.ntmps31
    go_wp2_with (go_at_call 28; refine (check_good ha hg.out).mono ?_; rintro e w' ⟨rfl, rfl⟩)
    go_ret2
    rw [Hs.out]
    exact ⟨rfl, rfl⟩
  · obtain ⟨b, o, rfl, _, _, _, hc⟩ := ha.open h0
    have hk : (limbs n).length - 1 < (limbs n).length := by omega
    have hx := hc ((limbs n).length - 1) hk
    have hd : (((limbs n).length : Int) == 0) = false := beq_eq_false_iff_ne.2 (by omega)
    have hxl := ha.small.get (j := (limbs n).length - 1) hk
    obtain ⟨hs, hne⟩ := size_top h0
    clear hne
    have Ha := Lib.hid ha
    clear ha hc
    generalize (limbs n)[(limbs n).length - 1] = x at *
    have hb : size x ≤ 64 := size_le_of (by omega)
    have hbl := bitLen_size x hxl
    have Hs := Lib.hid hs
    clear hs
    go_enter Try.func31, Try.ntmps31
    go_wp2_with (first | (go_at_call 28; refine (check_good Ha.out hg.out).mono ?_; rintro e w' ⟨rfl, rfl⟩) | (go_at_call 68; refine (bits_len64 x _ hxl).mono ?_; rintro e w' ⟨rfl, rfl⟩))
    go_ret2
    refine ⟨ret2_int ?_, rfl⟩
    rw [Hs.out]
    omega

theorem bit_word (x k : Nat) (hx : x < 18446744073709551616) : wrap64 (bits BinOp.and IntKind.u64 ((x : Int) / 2 ^ k) 1) = ((x / 2 ^ k % 2 : Nat) : Int) := by
  have e : (x : Int) / 2 ^ k = ((x / 2 ^ k : Nat) : Int) := by simp
  have hl : x / 2 ^ k < 18446744073709551616 := Nat.lt_of_le_of_lt (Nat.div_le_self _ _) hx
  have h := bits_and_u64_nat (x / 2 ^ k) 1 hl (by omega)
  rw [e]
  rw [show ((1 : Nat) : Int) = 1 from rfl] at h
  rw [h, Nat.and_one_is_mod]
  unfold wrap64
  omega

theorem bad_two {w : World} {Z : Zone} {a : Value} {l : List Nat} (ha : IsU w Z a l) (hg : good l = false) : ∃ A c, a = .slice A l.length c ∧ U64s w Z A c l := ha

set_option maxHeartbeats 800000 in
theorem long_bad {w : World} {Z : Zone} {a : Value} {l : List Nat} (ha : IsU w Z a l) (hg : good l = false) :
    Calls Try.prog 31 #[a] w fun e w' => e = .returned (.tuple #[.int .i64 0, .int .i64 8]) ∧ w = w' := by
  obtain ⟨A, c, rfl, ha⟩ := ha
  have Hg := Lib.hid hg
  clear hg
  go_enter Try.func31, Try.ntmps31
  go_wp2_with (go_at_call 28; refine (check_bad ha Hg.out).mono ?_; rintro e w' ⟨rfl, rfl⟩)
  go_ret2
  exact ⟨rfl, rfl⟩

set_option maxHeartbeats 800000 in
theorem bit_good {w : World} {Z : Zone} {a : Value} {n i : Nat} (ha : IsN w Z a n) (hi : i ≤ 9223372036854775807) :
    Calls Try.prog 33 #[a, .int .i64 (i : Int)] w fun e w' => e = .returned (.tuple #[.int .i64 ((n / 2 ^ i % 2 : Nat) : Int), .int .i64 0]) ∧ w = w' := by
  obtain ⟨A, c, rfl, ha⟩ := ha
  have hg := Lib.hid (good_limbs n)
  have hlen := ha.len
  by_cases h : i / 64 < (limbs n).length
  · obtain ⟨b, o, rfl, _, _, _, hc⟩ := ha.open (by omega)
    have hx := hc (i / 64) h
    have hlb := bit_limb n i
    rw [← limb_at h] at hlb
    have hxl := ha.small.get (j := i / 64) h
    have Ha := Lib.hid ha
    clear ha hc
    generalize (limbs n)[i / 64] = x at *
    have Hlb := Lib.hid hlb
    clear hlb
    go_enter Try.func33, Try.ntmps33
    go_wp2_with (go_at_call 28; refine (check_good Ha.out hg.out).mono ?_; rintro e w' ⟨rfl, rfl⟩)
    go_ret2
    refine ⟨ret2_int ?_, rfl⟩
    rw [← Hlb.out, ← bit_word x (i % 64) hxl]
  · have hz := Lib.hid (bit_limb_beyond (n := n) (i := i) (by omega))
    go_enter Try.func33, Try.ntmps33
    go_wp2_with (go_at_call 28; refine (check_good ha hg.out).mono ?_; rintro e w' ⟨rfl, rfl⟩)
    go_ret2
    rw [hz.out]
    exact ⟨rfl, rfl⟩

end Go.Proofs.Ytodcjaobbnjikaa
