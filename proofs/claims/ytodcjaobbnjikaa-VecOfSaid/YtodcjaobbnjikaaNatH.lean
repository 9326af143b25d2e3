/-
  Up and Down where a number or a shift may not be; nat.Word; lengths. No conditions.
-/
import Derived.Test.YtodcjaobbnjikaaDown
namespace Go.Proofs.Ytodcjaobbnjikaa
open Go.RowKit
set_option linter.unusedVariables false
set_option linter.unusedSimpArgs false

set_option maxHeartbeats 800000 in
theorem asked_badU {w : World} {Z : Zone} {A : Option Addr} {c : Nat} {l : List Nat} {b : Int} (ha : U64s w Z A c l) (hg : good l = false) :
    Calls Try.prog 72 #[.slice A l.length c, .int .i64 b] w fun e w' => e = .returned (.int .i64 8) ∧ w = w' := by
  have Hg := Lib.hid hg
  clear hg
  go_enter Try.func72, Try.ntmps72
  go_wp2_with (go_at_call 28; refine (check_bad ha Hg.out).mono ?_; rintro e w' ⟨rfl, rfl⟩)
  go_ret
  exact ⟨rfl, rfl⟩

set_option maxHeartbeats 800000 in
theorem asked_arg {w : World} {Z : Zone} {A : Option Addr} {c : Nat} {l : List Nat} {b : Int} (ha : U64s w Z A c l) (hg : good l = true) (hb : b < 0 ∨ 65536 < b) :
    Calls Try.prog 72 #[.slice A l.length c, .int .i64 b] w fun e w' => e = .returned (.int .i64 2) ∧ w = w' := by
  have Hg := Lib.hid hg
  have hb' : b < 0 ∨ (decide (b < 0) = false ∧ 65536 < b) := by
    rcases Int.lt_or_le b 0 with h | h
    · exact .inl h
    · exact .inr ⟨by simp; omega, by omega⟩
  clear hg hb
  rcases hb' with h | ⟨h, h2⟩
  all_goals
    go_enter Try.func72, Try.ntmps72
    go_wp2_with (go_at_call 28; refine (check_good ha Hg.out).mono ?_; rintro e w' ⟨rfl, rfl⟩)
    go_ret
    exact ⟨rfl, rfl⟩

set_option maxRecDepth 100000 in
set_option maxHeartbeats 800000 in
theorem up_bad {w : World} {Z : Zone} {a : Value} {l : List Nat} {b : Int} (ha : IsU w Z a l) (hg : good l = false) :
    Calls Try.prog 35 #[a, .int .i64 b] w fun e w' => e = .returned (.tuple #[.slice none 0 0, .int .i64 8]) ∧ w = w' := by
  obtain ⟨A, c, rfl, ha⟩ := ha
  have h := Lib.hid (asked_badU (b := b) ha hg)
  clear hg
  go_enter Try.func35, Try.ntmps35
  go_wp2_with (go_at_call 72; refine h.out.mono ?_; rintro e w' ⟨rfl, rfl⟩)
  go_ret2
  exact ⟨rfl, rfl⟩

set_option maxRecDepth 100000 in
set_option maxHeartbeats 800000 in
theorem down_bad {w : World} {Z : Zone} {a : Value} {l : List Nat} {b : Int} (ha : IsU w Z a l) (hg : good l = false) :
    Calls Try.prog 37 #[a, .int .i64 b] w fun e w' => e = .returned (.tuple #[.slice none 0 0, .int .i64 8]) ∧ w = w' := by
  obtain ⟨A, c, rfl, ha⟩ := ha
  have h := Lib.hid (asked_badU (b := b) ha hg)
  clear hg
  go_enter Try.func37, Try.ntmps37
  go_wp2_with (go_at_call 72; refine h.out.mono ?_; rintro e w' ⟨rfl, rfl⟩)
  go_ret2
  exact ⟨rfl, rfl⟩

set_option maxRecDepth 100000 in
set_option maxHeartbeats 800000 in
theorem up_arg {w : World} {Z : Zone} {a : Value} {l : List Nat} {b : Int} (ha : IsU w Z a l) (hg : good l = true) (hb : b < 0 ∨ 65536 < b) :
    Calls Try.prog 35 #[a, .int .i64 b] w fun e w' => e = .returned (.tuple #[.slice none 0 0, .int .i64 2]) ∧ w = w' := by
  obtain ⟨A, c, rfl, ha⟩ := ha
  have h := Lib.hid (asked_arg (b := b) ha hg hb)
  clear hg hb
  go_enter Try.func35, Try.ntmps35
  go_wp2_with (go_at_call 72; refine h.out.mono ?_; rintro e w' ⟨rfl, rfl⟩)
  go_ret2
  exact ⟨rfl, rfl⟩

set_option maxRecDepth 100000 in
set_option maxHeartbeats 800000 in
theorem down_arg {w : World} {Z : Zone} {a : Value} {l : List Nat} {b : Int} (ha : IsU w Z a l) (hg : good l = true) (hb : b < 0 ∨ 65536 < b) :
    Calls Try.prog 37 #[a, .int .i64 b] w fun e w' => e = .returned (.tuple #[.slice none 0 0, .int .i64 2]) ∧ w = w' := by
  obtain ⟨A, c, rfl, ha⟩ := ha
  have h := Lib.hid (asked_arg (b := b) ha hg hb)
  clear hg hb
  go_enter Try.func37, Try.ntmps37
  go_wp2_with (go_at_call 72; refine h.out.mono ?_; rintro e w' ⟨rfl, rfl⟩)
  go_ret2
  exact ⟨rfl, rfl⟩

theorem len_shift (n b : Nat) : (limbs (n * 2 ^ b)).length ≤ (limbs n).length + b / 64 + 1 := by
  apply len_limbs_le
  have h1 := lt_pow_len n
  have h2 : 0 < 2 ^ b := Nat.pow_pos (by omega)
  refine Nat.lt_of_lt_of_le (Nat.mul_lt_mul_of_pos_right h1 h2) ?_
  rw [W_pow, W_pow, ← Nat.pow_add]
  exact Nat.pow_le_pow_right (by omega) (by omega)
theorem len_div (n d : Nat) : (limbs (n / d)).length ≤ (limbs n).length := len_mono (Nat.div_le_self _ _)

theorem size_len (n : Nat) : size n ≤ 64 * (limbs n).length := size_le_of (by rw [← W_pow]; exact lt_pow_len n)
theorem limbs_big1 : limbs 18446744073709551616 = [0, 1] := by
  have := limbs_two (x := 0) (y := 1) (by omega) (by omega) (by omega)
  simpa using this
theorem size_one : size 1 = 1 := by rw [size_eq (n := 1) (s := 0) (by omega) (by omega) (by omega)]
theorem size_W : size 18446744073709551616 = 65 := by
  rw [size_eq (n := 18446744073709551616) (s := 64) (by omega) (by omega) (by omega)]

set_option maxHeartbeats 800000 in
theorem word_many {w : World} {Z : Zone} {a : Value} {l : List Nat} (ha : IsU w Z a l) (hg : good l = true) (hl : 1 < l.length) :
    Calls Try.prog 43 #[a] w fun e w' => e = .returned (.tuple #[.int .u64 0, .int .i64 4]) ∧ w = w' := by
  obtain ⟨A, c, rfl, ha⟩ := ha
  have h := Lib.hid (check_good ha hg)
  have hlen := ha.len
  have hd : (1 : Int) < (l.length : Int) := by omega
  clear hg
  go_enter Try.func43, Try.ntmps43
  go_wp2_with (go_at_call 28; refine h.out.mono ?_; rintro e w' ⟨rfl, rfl⟩)
  go_ret2
  exact ⟨rfl, rfl⟩

set_option maxHeartbeats 800000 in
theorem word_bad {w : World} {Z : Zone} {a : Value} {l : List Nat} (ha : IsU w Z a l) (hg : good l = false) :
    Calls Try.prog 43 #[a] w fun e w' => e = .returned (.tuple #[.int .u64 0, .int .i64 8]) ∧ w = w' := by
  obtain ⟨A, c, rfl, ha⟩ := ha
  have h := Lib.hid (check_bad ha hg)
  clear hg
  go_enter Try.func43, Try.ntmps43
  go_wp2_with (go_at_call 28; refine h.out.mono ?_; rintro e w' ⟨rfl, rfl⟩)
  go_ret2
  exact ⟨rfl, rfl⟩

set_option maxHeartbeats 800000 in
theorem word_few {w : World} {Z : Zone} {a : Value} {l : List Nat} (ha : IsU w Z a l) (hg : good l = true) (hl : l.length ≤ 1) :
    Calls Try.prog 43 #[a] w fun e w' => e = .returned (.tuple #[.int .u64 ((l[0]?.getD 0 : Nat) : Int), .int .i64 0]) ∧ w = w' := by
  obtain ⟨A, c, rfl, ha⟩ := ha
  have h := Lib.hid (check_good ha hg)
  clear hg
  rcases Nat.eq_zero_or_pos l.length with h0 | h0
  · have h1 : l = [] := List.length_eq_zero_iff.1 h0
    subst h1
    clear h0 hl ha
    go_enter Try.func43, Try.ntmps43
    go_wp2_with (go_at_call 28; refine h.out.mono ?_; rintro e w' ⟨rfl, rfl⟩)
    go_ret2
    exact ⟨rfl, rfl⟩
  · obtain ⟨b, o, rfl, _, _, _, hc⟩ := ha.open h0
    have hx := hc 0 h0
    have e0 : l[0]?.getD 0 = l[0] := by simp [h0]
    rw [e0]
    rw [Nat.add_zero] at hx
    have hlen := ha.len
    have hd : decide ((1 : Int) < (l.length : Int)) = false := by simp; omega
    have hz : ((l.length : Int) == 0) = false := beq_eq_false_iff_ne.2 (by omega)
    clear e0 hc
    generalize l[0] = x at *
    go_enter Try.func43, Try.ntmps43
    go_wp2_with (go_at_call 28; refine h.out.mono ?_; rintro e w' ⟨rfl, rfl⟩)
    go_ret2
    exact ⟨rfl, rfl⟩

theorem long_lit {w : World} {Z : Zone} {a : Value} {n : Nat} {c : Int} (ha : IsN w Z a n) (hl : (limbs n).length ≤ 900000) (hc : (size n : Int) = c) :
    Calls Try.prog 31 #[a] w fun e w' => e = .returned (.tuple #[.int .i64 c, .int .i64 0]) ∧ w = w' := by subst hc; exact long_good ha hl
theorem bit_lit {w : World} {Z : Zone} {a : Value} {n : Nat} (i : Nat) {c : Int} (ha : IsN w Z a n) (hi : i ≤ 9223372036854775807) (hc : ((n / 2 ^ i % 2 : Nat) : Int) = c) :
    Calls Try.prog 33 #[a, .int .i64 (i : Int)] w fun e w' => e = .returned (.tuple #[.int .i64 c, .int .i64 0]) ∧ w = w' := by subst hc; exact bit_good ha hi
theorem isN_W {w : World} {g : Nat} (h : w.cell? ⟨g, 0, none⟩ = some (.int .u64 0)) (h' : w.cell? ⟨g, 1, none⟩ = some (.int .u64 1)) : IsN w old (.slice (some ⟨g, 0, none⟩) 2 2) 18446744073709551616 := by
  have := isN_two (w := w) (g := g) (x := 0) (y := 1) (by omega) (by omega) (by omega) h h'
  simpa using this
theorem len_k {n : Nat} (k : Nat) (h : n < 18446744073709551616 ^ k) (hk : k ≤ 900000) : (limbs n).length ≤ 900000 := Nat.le_trans (len_limbs_le h) hk
theorem good_two (x y : Nat) (hy : y ≠ 0) : good [x, y] = true := by simp [good, hy]
theorem isU_two {w : World} {g x y : Nat} (h1 : x < 18446744073709551616) (h2 : y < 18446744073709551616) (h : w.cell? ⟨g, 0, none⟩ = some (.int .u64 (x : Int))) (h' : w.cell? ⟨g, 1, none⟩ = some (.int .u64 (y : Int))) :
    IsU w old (.slice (some ⟨g, 0, none⟩) 2 2) [x, y] := isU_lit rfl (by omega) (by omega) (Small.cons h1 (Small.cons h2 Small.nil)) fun j hj => match j, hj with | 0, _ => h | 1, _ => h'
theorem isU_one {w : World} {g x : Nat} (h1 : x < 18446744073709551616) (h : w.cell? ⟨g, 0, none⟩ = some (.int .u64 (x : Int))) :
    IsU w old (.slice (some ⟨g, 0, none⟩) 1 1) [x] := isU_lit rfl (by omega) (by omega) (Small.cons h1 Small.nil) fun j hj => match j, hj with | 0, _ => h

end Go.Proofs.Ytodcjaobbnjikaa
