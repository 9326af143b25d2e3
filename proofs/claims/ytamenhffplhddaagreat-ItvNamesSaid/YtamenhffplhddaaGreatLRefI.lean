/-
  The contracts of mul.Pow.
  The examples with which each law of mul begins. No conditions.
  The document's own answer, layer 1: Compared. No conditions but bounds on lengths.
  The document's own answer, layer 1: Of, Sum, Rest. No conditions but bounds on lengths.
  The document's own answer, layer 1: Rest. No conditions but bounds on lengths.
  What nat's and the document's Cmp, Add, Sub, Word, Check answer, at any words: the same.
-/
import Derived.Lib.RabinKarpLaws
import Derived.Test.YtamenhffplhddaaGreatLRefE
namespace Go.Proofs.YtamenhffplhddaaGreat
open Go.RowKit
set_option linter.unusedVariables false
set_option linter.unusedSimpArgs false

theorem pow_le_pow_all {m i j : Nat} (h : i ≤ j) : m ^ i ≤ max 1 (m ^ j) := by
  rcases Nat.eq_zero_or_pos m with rfl | hm
  · rcases Nat.eq_zero_or_pos i with rfl | hi
    · simp
      omega
    · rw [Nat.zero_pow hi]
      omega
  · exact Nat.le_trans (Nat.pow_le_pow_right hm h) (Nat.le_max_right _ _)

theorem pow_lens {m n i : Nat} (hs : n * size m ≤ 65536) (hi : i ≤ n) : (limbs (m ^ i)).length ≤ 1025 := by
  obtain ⟨K, hK⟩ : ∃ K, K = 1024 := ⟨_, rfl⟩
  suffices hh : (limbs (m ^ i)).length ≤ K + 1 by omega
  refine len_limbs_le ?_
  have h1 := pow_le_pow_all (m := m) hi
  have h2 : m ^ n ≤ 2 ^ (n * size m) := by
    rw [Nat.mul_comm, Nat.pow_mul]
    exact Nat.pow_le_pow_left (Nat.le_of_lt (lt_size m)) n
  have h3 : 2 ^ (n * size m) ≤ 18446744073709551616 ^ K := by
    rw [W_pow]
    exact Nat.pow_le_pow_right (by omega) (by omega)
  have h4 : 18446744073709551616 ^ K < 18446744073709551616 ^ (K + 1) := Nat.pow_lt_pow_right (by omega) (by omega)
  have h5 : 0 < 18446744073709551616 ^ K := Nat.pow_pos (by omega)
  generalize 18446744073709551616 ^ K = X at *
  generalize 18446744073709551616 ^ (K + 1) = Y at *
  omega

/-- One round of Pow. -/
theorem half_step (n b : Nat) : n / 2 ^ b = n / 2 ^ (b + 1) + n / 2 ^ (b + 1) + n / 2 ^ b % 2 := by
  rw [Nat.pow_succ, ← Nat.div_div_eq_div_mul]
  omega

theorem and_one64 (i : Nat) (hi : i < 9223372036854775808) : bits BinOp.and IntKind.i64 (i : Int) 1 = ((i % 2 : Nat) : Int) := by
  have h63 : (2 : Int) ^ 63 = 9223372036854775808 := by decide
  have h := bits_mask .i64 63 (by decide) (fun n h0 h1 => by rw [h63] at h1; rw [IntKind.wrap_i64]; omega) 1 (by decide) (i : Int) (by omega) (by rw [h63]; omega)
  have e : ((2 : Int) ^ 1 - 1) = 1 := by decide
  rw [e] at h
  rw [h]
  omega

theorem isN_unit (w : World) (t : TypeId) : IsN (w.alloc (.cells #[.int .u64 1] t)) (new w.heap.size) (.slice (some ⟨w.heap.size, 0, none⟩) 1 1) 1 := by
  unfold IsN
  rw [limbs_one (by omega) (by omega)]
  refine ⟨_, 1, rfl, Small.cons (by omega) Small.nil, Nat.le_refl _, by omega, (fun h => by cases h), fun h0 => ⟨w.heap.size, 0, rfl, Nat.le_refl _, fun _ j => World.frozen?_alloc_at _ _ _ _ rfl, fun j u hu => ?_⟩⟩
  match j, hu with
  | 0, hu => cases hu; exact cell_newest rfl rfl

set_option maxHeartbeats 1000000 in
theorem pow_good {w : World} {Z : Zone} {a : Value} {m n : Nat} (ha : IsN w Z a m) (hla : (limbs m).length ≤ 100000000000) (hn : n ≤ 1024) (hs : n * size m ≤ 65536) :
    Calls Tryz.prog 107 #[a, .int .i64 (n : Int)] w fun e w' => ∃ v, e = .returned (.tuple #[v, .int .i64 0]) ∧ IsN w' (new w.heap.size) v (m ^ n) ∧ Below w.heap.size w w' := by
  have hpl := Lib.hid (fun i (hi : i ≤ n) => pow_lens hs hi)
  obtain ⟨z, hz⟩ : ∃ z, z = size m := ⟨_, rfl⟩
  have hlong := Lib.hid (long_good ha (by omega))
  rw [← hz] at hlong hs
  clear hz
  have hs1 : (n : Int) * (z : Int) ≤ 65536 := by rw [← Int.natCast_mul]; omega
  have hs2 : 0 ≤ (n : Int) * (z : Int) := by rw [← Int.natCast_mul]; omega
  obtain ⟨t, ht⟩ : ∃ t, t = size n := ⟨_, rfl⟩
  have htn : n < 2 ^ t := by rw [ht]; exact lt_size n
  have ht1 : t ≤ 11 := by rw [ht]; exact size_le_of (by omega)
  have hbl := Lib.hid (fun w => bits_len n w (by omega))
  rw [bitLen_size n (by omega), ← ht] at hbl
  have Htn := Lib.hid htn
  clear htn ht
  go_enter Tryz.func107, Tryz.ntmps107
  go_wp2_with fail
  refine hlong.out.mono ?_
  rintro e w1 ⟨rfl, rfl⟩
  go_wp2_with fail
  refine (hbl.out _).mono ?_
  rintro e w2 ⟨rfl, rfl⟩
  go_wp2
  go_loopw [8, 9] (fun v i wr => ∃ b : Nat, b ≤ t ∧ i = .int .i64 ((b : Int) - 1) ∧ IsN wr (new w.heap.size) v (m ^ (n / 2 ^ b)) ∧ Below w.heap.size w wr) (fun _ i _ => ((intOf i) + 1).toNat)
  case atStart => exact ⟨t, Nat.le_refl _, rfl, by rw [Nat.div_eq_of_lt Htn.out, Nat.pow_zero]; exact isN_unit w _, (Below.refl _ w).alloc (Nat.le_refl _) _⟩
  case round =>
    obtain ⟨b, hbt, rfl, hv, hbel⟩ := hrel
    match b, hbt, hv with
    | 0, _, hv =>
      have e0 : (((0 : Nat) : Int) - 1) = -1 := rfl
      rw [e0]
      go_wp2
      go_ret2
      exact ⟨_, rfl, by simpa using hv, hbel⟩
    | b + 1, hbt, hv =>
      have e0 : (((b + 1 : Nat) : Int) - 1) = (b : Int) := by omega
      rw [e0]
      have hl1 := hpl.out (n / 2 ^ (b + 1)) (Nat.div_le_self _ _)
      have hl2 := hpl.out (n / 2 ^ b) (Nat.div_le_self _ _)
      have ha1 := ha.below hbel
      obtain ⟨h, hh⟩ : ∃ h, h = n / 2 ^ (b + 1) := ⟨_, rfl⟩
      have hst := half_step n b
      rw [← hh] at hst hv hl1
      have hlt : n / 2 ^ b < 9223372036854775808 := by have := Nat.div_le_self n (2 ^ b); omega
      have hbit := and_one64 (n / 2 ^ b) hlt
      have hq : ((n / 2 ^ b : Nat) : Int) = (n : Int) / 2 ^ b := by simp
      rw [hq] at hbit
      have hl3 : (limbs (m ^ (h + h))).length ≤ 1025 := by
        have h1 := Nat.le_trans (len_mono (pow_le_pow_all (m := m) (show h + h ≤ n / 2 ^ b by omega))) (Nat.le_refl _)
        rcases Nat.le_total 1 (m ^ (n / 2 ^ b)) with h2 | h2
        · rw [Nat.max_eq_right h2] at h1; omega
        · rw [Nat.max_eq_left h2] at h1
          have := limbs_one (x := 1) (by omega) (by omega)
          rw [this] at h1
          simp at h1
          omega
      clear hh hlt hq
      have Hst := Lib.hid hst
      rcases Nat.mod_two_eq_zero_or_one (n / 2 ^ b) with h0 | h0
      · have hd : (bits .and .i64 ((n : Int) / 2 ^ b) 1 == 1) = false := by rw [hbit, h0]; rfl
        rw [h0] at Hst
        clear hst hbit h0
        go_wp2_with fail
        refine (mul_good hv hv (by omega) (by omega)).mono ?_
        rintro e w1 ⟨x, rfl, hx, hb1⟩
        rw [← Nat.pow_add] at hx
        go_wp2
        go_roundw
        case rel => exact ⟨b, by omega, rfl, by rw [Hst.out]; exact hx.mono (new_le hbel.size), from_ hbel hb1⟩
        case measure => simp [intOf]
      · have hd : (bits .and .i64 ((n : Int) / 2 ^ b) 1 == 1) = true := by rw [hbit, h0]; rfl
        rw [h0] at Hst
        clear hst hbit h0
        go_wp2_with fail
        refine (mul_good hv hv (by omega) (by omega)).mono ?_
        rintro e w1 ⟨x, rfl, hx, hb1⟩
        rw [← Nat.pow_add] at hx
        have ha2 := ha1.below hb1
        go_wp2_with fail
        refine (mul_good hx ha2 (by omega) (by omega)).mono ?_
        rintro e w2 ⟨y, rfl, hy, hb2⟩
        rw [← Nat.pow_succ] at hy
        have hbel2 := from_ hbel hb1
        go_wp2
        go_roundw
        case rel => exact ⟨b, by omega, rfl, by rw [Hst.out]; exact hy.mono (new_le hbel2.size), from_ hbel2 hb2⟩
        case measure => simp [intOf]

set_option maxHeartbeats 1000000 in
theorem pow_badA {w : World} {Z : Zone} {a : Value} {l : List Nat} {n : Int} (ha : IsU w Z a l) (hg : good l = false) :
    Calls Tryz.prog 107 #[a, .int .i64 n] w fun e w' => e = .returned (.tuple #[.slice none 0 0, .int .i64 8]) ∧ w = w' := by
  have H := Lib.hid (long_bad ha hg)
  go_enter Tryz.func107, Tryz.ntmps107
  go_wp2_with fail
  refine H.out.mono ?_
  rintro e w1 ⟨rfl, rfl⟩
  go_wp2
  go_ret2
  exact ⟨rfl, rfl⟩

set_option maxHeartbeats 1000000 in
theorem pow_badN {w : World} {Z : Zone} {a : Value} {m : Nat} {n : Int} (ha : IsN w Z a m) (hla : (limbs m).length ≤ 100000000000) (hn : n < 0 ∨ 1024 < n) :
    Calls Tryz.prog 107 #[a, .int .i64 n] w fun e w' => e = .returned (.tuple #[.slice none 0 0, .int .i64 2]) ∧ w = w' := by
  have H := Lib.hid (long_good ha (by omega))
  rcases hn with hn | hn
  all_goals
    go_enter Tryz.func107, Tryz.ntmps107
    go_wp2_with fail
    refine H.out.mono ?_
    rintro e w1 ⟨rfl, rfl⟩
    go_wp2
    go_ret2
    exact ⟨rfl, rfl⟩

set_option maxHeartbeats 1000000 in
theorem pow_many {w : World} {Z : Zone} {a : Value} {m n : Nat} (ha : IsN w Z a m) (hla : (limbs m).length ≤ 100000000000) (hn : n ≤ 1024) (hs : 65536 < n * size m) :
    Calls Tryz.prog 107 #[a, .int .i64 (n : Int)] w fun e w' => e = .returned (.tuple #[.slice none 0 0, .int .i64 4]) ∧ w = w' := by
  have hz1 : size m ≤ 6400000000000 := by
    obtain ⟨K, hK⟩ : ∃ K, K = 6400000000000 := ⟨_, rfl⟩
    suffices hh : size m ≤ K by omega
    refine size_le_of ?_
    have h := lt_pow_len m
    rw [W_pow] at h
    exact Nat.lt_of_lt_of_le h (Nat.pow_le_pow_right (by omega) (by omega))
  obtain ⟨z, hz⟩ : ∃ z, z = size m := ⟨_, rfl⟩
  have H := Lib.hid (long_good ha (by omega))
  rw [← hz] at H hs hz1
  clear hz
  have hs1 : 65536 < (n : Int) * (z : Int) := by rw [← Int.natCast_mul]; omega
  have hs2 : (n : Int) * (z : Int) ≤ 1024 * 6400000000000 := by
    have := Nat.mul_le_mul hn hz1
    rw [← Int.natCast_mul]; omega
  go_enter Tryz.func107, Tryz.ntmps107
  go_wp2_with fail
  refine H.out.mono ?_
  rintro e w1 ⟨rfl, rfl⟩
  go_wp2
  go_ret2
  exact ⟨rfl, rfl⟩

end Go.Proofs.YtamenhffplhddaaGreat

namespace Go.Proofs.YtamenhffplhddaaGreat
open Go.RowKit
set_option linter.unusedVariables false
set_option linter.unusedSimpArgs false

theorem len_in {n K : Nat} (k : Nat) (h : n < 18446744073709551616 ^ k) (hk : k ≤ K) : (limbs n).length ≤ K := Nat.le_trans (len_limbs_le h) hk
theorem pow_lit {w : World} {Z : Zone} {a : Value} {m : Nat} {c : Int} (n : Nat) (ha : IsN w Z a m) (hla : (limbs m).length ≤ 100000000000) (hn : n ≤ 1024) (hs : n * size m ≤ 65536) (hc : (n : Int) = c) :
    Calls Tryz.prog 107 #[a, .int .i64 c] w fun e w' => ∃ v, e = .returned (.tuple #[v, .int .i64 0]) ∧ IsN w' (new w.heap.size) v (m ^ n) ∧ Below w.heap.size w w' := by
  subst hc
  exact pow_good ha hla hn hs

end Go.Proofs.YtamenhffplhddaaGreat

namespace Go.Proofs.YtamenhffplhddaaGreat
open Go.RowKit
set_option linter.unusedVariables false
set_option linter.unusedSimpArgs false

theorem cmp_bit {m n k : Nat} (h : m / 2 ^ (k + 1) = n / 2 ^ (k + 1)) (hb : m / 2 ^ k % 2 ≠ n / 2 ^ k % 2) : cmp3 m n = ((m / 2 ^ k % 2 : Nat) : Int) - ((n / 2 ^ k % 2 : Nat) : Int) := by
  have e1 := half_step m k
  have e2 := half_step n k
  rw [h] at e1
  generalize n / 2 ^ (k + 1) = q at *
  have hp : 0 < 2 ^ k := Nat.pow_pos (by omega)
  rcases Nat.lt_or_ge (m / 2 ^ k) (n / 2 ^ k) with h1 | h1
  · have h2 : m < n := by
      rcases Nat.lt_or_ge m n with h3 | h3
      · exact h3
      · have := Nat.div_le_div_right (c := 2 ^ k) h3
        omega
    rw [cmp3_lt (by omega)]
    omega
  · have h2 : n < m := by
      rcases Nat.lt_or_ge n m with h3 | h3
      · exact h3
      · have := Nat.div_le_div_right (c := 2 ^ k) h3
        omega
    rw [cmp3_gt (by omega)]
    omega

theorem short_lt {m : Nat} (h : (limbs m).length ≤ 1) : m < 18446744073709551616 := by
  have := len_lt h
  omega

end Go.Proofs.YtamenhffplhddaaGreat

namespace Go.Proofs.YtamenhffplhddaaGreat
open Go.RowKit
set_option linter.unusedVariables false
set_option linter.unusedSimpArgs false

theorem short_lt63 {m : Nat} (h : (limbs m).length ≤ 1) : m < 18446744073709551616 := short_lt h

/-- Whether the sum goes by words. -/
inductive SumWay (m n : Nat) : Prop
  | words (s1 : (limbs m).length ≤ 1) (s2 : (limbs n).length ≤ 1) (h1 : m < 9223372036854775808) (h2 : n < 9223372036854775808)
  | long (h : (decide ((limbs m).length ≤ 1) && decide ((limbs n).length ≤ 1)) = false)
  | great (s1 : (limbs m).length ≤ 1) (s2 : (limbs n).length ≤ 1) (h1 : 9223372036854775808 ≤ m)
  | great2 (s1 : (limbs m).length ≤ 1) (s2 : (limbs n).length ≤ 1) (h1 : m < 9223372036854775808) (h2 : 9223372036854775808 ≤ n)

theorem sumWay (m n : Nat) : SumWay m n := by
  rcases Nat.lt_or_ge 1 (limbs m).length with h | s1
  · exact .long (by rw [decide_eq_false (by omega)]; rfl)
  rcases Nat.lt_or_ge 1 (limbs n).length with h | s2
  · exact .long (by rw [decide_eq_false (p := (limbs n).length ≤ 1) (by omega), Bool.and_false])
  rcases Nat.lt_or_ge m 9223372036854775808 with h1 | h1
  · rcases Nat.lt_or_ge n 9223372036854775808 with h2 | h2
    · exact .words s1 s2 h1 h2
    · exact .great2 s1 s2 h1 h2
  · exact .great s1 s2 h1

theorem bits_sum {m n k c : Nat} (h : (m + n) / 2 ^ k = m / 2 ^ k + n / 2 ^ k + c) (hc : c ≤ 1) :
    (m + n) / 2 ^ k % 2 = (m / 2 ^ k % 2 + n / 2 ^ k % 2 + c) % 2 ∧ (m + n) / 2 ^ (k + 1) = m / 2 ^ (k + 1) + n / 2 ^ (k + 1) + (m / 2 ^ k % 2 + n / 2 ^ k % 2 + c) / 2 := by
  have e1 := half_step m k
  have e2 := half_step n k
  have e3 := half_step (m + n) k
  omega

theorem bits_rest {m d n k c : Nat} (h : m / 2 ^ k = d / 2 ^ k + n / 2 ^ k + c) (hc : c ≤ 1) :
    ∃ c' , c' ≤ 1 ∧ m / 2 ^ (k + 1) = d / 2 ^ (k + 1) + n / 2 ^ (k + 1) + c' ∧ m / 2 ^ k % 2 + 2 * c' = d / 2 ^ k % 2 + n / 2 ^ k % 2 + c := by
  have e1 := half_step m k
  have e2 := half_step n k
  have e3 := half_step d k
  exact ⟨(d / 2 ^ k % 2 + n / 2 ^ k % 2 + c) / 2, by omega, by omega, by omega⟩

end Go.Proofs.YtamenhffplhddaaGreat

namespace Go.Proofs.YtamenhffplhddaaGreat
open Go.RowKit
set_option linter.unusedVariables false
set_option linter.unusedSimpArgs false

theorem short_cases (m n : Nat) : ((limbs m).length ≤ 1 ∧ (limbs n).length ≤ 1) ∨ (decide ((limbs m).length ≤ 1) && decide ((limbs n).length ≤ 1)) = false := by
  rcases Nat.lt_or_ge 1 (limbs m).length with h | s1
  · exact .inr (by rw [decide_eq_false (by omega)]; rfl)
  rcases Nat.lt_or_ge 1 (limbs n).length with h | s2
  · exact .inr (by rw [decide_eq_false (p := (limbs n).length ≤ 1) (by omega), Bool.and_false])
  exact .inl ⟨s1, s2⟩

end Go.Proofs.YtamenhffplhddaaGreat

namespace Go.Proofs.YtamenhffplhddaaGreat
open Go.RowKit
set_option linter.unusedVariables false
set_option linter.unusedSimpArgs false

def err2 (la lb : List Nat) : Int := if good la = true ∧ good lb = true then 0 else 8
def cmpX (la lb : List Nat) : Int := if good la = true ∧ good lb = true then cmp3 (val la) (val lb) else 0
def addL (la lb : List Nat) : List Nat := if good la = true ∧ good lb = true then limbs (val la + val lb) else []
def errS (la lb : List Nat) : Int := if good la = true ∧ good lb = true then (if val la < val lb then 10 else 0) else 8
def subL (la lb : List Nat) : List Nat := if good la = true ∧ good lb = true then (if val la < val lb then [] else limbs (val la - val lb)) else []
def errW (l : List Nat) : Int := if good l = true then (if l.length ≤ 1 then 0 else 4) else 8
def wordX (l : List Nat) : Int := if good l = true then (if l.length ≤ 1 then ((l[0]?.getD 0 : Nat) : Int) else 0) else 0

theorem word_all {w : World} {Z : Zone} {a : Value} {l : List Nat} (ha : IsU w Z a l) :
    Calls Tryz.prog 103 #[a] w fun e w' => e = .returned (.tuple #[.int .u64 (wordX l), .int .i64 (errW l)]) ∧ w = w' := by
  cases hg : good l with
  | false =>
    refine (word_bad ha hg).mono ?_
    rintro e w' ⟨rfl, rfl⟩
    exact ⟨by simp [wordX, errW, hg], rfl⟩
  | true =>
    by_cases h1 : l.length ≤ 1
    · refine (word_few ha hg h1).mono ?_
      rintro e w' ⟨rfl, rfl⟩
      exact ⟨by simp [wordX, errW, hg, h1], rfl⟩
    · refine (word_many ha hg (by omega)).mono ?_
      rintro e w' ⟨rfl, rfl⟩
      exact ⟨by simp [wordX, errW, hg, h1], rfl⟩

theorem check_all {w : World} {Z : Zone} {a : Value} {l : List Nat} (ha : IsU w Z a l) :
    Calls Tryz.prog 95 #[a] w fun e w' => e = .returned (.int .i64 (errL l)) ∧ w = w' := by
  obtain ⟨A, c, rfl, ha⟩ := ha
  cases hg : good l with
  | false => simpa [errL, hg] using check_bad ha hg
  | true => simpa [errL, hg] using check_good ha hg

theorem add_all {w : World} {Z Y : Zone} {a b : Value} {la lb : List Nat} (ha : IsU w Z a la) (hb : IsU w Y b lb) (hl : la.length ≤ 900000000000) (hl2 : lb.length ≤ 900000000000) :
    Calls Tryz.prog 97 #[a, b] w fun e w' => ∃ v, e = .returned (.tuple #[v, .int .i64 (err2 la lb)]) ∧ IsU w' (new w.heap.size) v (addL la lb) ∧ Below w.heap.size w w' := by
  have hno : (good la = false ∨ good lb = false) → Calls Tryz.prog 97 #[a, b] w fun e w' => ∃ v, e = .returned (.tuple #[v, .int .i64 (err2 la lb)]) ∧ IsU w' (new w.heap.size) v (addL la lb) ∧ Below w.heap.size w w' := fun h => by
    refine (add_bad ha hb h).mono ?_
    rintro e w' ⟨rfl, hbel⟩
    refine ⟨.slice none 0 0, ?_, ?_, hbel⟩
    · rcases h with h | h <;> simp [err2, h]
    · rcases h with h | h <;> simpa [addL, h] using IsU.nil _ _
  rcases ha.decN with ⟨hg, hn, _⟩ | hg
  · rcases hb.decN with ⟨hg2, hn2, _⟩ | hg2
    · refine (add_good hn hn2 (by omega) (by omega)).mono ?_
      rintro e w' ⟨v, rfl, hv, hbel⟩
      exact ⟨v, by simp [err2, hg, hg2], by unfold IsN at hv; simpa [addL, hg, hg2] using hv, hbel⟩
    · exact hno (.inr hg2)
  · exact hno (.inl hg)

theorem sub_all {w : World} {Z Y : Zone} {a b : Value} {la lb : List Nat} (ha : IsU w Z a la) (hb : IsU w Y b lb) (hl : la.length ≤ 900000000000) (hl2 : lb.length ≤ 900000000000) :
    Calls Tryz.prog 98 #[a, b] w fun e w' => ∃ v, e = .returned (.tuple #[v, .int .i64 (errS la lb)]) ∧ IsU w' (new w.heap.size) v (subL la lb) ∧ Below w.heap.size w w' := by
  have hno : (good la = false ∨ good lb = false) → Calls Tryz.prog 98 #[a, b] w fun e w' => ∃ v, e = .returned (.tuple #[v, .int .i64 (errS la lb)]) ∧ IsU w' (new w.heap.size) v (subL la lb) ∧ Below w.heap.size w w' := fun h => by
    refine (sub_bad ha hb h).mono ?_
    rintro e w' ⟨rfl, hbel⟩
    refine ⟨.slice none 0 0, ?_, ?_, hbel⟩
    · rcases h with h | h <;> simp [errS, h]
    · rcases h with h | h <;> simpa [subL, h] using IsU.nil _ _
  rcases ha.decN with ⟨hg, hn, _⟩ | hg
  · rcases hb.decN with ⟨hg2, hn2, _⟩ | hg2
    · by_cases hlt : val la < val lb
      · refine (sub_less hn hn2 (by omega) (by omega) hlt).mono ?_
        rintro e w' ⟨rfl, hbel⟩
        exact ⟨.slice none 0 0, by simp [errS, hg, hg2, hlt], by simpa [subL, hg, hg2, hlt] using IsU.nil _ _, hbel⟩
      · refine (sub_good hn hn2 (by omega) (by omega) (by omega)).mono ?_
        rintro e w' ⟨v, rfl, hv, hbel⟩
        exact ⟨v, by simp [errS, hg, hg2, hlt], by unfold IsN at hv; simpa [subL, hg, hg2, hlt] using hv, hbel⟩
    · exact hno (.inr hg2)
  · exact hno (.inl hg)

end Go.Proofs.YtamenhffplhddaaGreat
