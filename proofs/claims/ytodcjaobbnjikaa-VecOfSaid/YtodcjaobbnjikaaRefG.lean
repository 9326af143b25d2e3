/-
  The document's own answer, layer 1: Of, Sum, Rest. No conditions but bounds on lengths.
-/
import Derived.Test.YtodcjaobbnjikaaRefF
namespace Go.Proofs.Ytodcjaobbnjikaa
open Go.RowKit
set_option linter.unusedVariables false
set_option linter.unusedSimpArgs false

set_option maxHeartbeats 800000 in
theorem rof_any {w : World} {x : Nat} (hx : x < 18446744073709551616) :
    Calls Try.prog 47 #[.int .u64 (x : Int)] w fun e w' => ∃ v, e = .returned v ∧ IsN w' (new w.heap.size) v x ∧ Below w.heap.size w w' := by
  by_cases h0 : x = 0
  · subst h0
    go_enter Try.func47, Try.ntmps47
    go_wp2
    go_ret
    exact ⟨_, rfl, IsN.zero _ _, Below.refl _ _⟩
  · have hb0 : Below w.heap.size w (w.alloc (.cells #[.int .u64 (x : Int)] 62)) := (Below.refl _ w).alloc (Nat.le_refl _) _
    have hu : U64s (w.alloc (.cells #[.int .u64 (x : Int)] 62)) (new w.heap.size) (some ⟨w.heap.size, 0, none⟩) 1 [x] :=
      ⟨Small.cons hx Small.nil, by simp, by omega, (fun h => by cases h), fun _ => ⟨w.heap.size, 0, rfl, Nat.le_refl _, fun _ j => by simp, fun j u hu => by
        match j, hu with
        | 0, hu => simp at hu; subst hu; simp⟩⟩
    have hd : ((x : Int) == 0) = false := beq_eq_false_iff_ne.2 (by omega)
    have Hu := Lib.hid hu
    have Hlim := Lib.hid (limbs_one (by omega) hx)
    have Hb0 := Lib.hid hb0
    clear hu hb0 h0
    go_enter Try.func47, Try.ntmps47
    go_wp2
    go_ret
    exact ⟨_, rfl, by unfold IsN; rw [Hlim.out]; exact ⟨_, _, rfl, Hu.out⟩, Hb0.out⟩

theorem short_lt63 {m : Nat} (h : (limbs m).length ≤ 1) : m < 18446744073709551616 := short_lt h

/-- Whether the sum goes by words. -/
inductive SumWay (m n : Nat) : Prop
  | words (s1 : (limbs m).length ≤ 1) (s2 : (limbs n).length ≤ 1) (h1 : m < 9223372036854775808) (h2 : n < 9223372036854775808)
  | long (h : (decide ((limbs m).length ≤ 1) && decide ((limbs n).length ≤ 1)) = false)
  | great (s1 : (limbs m).length ≤ 1) (s2 : (limbs n).length ≤ 1) (h1 : 9223372036854775808 ≤ m)
  | great2 (s1 : (limbs m).length ≤ 1) (s2 : (limbs n).length ≤ 1) (h1 : m < 9223372036854775808) (h2 : 9223372036854775808 ≤ n)

theorem sumWay (m n : Nat) : SumWay m n := by
  rcases Nat.lt_or_ge 1 (limbs m).length with h | s1
  · exact .long (by rw [decide_eq_false (by omega)]; rfl)
  rcases Nat.lt_or_ge 1 (limbs n).length with h | s2
  · exact .long (by rw [decide_eq_false (p := (limbs n).length ≤ 1) (by omega), Bool.and_false])
  rcases Nat.lt_or_ge m 9223372036854775808 with h1 | h1
  · rcases Nat.lt_or_ge n 9223372036854775808 with h2 | h2
    · exact .words s1 s2 h1 h2
    · exact .great2 s1 s2 h1 h2
  · exact .great s1 s2 h1

theorem bits_sum {m n k c : Nat} (h : (m + n) / 2 ^ k = m / 2 ^ k + n / 2 ^ k + c) (hc : c ≤ 1) :
    (m + n) / 2 ^ k % 2 = (m / 2 ^ k % 2 + n / 2 ^ k % 2 + c) % 2 ∧ (m + n) / 2 ^ (k + 1) = m / 2 ^ (k + 1) + n / 2 ^ (k + 1) + (m / 2 ^ k % 2 + n / 2 ^ k % 2 + c) / 2 := by
  have e1 := half_step m k
  have e2 := half_step n k
  have e3 := half_step (m + n) k
  omega

theorem bits_rest {m d n k c : Nat} (h : m / 2 ^ k = d / 2 ^ k + n / 2 ^ k + c) (hc : c ≤ 1) :
    ∃ c' , c' ≤ 1 ∧ m / 2 ^ (k + 1) = d / 2 ^ (k + 1) + n / 2 ^ (k + 1) + c' ∧ m / 2 ^ k % 2 + 2 * c' = d / 2 ^ k % 2 + n / 2 ^ k % 2 + c := by
  have e1 := half_step m k
  have e2 := half_step n k
  have e3 := half_step d k
  exact ⟨(d / 2 ^ k % 2 + n / 2 ^ k % 2 + c) / 2, by omega, by omega, by omega⟩

set_option maxRecDepth 100000 in
set_option maxHeartbeats 2000000 in
theorem sum1_good {w : World} {Z Y : Zone} {a b : Value} {m n : Nat} (ha : IsN w Z a m) (hb : IsN w Y b n) (hl : (limbs m).length ≤ 10000) (hl2 : (limbs n).length ≤ 10000) :
    Calls Try.prog 79 #[a, b] w fun e w' => ∃ v, e = .returned v ∧ IsN w' (new w.heap.size) v (m + n) ∧ Below w.heap.size w w' := by
  have hsh := short_good ha hb
  have h1 := one_good ha
  have h2 := one_good hb
  have ha0 := ha
  have hb0 := hb
  obtain ⟨A, ca, rfl, -⟩ := ha
  obtain ⟨B, cb, rfl, -⟩ := hb
  obtain ⟨i0, hi, hz0, hz1, hz2⟩ := info_parts (show (Try.prog.info? 3).map (fun i => (i.zero, i.size, i.bytes)) = some (some (.int .i64 0), 1, 8) by kernel_rfl)
  obtain ⟨p, hp⟩ : ∃ p : Nat, p = 64 * max (limbs m).length (limbs n).length := ⟨_, rfl⟩
  have hpi : (64 : Int) * max ((limbs m).length : Int) ((limbs n).length : Int) = (p : Int) := by omega
  have hm := lt_pow_len m
  have hn := lt_pow_len n
  rw [W_pow] at hm hn
  have Hm := Lib.hid (Nat.lt_of_lt_of_le hm (Nat.pow_le_pow_right (by omega) (show 64 * (limbs m).length ≤ p by omega)))
  have Hn := Lib.hid (Nat.lt_of_lt_of_le hn (Nat.pow_le_pow_right (by omega) (show 64 * (limbs n).length ≤ p by omega)))
  have hp1 : p ≤ 640000 := by omega
  have Hpi := Lib.hid hpi
  have hway := sumWay m n
  cases hway
  case words s1 s2 t1 t2 =>
    rw [Nat.mod_eq_of_lt (short_lt s1)] at h1
    rw [Nat.mod_eq_of_lt (short_lt s2)] at h2
    rw [decide_eq_true s1, decide_eq_true s2] at hsh
    have Hsh := Lib.hid hsh
    have H1 := Lib.hid h1
    have H2 := Lib.hid h2
    have q1 : decide ((m : Int) < 9223372036854775808) = true := decide_eq_true (by omega)
    have q2 : decide ((n : Int) < 9223372036854775808) = true := decide_eq_true (by omega)
    have hw : IntKind.u64.wrap ((m : Int) + (n : Int)) = ((m + n : Nat) : Int) := by rw [IntKind.wrap_u64]; omega
    have T := Lib.hid (And.intro t1 t2)
    clear hsh h1 h2 ha0 hb0 hm hn hp hpi s1 s2 t1 t2
    go_enter Try.func79, Try.ntmps79
    go_wp2_with fail
    refine Hsh.out.mono ?_
    rintro e w1 ⟨rfl, rfl⟩
    go_wp2_with fail
    refine H1.out.mono ?_
    rintro e w1 ⟨rfl, rfl⟩
    go_wp2_with fail
    refine H2.out.mono ?_
    rintro e w1 ⟨rfl, rfl⟩
    go_wp2_with fail
    refine H1.out.mono ?_
    rintro e w1 ⟨rfl, rfl⟩
    go_wp2_with fail
    refine H2.out.mono ?_
    rintro e w1 ⟨rfl, rfl⟩
    go_wp2_with fail
    refine (rof_any (x := m + n) (by have := T.out; omega)).mono ?_
    rintro e w1 ⟨v, rfl, hv, hb1⟩
    go_wp2
    go_ret
    exact ⟨_, rfl, hv, hb1⟩
  case' long h =>
    rw [h] at hsh
    have Hsh := Lib.hid hsh
    clear hsh h1 h2 hm hn hp hpi h
    go_enter Try.func79, Try.ntmps79
    go_wp2_with fail
    refine Hsh.out.mono ?_
    rintro e w1 ⟨rfl, rfl⟩
    go_wp2
  case' great s1 s2 t1 =>
    rw [Nat.mod_eq_of_lt (short_lt s1)] at h1
    rw [decide_eq_true s1, decide_eq_true s2] at hsh
    have Hsh := Lib.hid hsh
    have H1 := Lib.hid h1
    have t3 : decide ((m : Int) < 9223372036854775808) = false := decide_eq_false (by omega)
    clear hsh h1 h2 hm hn hp hpi s1 s2 t1
    go_enter Try.func79, Try.ntmps79
    go_wp2_with fail
    refine Hsh.out.mono ?_
    rintro e w1 ⟨rfl, rfl⟩
    go_wp2_with fail
    refine H1.out.mono ?_
    rintro e w1 ⟨rfl, rfl⟩
    go_wp2
    clear t3
  case' great2 s1 s2 t1 t2 =>
    rw [Nat.mod_eq_of_lt (short_lt s1)] at h1
    rw [Nat.mod_eq_of_lt (short_lt s2)] at h2
    rw [decide_eq_true s1, decide_eq_true s2] at hsh
    have Hsh := Lib.hid hsh
    have H1 := Lib.hid h1
    have H2 := Lib.hid h2
    have t3 : decide ((m : Int) < 9223372036854775808) = true := decide_eq_true (by omega)
    have t4 : decide ((n : Int) < 9223372036854775808) = false := decide_eq_false (by omega)
    clear hsh h1 h2 hm hn hp hpi s1 s2 t1 t2
    go_enter Try.func79, Try.ntmps79
    go_wp2_with fail
    refine Hsh.out.mono ?_
    rintro e w1 ⟨rfl, rfl⟩
    go_wp2_with fail
    refine H1.out.mono ?_
    rintro e w1 ⟨rfl, rfl⟩
    go_wp2_with fail
    refine H2.out.mono ?_
    rintro e w1 ⟨rfl, rfl⟩
    go_wp2
    clear t3 t4
  all_goals
    go_loopw [5, 6, 7] (fun v cv i wr => ∃ k c : Nat, k ≤ p + 1 ∧ i = .int .i64 (k : Int) ∧ cv = .int .i64 (c : Int) ∧ c ≤ 1 ∧ Hid ((m + n) / 2 ^ k = m / 2 ^ k + n / 2 ^ k + c) ∧ wr.ownsRow w.heap.size 3 1 v k ((bitsFrom (m + n) 0 k).map fun x : Nat => Value.int .i64 (x : Int)) ∧ Below w.heap.size w wr) (fun _ _ i _ => p + 1 - (intOf i).toNat)
    case atStart => exact ⟨0, 0, Nat.zero_le _, rfl, rfl, by omega, Lib.hid (by simp), World.ownsRow_nil _ _ _ _, Below.refl _ _⟩
    case round =>
      obtain ⟨k, c, hk, rfl, rfl, hc, heq, hown, hbel⟩ := hrel
      have ha1 := ha0.below hbel
      have hb1 := hb0.below hbel
      have hmany := many_good ha1 hb1 hl hl2
      rw [Hpi.out] at hmany
      have Hmany := Lib.hid hmany
      clear hmany
      by_cases hlt : k ≤ p
      · have hat := at_good (i := k) ha1 (by omega)
        have hbt := at_good (i := k) hb1 (by omega)
        obtain ⟨hbit, hnext⟩ := bits_sum heq.out hc
        have hst := bitsFrom_succ (m + n) 0 k
        rw [Nat.zero_add, hbit] at hst
        have Hnext := Lib.hid hnext
        clear hbit hnext
        have hx1 : m / 2 ^ k % 2 ≤ 1 := by omega
        have hy1 : n / 2 ^ k % 2 ≤ 1 := by omega
        obtain ⟨x, hx⟩ : ∃ x, x = m / 2 ^ k % 2 := ⟨_, rfl⟩
        obtain ⟨y, hy⟩ : ∃ y, y = n / 2 ^ k % 2 := ⟨_, rfl⟩
        rw [← hx] at hat hst hx1
        rw [← hy] at hbt hst hy1
        have Hnext2 : Hid ((m + n) / 2 ^ (k + 1) = m / 2 ^ (k + 1) + n / 2 ^ (k + 1) + (x + y + c) / 2) := Lib.hid (by rw [hx, hy]; exact Hnext.out)
        have Hat := Lib.hid hat
        have Hbt := Lib.hid hbt
        have Hst := Lib.hid hst
        clear hat hbt hst hx hy Hnext heq
        obtain ⟨u, hu⟩ : ∃ u, u = x + y := ⟨_, rfl⟩
        obtain ⟨s, hs⟩ : ∃ s, s = x + y + c := ⟨_, rfl⟩
        obtain ⟨t, ht⟩ : ∃ t, t = (x + y + c) % 2 := ⟨_, rfl⟩
        obtain ⟨d, hd⟩ : ∃ d, d = (x + y + c) / 2 := ⟨_, rfl⟩
        have e1 : (x : Int) + (y : Int) = (u : Int) := by omega
        have e2 : (u : Int) + (c : Int) = (s : Int) := by omega
        have e3 : (s : Int) % 2 = (t : Int) := by omega
        have e4 : (s : Int) / 2 = (d : Int) := by omega
        have hu1 : u ≤ 2 := by omega
        have hs1 : s ≤ 3 := by omega
        have ht1 : t ≤ 1 := by omega
        have hd1 : d ≤ 1 := by omega
        rw [← ht] at Hst
        rw [← hd] at Hnext2
        clear hu hs ht hd hc
        go_wp2_with fail
        refine Hmany.out.mono ?_
        rintro e w1 ⟨rfl, rfl⟩
        go_wp2_with fail
        refine Hat.out.mono ?_
        rintro e w1 ⟨rfl, rfl⟩
        go_wp2_with fail
        refine Hbt.out.mono ?_
        rintro e w1 ⟨rfl, rfl⟩
        go_wp2_with (at_builtin; go_loud (refine wpList_app1 _ rfl _ _ 22 rfl w.heap.size 3 i0 (.int .i64 0) Try.underlying22 hi hz0 hz1 hz2 rfl _ _ _ rfl (hown.alloc _) wr.heap.size (.int .i64 (t : Int)) rfl (cell_newest rfl rfl) rfl (by omega) (by have := hbel.size; simp; omega) ?_); intro v' w1 hown' hgrow; go_loud (have hb2 : Below w.heap.size w w1 := (hbel.alloc hbel.size _).grown hgrow (by have := hbel.size; simp; omega) (own_nil_of hown)))
        go_roundw
        case rel => exact ⟨k + 1, d, by omega, by go_num, rfl, hd1, Hnext2, by rw [Hst.out]; simpa using hown', hb2⟩
        case measure => simp [intOf]; omega
      · obtain rfl : k = p + 1 := by omega
        have hbits := Lib.hid (bits_own hown (bitsFrom_le (m + n) 0 (p + 1)))
        have hv : bval (bitsFrom (m + n) 0 (p + 1)) = m + n := by
          rw [bval_bitsFrom, Nat.pow_zero, Nat.div_one]
          refine Nat.mod_eq_of_lt ?_
          have := Hm.out
          have := Hn.out
          rw [Nat.pow_succ]
          omega
        have Hv := Lib.hid hv
        clear hv hown heq
        go_wp2_with fail
        refine Hmany.out.mono ?_
        rintro e w1 ⟨rfl, rfl⟩
        go_wp2_with fail
        refine (from_any hbits.out (by rw [bitsFrom_length]; omega)).mono ?_
        rintro e w1 ⟨u, rfl, hu, hb2⟩
        rw [Hv.out] at hu
        go_wp2
        go_ret
        exact ⟨_, rfl, hu.mono (new_le hbel.size), from_ hbel hb2⟩

end Go.Proofs.Ytodcjaobbnjikaa
