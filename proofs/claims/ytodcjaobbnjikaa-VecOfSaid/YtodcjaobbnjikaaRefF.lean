/-
  The document's own answer, layer 1: Compared. No conditions but bounds on lengths.
-/
import Derived.Test.YtodcjaobbnjikaaRefE
import Derived.Test.YtodcjaobbnjikaaMulE
namespace Go.Proofs.Ytodcjaobbnjikaa
open Go.RowKit
set_option linter.unusedVariables false
set_option linter.unusedSimpArgs false

theorem cmp_bit {m n k : Nat} (h : m / 2 ^ (k + 1) = n / 2 ^ (k + 1)) (hb : m / 2 ^ k % 2 ≠ n / 2 ^ k % 2) : cmp3 m n = ((m / 2 ^ k % 2 : Nat) : Int) - ((n / 2 ^ k % 2 : Nat) : Int) := by
  have e1 := half_step m k
  have e2 := half_step n k
  rw [h] at e1
  generalize n / 2 ^ (k + 1) = q at *
  have hp : 0 < 2 ^ k := Nat.pow_pos (by omega)
  rcases Nat.lt_or_ge (m / 2 ^ k) (n / 2 ^ k) with h1 | h1
  · have h2 : m < n := by
      rcases Nat.lt_or_ge m n with h3 | h3
      · exact h3
      · have := Nat.div_le_div_right (c := 2 ^ k) h3
        omega
    rw [cmp3_lt (by omega)]
    omega
  · have h2 : n < m := by
      rcases Nat.lt_or_ge n m with h3 | h3
      · exact h3
      · have := Nat.div_le_div_right (c := 2 ^ k) h3
        omega
    rw [cmp3_gt (by omega)]
    omega

theorem short_lt {m : Nat} (h : (limbs m).length ≤ 1) : m < 18446744073709551616 := by
  have := len_lt h
  omega

set_option maxHeartbeats 1000000 in
theorem compared_good {w : World} {Z Y : Zone} {a b : Value} {m n : Nat} (ha : IsN w Z a m) (hb : IsN w Y b n) (hl : (limbs m).length ≤ 10000) (hl2 : (limbs n).length ≤ 10000) :
    Calls Try.prog 78 #[a, b] w fun e w' => e = .returned (.int .i64 (cmp3 m n)) ∧ w = w' := by
  have hsh := short_good ha hb
  have hmany := Lib.hid (many_good ha hb hl hl2)
  have h1 := Lib.hid (one_good ha)
  have h2 := Lib.hid (one_good hb)
  by_cases hs : ((limbs m).length ≤ 1 ∧ (limbs n).length ≤ 1) ∧ m ≠ n
  · obtain ⟨⟨s1, s2⟩, hne⟩ := hs
    rw [Nat.mod_eq_of_lt (short_lt s1)] at h1
    rw [Nat.mod_eq_of_lt (short_lt s2)] at h2
    rw [decide_eq_true s1, decide_eq_true s2] at hsh
    have Hsh := Lib.hid hsh
    clear hsh ha hb
    have hd : ((m : Int) != (n : Int)) = true := by rw [bne_iff_ne]; omega
    rcases Nat.lt_or_gt_of_ne hne with h | h
    all_goals
      go_enter Try.func78, Try.ntmps78
      go_wp2_with fail
      refine Hsh.out.mono ?_
      rintro e w1 ⟨rfl, rfl⟩
      go_wp2_with fail
      refine h1.out.mono ?_
      rintro e w1 ⟨rfl, rfl⟩
      go_wp2_with fail
      refine h2.out.mono ?_
      rintro e w1 ⟨rfl, rfl⟩
      go_wp2_with fail
      refine h1.out.mono ?_
      rintro e w1 ⟨rfl, rfl⟩
      go_wp2_with fail
      refine h2.out.mono ?_
      rintro e w1 ⟨rfl, rfl⟩
      go_wp2
      go_ret
      exact ⟨by first | (rw [cmp3_lt (by omega)]; rfl) | (rw [cmp3_gt (by omega)]; rfl), rfl⟩
  · have hcase : (decide ((limbs m).length ≤ 1) && decide ((limbs n).length ≤ 1)) = false ∨ ((decide ((limbs m).length ≤ 1) && decide ((limbs n).length ≤ 1)) = true ∧ m = n) := by
      by_cases hp : (limbs m).length ≤ 1 ∧ (limbs n).length ≤ 1
      · exact .inr ⟨by simp [hp.1, hp.2], Decidable.byContradiction fun h => hs ⟨hp, h⟩⟩
      · left
        rw [Bool.and_eq_false_iff]
        rcases Nat.lt_or_ge 1 (limbs m).length with h | h
        · exact .inl (by simp; omega)
        · exact .inr (by simp; omega)
    obtain ⟨p, hp⟩ : ∃ p : Nat, p = 64 * max (limbs m).length (limbs n).length := ⟨_, rfl⟩
    have hpi : (64 : Int) * max ((limbs m).length : Int) ((limbs n).length : Int) = (p : Int) := by omega
    rw [hpi] at hmany
    have hm := lt_pow_len m
    have hn := lt_pow_len n
    rw [W_pow] at hm hn
    have Hm := Lib.hid (Nat.lt_of_lt_of_le hm (Nat.pow_le_pow_right (by omega) (show 64 * (limbs m).length ≤ p by omega)))
    have Hn := Lib.hid (Nat.lt_of_lt_of_le hn (Nat.pow_le_pow_right (by omega) (show 64 * (limbs n).length ≤ p by omega)))
    have hp1 : p ≤ 640000 := by omega
    have hat := Lib.hid (fun i (hi : i ≤ 9223372036854775807) => at_good (i := i) ha hi)
    have hbt := Lib.hid (fun i (hi : i ≤ 9223372036854775807) => at_good (i := i) hb hi)
    have H0 := Lib.hid hp
    clear hpi hp hm hn hs ha hb
    have hdec : (decide ((limbs m).length ≤ 1) && decide ((limbs n).length ≤ 1)) = true → m = n → ((limbs m).length ≤ 1 ∧ (limbs n).length ≤ 1) ∧ ((m : Int) != (n : Int)) = false := fun h1 h2 => by
      rw [Bool.and_eq_true, decide_eq_true_iff, decide_eq_true_iff] at h1
      refine ⟨h1, ?_⟩
      subst h2
      exact bne_self_eq_false _
    rcases hcase with hv | ⟨hv, heq⟩
    · rw [hv] at hsh
      have Hsh := Lib.hid hsh
      clear hsh hv H0 hdec h1 h2
      go_enter Try.func78, Try.ntmps78
      go_wp2_with fail
      refine Hsh.out.mono ?_
      rintro e w1 ⟨rfl, rfl⟩
      go_wp2_with fail
      refine hmany.out.mono ?_
      rintro e w1 ⟨rfl, rfl⟩
      go_wp2
      go_loop [5] (fun i => ∃ k : Nat, k ≤ p ∧ i = .int .i64 ((k : Int) - 1) ∧ Hid (m / 2 ^ k = n / 2 ^ k)) (fun i => (intOf i + 1).toNat)
      case atStart => exact ⟨p, Nat.le_refl _, by go_num, Lib.hid (by rw [Nat.div_eq_of_lt Hm.out, Nat.div_eq_of_lt Hn.out])⟩
      case round =>
        obtain ⟨k, hk, rfl, heq⟩ := hrel
        match k, hk, heq with
        | 0, _, heq =>
          have e0 : (((0 : Nat) : Int) - 1) = -1 := rfl
          rw [e0]
          have hmn : m = n := by have := heq.out; rwa [Nat.pow_zero, Nat.div_one, Nat.div_one] at this
          have Hmn := Lib.hid hmn
          clear hmn heq
          go_wp2
          go_ret
          rw [Hmn.out, cmp3_eq]
          exact ⟨rfl, rfl⟩
        | k + 1, hk, heq =>
          have e0 : (((k + 1 : Nat) : Int) - 1) = (k : Int) := by omega
          rw [e0]
          have h1 := hat.out k (by omega)
          have h2 := hbt.out k (by omega)
          have c1 := half_step m k
          have c2 := half_step n k
          have hx1 : m / 2 ^ k % 2 ≤ 1 := by omega
          have hy1 : n / 2 ^ k % 2 ≤ 1 := by omega
          by_cases hxy : m / 2 ^ k % 2 = n / 2 ^ k % 2
          · have hn : m / 2 ^ k = n / 2 ^ k := by have := heq.out; omega
            have Hn2 := Lib.hid hn
            rw [← hxy] at h2
            clear hn hxy c1 c2 hy1
            generalize m / 2 ^ k % 2 = x at *
            have H1 := Lib.hid h1
            have H2 := Lib.hid h2
            clear h1 h2
            have hself : ((x : Int) != (x : Int)) = false := bne_self_eq_false _
            go_wp2_with fail
            refine H1.out.mono ?_
            rintro e w1 ⟨rfl, rfl⟩
            go_wp2_with fail
            refine H2.out.mono ?_
            rintro e w1 ⟨rfl, rfl⟩
            go_wp2
            go_round
            case rel => exact ⟨k, by omega, rfl, Hn2⟩
            case measure => simp [intOf]
          · have hc := Lib.hid (cmp_bit heq.out hxy)
            clear c1 c2
            generalize m / 2 ^ k % 2 = x at *
            generalize n / 2 ^ k % 2 = y at *
            have hd : ((x : Int) != (y : Int)) = true := by rw [bne_iff_ne]; omega
            have H1 := Lib.hid h1
            have H2 := Lib.hid h2
            have Hxy := Lib.hid hxy
            clear h1 h2 hxy
            go_wp2_with fail
            refine H1.out.mono ?_
            rintro e w1 ⟨rfl, rfl⟩
            go_wp2_with fail
            refine H2.out.mono ?_
            rintro e w1 ⟨rfl, rfl⟩
            go_wp2_with fail
            refine H1.out.mono ?_
            rintro e w1 ⟨rfl, rfl⟩
            go_wp2_with fail
            refine H2.out.mono ?_
            rintro e w1 ⟨rfl, rfl⟩
            go_wp2
            go_ret
            rw [hc.out]
            exact ⟨rfl, rfl⟩
    · obtain ⟨⟨s1, s2⟩, hd⟩ := hdec hv heq
      rw [hv] at hsh
      have h1 := h1.out
      have h2 := h2.out
      rw [Nat.mod_eq_of_lt (short_lt s1)] at h1
      rw [Nat.mod_eq_of_lt (short_lt s2)] at h2
      have H1 := Lib.hid h1
      have H2 := Lib.hid h2
      have Hsh := Lib.hid hsh
      clear hsh hv H0 hdec h1 h2 heq s1 s2
      go_enter Try.func78, Try.ntmps78
      go_wp2_with fail
      refine Hsh.out.mono ?_
      rintro e w1 ⟨rfl, rfl⟩
      go_wp2_with fail
      refine H1.out.mono ?_
      rintro e w1 ⟨rfl, rfl⟩
      go_wp2_with fail
      refine H2.out.mono ?_
      rintro e w1 ⟨rfl, rfl⟩
      go_wp2_with fail
      refine hmany.out.mono ?_
      rintro e w1 ⟨rfl, rfl⟩
      go_wp2
      clear hd
      go_loop [5] (fun i => ∃ k : Nat, k ≤ p ∧ i = .int .i64 ((k : Int) - 1) ∧ Hid (m / 2 ^ k = n / 2 ^ k)) (fun i => (intOf i + 1).toNat)
      case atStart => exact ⟨p, Nat.le_refl _, by go_num, Lib.hid (by rw [Nat.div_eq_of_lt Hm.out, Nat.div_eq_of_lt Hn.out])⟩
      case round =>
        obtain ⟨k, hk, rfl, heq⟩ := hrel
        match k, hk, heq with
        | 0, _, heq =>
          have e0 : (((0 : Nat) : Int) - 1) = -1 := rfl
          rw [e0]
          have hmn : m = n := by have := heq.out; rwa [Nat.pow_zero, Nat.div_one, Nat.div_one] at this
          have Hmn := Lib.hid hmn
          clear hmn heq
          go_wp2
          go_ret
          rw [Hmn.out, cmp3_eq]
          exact ⟨rfl, rfl⟩
        | k + 1, hk, heq =>
          have e0 : (((k + 1 : Nat) : Int) - 1) = (k : Int) := by omega
          rw [e0]
          have h1 := hat.out k (by omega)
          have h2 := hbt.out k (by omega)
          have c1 := half_step m k
          have c2 := half_step n k
          have hx1 : m / 2 ^ k % 2 ≤ 1 := by omega
          have hy1 : n / 2 ^ k % 2 ≤ 1 := by omega
          by_cases hxy : m / 2 ^ k % 2 = n / 2 ^ k % 2
          · have hn : m / 2 ^ k = n / 2 ^ k := by have := heq.out; omega
            have Hn2 := Lib.hid hn
            rw [← hxy] at h2
            clear hn hxy c1 c2 hy1
            generalize m / 2 ^ k % 2 = x at *
            have H1 := Lib.hid h1
            have H2 := Lib.hid h2
            clear h1 h2
            have hself : ((x : Int) != (x : Int)) = false := bne_self_eq_false _
            go_wp2_with fail
            refine H1.out.mono ?_
            rintro e w1 ⟨rfl, rfl⟩
            go_wp2_with fail
            refine H2.out.mono ?_
            rintro e w1 ⟨rfl, rfl⟩
            go_wp2
            go_round
            case rel => exact ⟨k, by omega, rfl, Hn2⟩
            case measure => simp [intOf]
          · have hc := Lib.hid (cmp_bit heq.out hxy)
            clear c1 c2
            generalize m / 2 ^ k % 2 = x at *
            generalize n / 2 ^ k % 2 = y at *
            have hd : ((x : Int) != (y : Int)) = true := by rw [bne_iff_ne]; omega
            have H1 := Lib.hid h1
            have H2 := Lib.hid h2
            have Hxy := Lib.hid hxy
            clear h1 h2 hxy
            go_wp2_with fail
            refine H1.out.mono ?_
            rintro e w1 ⟨rfl, rfl⟩
            go_wp2_with fail
            refine H2.out.mono ?_
            rintro e w1 ⟨rfl, rfl⟩
            go_wp2_with fail
            refine H1.out.mono ?_
            rintro e w1 ⟨rfl, rfl⟩
            go_wp2_with fail
            refine H2.out.mono ?_
            rintro e w1 ⟨rfl, rfl⟩
            go_wp2
            go_ret
            rw [hc.out]
            exact ⟨rfl, rfl⟩

end Go.Proofs.Ytodcjaobbnjikaa
