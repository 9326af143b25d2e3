/-
  The document's own answer, layer 1: its small functions. No conditions.
-/
import Derived.Test.YtodcjaobbnjikaaNatG
namespace Go.Proofs.Ytodcjaobbnjikaa
open Go.RowKit
set_option linter.unusedVariables false
set_option linter.unusedSimpArgs false

set_option maxHeartbeats 800000 in
theorem at_good {w : World} {Z : Zone} {a : Value} {n i : Nat} (ha : IsN w Z a n) (hi : i ≤ 9223372036854775807) :
    Calls Try.prog 71 #[a, .int .i64 (i : Int)] w fun e w' => e = .returned (.int .i64 ((n / 2 ^ i % 2 : Nat) : Int)) ∧ w = w' := by
  obtain ⟨A, c, rfl, ha⟩ := ha
  have hlen := ha.len
  by_cases h : i / 64 < (limbs n).length
  · obtain ⟨b, o, rfl, _, _, _, hc⟩ := ha.open (by omega)
    have hx := hc (i / 64) h
    have hlb := bit_limb n i
    rw [← limb_at h] at hlb
    have hxl := ha.small.get (j := i / 64) h
    clear ha hc
    generalize (limbs n)[i / 64] = x at *
    have Hlb := Lib.hid hlb
    clear hlb
    go_enter Try.func71, Try.ntmps71
    go_wp2
    go_ret
    refine ⟨ret_int ?_, rfl⟩
    rw [← Hlb.out, ← bit_word x (i % 64) hxl]
  · have hz := Lib.hid (bit_limb_beyond (n := n) (i := i) (by omega))
    go_enter Try.func71, Try.ntmps71
    go_wp2
    go_ret
    rw [hz.out]
    exact ⟨rfl, rfl⟩

/-- May a list of words be a number? -/
theorem may_any {w : World} {Z : Zone} {a : Value} {l : List Nat} (ha : IsU w Z a l) :
    Calls Try.prog 69 #[a] w fun e w' => e = .returned (.bool (good l)) ∧ w = w' := by
  obtain ⟨A, c, rfl, ha⟩ := ha
  have hlen := ha.len
  by_cases h0 : l.length = 0
  · obtain rfl := List.length_eq_zero_iff.1 h0
    simp only [List.length_nil]
    clear ha hlen h0
    go_enter Try.func69, Try.ntmps69
    go_wp2
    go_ret
    exact ⟨rfl, rfl⟩
  · obtain ⟨b, o, rfl, _, _, _, hc⟩ := ha.open (by omega)
    have hx := hc (l.length - 1) (by omega)
    have hg := Lib.hid (good_last (l := l) (by omega))
    have hd : ((l.length : Int) == 0) = false := beq_eq_false_iff_ne.2 (by omega)
    clear ha hc
    generalize l[l.length - 1] = x at *
    go_enter Try.func69, Try.ntmps69
    go_wp2
    go_ret
    have e : ((x : Int) != 0) = (x != 0) := by
      by_cases h : x = 0
      · subst h; rfl
      · rw [bne_iff_ne.2 h, bne_iff_ne.2 (by omega)]
    rw [hg.out, ← e]
    exact ⟨rfl, rfl⟩

theorem rcheck_any {w : World} {Z : Zone} {a : Value} {l : List Nat} (ha : IsU w Z a l) :
    Calls Try.prog 45 #[a] w fun e w' => e = .returned (.int .i64 (if good l = true then 0 else 8)) ∧ w = w' := by
  have h := Lib.hid (may_any ha)
  cases hg : good l
  all_goals
    rw [hg] at h
    clear hg
    go_enter Try.func45, Try.ntmps45
    go_wp2_with fail
    refine h.out.mono ?_
    rintro e w1 ⟨rfl, rfl⟩
    go_wp2
    go_ret
    exact ⟨rfl, rfl⟩

/-- The highest bit that is set. -/
theorem rsize_good {w : World} {Z : Zone} {a : Value} {n : Nat} (ha : IsN w Z a n) (hl : (limbs n).length ≤ 900000) :
    Calls Try.prog 70 #[a] w fun e w' => e = .returned (.int .i64 (size n : Int)) ∧ w = w' := by
  have hat := Lib.hid (fun i (hi : i ≤ 9223372036854775807) => at_good (i := i) ha hi)
  obtain ⟨A, c, rfl, ha⟩ := ha
  obtain ⟨L, hL⟩ : ∃ L, L = (limbs n).length := ⟨_, rfl⟩
  have hsz : size n ≤ 64 * L := by
    refine size_le_of ?_
    rw [hL, ← W_pow]
    exact lt_pow_len n
  rw [← hL] at hat hl ⊢
  clear hL ha
  go_enter Try.func70, Try.ntmps70
  go_wp2
  go_loop [3] (fun i => ∃ k : Nat, k ≤ 64 * L ∧ size n ≤ k ∧ i = .int .i64 ((k : Int) - 1)) (fun i => (intOf i + 1).toNat)
  case atStart => exact ⟨64 * L, Nat.le_refl _, hsz, by go_num⟩
  case round =>
    obtain ⟨k, hk, hks, rfl⟩ := hrel
    match k, hk, hks with
    | 0, _, hks =>
      have e0 : (((0 : Nat) : Int) - 1) = -1 := rfl
      rw [e0]
      have hs0 : size n = 0 := by omega
      have Hs0 := Lib.hid hs0
      clear hs0 hks hsz
      go_wp2
      go_ret
      rw [Hs0.out]
      exact ⟨rfl, rfl⟩
    | k + 1, hk, hks =>
      have e0 : (((k + 1 : Nat) : Int) - 1) = (k : Int) := by omega
      rw [e0]
      rcases Nat.mod_two_eq_zero_or_one (n / 2 ^ k) with hb | hb
      · have hks' : size n ≤ k := by
          rcases Nat.lt_or_ge k (size n) with h | h
          · obtain h1 : size n = k + 1 := by omega
            have h2 := top_bit (n := n) (fun e => by rw [e] at h; simp [size_zero] at h)
            rw [h1, Nat.add_sub_cancel] at h2
            omega
          · exact h
        have h := hat.out k (by omega)
        rw [hb] at h
        have H := Lib.hid h
        clear h hb hsz hks
        go_wp2_with fail
        refine H.out.mono ?_
        rintro e w1 ⟨rfl, rfl⟩
        go_wp2
        go_round
        case rel => exact ⟨k, by omega, hks', rfl⟩
        case measure => simp [intOf]
      · have hks' : size n = k + 1 := by
          rcases Nat.lt_or_ge k (size n) with h | h
          · omega
          · have := bit_beyond h
            omega
        have h := hat.out k (by omega)
        rw [hb] at h
        have H := Lib.hid h
        have Hks := Lib.hid hks'
        clear h hb hsz hks hks'
        go_wp2_with fail
        refine H.out.mono ?_
        rintro e w1 ⟨rfl, rfl⟩
        go_wp2
        go_ret
        rw [Hks.out]
        exact ⟨rfl, rfl⟩

end Go.Proofs.Ytodcjaobbnjikaa
