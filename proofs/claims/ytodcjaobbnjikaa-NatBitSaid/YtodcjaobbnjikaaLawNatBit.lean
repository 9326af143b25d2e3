/-
  The walk of NatBit: a number is told by its bits. No conditions.
-/
import Derived.Test.YtodcjaobbnjikaaNatH
namespace Go.Proofs.Ytodcjaobbnjikaa
open Go.RowKit
set_option linter.unusedVariables false
set_option linter.unusedSimpArgs false

theorem eq_of_bits {n m k : Nat} (hn : size n ≤ k) (hm : size m ≤ k) (h : ∀ j, j < k → n / 2 ^ j % 2 = m / 2 ^ j % 2) : n = m := by
  apply Nat.eq_of_testBit_eq
  intro i
  have e : ∀ t, t.testBit i = decide (t / 2 ^ i % 2 = 1) := fun t => Nat.testBit_eq_decide_div_mod_eq
  rw [e, e]
  by_cases hi : i < k
  · rw [h i hi]
  · rw [bit_beyond (n := n) (i := i) (by omega), bit_beyond (n := m) (i := i) (by omega)]

/-- All bits below k are the same. -/
def SameTo (n m k : Nat) (s : Bool) : Prop := s = true ↔ ∀ j, j < k → n / 2 ^ j % 2 = m / 2 ^ j % 2
theorem SameTo.start (n m : Nat) : SameTo n m 0 true := ⟨fun _ j h => by omega, fun _ => rfl⟩
theorem SameTo.no {n m k : Nat} (h : SameTo n m k false) : SameTo n m (k + 1) false := ⟨(fun e => by cases e), fun g => h.2 fun j hj => g j (by omega)⟩
theorem SameTo.ne {n m k : Nat} (hne : n / 2 ^ k % 2 ≠ m / 2 ^ k % 2) : SameTo n m (k + 1) false := ⟨(fun e => by cases e), fun g => absurd (g k (by omega)) hne⟩
theorem SameTo.eq {n m k : Nat} (h : SameTo n m k true) (he : n / 2 ^ k % 2 = m / 2 ^ k % 2) : SameTo n m (k + 1) true := ⟨fun _ j hj => by
  rcases Nat.lt_or_ge j k with h1 | h1
  · exact h.1 rfl j h1
  · obtain rfl : j = k := by omega
    exact he, fun _ => rfl⟩

set_option maxRecDepth 100000 in
set_option maxHeartbeats 4000000 in
theorem lawNatBit {w : World} {a b : Value} {la lb : List Nat} (ha : IsU w old a la) (hb : IsU w old b lb) :
    Calls Try.prog 7 #[a, b] w fun e w' => e = .returned (.bool true) ∧ Below w.heap.size w w' := by
  obtain ⟨A, ca, rfl, ha⟩ := ha
  obtain ⟨B, cb, rfl, hb⟩ := hb
  have hla := ha.len
  have hlb := hb.len
  have ua : IsU w old (.slice A la.length ca) la := ⟨A, ca, rfl, ha⟩
  have ub : IsU w old (.slice B lb.length cb) lb := ⟨B, cb, rfl, hb⟩
  clear ha hb
  by_cases hlim : la.length ≤ 20 ∧ lb.length ≤ 20
  · obtain ⟨h1, h2⟩ := hlim
    have t1 : decide ((20 : Int) < (la.length : Int)) = false := by simp; omega
    have t2 : decide ((20 : Int) < (lb.length : Int)) = false := by simp; omega
    rcases ua.decN with ⟨ga, na, ea⟩ | ga
    · rcases ub.decN with ⟨gb, nb, eb⟩ | gb
      · have ka : (limbs (val la)).length ≤ 20 := by omega
        have kb : (limbs (val lb)).length ≤ 20 := by omega
        have za := size_len (val la)
        have zb := size_len (val lb)
        clear ea eb ga gb ua ub
        generalize val la = n at *
        generalize val lb = m at *
        go_enter Try.func7, Try.ntmps7
        go_wp2_with fail
        refine (alive1 _).mono ?_
        rintro e w1 ⟨rfl, hb⟩
        replace na := na.below hb
        replace nb := nb.below hb
        go_wp2_with fail
        refine (long_good na (by omega)).mono ?_
        rintro e _ ⟨rfl, rfl⟩
        go_wp2_with fail
        refine (long_good nb (by omega)).mono ?_
        rintro e _ ⟨rfl, rfl⟩
        go_wp2_with fail
        go_loop [10, 11] (fun s i => ∃ (k : Nat) (t : Bool), k ≤ max (size n) (size m) + 3 ∧ i = .int .i64 k ∧ s = .bool t ∧ SameTo n m k t) (fun _ i => max (size n) (size m) + 3 - (intOf i).toNat)
        case atStart => exact ⟨0, true, Nat.zero_le _, rfl, rfl, SameTo.start n m⟩
        case round =>
          obtain ⟨k, t, hk, rfl, rfl, hst⟩ := hrel
          by_cases hlt : k < max (size n) (size m) + 3
          · have hb1 := bit_good (w := w1) (i := k) na (by omega)
            have hb2 := bit_good (w := w1) (i := k) nb (by omega)
            have hx : n / 2 ^ k % 2 = 0 ∨ n / 2 ^ k % 2 = 1 := by omega
            have hx0 : n / 2 ^ k % 2 = 0 → ((k : Int) == (size n : Int) - 1) = false := fun h => by
              rw [beq_eq_false_iff_ne]
              intro e
              have hn0 : n ≠ 0 := by
                rintro rfl
                rw [size_zero] at e
                omega
              have h3 := top_bit hn0
              have h4 := size_pos hn0
              rw [show size n - 1 = k by omega] at h3
              rw [h3] at h
              cases h
            have hx1 : n / 2 ^ k % 2 = 1 → decide (size n ≤ k) = false := fun h => by
              simp only [decide_eq_false_iff_not]
              intro e
              rw [bit_beyond (by omega)] at h
              cases h
            have hse : n / 2 ^ k % 2 = m / 2 ^ k % 2 → t = true → SameTo n m (k + 1) true := fun h e => by subst e; exact hst.eq h
            have hsn : n / 2 ^ k % 2 ≠ m / 2 ^ k % 2 → SameTo n m (k + 1) false := fun h => SameTo.ne h
            have hsf : t = false → SameTo n m (k + 1) false := fun e => by subst e; exact hst.no
            generalize n / 2 ^ k % 2 = x at *
            generalize m / 2 ^ k % 2 = y at *
            have Hb1 := Lib.hid hb1
            have Hb2 := Lib.hid hb2
            have Hse := Lib.hid hse
            have Hsn := Lib.hid hsn
            have Hsf := Lib.hid hsf
            have hk' : k + 1 ≤ max (size n) (size m) + 3 := by omega
            clear hb1 hb2 hse hsn hsf hst
            rcases hx with rfl | rfl
            · have g1 := hx0 rfl
              clear hx0 hx1
              rcases Nat.lt_or_ge k (size n) with hkn | hkn
              all_goals
                cases t
                · go_wp2_with fail
                  refine Hb1.out.mono ?_
                  rintro e _ ⟨rfl, rfl⟩
                  go_wp2_with fail
                  refine Hb2.out.mono ?_
                  rintro e _ ⟨rfl, rfl⟩
                  go_wp2
                  go_round
                  case rel => exact ⟨k + 1, false, hk', by go_num, rfl, by first | exact Hsf.out rfl | exact Hsf.out trivial⟩
                  case measure => simp [intOf]; omega
                · by_cases hy : (0 : Nat) = y
                  · subst hy
                    go_wp2_with fail
                    refine Hb1.out.mono ?_
                    rintro e _ ⟨rfl, rfl⟩
                    go_wp2_with fail
                    refine Hb2.out.mono ?_
                    rintro e _ ⟨rfl, rfl⟩
                    go_wp2
                    go_round
                    case rel => exact ⟨k + 1, true, hk', by go_num, rfl, by first | exact Hse.out rfl rfl | exact Hse.out rfl trivial | exact Hse.out trivial trivial⟩
                    case measure => simp [intOf]; omega
                  · have g2 : ((0 : Int) == (y : Int)) = false := beq_eq_false_iff_ne.2 (by omega)
                    have Hy := Lib.hid hy
                    clear hy
                    go_wp2_with fail
                    refine Hb1.out.mono ?_
                    rintro e _ ⟨rfl, rfl⟩
                    go_wp2_with fail
                    refine Hb2.out.mono ?_
                    rintro e _ ⟨rfl, rfl⟩
                    go_wp2
                    go_round
                    case rel => exact ⟨k + 1, false, hk', by go_num, by first | rfl | simp; omega, Hsn.out Hy.out⟩
                    case measure => simp [intOf]; omega
            · have g1 := hx1 rfl
              clear hx0 hx1
              have hpos : 0 ≤ (k : Int) := by omega
              by_cases hkn : (k : Int) = (size n : Int) - 1
              all_goals
                first
                | (have g3 : ((k : Int) == (size n : Int) - 1) = true := beq_iff_eq.2 hkn)
                | (have g3 : ((k : Int) == (size n : Int) - 1) = false := beq_eq_false_iff_ne.2 hkn)
                clear hkn
                cases t
                · go_wp2_with fail
                  refine Hb1.out.mono ?_
                  rintro e _ ⟨rfl, rfl⟩
                  go_wp2_with fail
                  refine Hb2.out.mono ?_
                  rintro e _ ⟨rfl, rfl⟩
                  go_wp2
                  go_round
                  case rel => exact ⟨k + 1, false, hk', by go_num, rfl, by first | exact Hsf.out rfl | exact Hsf.out trivial⟩
                  case measure => simp [intOf]; omega
                · by_cases hy : (1 : Nat) = y
                  · subst hy
                    go_wp2_with fail
                    refine Hb1.out.mono ?_
                    rintro e _ ⟨rfl, rfl⟩
                    go_wp2_with fail
                    refine Hb2.out.mono ?_
                    rintro e _ ⟨rfl, rfl⟩
                    go_wp2
                    go_round
                    case rel => exact ⟨k + 1, true, hk', by go_num, rfl, by first | exact Hse.out rfl rfl | exact Hse.out rfl trivial | exact Hse.out trivial trivial⟩
                    case measure => simp [intOf]; omega
                  · have g2 : ((1 : Int) == (y : Int)) = false := beq_eq_false_iff_ne.2 (by omega)
                    have Hy := Lib.hid hy
                    clear hy
                    go_wp2_with fail
                    refine Hb1.out.mono ?_
                    rintro e _ ⟨rfl, rfl⟩
                    go_wp2_with fail
                    refine Hb2.out.mono ?_
                    rintro e _ ⟨rfl, rfl⟩
                    go_wp2
                    go_round
                    case rel => exact ⟨k + 1, false, hk', by go_num, by first | rfl | simp; omega, Hsn.out Hy.out⟩
                    case measure => simp [intOf]; omega
          · have hk' : k = max (size n) (size m) + 3 := by omega
            have hst' : t = true ↔ n = m := ⟨fun e => eq_of_bits (k := k) (by omega) (by omega) (hst.1 e), fun e => hst.2 fun j _ => by rw [e]⟩
            have Hst := Lib.hid hst'
            clear hst hst' hk'
            cases t
            · go_wp2_with fail
              refine (same_noN na nb (fun e => by have := Hst.out.2 e; cases this)).mono ?_
              rintro e w2 ⟨rfl, hb2⟩
              go_wp2
              go_ret
              exact ⟨rfl, from_ hb hb2⟩
            · go_wp2_with fail
              refine (same_num na nb (by first | exact Hst.out.1 rfl | exact Hst.out.1 trivial | simpa using Hst.out)).mono ?_
              rintro e w2 ⟨rfl, hb2⟩
              go_wp2
              go_ret
              exact ⟨rfl, from_ hb hb2⟩
      · have Gx := Lib.hid gb
        have ka : (limbs (val la)).length ≤ 20 := by omega
        clear gb ga ea ua
        go_enter Try.func7, Try.ntmps7
        go_wp2_with fail
        refine (alive1 _).mono ?_
        rintro e w1 ⟨rfl, hb⟩
        replace na := na.below hb
        replace ub := ub.below hb
        go_wp2_with fail
        refine (long_good na (by omega)).mono ?_
        rintro e _ ⟨rfl, rfl⟩
        go_wp2_with fail
        refine (long_bad ub Gx.out).mono ?_
        rintro e _ ⟨rfl, rfl⟩
        go_wp2
        go_ret
        exact ⟨rfl, hb⟩
    · have Gx := Lib.hid ga
      clear ga
      rcases ub.decN with ⟨gb, nb, eb⟩ | gb
      · have kb : (limbs (val lb)).length ≤ 20 := by omega
        clear gb eb ub
        go_enter Try.func7, Try.ntmps7
        go_wp2_with fail
        refine (alive1 _).mono ?_
        rintro e w1 ⟨rfl, hb⟩
        replace ua := ua.below hb
        replace nb := nb.below hb
        go_wp2_with fail
        refine (long_bad ua Gx.out).mono ?_
        rintro e _ ⟨rfl, rfl⟩
        go_wp2_with fail
        refine (long_good nb (by omega)).mono ?_
        rintro e _ ⟨rfl, rfl⟩
        go_wp2
        go_ret
        exact ⟨rfl, hb⟩
      · have Gy := Lib.hid gb
        clear gb
        go_enter Try.func7, Try.ntmps7
        go_wp2_with fail
        refine (alive1 _).mono ?_
        rintro e w1 ⟨rfl, hb⟩
        replace ua := ua.below hb
        replace ub := ub.below hb
        go_wp2_with fail
        refine (long_bad ua Gx.out).mono ?_
        rintro e _ ⟨rfl, rfl⟩
        go_wp2_with fail
        refine (long_bad ub Gy.out).mono ?_
        rintro e _ ⟨rfl, rfl⟩
        go_wp2
        go_ret
        exact ⟨rfl, hb⟩
  · have hd : ((20 : Int) < (la.length : Int)) ∨ (decide ((20 : Int) < (la.length : Int)) = false ∧ (20 : Int) < (lb.length : Int)) := by simp; omega
    clear hlim
    rcases hd with t0 | ⟨t0, t1⟩
    all_goals
      go_enter Try.func7, Try.ntmps7
      go_wp2_with fail
      refine (alive1 _).mono ?_
      rintro e w1 ⟨rfl, hb⟩
      go_wp2
      go_ret
      exact ⟨rfl, hb⟩

end Go.Proofs.Ytodcjaobbnjikaa
