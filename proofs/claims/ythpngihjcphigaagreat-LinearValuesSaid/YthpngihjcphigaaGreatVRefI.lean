/- The contracts of mul.Pow. -/
import Derived.Lib.RabinKarpLaws
import Derived.Test.YthpngihjcphigaaGreatVRefE
set_option linter.unusedVariables false
set_option linter.unusedSimpArgs false
set_option maxRecDepth 100000
set_option maxHeartbeats 40000000
namespace Go.Proofs.YthpngihjcphigaaGreat
open Go.Lib (hid)
open Go.RowKit
variable {Y Z : Zone} {a b : Value} {c d m : Nat} {w : World}
theorem half_step (n b : Nat) : n / 2 ^ b = n / 2 ^ (b + 1) + n / 2 ^ (b + 1) + n / 2 ^ b % 2 := by
 rw [Nat.pow_succ, ← Nat.div_div_eq_div_mul]
 omega
theorem cmp_bit {n k : Nat} (h : m / 2 ^ (k + 1) = n / 2 ^ (k + 1)) (hb : m / 2 ^ k % 2 ≠ n / 2 ^ k % 2) : cmp3 m n = ((m / 2 ^ k % 2 : Nat) : Int) - ((n / 2 ^ k % 2 : Nat) : Int) := by
 have e1 := half_step m k
 have e2 := half_step n k
 rw [h] at e1
 generalize n / 2 ^ (k + 1) = q at *
 have hp : 0 < 2 ^ k := Nat.pow_pos (by omega)
 rcases Nat.lt_or_ge (m / 2 ^ k) (n / 2 ^ k) with h1 | h1
 · have h2 : m < n := by
    rcases Nat.lt_or_ge m n with h3 | h3
    · exact h3
    · have := Nat.div_le_div_right (c := 2 ^ k) h3
      omega
   rw [cmp3_lt (by omega)]
   omega
 · have h2 : n < m := by
    rcases Nat.lt_or_ge n m with h3 | h3
    · exact h3
    · have := Nat.div_le_div_right (c := 2 ^ k) h3
      omega
   rw [cmp3_gt (by omega)]
   omega
theorem short_lt (h : (limbs m).length ≤ 1) : m < 18446744073709551616 := by
 have := len_lt h
 omega
theorem compared_good {n : Nat} (ha : IsN w Z a m) (hb : IsN w Y b n) (hl : (limbs m).length ≤ 10000000000) (hl2 : (limbs n).length ≤ 10000000000) :
  Calls Tryz.prog 122 #[a, b] w fun e w' => e = .returned (.int .i64 (cmp3 m n)) ∧ w = w' := by
 have hsh := short_good ha hb
 obtain ⟨hmany, h1, h2⟩ := hid3 (many_good ha hb hl hl2) (one_good ha) (one_good hb)
 by_cases hs : ((limbs m).length ≤ 1 ∧ (limbs n).length ≤ 1) ∧ m ≠ n
 · obtain ⟨⟨s1, s2⟩, hne⟩ := hs
   rw [Nat.mod_eq_of_lt (short_lt s1)] at h1
   rw [Nat.mod_eq_of_lt (short_lt s2)] at h2
   rw [decide_eq_true s1, decide_eq_true s2] at hsh
   have Hsh := hid hsh
   clear hsh ha hb
   have hd : ((m : Int) != (n : Int)) = true := by rw [bne_iff_ne]; omega
   rcases Nat.lt_or_gt_of_ne hne with h | h
   all_goals
    go_enter Tryz.func122, Tryz.ntmps122
    go_wp2_with fail
    refine Hsh.out.mono ?_
    rintro e w1 ⟨rfl, rfl⟩
    go_wp2_with fail
    refine h1.out.mono ?_
    rintro e w1 ⟨rfl, rfl⟩
    go_wp2_with fail
    refine h2.out.mono ?_
    rintro e w1 ⟨rfl, rfl⟩
    go_wp2_with fail
    refine h1.out.mono ?_
    rintro e w1 ⟨rfl, rfl⟩
    go_wp2_with fail
    refine h2.out.mono ?_
    rintro e w1 ⟨rfl, rfl⟩
    go_wp2
    go_ret
    exact ⟨by first | (rw [cmp3_lt (by omega)]; rfl) | (rw [cmp3_gt (by omega)]; rfl), rfl⟩
 · have hcase : (decide ((limbs m).length ≤ 1) && decide ((limbs n).length ≤ 1)) = false ∨ ((decide ((limbs m).length ≤ 1) && decide ((limbs n).length ≤ 1)) = true ∧ m = n) := by
    by_cases hp : (limbs m).length ≤ 1 ∧ (limbs n).length ≤ 1
    · exact .inr ⟨by simp [hp.1, hp.2], Decidable.byContradiction fun h => hs ⟨hp, h⟩⟩
    · left
      rw [Bool.and_eq_false_iff]
      rcases Nat.lt_or_ge 1 (limbs m).length with h | h
      · exact .inl (by simp; omega)
      · exact .inr (by simp; omega)
   obtain ⟨p, hp⟩ : ∃ p : Nat, p = 64 * max (limbs m).length (limbs n).length := ⟨_, rfl⟩
   have hpi : (64 : Int) * max ((limbs m).length : Int) ((limbs n).length : Int) = (p : Int) := by omega
   rw [hpi] at hmany
   have hm := lt_pow_len m
   have hn := lt_pow_len n
   rw [W_pow] at hm hn
   obtain ⟨Hm, Hn⟩ := hid2 (Nat.lt_of_lt_of_le hm (Nat.pow_le_pow_right (by omega) (show 64 * (limbs m).length ≤ p by omega))) (Nat.lt_of_lt_of_le hn (Nat.pow_le_pow_right (by omega) (show 64 * (limbs n).length ≤ p by omega)))
   have hp1 : p ≤ 640000000000 := by omega
   obtain ⟨hat, hbt, H0⟩ := hid3 (fun i (hi : i ≤ 9223372036854775807) => at_good (i := i) ha hi) (fun i (hi : i ≤ 9223372036854775807) => at_good (i := i) hb hi) hp
   clear hpi hp hm hn hs ha hb
   have hdec : (decide ((limbs m).length ≤ 1) && decide ((limbs n).length ≤ 1)) = true → m = n → ((limbs m).length ≤ 1 ∧ (limbs n).length ≤ 1) ∧ ((m : Int) != (n : Int)) = false := fun h1 h2 => by
    rw [Bool.and_eq_true, decide_eq_true_iff, decide_eq_true_iff] at h1
    refine ⟨h1, ?_⟩
    subst h2
    exact bne_self_eq_false _
   rcases hcase with hv | ⟨hv, heq⟩
   · rw [hv] at hsh
     have Hsh := hid hsh
     clear hsh hv H0 hdec h1 h2
     go_enter Tryz.func122, Tryz.ntmps122
     go_wp2_with fail
     refine Hsh.out.mono ?_
     rintro e w1 ⟨rfl, rfl⟩
     go_wp2_with fail
     refine hmany.out.mono ?_
     rintro e w1 ⟨rfl, rfl⟩
     go_wp2
     go_loop [5] (fun i => ∃ k : Nat, k ≤ p ∧ i = .int .i64 ((k : Int) - 1) ∧ Hid (m / 2 ^ k = n / 2 ^ k)) (fun i => (intOf i + 1).toNat)
     case atStart => exact ⟨p, Nat.le_refl _, by go_num, hid (by rw [Nat.div_eq_of_lt Hm.out, Nat.div_eq_of_lt Hn.out])⟩
     case round =>
      obtain ⟨k, hk, rfl, heq⟩ := hrel
      match k, hk, heq with
      | 0, _, heq =>
        have e0 : (((0 : Nat) : Int) - 1) = -1 := rfl
        rw [e0]
        have hmn : m = n := by have := heq.out; rwa [Nat.pow_zero, Nat.div_one, Nat.div_one] at this
        have Hmn := hid hmn
        clear hmn heq
        go_wp2
        go_ret
        rw [Hmn.out, cmp3_eq]
        exact ⟨rfl, rfl⟩
      | k + 1, hk, heq =>
        have e0 : (((k + 1 : Nat) : Int) - 1) = (k : Int) := by omega
        rw [e0]
        have h1 := hat.out k (by omega)
        have h2 := hbt.out k (by omega)
        have c1 := half_step m k
        have c2 := half_step n k
        have hx1 : m / 2 ^ k % 2 ≤ 1 := by omega
        have hy1 : n / 2 ^ k % 2 ≤ 1 := by omega
        by_cases hxy : m / 2 ^ k % 2 = n / 2 ^ k % 2
        · have hn : m / 2 ^ k = n / 2 ^ k := by have := heq.out; omega
          have Hn2 := hid hn
          rw [← hxy] at h2
          clear hn hxy c1 c2 hy1
          generalize m / 2 ^ k % 2 = x at *
          obtain ⟨H1, H2⟩ := hid2 h1 h2
          clear h1 h2
          have hself : ((x : Int) != (x : Int)) = false := bne_self_eq_false _
          go_wp2_with fail
          refine H1.out.mono ?_
          rintro e w1 ⟨rfl, rfl⟩
          go_wp2_with fail
          refine H2.out.mono ?_
          rintro e w1 ⟨rfl, rfl⟩
          go_wp2
          go_round
          case rel => exact ⟨k, by omega, rfl, Hn2⟩
          case measure => simp [intOf]
        · have hc := hid (cmp_bit heq.out hxy)
          clear c1 c2
          generalize m / 2 ^ k % 2 = x at *
          generalize n / 2 ^ k % 2 = y at *
          have hd : ((x : Int) != (y : Int)) = true := by rw [bne_iff_ne]; omega
          obtain ⟨H1, H2, Hxy⟩ := hid3 h1 h2 hxy
          clear h1 h2 hxy
          go_wp2_with fail
          refine H1.out.mono ?_
          rintro e w1 ⟨rfl, rfl⟩
          go_wp2_with fail
          refine H2.out.mono ?_
          rintro e w1 ⟨rfl, rfl⟩
          go_wp2_with fail
          refine H1.out.mono ?_
          rintro e w1 ⟨rfl, rfl⟩
          go_wp2_with fail
          refine H2.out.mono ?_
          rintro e w1 ⟨rfl, rfl⟩
          go_wp2
          go_ret
          rw [hc.out]
          exact ⟨rfl, rfl⟩
   · obtain ⟨⟨s1, s2⟩, hd⟩ := hdec hv heq
     rw [hv] at hsh
     have h1 := h1.out
     have h2 := h2.out
     rw [Nat.mod_eq_of_lt (short_lt s1)] at h1
     rw [Nat.mod_eq_of_lt (short_lt s2)] at h2
     obtain ⟨H1, H2, Hsh⟩ := hid3 h1 h2 hsh
     clear hsh hv H0 hdec h1 h2 heq s1 s2
     go_enter Tryz.func122, Tryz.ntmps122
     go_wp2_with fail
     refine Hsh.out.mono ?_
     rintro e w1 ⟨rfl, rfl⟩
     go_wp2_with fail
     refine H1.out.mono ?_
     rintro e w1 ⟨rfl, rfl⟩
     go_wp2_with fail
     refine H2.out.mono ?_
     rintro e w1 ⟨rfl, rfl⟩
     go_wp2_with fail
     refine hmany.out.mono ?_
     rintro e w1 ⟨rfl, rfl⟩
     go_wp2
     clear hd
     go_loop [5] (fun i => ∃ k : Nat, k ≤ p ∧ i = .int .i64 ((k : Int) - 1) ∧ Hid (m / 2 ^ k = n / 2 ^ k)) (fun i => (intOf i + 1).toNat)
     case atStart => exact ⟨p, Nat.le_refl _, by go_num, hid (by rw [Nat.div_eq_of_lt Hm.out, Nat.div_eq_of_lt Hn.out])⟩
     case round =>
      obtain ⟨k, hk, rfl, heq⟩ := hrel
      match k, hk, heq with
      | 0, _, heq =>
        have e0 : (((0 : Nat) : Int) - 1) = -1 := rfl
        rw [e0]
        have hmn : m = n := by have := heq.out; rwa [Nat.pow_zero, Nat.div_one, Nat.div_one] at this
        have Hmn := hid hmn
        clear hmn heq
        go_wp2
        go_ret
        rw [Hmn.out, cmp3_eq]
        exact ⟨rfl, rfl⟩
      | k + 1, hk, heq =>
        have e0 : (((k + 1 : Nat) : Int) - 1) = (k : Int) := by omega
        rw [e0]
        have h1 := hat.out k (by omega)
        have h2 := hbt.out k (by omega)
        have c1 := half_step m k
        have c2 := half_step n k
        have hx1 : m / 2 ^ k % 2 ≤ 1 := by omega
        have hy1 : n / 2 ^ k % 2 ≤ 1 := by omega
        by_cases hxy : m / 2 ^ k % 2 = n / 2 ^ k % 2
        · have hn : m / 2 ^ k = n / 2 ^ k := by have := heq.out; omega
          have Hn2 := hid hn
          rw [← hxy] at h2
          clear hn hxy c1 c2 hy1
          generalize m / 2 ^ k % 2 = x at *
          obtain ⟨H1, H2⟩ := hid2 h1 h2
          clear h1 h2
          have hself : ((x : Int) != (x : Int)) = false := bne_self_eq_false _
          go_wp2_with fail
          refine H1.out.mono ?_
          rintro e w1 ⟨rfl, rfl⟩
          go_wp2_with fail
          refine H2.out.mono ?_
          rintro e w1 ⟨rfl, rfl⟩
          go_wp2
          go_round
          case rel => exact ⟨k, by omega, rfl, Hn2⟩
          case measure => simp [intOf]
        · have hc := hid (cmp_bit heq.out hxy)
          clear c1 c2
          generalize m / 2 ^ k % 2 = x at *
          generalize n / 2 ^ k % 2 = y at *
          have hd : ((x : Int) != (y : Int)) = true := by rw [bne_iff_ne]; omega
          obtain ⟨H1, H2, Hxy⟩ := hid3 h1 h2 hxy
          clear h1 h2 hxy
          go_wp2_with fail
          refine H1.out.mono ?_
          rintro e w1 ⟨rfl, rfl⟩
          go_wp2_with fail
          refine H2.out.mono ?_
          rintro e w1 ⟨rfl, rfl⟩
          go_wp2_with fail
          refine H1.out.mono ?_
          rintro e w1 ⟨rfl, rfl⟩
          go_wp2_with fail
          refine H2.out.mono ?_
          rintro e w1 ⟨rfl, rfl⟩
          go_wp2
          go_ret
          rw [hc.out]
          exact ⟨rfl, rfl⟩
theorem rof_any {x : Nat} (hx : x < 18446744073709551616) :
  Calls Tryz.prog 95 #[.int .u64 (x : Int)] w fun e w' => ∃ v, e = .returned v ∧ IsN w' (new w.heap.size) v x ∧ Below w.heap.size w w' := by
 by_cases h0 : x = 0
 · subst h0
   go_enter Tryz.func95, Tryz.ntmps95
   go_wp2
   go_ret
   exact ⟨_, rfl, IsN.zero _ _, Below.refl _ _⟩
 · have hb0 : Below w.heap.size w (w.alloc (.cells #[.int .u64 (x : Int)] 95)) := (Below.refl _ w).alloc (Nat.le_refl _) _
   have hu : U64s (w.alloc (.cells #[.int .u64 (x : Int)] 95)) (new w.heap.size) (some ⟨w.heap.size, 0, none⟩) 1 [x] :=
    ⟨Small.cons hx Small.nil, by simp, by omega, (fun h => by cases h), fun _ => ⟨w.heap.size, 0, rfl, Nat.le_refl _, fun _ j => by simp, fun j u hu => by
     match j, hu with
     | 0, hu => simp at hu; subst hu; simp⟩⟩
   have hd : ((x : Int) == 0) = false := beq_eq_false_iff_ne.2 (by omega)
   obtain ⟨Hu, Hlim, Hb0⟩ := hid3 hu (limbs_one (by omega) hx) hb0
   clear hu hb0 h0
   go_enter Tryz.func95, Tryz.ntmps95
   go_wp2
   go_ret
   exact ⟨_, rfl, by unfold IsN; rw [Hlim.out]; exact ⟨_, _, rfl, Hu.out⟩, Hb0.out⟩
inductive SumWay (m n : Nat) : Prop
 | words (s1 : (limbs m).length ≤ 1) (s2 : (limbs n).length ≤ 1) (h1 : m < 9223372036854775808) (h2 : n < 9223372036854775808)
 | long (h : (decide ((limbs m).length ≤ 1) && decide ((limbs n).length ≤ 1)) = false)
 | great (s1 : (limbs m).length ≤ 1) (s2 : (limbs n).length ≤ 1) (h1 : 9223372036854775808 ≤ m)
 | great2 (s1 : (limbs m).length ≤ 1) (s2 : (limbs n).length ≤ 1) (h1 : m < 9223372036854775808) (h2 : 9223372036854775808 ≤ n)
theorem sumWay (m n : Nat) : SumWay m n := by
 rcases Nat.lt_or_ge 1 (limbs m).length with h | s1
 · exact .long (by rw [decide_eq_false (by omega)]; rfl)
 rcases Nat.lt_or_ge 1 (limbs n).length with h | s2
 · exact .long (by rw [decide_eq_false (p := (limbs n).length ≤ 1) (by omega), Bool.and_false])
 rcases Nat.lt_or_ge m 9223372036854775808 with h1 | h1
 · rcases Nat.lt_or_ge n 9223372036854775808 with h2 | h2
   · exact .words s1 s2 h1 h2
   · exact .great2 s1 s2 h1 h2
 · exact .great s1 s2 h1
theorem bits_sum {n k : Nat} (h : (m + n) / 2 ^ k = m / 2 ^ k + n / 2 ^ k + c) (hc : c ≤ 1) :
  (m + n) / 2 ^ k % 2 = (m / 2 ^ k % 2 + n / 2 ^ k % 2 + c) % 2 ∧ (m + n) / 2 ^ (k + 1) = m / 2 ^ (k + 1) + n / 2 ^ (k + 1) + (m / 2 ^ k % 2 + n / 2 ^ k % 2 + c) / 2 := by
 have e1 := half_step m k
 have e2 := half_step n k
 have e3 := half_step (m + n) k
 omega
theorem bits_rest {n k : Nat} (h : m / 2 ^ k = d / 2 ^ k + n / 2 ^ k + c) (hc : c ≤ 1) :
  ∃ c' , c' ≤ 1 ∧ m / 2 ^ (k + 1) = d / 2 ^ (k + 1) + n / 2 ^ (k + 1) + c' ∧ m / 2 ^ k % 2 + 2 * c' = d / 2 ^ k % 2 + n / 2 ^ k % 2 + c := by
 have e1 := half_step m k
 have e2 := half_step n k
 have e3 := half_step d k
 exact ⟨(d / 2 ^ k % 2 + n / 2 ^ k % 2 + c) / 2, by omega, by omega, by omega⟩
theorem sum1_good {n : Nat} (ha : IsN w Z a m) (hb : IsN w Y b n) (hl : (limbs m).length ≤ 10000000000) (hl2 : (limbs n).length ≤ 10000000000) :
  Calls Tryz.prog 121 #[a, b] w fun e w' => ∃ v, e = .returned v ∧ IsN w' (new w.heap.size) v (m + n) ∧ Below w.heap.size w w' := by
 have hsh := short_good ha hb
 have h1 := one_good ha
 have h2 := one_good hb
 have ha0 := ha
 have hb0 := hb
 obtain ⟨A, ca, rfl, -⟩ := ha
 obtain ⟨B, cb, rfl, -⟩ := hb
 obtain ⟨i0, hi, hz0, hz1, hz2⟩ := info_parts (show (Tryz.prog.info? 3).map (fun i => (i.zero, i.size, i.bytes)) = some (some (.int .i64 0), 1, 8) by kernel_rfl)
 obtain ⟨p, hp⟩ : ∃ p : Nat, p = 64 * max (limbs m).length (limbs n).length := ⟨_, rfl⟩
 have hpi : (64 : Int) * max ((limbs m).length : Int) ((limbs n).length : Int) = (p : Int) := by omega
 have hm := lt_pow_len m
 have hn := lt_pow_len n
 rw [W_pow] at hm hn
 obtain ⟨Hm, Hn⟩ := hid2 (Nat.lt_of_lt_of_le hm (Nat.pow_le_pow_right (by omega) (show 64 * (limbs m).length ≤ p by omega))) (Nat.lt_of_lt_of_le hn (Nat.pow_le_pow_right (by omega) (show 64 * (limbs n).length ≤ p by omega)))
 have hp1 : p ≤ 640000000000 := by omega
 have Hpi := hid hpi
 have hway := sumWay m n
 cases hway
 case words s1 s2 t1 t2 =>
  rw [Nat.mod_eq_of_lt (short_lt s1)] at h1
  rw [Nat.mod_eq_of_lt (short_lt s2)] at h2
  rw [decide_eq_true s1, decide_eq_true s2] at hsh
  obtain ⟨Hsh, H1, H2⟩ := hid3 hsh h1 h2
  have q1 : decide ((m : Int) < 9223372036854775808) = true := decide_eq_true (by omega)
  have q2 : decide ((n : Int) < 9223372036854775808) = true := decide_eq_true (by omega)
  have hw : IntKind.u64.wrap ((m : Int) + (n : Int)) = ((m + n : Nat) : Int) := by rw [IntKind.wrap_u64]; omega
  have T := hid (And.intro t1 t2)
  clear hsh h1 h2 ha0 hb0 hm hn hp hpi s1 s2 t1 t2
  go_enter Tryz.func121, Tryz.ntmps121
  go_wp2_with fail
  refine Hsh.out.mono ?_
  rintro e w1 ⟨rfl, rfl⟩
  go_wp2_with fail
  refine H1.out.mono ?_
  rintro e w1 ⟨rfl, rfl⟩
  go_wp2_with fail
  refine H2.out.mono ?_
  rintro e w1 ⟨rfl, rfl⟩
  go_wp2_with fail
  refine H1.out.mono ?_
  rintro e w1 ⟨rfl, rfl⟩
  go_wp2_with fail
  refine H2.out.mono ?_
  rintro e w1 ⟨rfl, rfl⟩
  go_wp2_with fail
  refine (rof_any (x := m + n) (by have := T.out; omega)).mono ?_
  rintro e w1 ⟨v, rfl, hv, hb1⟩
  go_wp2
  go_ret
  exact ⟨_, rfl, hv, hb1⟩
 case' long h =>
  rw [h] at hsh
  have Hsh := hid hsh
  clear hsh h1 h2 hm hn hp hpi h
  go_enter Tryz.func121, Tryz.ntmps121
  go_wp2_with fail
  refine Hsh.out.mono ?_
  rintro e w1 ⟨rfl, rfl⟩
  go_wp2
 case' great s1 s2 t1 =>
  rw [Nat.mod_eq_of_lt (short_lt s1)] at h1
  rw [decide_eq_true s1, decide_eq_true s2] at hsh
  obtain ⟨Hsh, H1⟩ := hid2 hsh h1
  have t3 : decide ((m : Int) < 9223372036854775808) = false := decide_eq_false (by omega)
  clear hsh h1 h2 hm hn hp hpi s1 s2 t1
  go_enter Tryz.func121, Tryz.ntmps121
  go_wp2_with fail
  refine Hsh.out.mono ?_
  rintro e w1 ⟨rfl, rfl⟩
  go_wp2_with fail
  refine H1.out.mono ?_
  rintro e w1 ⟨rfl, rfl⟩
  go_wp2
  clear t3
 case' great2 s1 s2 t1 t2 =>
  rw [Nat.mod_eq_of_lt (short_lt s1)] at h1
  rw [Nat.mod_eq_of_lt (short_lt s2)] at h2
  rw [decide_eq_true s1, decide_eq_true s2] at hsh
  obtain ⟨Hsh, H1, H2⟩ := hid3 hsh h1 h2
  have t3 : decide ((m : Int) < 9223372036854775808) = true := decide_eq_true (by omega)
  have t4 : decide ((n : Int) < 9223372036854775808) = false := decide_eq_false (by omega)
  clear hsh h1 h2 hm hn hp hpi s1 s2 t1 t2
  go_enter Tryz.func121, Tryz.ntmps121
  go_wp2_with fail
  refine Hsh.out.mono ?_
  rintro e w1 ⟨rfl, rfl⟩
  go_wp2_with fail
  refine H1.out.mono ?_
  rintro e w1 ⟨rfl, rfl⟩
  go_wp2_with fail
  refine H2.out.mono ?_
  rintro e w1 ⟨rfl, rfl⟩
  go_wp2
  clear t3 t4
 all_goals
  go_loopw [5, 6, 7] (fun v cv i wr => ∃ k c : Nat, k ≤ p + 1 ∧ i = .int .i64 (k : Int) ∧ cv = .int .i64 (c : Int) ∧ c ≤ 1 ∧ Hid ((m + n) / 2 ^ k = m / 2 ^ k + n / 2 ^ k + c) ∧ wr.ownsRow w.heap.size 3 1 v k ((bitsFrom (m + n) 0 k).map fun x : Nat => Value.int .i64 (x : Int)) ∧ Below w.heap.size w wr) (fun _ _ i _ => p + 1 - (intOf i).toNat)
  case atStart => exact ⟨0, 0, Nat.zero_le _, rfl, rfl, by omega, hid (by simp), World.ownsRow_nil _ _ _ _, Below.refl _ _⟩
  case round =>
   obtain ⟨k, c, hk, rfl, rfl, hc, heq, hown, hbel⟩ := hrel
   have ha1 := ha0.below hbel
   have hb1 := hb0.below hbel
   have hmany := many_good ha1 hb1 hl hl2
   rw [Hpi.out] at hmany
   have Hmany := hid hmany
   clear hmany
   by_cases hlt : k ≤ p
   · have hat := at_good (i := k) ha1 (by omega)
     have hbt := at_good (i := k) hb1 (by omega)
     obtain ⟨hbit, hnext⟩ := bits_sum heq.out hc
     have hst := bitsFrom_succ (m + n) 0 k
     rw [Nat.zero_add, hbit] at hst
     have Hnext := hid hnext
     clear hbit hnext
     have hx1 : m / 2 ^ k % 2 ≤ 1 := by omega
     have hy1 : n / 2 ^ k % 2 ≤ 1 := by omega
     obtain ⟨x, hx⟩ : ∃ x, x = m / 2 ^ k % 2 := ⟨_, rfl⟩
     obtain ⟨y, hy⟩ : ∃ y, y = n / 2 ^ k % 2 := ⟨_, rfl⟩
     rw [← hx] at hat hst hx1
     rw [← hy] at hbt hst hy1
     have Hnext2 : Hid ((m + n) / 2 ^ (k + 1) = m / 2 ^ (k + 1) + n / 2 ^ (k + 1) + (x + y + c) / 2) := hid (by rw [hx, hy]; exact Hnext.out)
     obtain ⟨Hat, Hbt, Hst⟩ := hid3 hat hbt hst
     clear hat hbt hst hx hy Hnext heq
     obtain ⟨u, hu⟩ : ∃ u, u = x + y := ⟨_, rfl⟩
     obtain ⟨s, hs⟩ : ∃ s, s = x + y + c := ⟨_, rfl⟩
     obtain ⟨t, ht⟩ : ∃ t, t = (x + y + c) % 2 := ⟨_, rfl⟩
     obtain ⟨d, hd⟩ : ∃ d, d = (x + y + c) / 2 := ⟨_, rfl⟩
     have e1 : (x : Int) + (y : Int) = (u : Int) := by omega
     have e2 : (u : Int) + (c : Int) = (s : Int) := by omega
     have e3 : (s : Int) % 2 = (t : Int) := by omega
     have e4 : (s : Int) / 2 = (d : Int) := by omega
     have hu1 : u ≤ 2 := by omega
     have hs1 : s ≤ 3 := by omega
     have ht1 : t ≤ 1 := by omega
     have hd1 : d ≤ 1 := by omega
     rw [← ht] at Hst
     rw [← hd] at Hnext2
     clear hu hs ht hd hc
     go_wp2_with fail
     refine Hmany.out.mono ?_
     rintro e w1 ⟨rfl, rfl⟩
     go_wp2_with fail
     refine Hat.out.mono ?_
     rintro e w1 ⟨rfl, rfl⟩
     go_wp2_with fail
     refine Hbt.out.mono ?_
     rintro e w1 ⟨rfl, rfl⟩
     go_wp2_with (at_builtin; go_loud (refine wpList_app1 _ rfl _ _ 132 rfl w.heap.size 3 i0 (.int .i64 0) Tryz.underlying132 hi hz0 hz1 hz2 rfl _ _ _ rfl (hown.alloc _) wr.heap.size (.int .i64 (t : Int)) rfl (cell_newest rfl rfl) rfl (by omega) (by have := hbel.size; simp; omega) ?_); intro v' w1 hown' hgrow; go_loud (have hb2 : Below w.heap.size w w1 := (hbel.alloc hbel.size _).grown hgrow (by have := hbel.size; simp; omega) (own_nil_of hown)))
     go_roundw
     case rel => exact ⟨k + 1, d, by omega, by go_num, rfl, hd1, Hnext2, by rw [Hst.out]; simpa using hown', hb2⟩
     case measure => simp [intOf]; omega
   · obtain rfl : k = p + 1 := by omega
     have hbits := hid (bits_own hown (bitsFrom_le (m + n) 0 (p + 1)))
     have hv : bval (bitsFrom (m + n) 0 (p + 1)) = m + n := by
      rw [bval_bitsFrom, Nat.pow_zero, Nat.div_one]
      refine Nat.mod_eq_of_lt ?_
      have := Hm.out
      have := Hn.out
      rw [Nat.pow_succ]
      omega
     have Hv := hid hv
     clear hv hown heq
     go_wp2_with fail
     refine Hmany.out.mono ?_
     rintro e w1 ⟨rfl, rfl⟩
     go_wp2_with fail
     refine (from_any hbits.out (by rw [bitsFrom_length]; omega)).mono ?_
     rintro e w1 ⟨u, rfl, hu, hb2⟩
     rw [Hv.out] at hu
     go_wp2
     go_ret
     exact ⟨_, rfl, hu.mono (new_le hbel.size), from_ hbel hb2⟩
theorem short_cases (m n : Nat) : ((limbs m).length ≤ 1 ∧ (limbs n).length ≤ 1) ∨ (decide ((limbs m).length ≤ 1) && decide ((limbs n).length ≤ 1)) = false := by
 rcases Nat.lt_or_ge 1 (limbs m).length with h | s1
 · exact .inr (by rw [decide_eq_false (by omega)]; rfl)
 rcases Nat.lt_or_ge 1 (limbs n).length with h | s2
 · exact .inr (by rw [decide_eq_false (p := (limbs n).length ≤ 1) (by omega), Bool.and_false])
 exact .inl ⟨s1, s2⟩
theorem rest1_good {n : Nat} (ha : IsN w Z a m) (hb : IsN w Y b n) (hl : (limbs m).length ≤ 10000000000) (hl2 : (limbs n).length ≤ 10000000000) (hmd : m = d + n) :
  Calls Tryz.prog 123 #[a, b] w fun e w' => ∃ v, e = .returned v ∧ IsN w' (new w.heap.size) v d ∧ Below w.heap.size w w' := by
 have hsh := short_good ha hb
 have h1 := one_good ha
 have h2 := one_good hb
 have ha0 := ha
 have hb0 := hb
 obtain ⟨A, ca, rfl, -⟩ := ha
 obtain ⟨B, cb, rfl, -⟩ := hb
 obtain ⟨i0, hi, hz0, hz1, hz2⟩ := info_parts (show (Tryz.prog.info? 3).map (fun i => (i.zero, i.size, i.bytes)) = some (some (.int .i64 0), 1, 8) by kernel_rfl)
 obtain ⟨p, hp⟩ : ∃ p : Nat, p = 64 * max (limbs m).length (limbs n).length := ⟨_, rfl⟩
 have hpi : (64 : Int) * max ((limbs m).length : Int) ((limbs n).length : Int) = (p : Int) := by omega
 have hm := lt_pow_len m
 rw [W_pow] at hm
 have Hm := hid (Nat.lt_of_lt_of_le hm (Nat.pow_le_pow_right (by omega) (show 64 * (limbs m).length ≤ p by omega)))
 have hp1 : p ≤ 640000000000 := by omega
 obtain ⟨Hpi, Hmd⟩ := hid2 hpi hmd
 rcases short_cases m n with ⟨s1, s2⟩ | h
 · rw [Nat.mod_eq_of_lt (short_lt s1)] at h1
   rw [Nat.mod_eq_of_lt (short_lt s2)] at h2
   rw [decide_eq_true s1, decide_eq_true s2] at hsh
   obtain ⟨hlt, Hsh, H1, H2⟩ := hid4 (short_lt s1) hsh h1 h2
   have hw : IntKind.u64.wrap ((m : Int) - (n : Int)) = ((d : Nat) : Int) := by rw [IntKind.wrap_u64]; have := short_lt s1; omega
   clear hsh h1 h2 ha0 hb0 hm hp hpi s1 s2 hmd
   go_enter Tryz.func123, Tryz.ntmps123
   go_wp2_with fail
   refine Hsh.out.mono ?_
   rintro e w1 ⟨rfl, rfl⟩
   go_wp2_with fail
   refine H1.out.mono ?_
   rintro e w1 ⟨rfl, rfl⟩
   go_wp2_with fail
   refine H2.out.mono ?_
   rintro e w1 ⟨rfl, rfl⟩
   go_wp2_with fail
   refine (rof_any (x := d) (by have := hlt.out; have := Hmd.out; omega)).mono ?_
   rintro e w1 ⟨v, rfl, hv, hb1⟩
   go_wp2
   go_ret
   exact ⟨_, rfl, hv, hb1⟩
 · rw [h] at hsh
   have Hsh := hid hsh
   clear hsh h1 h2 hm hp hpi h hmd
   go_enter Tryz.func123, Tryz.ntmps123
   go_wp2_with fail
   refine Hsh.out.mono ?_
   rintro e w1 ⟨rfl, rfl⟩
   go_wp2
   go_loopw [5, 6, 7] (fun v cv i wr => ∃ k c : Nat, k ≤ p ∧ i = .int .i64 (k : Int) ∧ cv = .int .i64 (c : Int) ∧ c ≤ 1 ∧ Hid (m / 2 ^ k = d / 2 ^ k + n / 2 ^ k + c) ∧ wr.ownsRow w.heap.size 3 1 v k ((bitsFrom d 0 k).map fun x : Nat => Value.int .i64 (x : Int)) ∧ Below w.heap.size w wr) (fun _ _ i _ => p - (intOf i).toNat)
   case atStart => exact ⟨0, 0, Nat.zero_le _, rfl, rfl, by omega, hid (by rw [Hmd.out]; simp), World.ownsRow_nil _ _ _ _, Below.refl _ _⟩
   case round =>
    obtain ⟨k, c, hk, rfl, rfl, hc, heq, hown, hbel⟩ := hrel
    have ha1 := ha0.below hbel
    have hb1 := hb0.below hbel
    have hmany := many_good ha1 hb1 hl hl2
    rw [Hpi.out] at hmany
    have Hmany := hid hmany
    clear hmany
    by_cases hlt : k < p
    · have hat := at_good (i := k) ha1 (by omega)
      have hbt := at_good (i := k) hb1 (by omega)
      obtain ⟨c', hc', hnext, hbit⟩ := bits_rest heq.out hc
      have hst := bitsFrom_succ d 0 k
      rw [Nat.zero_add] at hst
      have Hnext := hid hnext
      clear hnext
      have hx1 : m / 2 ^ k % 2 ≤ 1 := by omega
      have hy1 : n / 2 ^ k % 2 ≤ 1 := by omega
      have hz1' : d / 2 ^ k % 2 ≤ 1 := by omega
      generalize m / 2 ^ k % 2 = x at hat hbit hx1
      generalize n / 2 ^ k % 2 = y at hbt hbit hy1
      generalize d / 2 ^ k % 2 = z at hst hbit hz1'
      obtain ⟨Hat, Hbt, Hst⟩ := hid3 hat hbt hst
      clear hat hbt hst heq
      obtain ⟨u, e1⟩ : ∃ u : Int, (x : Int) - (y : Int) = u := ⟨_, rfl⟩
      have hu1 : -1 ≤ u := by omega
      have hu2 : u ≤ 1 := by omega
      rcases (show c' = 0 ∨ c' = 1 by omega) with rfl | rfl
      · have e2 : u - (c : Int) = (z : Int) := by omega
        have hlt0 : decide ((z : Int) < 0) = false := decide_eq_false (by omega)
        clear hbit hc hc'
        go_wp2_with fail
        refine Hmany.out.mono ?_
        rintro e w1 ⟨rfl, rfl⟩
        go_wp2_with fail
        refine Hat.out.mono ?_
        rintro e w1 ⟨rfl, rfl⟩
        go_wp2_with fail
        refine Hbt.out.mono ?_
        rintro e w1 ⟨rfl, rfl⟩
        go_wp2_with (at_builtin; go_loud (refine wpList_app1 _ rfl _ _ 132 rfl w.heap.size 3 i0 (.int .i64 0) Tryz.underlying132 hi hz0 hz1 hz2 rfl _ _ _ rfl (hown.alloc _) wr.heap.size (.int .i64 (z : Int)) rfl (cell_newest rfl rfl) rfl (by omega) (by have := hbel.size; simp; omega) ?_); intro v' w1 hown' hgrow; go_loud (have hb2 : Below w.heap.size w w1 := (hbel.alloc hbel.size _).grown hgrow (by have := hbel.size; simp; omega) (own_nil_of hown)))
        go_roundw
        case rel => exact ⟨k + 1, 0, by omega, by go_num, rfl, by omega, Hnext, by rw [Hst.out]; simpa using hown', hb2⟩
        case measure => simp [intOf]; omega
      · obtain ⟨s, e2⟩ : ∃ s : Int, u - (c : Int) = s := ⟨_, rfl⟩
        have hs1 : -2 ≤ s := by omega
        have hs2 : s < 0 := by omega
        have e3 : s + 2 = (z : Int) := by omega
        clear hbit hc hc'
        go_wp2_with fail
        refine Hmany.out.mono ?_
        rintro e w1 ⟨rfl, rfl⟩
        go_wp2_with fail
        refine Hat.out.mono ?_
        rintro e w1 ⟨rfl, rfl⟩
        go_wp2_with fail
        refine Hbt.out.mono ?_
        rintro e w1 ⟨rfl, rfl⟩
        go_wp2_with (at_builtin; go_loud (refine wpList_app1 _ rfl _ _ 132 rfl w.heap.size 3 i0 (.int .i64 0) Tryz.underlying132 hi hz0 hz1 hz2 rfl _ _ _ rfl (hown.alloc _) wr.heap.size (.int .i64 (z : Int)) rfl (cell_newest rfl rfl) rfl (by omega) (by have := hbel.size; simp; omega) ?_); intro v' w1 hown' hgrow; go_loud (have hb2 : Below w.heap.size w w1 := (hbel.alloc hbel.size _).grown hgrow (by have := hbel.size; simp; omega) (own_nil_of hown)))
        go_roundw
        case rel => exact ⟨k + 1, 1, by omega, by go_num, rfl, by omega, Hnext, by rw [Hst.out]; simpa using hown', hb2⟩
        case measure => simp [intOf]; omega
    · obtain rfl : k = p := by omega
      have hbits := hid (bits_own hown (bitsFrom_le d 0 k))
      have hv : bval (bitsFrom d 0 k) = d := by
       rw [bval_bitsFrom, Nat.pow_zero, Nat.div_one]
       refine Nat.mod_eq_of_lt ?_
       have := Hm.out
       have := Hmd.out
       omega
      have Hv := hid hv
      clear hv hown heq
      go_wp2_with fail
      refine Hmany.out.mono ?_
      rintro e w1 ⟨rfl, rfl⟩
      go_wp2_with fail
      refine (from_any hbits.out (by rw [bitsFrom_length]; omega)).mono ?_
      rintro e w1 ⟨u, rfl, hu, hb2⟩
      rw [Hv.out] at hu
      go_wp2
      go_ret
      exact ⟨_, rfl, hu.mono (new_le hbel.size), from_ hbel hb2⟩
end Go.Proofs.YthpngihjcphigaaGreat
