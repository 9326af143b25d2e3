/-
  The contracts of mul's splitter, of Mul, School and Split. No conditions but bounds on lengths.
-/
import Derived.Test.YtodcjaobbnjikaaMulB
namespace Go.Proofs.Ytodcjaobbnjikaa
open Go.RowKit
set_option linter.unusedVariables false
set_option linter.unusedSimpArgs false

theorem lt_of_lenW {m k : Nat} (h : k < (limbs m).length) : 18446744073709551616 ^ k ≤ m := by
  rcases Nat.lt_or_ge m (18446744073709551616 ^ k) with h1 | h1
  · have := len_limbs_le h1
    omega
  · exact h1

/-- Splitting makes two smaller numbers; their sum is smaller too, where there is a high part. -/
theorem split_less {m k : Nat} (hk : 0 < k) (h : 18446744073709551616 ^ k ≤ m) : m % 18446744073709551616 ^ k < m ∧ m / 18446744073709551616 ^ k < m ∧ m % 18446744073709551616 ^ k + m / 18446744073709551616 ^ k < m := by
  have hB : 2 ≤ 18446744073709551616 ^ k := by
    have : 18446744073709551616 ^ 1 ≤ 18446744073709551616 ^ k := Nat.pow_le_pow_right (by omega) hk
    omega
  generalize 18446744073709551616 ^ k = B at *
  have h1 := Nat.div_add_mod m B
  have h2 := Nat.mod_lt m (show 0 < B by omega)
  have h3 : 1 ≤ m / B := (Nat.le_div_iff_mul_le (by omega)).2 (by omega)
  generalize m / B = q at *
  generalize m % B = r at *
  have h4 : 2 * q ≤ B * q := Nat.mul_le_mul_right _ hB
  omega
theorem split_le (m k : Nat) : m % 18446744073709551616 ^ k + m / 18446744073709551616 ^ k ≤ m := by
  have hB : 0 < 18446744073709551616 ^ k := Nat.pow_pos (by omega)
  generalize 18446744073709551616 ^ k = B at *
  have h1 := Nat.div_add_mod m B
  generalize m / B = q at *
  generalize m % B = r at *
  have h4 : 1 * q ≤ B * q := Nat.mul_le_mul_right _ hB
  omega

theorem len_mul_le {p q i j : Nat} (hp : (limbs p).length ≤ i) (hq : (limbs q).length ≤ j) : (limbs (p * q)).length ≤ i + j := by
  refine len_limbs_le ?_
  rw [Nat.pow_add]
  exact Nat.mul_lt_mul'' (len_lt hp) (len_lt hq)

/-- What a split needs to know, in plain numbers. -/
structure Split (m n k t x0 x1 y0 y1 : Nat) : Prop where
  l1 : x0 + y0 < t
  l2 : x1 + y1 < t
  l3 : x0 + x1 + (y0 + y1) < t
  a0 : (limbs x0).length ≤ 100000
  a1 : (limbs x1).length ≤ 100000
  asum : (limbs (x0 + x1)).length ≤ 100000
  b0 : (limbs y0).length ≤ 100000
  b1 : (limbs y1).length ≤ 100000
  bsum : (limbs (y0 + y1)).length ≤ 100000
  pl : (limbs ((x0 + x1) * (y0 + y1))).length ≤ 200000
  ml : (limbs ((x0 + x1) * (y0 + y1) - (x0 * y0 + x1 * y1))).length ≤ 200000
  ql : (limbs (x1 * y1)).length ≤ 200000
  le : x0 * y0 + x1 * y1 ≤ (x0 + x1) * (y0 + y1)
  out : x0 * y0 + (((x0 + x1) * (y0 + y1) - (x0 * y0 + x1 * y1)) * 18446744073709551616 ^ k + x1 * y1 * 18446744073709551616 ^ (2 * k)) = m * n
  ol : (limbs (m * n)).length ≤ 200000

theorem split_all {m n k t : Nat} (ht : m + n = t) (hk : 0 < k) (hm : (limbs m).length ≤ 100000) (hn : (limbs n).length ≤ 100000) (hbig : 18446744073709551616 ^ k ≤ m ∨ 18446744073709551616 ^ k ≤ n) :
    Split m n k t (m % 18446744073709551616 ^ k) (m / 18446744073709551616 ^ k) (n % 18446744073709551616 ^ k) (n / 18446744073709551616 ^ k) := by
  have e1 := split_le m k
  have e2 := split_le n k
  have d1 := Nat.div_add_mod m (18446744073709551616 ^ k)
  have d2 := Nat.div_add_mod n (18446744073709551616 ^ k)
  have hlt : m % 18446744073709551616 ^ k + n % 18446744073709551616 ^ k < t ∧ m / 18446744073709551616 ^ k + n / 18446744073709551616 ^ k < t ∧ m % 18446744073709551616 ^ k + m / 18446744073709551616 ^ k + (n % 18446744073709551616 ^ k + n / 18446744073709551616 ^ k) < t := by
    rcases hbig with h | h
    · obtain ⟨f1, f2, f3⟩ := split_less hk h
      omega
    · obtain ⟨f1, f2, f3⟩ := split_less hk h
      omega
  have hp : 18446744073709551616 ^ (2 * k) = 18446744073709551616 ^ k * 18446744073709551616 ^ k := by rw [Nat.two_mul, Nat.pow_add]
  obtain ⟨BB, hBB⟩ : ∃ BB, BB = 18446744073709551616 ^ (2 * k) := ⟨_, rfl⟩
  obtain ⟨B, hB⟩ : ∃ B, B = 18446744073709551616 ^ k := ⟨_, rfl⟩
  rw [← hB] at e1 e2 d1 d2 hlt hp
  rw [← hBB] at hp
  rw [← hB]
  generalize m % B = x0 at *
  generalize m / B = x1 at *
  generalize n % B = y0 at *
  generalize n / B = y1 at *
  obtain ⟨g1, g2, g3⟩ := split_mul3 x0 x1 y0 y1 B
  have las := Nat.le_trans (len_mono e1) hm
  have lbs := Nat.le_trans (len_mono e2) hn
  have la1 := Nat.le_trans (len_mono (show x1 ≤ m by omega)) hm
  have lb1 := Nat.le_trans (len_mono (show y1 ≤ n by omega)) hn
  have lp := len_mul_le las lbs
  refine ⟨hlt.1, hlt.2.1, hlt.2.2, Nat.le_trans (len_mono (show x0 ≤ m by omega)) hm, la1, las, Nat.le_trans (len_mono (show y0 ≤ n by omega)) hn, lb1, lbs, lp, Nat.le_trans (len_mono (Nat.sub_le _ _)) lp, len_mul_le la1 lb1, g2, ?_, len_mul_le hm hn⟩
  rw [g1, ← hB, ← hBB, hp, ← Nat.add_assoc, g3, Nat.add_comm x0, Nat.add_comm y0, d1, d2]

set_option maxRecDepth 100000 in
set_option maxHeartbeats 4000000 in
theorem make_any (s : Nat) (hs : 1 ≤ s) (hs2 : s ≤ 1000) (t : Nat) : ∀ (m n : Nat), m + n = t → ∀ {w : World} {Z Y : Zone} {a b : Value}, IsN w Z a m → IsN w Y b n → (limbs m).length ≤ 100000 → (limbs n).length ≤ 100000 →
    Calls Try.prog 82 #[.int .i64 (s : Int), a, b] w fun e w' => ∃ v, e = .returned v ∧ IsN w' (new w.heap.size) v (m * n) ∧ Below w.heap.size w w' := by
  induction t using Nat.strongRecOn with
  | ind t ih =>
    intro m n ht w Z Y a b ha hb hla hlb
    have ka := ha
    have kb := hb
    obtain ⟨A, ca, rfl, ha⟩ := ha
    obtain ⟨B, cb, rfl, hb⟩ := hb
    obtain ⟨La, hLa⟩ : ∃ La, La = (limbs m).length := ⟨_, rfl⟩
    obtain ⟨Lb, hLb⟩ : ∃ Lb, Lb = (limbs n).length := ⟨_, rfl⟩
    rw [← hLa] at ka ⊢
    rw [← hLb] at kb ⊢
    have hLa1 : La ≤ 100000 := by omega
    have hLb1 : Lb ≤ 100000 := by omega
    by_cases hmin : min La Lb ≤ s
    · have hd : min (La : Int) (Lb : Int) ≤ (s : Int) := by omega
      clear ha hb hLa hLb ih
      go_enter Try.func82, Try.ntmps82
      go_wp2_with fail
      refine (school_any ka kb (by omega) (by omega)).mono ?_
      rintro e w1 ⟨v, rfl, hv, hb1⟩
      go_wp2
      go_ret
      exact ⟨v, rfl, hv, hb1⟩
    · have hd : ¬ min (La : Int) (Lb : Int) ≤ (s : Int) := by omega
      obtain ⟨k, hk⟩ : ∃ k, k = (max La Lb + 1) / 2 := ⟨_, rfl⟩
      have hk0 : 0 < k := by omega
      have hmax : max La Lb = La ∨ max La Lb = Lb := by omega
      have hkl : k < max La Lb := by omega
      have hbig : 18446744073709551616 ^ k ≤ m ∨ 18446744073709551616 ^ k ≤ n := by
        rcases hmax with h | h
        · exact .inl (lt_of_lenW (by omega))
        · exact .inr (lt_of_lenW (by omega))
      have hki : (max (La : Int) (Lb : Int) + 1) / 2 = (k : Int) := by omega
      have hk1 : k ≤ 100000 := by omega
      have hs0 := split_all ht hk0 (by omega) (by omega) hbig
      clear ha hb
      have Hih := Lib.hid ih
      clear ih
      have Hs := Lib.hid hs0
      clear hs0 hbig hLa hLb hk hmax hkl hmin ht
      go_enter Try.func82, Try.ntmps82
      go_wp2_with fail
      refine (parts_any ka (by omega) (by omega)).mono ?_
      rintro e w1 ⟨x0, x1, rfl, hx0, hx1, b1⟩
      replace ka := ka.below b1
      replace kb := kb.below b1
      go_wp2_with fail
      refine (parts_any kb (by omega) (by omega)).mono ?_
      rintro e w2 ⟨y0, y1, rfl, hy0, hy1, b2⟩
      replace hx0 := hx0.below b2
      replace hx1 := hx1.below b2
      have hB := from_ b1 b2
      clear b1 b2 ka kb
      obtain ⟨x0n, hx0n⟩ : ∃ x, x = m % 18446744073709551616 ^ k := ⟨_, rfl⟩
      obtain ⟨x1n, hx1n⟩ : ∃ x, x = m / 18446744073709551616 ^ k := ⟨_, rfl⟩
      obtain ⟨y0n, hy0n⟩ : ∃ x, x = n % 18446744073709551616 ^ k := ⟨_, rfl⟩
      obtain ⟨y1n, hy1n⟩ : ∃ x, x = n / 18446744073709551616 ^ k := ⟨_, rfl⟩
      rw [← hx0n, ← hx1n, ← hy0n, ← hy1n] at Hs
      rw [← hx0n] at hx0
      rw [← hx1n] at hx1
      rw [← hy0n] at hy0
      rw [← hy1n] at hy1
      clear hx0n hx1n hy0n hy1n
      have hS := Hs.out
      go_wp2_with fail
      refine (Hih.out _ hS.l1 _ _ rfl hx0 hy0 hS.a0 hS.b0).mono ?_
      rintro e w3 ⟨f, rfl, hf, b3⟩
      replace hx0 := hx0.below b3
      replace hx1 := hx1.below b3
      replace hy0 := hy0.below b3
      replace hy1 := hy1.below b3
      replace hB := from_ hB b3
      clear b3
      go_wp2_with fail
      refine (Hih.out _ hS.l2 _ _ rfl hx1 hy1 hS.a1 hS.b1).mono ?_
      rintro e w4 ⟨l, rfl, hl, b4⟩
      replace hx0 := hx0.below b4
      replace hx1 := hx1.below b4
      replace hy0 := hy0.below b4
      replace hy1 := hy1.below b4
      replace hf := hf.below b4
      replace hB := from_ hB b4
      clear b4
      have kf := hf
      have kl := hl
      have kx0 := hx0
      have kx1 := hx1
      have ky0 := hy0
      have ky1 := hy1
      obtain ⟨_, _, rfl, -⟩ := kf
      obtain ⟨_, _, rfl, -⟩ := kl
      obtain ⟨_, _, rfl, -⟩ := kx0
      obtain ⟨_, _, rfl, -⟩ := kx1
      obtain ⟨_, _, rfl, -⟩ := ky0
      obtain ⟨_, _, rfl, -⟩ := ky1
      go_wp2_with fail
      refine (sum_any (nums_two hx0 hx1) rfl (by simp) (by simpa using Nat.le_trans hS.asum (by omega))).mono ?_
      rintro e w5 ⟨sx, rfl, hsx, b5⟩
      replace b5 : Below w4.heap.size w4 w5 := step (by first | exact Below.refl _ _ | go_grown) b5
      replace hy0 := hy0.below b5
      replace hy1 := hy1.below b5
      replace hf := hf.below b5
      replace hl := hl.below b5
      replace hB := from_ hB b5
      clear b5
      go_wp2_with fail
      refine (sum_any (nums_two hy0 hy1) rfl (by simp) (by simpa using Nat.le_trans hS.bsum (by omega))).mono ?_
      rintro e w6 ⟨sy, rfl, hsy, b6⟩
      replace b6 : Below w5.heap.size w5 w6 := step (by first | exact Below.refl _ _ | go_grown) b6
      replace hsx := hsx.below b6
      replace hf := hf.below b6
      replace hl := hl.below b6
      replace hB := from_ hB b6
      clear b6
      simp only [List.sum_cons, List.sum_nil, Nat.add_zero] at hsx hsy
      go_wp2_with fail
      refine (Hih.out _ hS.l3 _ _ rfl hsx hsy hS.asum hS.bsum).mono ?_
      rintro e w7 ⟨p, rfl, hp, b7⟩
      replace hf := hf.below b7
      replace hl := hl.below b7
      replace hB := from_ hB b7
      clear b7 hsx hsy
      go_wp2_with fail
      refine (rest_any (hp.below ((Below.refl _ w7).alloc (Nat.le_refl _) _)) (nums_two hf hl) rfl (by simp) (by simpa using hS.le) (Nat.le_trans hS.pl (by omega))).mono ?_
      rintro e w8 ⟨r, rfl, hr, b8⟩
      replace b8 : Below w7.heap.size w7 w8 := step (by first | exact Below.refl _ _ | go_grown) b8
      replace hf := hf.below b8
      replace hl := hl.below b8
      replace hB := from_ hB b8
      clear b8 hp
      simp only [List.sum_cons, List.sum_nil, Nat.add_zero] at hr
      go_wp2_with fail
      refine (up_limbs hr (Nat.le_trans hS.ml (by omega)) (by omega)).mono ?_
      rintro e w9 ⟨u, rfl, hu, b9⟩
      replace hf := hf.below b9
      replace hl := hl.below b9
      replace hB := from_ hB b9
      clear b9 hr
      have hup := up_limbs (k := 2 * k) hl (Nat.le_trans hS.ql (by omega)) (by omega)
      rw [show ((2 * k : Nat) : Int) = 2 * (k : Int) by omega] at hup
      have Hup := Lib.hid hup
      clear hup
      go_wp2_with fail
      refine Hup.out.mono ?_
      rintro e w10 ⟨v, rfl, hv, b10⟩
      replace hf := hf.below b10
      replace hu := hu.below b10
      replace hB := from_ hB b10
      clear b10 hl
      have ku := hu
      have kv := hv
      obtain ⟨_, _, rfl, -⟩ := ku
      obtain ⟨_, _, rfl, -⟩ := kv
      go_wp2_with fail
      refine (sum_any (nums_three hf hu hv) rfl (by simp) (by simp only [List.sum_cons, List.sum_nil, Nat.add_zero]; rw [hS.out]; exact Nat.le_trans hS.ol (by omega))).mono ?_
      rintro e w11 ⟨z, rfl, hz, b11⟩
      replace b11 : Below w10.heap.size w10 w11 := step (by first | exact Below.refl _ _ | go_grown) b11
      replace hB' := from_ hB b11
      simp only [List.sum_cons, List.sum_nil, Nat.add_zero] at hz
      rw [hS.out] at hz
      go_wp2
      go_ret
      exact ⟨_, rfl, hz.mono (new_le (by have := hB.size; simp at *; omega)), hB'⟩

end Go.Proofs.Ytodcjaobbnjikaa
