/-
  What mul's and the document's products and powers answer, at any words: the same.
-/
import Derived.Test.YtodcjaobbnjikaaRefO
import Derived.Test.YtodcjaobbnjikaaRefI
import Derived.Test.YtodcjaobbnjikaaMulF
namespace Go.Proofs.Ytodcjaobbnjikaa
open Go.RowKit
set_option linter.unusedVariables false
set_option linter.unusedSimpArgs false

def mulL (la lb : List Nat) : List Nat := if good la = true ∧ good lb = true then limbs (val la * val lb) else []
def errP (l : List Nat) (n : Int) : Int := if good l = true then (if n < 0 ∨ 1024 < n then 2 else if 65536 < n.toNat * size (val l) then 4 else 0) else 8
def powL (l : List Nat) (n : Int) : List Nat := if good l = true then (if n < 0 ∨ 1024 < n then [] else if 65536 < n.toNat * size (val l) then [] else limbs (val l ^ n.toNat)) else []

theorem mul_all {w : World} {Z Y : Zone} {a b : Value} {la lb : List Nat} (ha : IsU w Z a la) (hb : IsU w Y b lb) (hl : la.length ≤ 100000) (hl2 : lb.length ≤ 100000) :
    Calls Try.prog 48 #[a, b] w fun e w' => ∃ v, e = .returned (.tuple #[v, .int .i64 (err2 la lb)]) ∧ IsU w' (new w.heap.size) v (mulL la lb) ∧ Below w.heap.size w w' := by
  have hno : (good la = false ∨ good lb = false) → Calls Try.prog 48 #[a, b] w fun e w' => ∃ v, e = .returned (.tuple #[v, .int .i64 (err2 la lb)]) ∧ IsU w' (new w.heap.size) v (mulL la lb) ∧ Below w.heap.size w w' := fun h => by
    refine (mul_bad ha hb h).mono ?_
    rintro e w' ⟨rfl, rfl⟩
    refine ⟨.slice none 0 0, ?_, ?_, Below.refl _ _⟩
    · rcases h with h | h <;> simp [err2, h]
    · rcases h with h | h <;> simpa [mulL, h] using IsU.nil _ _
  rcases ha.decN with ⟨hg, hn, _⟩ | hg
  · rcases hb.decN with ⟨hg2, hn2, _⟩ | hg2
    · refine (mul_good hn hn2 (by omega) (by omega)).mono ?_
      rintro e w' ⟨v, rfl, hv, hbel⟩
      exact ⟨v, by simp [err2, hg, hg2], by unfold IsN at hv; simpa [mulL, hg, hg2] using hv, hbel⟩
    · exact hno (.inr hg2)
  · exact hno (.inl hg)

theorem school_all {w : World} {Z Y : Zone} {a b : Value} {la lb : List Nat} (ha : IsU w Z a la) (hb : IsU w Y b lb) (hl : la.length ≤ 100000) (hl2 : lb.length ≤ 100000) :
    Calls Try.prog 49 #[a, b] w fun e w' => ∃ v, e = .returned (.tuple #[v, .int .i64 (err2 la lb)]) ∧ IsU w' (new w.heap.size) v (mulL la lb) ∧ Below w.heap.size w w' := by
  have hno : (good la = false ∨ good lb = false) → Calls Try.prog 49 #[a, b] w fun e w' => ∃ v, e = .returned (.tuple #[v, .int .i64 (err2 la lb)]) ∧ IsU w' (new w.heap.size) v (mulL la lb) ∧ Below w.heap.size w w' := fun h => by
    refine (school_bad ha hb h).mono ?_
    rintro e w' ⟨rfl, rfl⟩
    refine ⟨.slice none 0 0, ?_, ?_, Below.refl _ _⟩
    · rcases h with h | h <;> simp [err2, h]
    · rcases h with h | h <;> simpa [mulL, h] using IsU.nil _ _
  rcases ha.decN with ⟨hg, hn, _⟩ | hg
  · rcases hb.decN with ⟨hg2, hn2, _⟩ | hg2
    · refine (school_good hn hn2 (by omega) (by omega)).mono ?_
      rintro e w' ⟨v, rfl, hv, hbel⟩
      exact ⟨v, by simp [err2, hg, hg2], by unfold IsN at hv; simpa [mulL, hg, hg2] using hv, hbel⟩
    · exact hno (.inr hg2)
  · exact hno (.inl hg)

theorem split_all2 {w : World} {Z Y : Zone} {a b : Value} {la lb : List Nat} (ha : IsU w Z a la) (hb : IsU w Y b lb) (hl : la.length ≤ 100000) (hl2 : lb.length ≤ 100000) :
    Calls Try.prog 50 #[a, b] w fun e w' => ∃ v, e = .returned (.tuple #[v, .int .i64 (err2 la lb)]) ∧ IsU w' (new w.heap.size) v (mulL la lb) ∧ Below w.heap.size w w' := by
  have hno : (good la = false ∨ good lb = false) → Calls Try.prog 50 #[a, b] w fun e w' => ∃ v, e = .returned (.tuple #[v, .int .i64 (err2 la lb)]) ∧ IsU w' (new w.heap.size) v (mulL la lb) ∧ Below w.heap.size w w' := fun h => by
    refine (split_bad ha hb h).mono ?_
    rintro e w' ⟨rfl, rfl⟩
    refine ⟨.slice none 0 0, ?_, ?_, Below.refl _ _⟩
    · rcases h with h | h <;> simp [err2, h]
    · rcases h with h | h <;> simpa [mulL, h] using IsU.nil _ _
  rcases ha.decN with ⟨hg, hn, _⟩ | hg
  · rcases hb.decN with ⟨hg2, hn2, _⟩ | hg2
    · refine (split_good hn hn2 (by omega) (by omega)).mono ?_
      rintro e w' ⟨v, rfl, hv, hbel⟩
      exact ⟨v, by simp [err2, hg, hg2], by unfold IsN at hv; simpa [mulL, hg, hg2] using hv, hbel⟩
    · exact hno (.inr hg2)
  · exact hno (.inl hg)

set_option maxHeartbeats 800000 in
theorem rmul_all {w : World} {Z Y : Zone} {a b : Value} {la lb : List Nat} (ha : IsU w Z a la) (hb : IsU w Y b lb) (hl : la.length ≤ 10000) (hl2 : lb.length ≤ 10000) :
    Calls Try.prog 51 #[a, b] w fun e w' => ∃ v, e = .returned (.tuple #[v, .int .i64 (err2 la lb)]) ∧ IsU w' (new w.heap.size) v (mulL la lb) ∧ Below w.heap.size w w' := by
  have hma := may_any ha
  have hmb := may_any hb
  cases hg : good la with
  | false =>
    rw [hg] at hma
    have Hma := Lib.hid hma
    have Hg := Lib.hid hg
    clear hma hmb hg ha hb
    go_enter Try.func51, Try.ntmps51
    go_wp2_with fail
    refine Hma.out.mono ?_
    rintro e w1 ⟨rfl, rfl⟩
    go_wp2
    go_ret2
    have hg := Hg.out
    exact ⟨.slice none 0 0, by simp [err2, hg], by simpa [mulL, hg] using IsU.nil _ _, Below.refl _ _⟩
  | true =>
    rw [hg] at hma
    have Hma := Lib.hid hma
    cases hg2 : good lb with
    | false =>
      rw [hg2] at hmb
      have Hmb := Lib.hid hmb
      have Hg := Lib.hid hg2
      clear hma hmb hg hg2 ha hb
      go_enter Try.func51, Try.ntmps51
      go_wp2_with fail
      refine Hma.out.mono ?_
      rintro e w1 ⟨rfl, rfl⟩
      go_wp2_with fail
      refine Hmb.out.mono ?_
      rintro e w1 ⟨rfl, rfl⟩
      go_wp2
      go_ret2
      have hg := Hg.out
      exact ⟨.slice none 0 0, by simp [err2, hg], by simpa [mulL, hg] using IsU.nil _ _, Below.refl _ _⟩
    | true =>
      rw [hg2] at hmb
      have Hmb := Lib.hid hmb
      have hn := ha.num hg
      have hn2 := hb.num hg2
      have q1 : (limbs (val la)).length ≤ 10000 := by rw [limbs_val la ha.small hg]; exact hl
      have q2 : (limbs (val lb)).length ≤ 10000 := by rw [limbs_val lb hb.small hg2]; exact hl2
      have Hg := Lib.hid (And.intro hg hg2)
      clear hma hmb hg hg2 ha hb
      go_enter Try.func51, Try.ntmps51
      go_wp2_with fail
      refine Hma.out.mono ?_
      rintro e w1 ⟨rfl, rfl⟩
      go_wp2_with fail
      refine Hmb.out.mono ?_
      rintro e w1 ⟨rfl, rfl⟩
      go_wp2_with fail
      refine (rtimes_good hn hn2 (by omega) (by omega)).mono ?_
      rintro e w1 ⟨v, rfl, hv, hbel⟩
      go_wp2
      go_ret2
      obtain ⟨hg, hg2⟩ := Hg.out
      exact ⟨v, by simp [err2, hg, hg2], by unfold IsN at hv; simpa [mulL, hg, hg2] using hv, hbel⟩


theorem pow_all {w : World} {Z : Zone} {a : Value} {l : List Nat} {n : Int} (ha : IsU w Z a l) (hl : l.length ≤ 100000) :
    Calls Try.prog 52 #[a, .int .i64 n] w fun e w' => ∃ v, e = .returned (.tuple #[v, .int .i64 (errP l n)]) ∧ IsU w' (new w.heap.size) v (powL l n) ∧ Below w.heap.size w w' := by
  rcases ha.decN with ⟨hg, hn, _⟩ | hg
  · by_cases h : n < 0 ∨ 1024 < n
    · refine (pow_badN hn (by omega) h).mono ?_
      rintro e w' ⟨rfl, hbel⟩
      exact ⟨.slice none 0 0, by simp [errP, hg, h], by simpa [powL, hg, h] using IsU.nil _ _, by first | exact hbel | (subst hbel; exact Below.refl _ _)⟩
    · obtain ⟨k, rfl⟩ : ∃ k : Nat, n = k := ⟨n.toNat, by omega⟩
      have h0 : ¬ (1024 < (k : Int)) := fun h1 => h (.inr h1)
      have hneg : ¬ ((k : Int) < 0) := by omega
      by_cases h2 : 65536 < k * size (val l)
      · refine (pow_many hn (by omega) (by omega) h2).mono ?_
        rintro e w' ⟨rfl, hbel⟩
        exact ⟨.slice none 0 0, by simp only [errP, hg, hneg, h0, Int.toNat_natCast, h2, if_true, if_false, or_self], by simpa only [powL, hg, hneg, h0, Int.toNat_natCast, h2, if_true, if_false, or_self] using IsU.nil _ _, by first | exact hbel | (subst hbel; exact Below.refl _ _)⟩
      · refine (pow_good hn (by omega) (by omega) (by omega)).mono ?_
        rintro e w' ⟨v, rfl, hv, hbel⟩
        exact ⟨v, by simp only [errP, hg, hneg, h0, Int.toNat_natCast, h2, if_true, if_false, or_self], by unfold IsN at hv; simpa only [powL, hg, hneg, h0, Int.toNat_natCast, h2, if_true, if_false, or_self] using hv, hbel⟩
  · refine (pow_badA ha hg).mono ?_
    rintro e w' ⟨rfl, hbel⟩
    exact ⟨.slice none 0 0, by simp [errP, hg], by simpa [powL, hg] using IsU.nil _ _, by first | exact hbel | (subst hbel; exact Below.refl _ _)⟩

set_option maxRecDepth 100000 in
set_option maxHeartbeats 1000000 in
theorem rpow_good {w : World} {Z : Zone} {a : Value} {m n : Nat} (ha : IsN w Z a m) (hla : (limbs m).length ≤ 10000) (hn : n ≤ 1024) (hs : n * size m ≤ 65536) :
    Calls Try.prog 53 #[a, .int .i64 (n : Int)] w fun e w' => ∃ v, e = .returned (.tuple #[v, .int .i64 0]) ∧ IsN w' (new w.heap.size) v (m ^ n) ∧ Below w.heap.size w w' := by
  have hmay := may_any ha
  rw [good_limbs] at hmay
  have hsz := rsize_good ha (by omega)
  have hlens := Lib.hid (fun i (hi : i ≤ n) => pow_lens hs hi)
  have ha0 := ha
  obtain ⟨A, ca, rfl, -⟩ := ha
  obtain ⟨p, hp⟩ : ∃ p, p = n * size m := ⟨_, rfl⟩
  have hpi : (n : Int) * (size m : Int) = (p : Int) := by rw [hp, Int.natCast_mul]
  have hp1 : p ≤ 65536 := by omega
  generalize size m = sz at *
  have Hmay := Lib.hid hmay
  have Hsz := Lib.hid hsz
  have hu := isN_unit w 62
  have hb0 : Below w.heap.size w (w.alloc (.cells #[.int .u64 1] 62)) := (Below.refl _ w).alloc (Nat.le_refl _) _
  clear hmay hsz hp hs
  go_enter Try.func53, Try.ntmps53
  go_wp2_with fail
  refine Hmay.out.mono ?_
  rintro e w1 ⟨rfl, rfl⟩
  go_wp2_with fail
  refine Hsz.out.mono ?_
  rintro e w1 ⟨rfl, rfl⟩
  go_wp2
  go_loopw [6, 7] (fun v i wr => ∃ k : Nat, k ≤ n ∧ i = .int .i64 (k : Int) ∧ IsN wr (new w.heap.size) v (m ^ k) ∧ Below w.heap.size w wr) (fun _ i _ => n - (intOf i).toNat)
  case atStart => exact ⟨0, Nat.zero_le _, rfl, by simpa using hu, hb0⟩
  case round =>
    obtain ⟨k, hk, rfl, hv, hbel⟩ := hrel
    by_cases hlt : k < n
    · have ha1 := ha0.below hbel
      have hl1 := hlens.out k (by omega)
      go_wp2_with fail
      refine (rtimes_good hv ha1 (by omega) (by omega)).mono ?_
      rintro e w1 ⟨u, rfl, hu, hb⟩
      go_wp2
      go_roundw
      case rel => exact ⟨k + 1, by omega, by go_num, by rw [Nat.pow_succ]; exact hu.mono (new_le hbel.size), from_ hbel hb⟩
      case measure => simp [intOf]; omega
    · obtain rfl : k = n := by omega
      go_wp2
      go_ret2
      exact ⟨_, rfl, hv, hbel⟩

set_option maxHeartbeats 1000000 in
theorem rpow_all {w : World} {Z : Zone} {a : Value} {l : List Nat} {n : Int} (ha : IsU w Z a l) (hl : l.length ≤ 10000) :
    Calls Try.prog 53 #[a, .int .i64 n] w fun e w' => ∃ v, e = .returned (.tuple #[v, .int .i64 (errP l n)]) ∧ IsU w' (new w.heap.size) v (powL l n) ∧ Below w.heap.size w w' := by
  have hmay := may_any ha
  rcases ha.decN with ⟨hg, hn, hlen⟩ | hg
  · rw [hg] at hmay
    by_cases h : n < 0 ∨ 1024 < n
    · have e1 : errP l n = 2 := by simp [errP, hg, h]
      have e2 : powL l n = [] := by simp [powL, hg, h]
      rw [e1, e2]
      have hcase : n < 0 ∨ (decide (n < 0) = false ∧ 1024 < n) := by simp only [decide_eq_false_iff_not]; omega
      have Hmay := Lib.hid hmay
      clear hmay hg hn hlen e1 e2 h ha
      rcases hcase with h1 | ⟨h1, h2⟩
      all_goals
        go_enter Try.func53, Try.ntmps53
        go_wp2_with fail
        refine Hmay.out.mono ?_
        rintro e w1 ⟨rfl, rfl⟩
        go_wp2
        go_ret2
        exact ⟨_, rfl, IsU.nil _ _, Below.refl _ _⟩
    · obtain ⟨k, rfl⟩ : ∃ k : Nat, n = k := ⟨n.toNat, by omega⟩
      have h0 : ¬ (1024 < (k : Int)) := fun h1 => h (.inr h1)
      have hneg : ¬ ((k : Int) < 0) := by omega
      by_cases h2 : 65536 < k * size (val l)
      · have e1 : errP l k = 4 := by simp only [errP, hg, hneg, h0, Int.toNat_natCast, h2, if_true, if_false, or_self]
        have e2 : powL l k = [] := by simp only [powL, hg, hneg, h0, Int.toNat_natCast, h2, if_true, if_false, or_self]
        rw [e1, e2]
        have hsz := rsize_good hn (by omega)
        have hsl := size_len (val l)
        obtain ⟨p, hp⟩ : ∃ p, p = k * size (val l) := ⟨_, rfl⟩
        have hpi : (k : Int) * (size (val l) : Int) = (p : Int) := by rw [hp, Int.natCast_mul]
        have hk1 : k ≤ 1024 := by omega
        have hp1 : p ≤ 1024 * 640000 := by
          rw [hp]
          exact Nat.mul_le_mul hk1 (by omega)
        rw [← hp] at h2
        generalize size (val l) = sz at *
        have hd : (65536 : Int) < (p : Int) := by omega
        have Hmay := Lib.hid hmay
        have Hsz := Lib.hid hsz
        clear hmay hg hn hlen e1 e2 h ha hsz hp hsl h2
        go_enter Try.func53, Try.ntmps53
        go_wp2_with fail
        refine Hmay.out.mono ?_
        rintro e w1 ⟨rfl, rfl⟩
        go_wp2_with fail
        refine Hsz.out.mono ?_
        rintro e w1 ⟨rfl, rfl⟩
        go_wp2
        go_ret2
        exact ⟨_, rfl, IsU.nil _ _, Below.refl _ _⟩
      · refine (rpow_good hn (by omega) (by omega) (by omega)).mono ?_
        rintro e w' ⟨v, rfl, hv, hbel⟩
        exact ⟨v, by simp only [errP, hg, hneg, h0, Int.toNat_natCast, h2, if_true, if_false, or_self], by unfold IsN at hv; simpa only [powL, hg, hneg, h0, Int.toNat_natCast, h2, if_true, if_false, or_self] using hv, hbel⟩
  · rw [hg] at hmay
    have e1 : errP l n = 8 := by simp [errP, hg]
    have e2 : powL l n = [] := by simp [powL, hg]
    rw [e1, e2]
    have Hmay := Lib.hid hmay
    clear hmay hg e1 e2 ha
    go_enter Try.func53, Try.ntmps53
    go_wp2_with fail
    refine Hmay.out.mono ?_
    rintro e w1 ⟨rfl, rfl⟩
    go_wp2
    go_ret2
    exact ⟨_, rfl, IsU.nil _ _, Below.refl _ _⟩

end Go.Proofs.Ytodcjaobbnjikaa
