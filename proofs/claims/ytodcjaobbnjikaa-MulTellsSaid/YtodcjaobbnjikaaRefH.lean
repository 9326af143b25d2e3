/-
  The document's own answer, layer 1: Rest. No conditions but bounds on lengths.
-/
import Derived.Test.YtodcjaobbnjikaaRefG
namespace Go.Proofs.Ytodcjaobbnjikaa
open Go.RowKit
set_option linter.unusedVariables false
set_option linter.unusedSimpArgs false

theorem short_cases (m n : Nat) : ((limbs m).length ≤ 1 ∧ (limbs n).length ≤ 1) ∨ (decide ((limbs m).length ≤ 1) && decide ((limbs n).length ≤ 1)) = false := by
  rcases Nat.lt_or_ge 1 (limbs m).length with h | s1
  · exact .inr (by rw [decide_eq_false (by omega)]; rfl)
  rcases Nat.lt_or_ge 1 (limbs n).length with h | s2
  · exact .inr (by rw [decide_eq_false (p := (limbs n).length ≤ 1) (by omega), Bool.and_false])
  exact .inl ⟨s1, s2⟩

set_option maxRecDepth 100000 in
set_option maxHeartbeats 2000000 in
theorem rest1_good {w : World} {Z Y : Zone} {a b : Value} {m n d : Nat} (ha : IsN w Z a m) (hb : IsN w Y b n) (hl : (limbs m).length ≤ 10000) (hl2 : (limbs n).length ≤ 10000) (hmd : m = d + n) :
    Calls Try.prog 80 #[a, b] w fun e w' => ∃ v, e = .returned v ∧ IsN w' (new w.heap.size) v d ∧ Below w.heap.size w w' := by
  have hsh := short_good ha hb
  have h1 := one_good ha
  have h2 := one_good hb
  have ha0 := ha
  have hb0 := hb
  obtain ⟨A, ca, rfl, -⟩ := ha
  obtain ⟨B, cb, rfl, -⟩ := hb
  obtain ⟨i0, hi, hz0, hz1, hz2⟩ := info_parts (show (Try.prog.info? 3).map (fun i => (i.zero, i.size, i.bytes)) = some (some (.int .i64 0), 1, 8) by kernel_rfl)
  obtain ⟨p, hp⟩ : ∃ p : Nat, p = 64 * max (limbs m).length (limbs n).length := ⟨_, rfl⟩
  have hpi : (64 : Int) * max ((limbs m).length : Int) ((limbs n).length : Int) = (p : Int) := by omega
  have hm := lt_pow_len m
  rw [W_pow] at hm
  have Hm := Lib.hid (Nat.lt_of_lt_of_le hm (Nat.pow_le_pow_right (by omega) (show 64 * (limbs m).length ≤ p by omega)))
  have hp1 : p ≤ 640000 := by omega
  have Hpi := Lib.hid hpi
  have Hmd := Lib.hid hmd
  rcases short_cases m n with ⟨s1, s2⟩ | h
  · rw [Nat.mod_eq_of_lt (short_lt s1)] at h1
    rw [Nat.mod_eq_of_lt (short_lt s2)] at h2
    rw [decide_eq_true s1, decide_eq_true s2] at hsh
    have hlt := Lib.hid (short_lt s1)
    have Hsh := Lib.hid hsh
    have H1 := Lib.hid h1
    have H2 := Lib.hid h2
    have hw : IntKind.u64.wrap ((m : Int) - (n : Int)) = ((d : Nat) : Int) := by rw [IntKind.wrap_u64]; have := short_lt s1; omega
    clear hsh h1 h2 ha0 hb0 hm hp hpi s1 s2 hmd
    go_enter Try.func80, Try.ntmps80
    go_wp2_with fail
    refine Hsh.out.mono ?_
    rintro e w1 ⟨rfl, rfl⟩
    go_wp2_with fail
    refine H1.out.mono ?_
    rintro e w1 ⟨rfl, rfl⟩
    go_wp2_with fail
    refine H2.out.mono ?_
    rintro e w1 ⟨rfl, rfl⟩
    go_wp2_with fail
    refine (rof_any (x := d) (by have := hlt.out; have := Hmd.out; omega)).mono ?_
    rintro e w1 ⟨v, rfl, hv, hb1⟩
    go_wp2
    go_ret
    exact ⟨_, rfl, hv, hb1⟩
  · rw [h] at hsh
    have Hsh := Lib.hid hsh
    clear hsh h1 h2 hm hp hpi h hmd
    go_enter Try.func80, Try.ntmps80
    go_wp2_with fail
    refine Hsh.out.mono ?_
    rintro e w1 ⟨rfl, rfl⟩
    go_wp2
    go_loopw [5, 6, 7] (fun v cv i wr => ∃ k c : Nat, k ≤ p ∧ i = .int .i64 (k : Int) ∧ cv = .int .i64 (c : Int) ∧ c ≤ 1 ∧ Hid (m / 2 ^ k = d / 2 ^ k + n / 2 ^ k + c) ∧ wr.ownsRow w.heap.size 3 1 v k ((bitsFrom d 0 k).map fun x : Nat => Value.int .i64 (x : Int)) ∧ Below w.heap.size w wr) (fun _ _ i _ => p - (intOf i).toNat)
    case atStart => exact ⟨0, 0, Nat.zero_le _, rfl, rfl, by omega, Lib.hid (by rw [Hmd.out]; simp), World.ownsRow_nil _ _ _ _, Below.refl _ _⟩
    case round =>
      obtain ⟨k, c, hk, rfl, rfl, hc, heq, hown, hbel⟩ := hrel
      have ha1 := ha0.below hbel
      have hb1 := hb0.below hbel
      have hmany := many_good ha1 hb1 hl hl2
      rw [Hpi.out] at hmany
      have Hmany := Lib.hid hmany
      clear hmany
      by_cases hlt : k < p
      · have hat := at_good (i := k) ha1 (by omega)
        have hbt := at_good (i := k) hb1 (by omega)
        obtain ⟨c', hc', hnext, hbit⟩ := bits_rest heq.out hc
        have hst := bitsFrom_succ d 0 k
        rw [Nat.zero_add] at hst
        have Hnext := Lib.hid hnext
        clear hnext
        have hx1 : m / 2 ^ k % 2 ≤ 1 := by omega
        have hy1 : n / 2 ^ k % 2 ≤ 1 := by omega
        have hz1' : d / 2 ^ k % 2 ≤ 1 := by omega
        generalize m / 2 ^ k % 2 = x at hat hbit hx1
        generalize n / 2 ^ k % 2 = y at hbt hbit hy1
        generalize d / 2 ^ k % 2 = z at hst hbit hz1'
        have Hat := Lib.hid hat
        have Hbt := Lib.hid hbt
        have Hst := Lib.hid hst
        clear hat hbt hst heq
        obtain ⟨u, e1⟩ : ∃ u : Int, (x : Int) - (y : Int) = u := ⟨_, rfl⟩
        have hu1 : -1 ≤ u := by omega
        have hu2 : u ≤ 1 := by omega
        rcases (show c' = 0 ∨ c' = 1 by omega) with rfl | rfl
        · have e2 : u - (c : Int) = (z : Int) := by omega
          have hlt0 : decide ((z : Int) < 0) = false := decide_eq_false (by omega)
          clear hbit hc hc'
          go_wp2_with fail
          refine Hmany.out.mono ?_
          rintro e w1 ⟨rfl, rfl⟩
          go_wp2_with fail
          refine Hat.out.mono ?_
          rintro e w1 ⟨rfl, rfl⟩
          go_wp2_with fail
          refine Hbt.out.mono ?_
          rintro e w1 ⟨rfl, rfl⟩
          go_wp2_with (at_builtin; go_loud (refine wpList_app1 _ rfl _ _ 22 rfl w.heap.size 3 i0 (.int .i64 0) Try.underlying22 hi hz0 hz1 hz2 rfl _ _ _ rfl (hown.alloc _) wr.heap.size (.int .i64 (z : Int)) rfl (cell_newest rfl rfl) rfl (by omega) (by have := hbel.size; simp; omega) ?_); intro v' w1 hown' hgrow; go_loud (have hb2 : Below w.heap.size w w1 := (hbel.alloc hbel.size _).grown hgrow (by have := hbel.size; simp; omega) (own_nil_of hown)))
          go_roundw
          case rel => exact ⟨k + 1, 0, by omega, by go_num, rfl, by omega, Hnext, by rw [Hst.out]; simpa using hown', hb2⟩
          case measure => simp [intOf]; omega
        · obtain ⟨s, e2⟩ : ∃ s : Int, u - (c : Int) = s := ⟨_, rfl⟩
          have hs1 : -2 ≤ s := by omega
          have hs2 : s < 0 := by omega
          have e3 : s + 2 = (z : Int) := by omega
          clear hbit hc hc'
          go_wp2_with fail
          refine Hmany.out.mono ?_
          rintro e w1 ⟨rfl, rfl⟩
          go_wp2_with fail
          refine Hat.out.mono ?_
          rintro e w1 ⟨rfl, rfl⟩
          go_wp2_with fail
          refine Hbt.out.mono ?_
          rintro e w1 ⟨rfl, rfl⟩
          go_wp2_with (at_builtin; go_loud (refine wpList_app1 _ rfl _ _ 22 rfl w.heap.size 3 i0 (.int .i64 0) Try.underlying22 hi hz0 hz1 hz2 rfl _ _ _ rfl (hown.alloc _) wr.heap.size (.int .i64 (z : Int)) rfl (cell_newest rfl rfl) rfl (by omega) (by have := hbel.size; simp; omega) ?_); intro v' w1 hown' hgrow; go_loud (have hb2 : Below w.heap.size w w1 := (hbel.alloc hbel.size _).grown hgrow (by have := hbel.size; simp; omega) (own_nil_of hown)))
          go_roundw
          case rel => exact ⟨k + 1, 1, by omega, by go_num, rfl, by omega, Hnext, by rw [Hst.out]; simpa using hown', hb2⟩
          case measure => simp [intOf]; omega
      · obtain rfl : k = p := by omega
        have hbits := Lib.hid (bits_own hown (bitsFrom_le d 0 k))
        have hv : bval (bitsFrom d 0 k) = d := by
          rw [bval_bitsFrom, Nat.pow_zero, Nat.div_one]
          refine Nat.mod_eq_of_lt ?_
          have := Hm.out
          have := Hmd.out
          omega
        have Hv := Lib.hid hv
        clear hv hown heq
        go_wp2_with fail
        refine Hmany.out.mono ?_
        rintro e w1 ⟨rfl, rfl⟩
        go_wp2_with fail
        refine (from_any hbits.out (by rw [bitsFrom_length]; omega)).mono ?_
        rintro e w1 ⟨u, rfl, hu, hb2⟩
        rw [Hv.out] at hu
        go_wp2
        go_ret
        exact ⟨_, rfl, hu.mono (new_le hbel.size), from_ hbel hb2⟩

end Go.Proofs.Ytodcjaobbnjikaa
