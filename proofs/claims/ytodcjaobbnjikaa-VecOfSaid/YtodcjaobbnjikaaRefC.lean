/-
  The document's own answer, layer 1: Times, Up, Down, Long, Bit. No conditions but bounds on lengths.
-/
import Derived.Test.YtodcjaobbnjikaaRefB
namespace Go.Proofs.Ytodcjaobbnjikaa
open Go.RowKit
set_option linter.unusedVariables false
set_option linter.unusedSimpArgs false

/-- Bits b, b+1, .. of a number, so many. -/
def bitsFrom (n b c : Nat) : List Nat := (List.range c).map fun j => n / 2 ^ (b + j) % 2

theorem bitsFrom_length (n b c : Nat) : (bitsFrom n b c).length = c := by simp [bitsFrom]
theorem bitsFrom_succ (n b c : Nat) : bitsFrom n b (c + 1) = bitsFrom n b c ++ [n / 2 ^ (b + c) % 2] := by
  simp [bitsFrom, List.range_succ]
theorem bitsFrom_le (n b c : Nat) : ∀ x ∈ bitsFrom n b c, x ≤ 1 := fun x hx => by
  obtain ⟨j, _, rfl⟩ := List.mem_map.1 hx
  omega
theorem bval_bitsFrom (n b c : Nat) : bval (bitsFrom n b c) = n / 2 ^ b % 2 ^ c := by
  induction c with
  | zero => simp [bitsFrom, bval, Nat.mod_one]
  | succ c ih =>
    rw [bitsFrom_succ, bval_append, ih, bitsFrom_length, Nat.mod_pow_succ, Nat.div_div_eq_div_mul, ← Nat.pow_add]
    simp [bval]

theorem bits_own {w : World} {base : Nat} {e : TypeId} {v : Value} {n : Nat} {bs : List Nat} (h : w.ownsRow base e 1 v n (bs.map fun x : Nat => Value.int .i64 (x : Int))) (h1 : ∀ x ∈ bs, x ≤ 1) : Bits w v bs := by
  have hl : bs.length = n := by simpa using h.1
  subst hl
  have hlt := h.lt
  obtain ⟨A, c, rfl⟩ := own_shape h
  by_cases h0 : bs.length = 0
  · obtain rfl := List.length_eq_zero_iff.1 h0
    rcases h.2 with ⟨e1, _⟩ | ⟨g, cap, cur, e1, hb, hg, hn, hm, hcs, ht⟩
    · injection e1 with e1 e2 e3
      subst e1 e3
      exact ⟨none, 0, rfl, Nat.le_refl _, by omega, h1, fun h => absurd h (by simp)⟩
    · injection e1 with e1 e2 e3
      subst e1 e3
      exact ⟨_, _, rfl, Nat.zero_le _, by simpa [maxLen] using hm, h1, fun h => absurd h (by simp)⟩
  · rcases h.2 with ⟨_, e1⟩ | ⟨g, cap, cur, e1, hb, hg, hn, hm, hcs, ht⟩
    · omega
    · injection e1 with e1 e2 e3
      subst e1 e3
      refine ⟨_, _, rfl, hn, by simpa [maxLen] using hm, h1, fun _ => ⟨g, 0, rfl, (hlt g rfl).2, fun j hj => ?_⟩⟩
      have h2 := h.cellAt j (by omega)
      rw [List.getElem?_map, List.getElem?_eq_getElem hj] at h2
      rw [Nat.zero_add]
      exact h2

set_option maxRecDepth 100000 in
set_option maxHeartbeats 1000000 in
theorem rdown_good {w : World} {Z : Zone} {a : Value} {n b : Nat} (ha : IsN w Z a n) (hl : (limbs n).length ≤ 10000) (hb : b ≤ 65536) :
    Calls Try.prog 38 #[a, .int .i64 (b : Int)] w fun e w' => ∃ v, e = .returned (.tuple #[v, .int .i64 0]) ∧ IsN w' (new w.heap.size) v (n / 2 ^ b) ∧ Below w.heap.size w w' := by
  have hmay := Lib.hid (may_any ha)
  rw [good_limbs] at hmay
  have ha0 := ha
  obtain ⟨A, c, rfl, ha⟩ := ha
  obtain ⟨i0, hi, hz0, hz1, hz2⟩ := info_parts (show (Try.prog.info? 3).map (fun i => (i.zero, i.size, i.bytes)) = some (some (.int .i64 0), 1, 8) by kernel_rfl)
  obtain ⟨L, hL⟩ : ∃ L, L = (limbs n).length := ⟨_, rfl⟩
  have hn := lt_pow_len n
  rw [W_pow, ← hL] at hn
  have Hn := Lib.hid hn
  rw [← hL] at hmay hl ha0 ⊢
  clear hL hn ha
  go_enter Try.func38, Try.ntmps38
  go_wp2_with fail
  refine hmay.out.mono ?_
  rintro e w1 ⟨rfl, rfl⟩
  go_wp2
  go_loopw [6, 7] (fun v i wr => ∃ j : Nat, (j = 0 ∨ b + j ≤ 64 * L) ∧ i = .int .i64 ((b + j : Nat) : Int) ∧ wr.ownsRow w.heap.size 3 1 v j ((bitsFrom n b j).map fun x : Nat => Value.int .i64 (x : Int)) ∧ Below w.heap.size w wr) (fun _ i _ => 64 * L - (intOf i).toNat)
  case atStart => exact ⟨0, .inl rfl, rfl, World.ownsRow_nil _ _ _ _, Below.refl _ _⟩
  case round =>
    obtain ⟨j, hj, rfl, hown, hbel⟩ := hrel
    by_cases hlt : b + j < 64 * L
    · have ha1 := ha0.below hbel
      have hat := Lib.hid (at_good (i := b + j) ha1 (by omega))
      have hst := Lib.hid (bitsFrom_succ n b j)
      obtain ⟨x, hx⟩ : ∃ x, x = n / 2 ^ (b + j) % 2 := ⟨_, rfl⟩
      rw [← hx] at hat hst
      obtain ⟨p, hp⟩ : ∃ p, p = b + j := ⟨_, rfl⟩
      rw [← hp] at hat hlt ⊢
      have hj1 : j ≤ 1000000 := by omega
      have Hp := Lib.hid hp
      clear hx hp hj
      go_wp2_with fail
      refine hat.out.mono ?_
      rintro e w1 ⟨rfl, rfl⟩
      go_wp2_with (at_builtin; go_loud (refine wpList_app1 _ rfl _ _ 22 rfl w.heap.size 3 i0 (.int .i64 0) Try.underlying22 hi hz0 hz1 hz2 rfl _ _ _ rfl (hown.alloc _) wr.heap.size (.int .i64 (x : Int)) rfl (cell_newest rfl rfl) rfl (by omega) (by have := hbel.size; simp; omega) ?_); intro v' w1 hown' hgrow; go_loud (have hb1 : Below w.heap.size w w1 := (hbel.alloc hbel.size _).grown hgrow (by have := hbel.size; simp; omega) (own_nil_of hown)))
      go_roundw
      case rel => exact ⟨j + 1, .inr (by have := Hp.out; omega), by have := Hp.out; go_num, by rw [hst.out]; simpa using hown', hb1⟩
      case measure => simp [intOf]; omega
    · have hbits := Lib.hid (bits_own hown (bitsFrom_le n b j))
      have hv : bval (bitsFrom n b j) = n / 2 ^ b := by
        rw [bval_bitsFrom]
        refine Nat.mod_eq_of_lt ((Nat.div_lt_iff_lt_mul (Nat.pow_pos (by omega))).2 ?_)
        rw [← Nat.pow_add]
        refine Nat.lt_of_lt_of_le Hn.out (Nat.pow_le_pow_right (by omega) (by omega))
      have Hv := Lib.hid hv
      clear hv hown
      have hj1 : j ≤ 1000000 := by omega
      go_wp2_with fail
      refine (from_any hbits.out (by rw [bitsFrom_length]; omega)).mono ?_
      rintro e w1 ⟨u, rfl, hu, hb1⟩
      rw [Hv.out] at hu
      go_wp2
      go_ret2
      exact ⟨_, rfl, hu.mono (new_le hbel.size), from_ hbel hb1⟩

set_option maxHeartbeats 800000 in
theorem rlong_good {w : World} {Z : Zone} {a : Value} {n : Nat} (ha : IsN w Z a n) (hl : (limbs n).length ≤ 900000) :
    Calls Try.prog 32 #[a] w fun e w' => e = .returned (.tuple #[.int .i64 (size n : Int), .int .i64 0]) ∧ w = w' := by
  have hmay := Lib.hid (may_any ha)
  rw [good_limbs] at hmay
  have hs := Lib.hid (rsize_good ha hl)
  go_enter Try.func32, Try.ntmps32
  go_wp2_with fail
  refine hmay.out.mono ?_
  rintro e w1 ⟨rfl, rfl⟩
  go_wp2_with fail
  refine hs.out.mono ?_
  rintro e w1 ⟨rfl, rfl⟩
  go_wp2
  go_ret2
  exact ⟨rfl, rfl⟩

set_option maxHeartbeats 800000 in
theorem rlong_bad {w : World} {Z : Zone} {a : Value} {l : List Nat} (ha : IsU w Z a l) (hg : good l = false) :
    Calls Try.prog 32 #[a] w fun e w' => e = .returned (.tuple #[.int .i64 0, .int .i64 8]) ∧ w = w' := by
  have hmay := Lib.hid (may_any ha)
  rw [hg] at hmay
  clear hg
  go_enter Try.func32, Try.ntmps32
  go_wp2_with fail
  refine hmay.out.mono ?_
  rintro e w1 ⟨rfl, rfl⟩
  go_wp2
  go_ret2
  exact ⟨rfl, rfl⟩

set_option maxHeartbeats 800000 in
theorem rbit_good {w : World} {Z : Zone} {a : Value} {n i : Nat} (ha : IsN w Z a n) (hi : i ≤ 9223372036854775807) :
    Calls Try.prog 34 #[a, .int .i64 (i : Int)] w fun e w' => e = .returned (.tuple #[.int .i64 ((n / 2 ^ i % 2 : Nat) : Int), .int .i64 0]) ∧ w = w' := by
  have hmay := Lib.hid (may_any ha)
  rw [good_limbs] at hmay
  have hs := Lib.hid (at_good ha hi)
  go_enter Try.func34, Try.ntmps34
  go_wp2_with fail
  refine hmay.out.mono ?_
  rintro e w1 ⟨rfl, rfl⟩
  go_wp2_with fail
  refine hs.out.mono ?_
  rintro e w1 ⟨rfl, rfl⟩
  go_wp2
  go_ret2
  exact ⟨rfl, rfl⟩

set_option maxHeartbeats 800000 in
theorem rbit_arg {w : World} {Z : Zone} {a : Value} {n : Nat} {i : Int} (ha : IsN w Z a n) (hi : i < 0) :
    Calls Try.prog 34 #[a, .int .i64 i] w fun e w' => e = .returned (.tuple #[.int .i64 0, .int .i64 2]) ∧ w = w' := by
  have hmay := Lib.hid (may_any ha)
  rw [good_limbs] at hmay
  go_enter Try.func34, Try.ntmps34
  go_wp2_with fail
  refine hmay.out.mono ?_
  rintro e w1 ⟨rfl, rfl⟩
  go_wp2
  go_ret2
  exact ⟨rfl, rfl⟩

set_option maxHeartbeats 800000 in
theorem rbit_bad {w : World} {Z : Zone} {a : Value} {l : List Nat} {i : Int} (ha : IsU w Z a l) (hg : good l = false) :
    Calls Try.prog 34 #[a, .int .i64 i] w fun e w' => e = .returned (.tuple #[.int .i64 0, .int .i64 8]) ∧ w = w' := by
  have hmay := Lib.hid (may_any ha)
  rw [hg] at hmay
  clear hg
  go_enter Try.func34, Try.ntmps34
  go_wp2_with fail
  refine hmay.out.mono ?_
  rintro e w1 ⟨rfl, rfl⟩
  go_wp2
  go_ret2
  exact ⟨rfl, rfl⟩

set_option maxHeartbeats 800000 in
theorem rup_bad {w : World} {Z : Zone} {a : Value} {l : List Nat} {i : Int} (ha : IsU w Z a l) (hg : good l = false) :
    Calls Try.prog 36 #[a, .int .i64 i] w fun e w' => e = .returned (.tuple #[.slice none 0 0, .int .i64 8]) ∧ w = w' := by
  have hmay := Lib.hid (may_any ha)
  rw [hg] at hmay
  clear hg
  go_enter Try.func36, Try.ntmps36
  go_wp2_with fail
  refine hmay.out.mono ?_
  rintro e w1 ⟨rfl, rfl⟩
  go_wp2
  go_ret2
  exact ⟨rfl, rfl⟩

set_option maxHeartbeats 800000 in
theorem rup_arg {w : World} {Z : Zone} {a : Value} {n : Nat} {i : Int} (ha : IsN w Z a n) (hi : i < 0 ∨ 65536 < i) :
    Calls Try.prog 36 #[a, .int .i64 i] w fun e w' => e = .returned (.tuple #[.slice none 0 0, .int .i64 2]) ∧ w = w' := by
  have hmay := Lib.hid (may_any ha)
  rw [good_limbs] at hmay
  have hcase : i < 0 ∨ (decide (i < 0) = false ∧ 65536 < i) := by simp only [decide_eq_false_iff_not]; omega
  clear hi
  rcases hcase with hi | ⟨hi0, hi⟩
  all_goals
    go_enter Try.func36, Try.ntmps36
    go_wp2_with fail
    refine hmay.out.mono ?_
    rintro e w1 ⟨rfl, rfl⟩
    go_wp2
    go_ret2
    exact ⟨rfl, rfl⟩

set_option maxHeartbeats 800000 in
theorem rdown_bad {w : World} {Z : Zone} {a : Value} {l : List Nat} {i : Int} (ha : IsU w Z a l) (hg : good l = false) :
    Calls Try.prog 38 #[a, .int .i64 i] w fun e w' => e = .returned (.tuple #[.slice none 0 0, .int .i64 8]) ∧ w = w' := by
  have hmay := Lib.hid (may_any ha)
  rw [hg] at hmay
  clear hg
  go_enter Try.func38, Try.ntmps38
  go_wp2_with fail
  refine hmay.out.mono ?_
  rintro e w1 ⟨rfl, rfl⟩
  go_wp2
  go_ret2
  exact ⟨rfl, rfl⟩

set_option maxHeartbeats 800000 in
theorem rdown_arg {w : World} {Z : Zone} {a : Value} {n : Nat} {i : Int} (ha : IsN w Z a n) (hi : i < 0 ∨ 65536 < i) :
    Calls Try.prog 38 #[a, .int .i64 i] w fun e w' => e = .returned (.tuple #[.slice none 0 0, .int .i64 2]) ∧ w = w' := by
  have hmay := Lib.hid (may_any ha)
  rw [good_limbs] at hmay
  have hcase : i < 0 ∨ (decide (i < 0) = false ∧ 65536 < i) := by simp only [decide_eq_false_iff_not]; omega
  clear hi
  rcases hcase with hi | ⟨hi0, hi⟩
  all_goals
    go_enter Try.func38, Try.ntmps38
    go_wp2_with fail
    refine hmay.out.mono ?_
    rintro e w1 ⟨rfl, rfl⟩
    go_wp2
    go_ret2
    exact ⟨rfl, rfl⟩

set_option maxRecDepth 100000 in
set_option maxHeartbeats 1000000 in
/-- Noughts, and then the number's bits. -/
theorem times1_good {w : World} {Z : Zone} {a : Value} {n b : Nat} (ha : IsN w Z a n) (hl : (limbs n).length ≤ 10000) (hb : b ≤ 65536) :
    Calls Try.prog 74 #[a, .int .i64 (b : Int)] w fun e w' => ∃ v, e = .returned v ∧ IsN w' (new w.heap.size) v (n * 2 ^ b) ∧ Below w.heap.size w w' := by
  have ha0 := ha
  obtain ⟨A, c, rfl, ha⟩ := ha
  obtain ⟨i0, hi, hz0, hz1, hz2⟩ := info_parts (show (Try.prog.info? 3).map (fun i => (i.zero, i.size, i.bytes)) = some (some (.int .i64 0), 1, 8) by kernel_rfl)
  obtain ⟨L, hL⟩ : ∃ L, L = (limbs n).length := ⟨_, rfl⟩
  have hn := lt_pow_len n
  rw [W_pow, ← hL] at hn
  have Hn := Lib.hid hn
  rw [← hL] at hl ha0 ⊢
  clear hL hn ha
  go_enter Try.func74, Try.ntmps74
  go_wp2_with (at_make; go_loud (refine wpList_make_full _ rfl _ _ 22 rfl w.heap.size 3 i0 (.int .i64 0) 1 Try.underlying22 hi hz0 hz1 .i64 .i64 _ _ b rfl rfl rfl rfl (by rw [hz2]; omega) (by simp only [maxLen]; omega) (Nat.le_refl _) ?_); intro w1 hown hgrow)
  have hb1 : Below w.heap.size w w1 := (Below.refl _ w).grown hgrow (Nat.le_refl _) (fun k h => by cases h)
  have hcells : (madeCells (Value.int .i64 0).cells (b * 1)).toList = (List.replicate b 0).map fun x : Nat => Value.int .i64 (x : Int) := by
    rw [Nat.mul_one, List.map_replicate]
    simpa [Value.cells] using toList_madeCells_one (.int .i64 0) b
  rw [hcells] at hown
  clear hcells hgrow
  go_wp2
  go_loopw [5, 6] (fun v i wr => ∃ j : Nat, j ≤ 64 * L ∧ i = .int .i64 j ∧ wr.ownsRow w.heap.size 3 1 v (b + j) ((List.replicate b 0 ++ bitsFrom n 0 j).map fun x : Nat => Value.int .i64 (x : Int)) ∧ Below w.heap.size w wr) (fun _ i _ => 64 * L - (intOf i).toNat)
  case atStart => exact ⟨0, Nat.zero_le _, rfl, by simpa [bitsFrom] using hown, hb1⟩
  case round =>
    obtain ⟨j, hj, rfl, hown, hbel⟩ := hrel
    by_cases hlt : j < 64 * L
    · have ha1 := ha0.below hbel
      have hat := Lib.hid (at_good (i := j) ha1 (by omega))
      have hst := Lib.hid (bitsFrom_succ n 0 j)
      rw [Nat.zero_add] at hst
      obtain ⟨x, hx⟩ : ∃ x, x = n / 2 ^ j % 2 := ⟨_, rfl⟩
      rw [← hx] at hat hst
      have hj1 : j ≤ 1000000 := by omega
      clear hx
      go_wp2_with fail
      refine hat.out.mono ?_
      rintro e w1 ⟨rfl, rfl⟩
      go_wp2_with (at_builtin; go_loud (refine wpList_app1 _ rfl _ _ 22 rfl w.heap.size 3 i0 (.int .i64 0) Try.underlying22 hi hz0 hz1 hz2 rfl _ _ _ rfl (hown.alloc _) wr.heap.size (.int .i64 (x : Int)) rfl (cell_newest rfl rfl) rfl (by omega) (by have := hbel.size; simp; omega) ?_); intro v' w1 hown' hgrow; go_loud (have hb2 : Below w.heap.size w w1 := (hbel.alloc hbel.size _).grown hgrow (by have := hbel.size; simp; omega) (own_nil_of hown)))
      go_roundw
      case rel => exact ⟨j + 1, by omega, by go_num, by rw [hst.out, ← List.append_assoc, ← Nat.add_assoc]; simpa using hown', hb2⟩
      case measure => simp [intOf]; omega
    · have hle : ∀ x ∈ List.replicate b 0 ++ bitsFrom n 0 j, x ≤ 1 := fun x hx => by
        rcases List.mem_append.1 hx with h | h
        · have := List.eq_of_mem_replicate h
          omega
        · exact bitsFrom_le n 0 j x h
      have hbits := Lib.hid (bits_own hown hle)
      have hv : bval (List.replicate b 0 ++ bitsFrom n 0 j) = n * 2 ^ b := by
        rw [bval_append, bval_bitsFrom, bval_zero _ (fun x hx => List.eq_of_mem_replicate hx), List.length_replicate, Nat.pow_zero, Nat.div_one, Nat.zero_add, Nat.mul_comm]
        rw [Nat.mod_eq_of_lt (Nat.lt_of_lt_of_le Hn.out (Nat.pow_le_pow_right (by omega) (by omega)))]
      have hlen : (List.replicate b 0 ++ bitsFrom n 0 j).length ≤ 1000000 := by rw [List.length_append, List.length_replicate, bitsFrom_length]; omega
      have Hlen := Lib.hid hlen
      have Hv := Lib.hid hv
      clear hv hown hle hlen
      go_wp2_with fail
      refine (from_any hbits.out Hlen.out).mono ?_
      rintro e w1 ⟨u, rfl, hu, hb2⟩
      rw [Hv.out] at hu
      go_wp2
      go_ret
      exact ⟨_, rfl, hu.mono (new_le hbel.size), from_ hbel hb2⟩

set_option maxHeartbeats 800000 in
theorem rup_good {w : World} {Z : Zone} {a : Value} {n b : Nat} (ha : IsN w Z a n) (hl : (limbs n).length ≤ 10000) (hb : b ≤ 65536) :
    Calls Try.prog 36 #[a, .int .i64 (b : Int)] w fun e w' => ∃ v, e = .returned (.tuple #[v, .int .i64 0]) ∧ IsN w' (new w.heap.size) v (n * 2 ^ b) ∧ Below w.heap.size w w' := by
  have hmay := Lib.hid (may_any ha)
  rw [good_limbs] at hmay
  have ht := Lib.hid (times1_good ha hl hb)
  go_enter Try.func36, Try.ntmps36
  go_wp2_with fail
  refine hmay.out.mono ?_
  rintro e w1 ⟨rfl, rfl⟩
  go_wp2_with fail
  refine ht.out.mono ?_
  rintro e w1 ⟨v, rfl, hv, hb1⟩
  go_wp2
  go_ret2
  exact ⟨_, rfl, hv, hb1⟩

end Go.Proofs.Ytodcjaobbnjikaa
