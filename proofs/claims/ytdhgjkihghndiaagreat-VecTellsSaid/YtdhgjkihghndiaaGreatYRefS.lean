/-
  The document's own answer, layer 3: Over (the quotient and what is left over, bit by bit). No conditions but bounds on lengths, and that the second number is not 0.
  The document's own answer, layer 3: Div and Exact at any words. No conditions but bounds on lengths.
  The document's own answer, layer 4: Common, Gcd and Lcm. No conditions but bounds on lengths.
-/
import Derived.Deep.RegionHeld3
import Derived.Test.YtdhgjkihghndiaaGreatYRefI
import Derived.Test.YtdhgjkihghndiaaGreatYRefO
import Derived.Test.YtdhgjkihghndiaaGreatYWhJ
import Derived.Test.YtdhgjkihghndiaaGreatYWhK
import Derived.Test.YtdhgjkihghndiaaGreatYGcdA
import Derived.Test.YtdhgjkihghndiaaGreatYRefM
namespace Go.Proofs.YtdhgjkihghndiaaGreat
open Go.RowKit
set_option linter.unusedVariables false
set_option linter.unusedSimpArgs false

theorem set_bit (i d : Nat) (hi : List Nat) : (List.replicate (i + 1) 0 ++ hi).set i d = List.replicate i 0 ++ d :: hi := by
  rw [List.replicate_succ', List.append_assoc, List.set_append_right _ _ (by simp)]
  simp
theorem no_bit (i : Nat) (hi : List Nat) : List.replicate (i + 1) 0 ++ hi = List.replicate i 0 ++ 0 :: hi := by
  rw [List.replicate_succ', List.append_assoc]
  rfl

theorem over_step {m n i q r x : Nat} (hn : 0 < n) (hr : m / 2 ^ (i + 1) % n = r) (hq : m / 2 ^ (i + 1) / n = q) (hx : m / 2 ^ i % 2 = x) :
    (n ≤ r * 2 ^ 1 + x → m / 2 ^ i % n = r * 2 ^ 1 + x - n ∧ m / 2 ^ i / n = 2 * q + 1) ∧ (r * 2 ^ 1 + x < n → m / 2 ^ i % n = r * 2 ^ 1 + x ∧ m / 2 ^ i / n = 2 * q) := by
  have h1 : m / 2 ^ (i + 1) = m / 2 ^ i / 2 := by rw [Nat.pow_succ, Nat.div_div_eq_div_mul]
  rw [h1] at hr hq
  generalize m / 2 ^ i = M at *
  have h2 := Nat.div_add_mod (M / 2) n
  have h3 := Nat.mod_lt (M / 2) hn
  rw [hr] at h2 h3
  rw [hq] at h2
  have h4 : M = n * (2 * q) + (r * 2 ^ 1 + x) := by
    rw [show n * (2 * q) = 2 * (n * q) by rw [Nat.mul_left_comm]]
    omega
  constructor
  · intro h
    have h5 : M = (r * 2 ^ 1 + x - n) + n * (2 * q + 1) := by rw [Nat.mul_add]; omega
    have h6 : r * 2 ^ 1 + x - n < n := by omega
    rw [h5]
    exact ⟨by rw [Nat.add_mul_mod_self_left]; exact Nat.mod_eq_of_lt h6, by rw [Nat.add_mul_div_left _ _ hn, Nat.div_eq_of_lt h6, Nat.zero_add]⟩
  · intro h
    have h5 : M = (r * 2 ^ 1 + x) + n * (2 * q) := by omega
    rw [h5]
    exact ⟨by rw [Nat.add_mul_mod_self_left]; exact Nat.mod_eq_of_lt h, by rw [Nat.add_mul_div_left _ _ hn, Nat.div_eq_of_lt h, Nat.zero_add]⟩

set_option maxRecDepth 100000 in
set_option maxHeartbeats 1000000 in
theorem over_bits {w : World} {Z Y : Zone} {a b : Value} {m n : Nat} (ha : IsN w Z a m) (hb : IsN w Y b n) (hn : 0 < n) (hl : (limbs m).length ≤ 9000) (hl2 : (limbs n).length ≤ 9000) (hmany : ¬ ((limbs m).length = 1 ∧ (limbs n).length = 1)) :
    Calls Tryz.prog 70 #[a, b] w fun e w' => ∃ q r, e = .returned (.tuple #[q, r]) ∧ IsN w' (new w.heap.size) q (m / n) ∧ IsN w' (new w.heap.size) r (m % n) ∧ Below w.heap.size w w' := by
  have ha0 := ha
  have hb0 := hb
  obtain ⟨A, ca, rfl, ha⟩ := ha
  obtain ⟨B, cb, rfl, hb⟩ := hb
  obtain ⟨i0, hi, hz0, hz1, hz2⟩ := info_parts (show (Tryz.prog.info? 3).map (fun i => (i.zero, i.size, i.bytes)) = some (some (.int .i64 0), 1, 8) by kernel_rfl)
  obtain ⟨L, hL⟩ : ∃ L, L = (limbs m).length := ⟨_, rfl⟩
  obtain ⟨K, hK⟩ : ∃ K, K = (limbs n).length := ⟨_, rfl⟩
  have hm := lt_pow_len m
  rw [W_pow, ← hL] at hm
  have Hm := Lib.hid hm
  have hKl : ∀ r, r < n → (limbs r).length ≤ 9000 := fun r hr => Nat.le_trans (len_mono (Nat.le_of_lt hr)) hl2
  have hKr : ∀ r x, r < n → x ≤ 1 → (limbs (r * 2 ^ 1)).length ≤ 10000 ∧ (limbs (r * 2 ^ 1 + x)).length ≤ 10000 := fun r x hr hx => by
    have h1 : (limbs (n * 2)).length ≤ 9001 := Nat.le_trans (len_mul n 2) (by rw [limbs_one (x := 2) (by omega) (by omega)]; simpa using hl2)
    exact ⟨Nat.le_trans (len_mono (show r * 2 ^ 1 ≤ n * 2 by omega)) (by omega), Nat.le_trans (len_mono (show r * 2 ^ 1 + x ≤ n * 2 by omega)) (by omega)⟩
  have HKl := Lib.hid hKl
  have HKr := Lib.hid hKr
  have Hl1 := Lib.hid (show (limbs n).length ≤ 10000 by omega)
  have Hone : Hid ((limbs 1).length ≤ 10000) := by
    show (limbs 1).length ≤ 10000
    rw [limbs_one (by omega) (by omega)]
    simp
  rw [← hL, ← hK] at hmany
  rw [← hL] at hl ha0 ⊢
  rw [← hK] at hb0 ⊢
  have d1 : (((L : Int) == 1) = false) ∨ (((L : Int) == 1) = true ∧ ((K : Int) == 1) = false) := by
    by_cases h : L = 1
    · exact .inr ⟨by subst h; rfl, beq_eq_false_iff_ne.2 (by omega)⟩
    · exact .inl (beq_eq_false_iff_ne.2 (by omega))
  have hK9 : K ≤ 9000 := hK ▸ hl2
  clear hL hK hm ha hb hKl hKr hl2 hmany
  rcases d1 with d1 | ⟨d1, d2⟩
  all_goals
    go_enter Tryz.func70, Tryz.ntmps70
    go_wp2_with (at_make; go_loud (refine wpList_make_full _ rfl _ _ 112 rfl w.heap.size 3 i0 (.int .i64 0) 1 Tryz.underlying112 hi hz0 hz1 .i64 .i64 _ _ (64 * L) rfl rfl (by go_num) (by go_num) (by rw [hz2]; omega) (by simp only [maxLen]; omega) (Nat.le_refl _) ?_); intro w1 hown hgrow)
    have hb1 : Below w.heap.size w w1 := (Below.refl _ w).grown hgrow (Nat.le_refl _) (fun k h => by cases h)
    have hcells : (madeCells (Value.int .i64 0).cells ((64 * L) * 1)).toList = (List.replicate (64 * L) 0).map fun x : Nat => Value.int .i64 (x : Int) := by
      rw [Nat.mul_one, List.map_replicate]
      simpa [Value.cells] using toList_madeCells_one (.int .i64 0) (64 * L)
    rw [hcells] at hown
    clear hcells hgrow
    have hgt : w.heap.size < w1.heap.size := (hown.lt _ rfl).2
    go_wp2
    go_loopw [6, 9] (fun v i wr => ∃ (j : Nat) (hs : List Nat), j + hs.length = 64 * L ∧ i = .int .i64 ((j : Int) - 1) ∧ IsN wr (new (w.heap.size + 1)) v (m / 2 ^ j % n) ∧ Hid (bval hs = m / 2 ^ j / n) ∧ Hid (∀ x ∈ hs, x ≤ 1) ∧ wr.ownsRow w.heap.size 3 1 (.slice (some ⟨w.heap.size, 0, none⟩) (64 * L) (64 * L)) (64 * L) ((List.replicate j 0 ++ hs).map fun x : Nat => Value.int .i64 (x : Int)) ∧ Below w.heap.size w wr ∧ w.heap.size < wr.heap.size) (fun _ i _ => (intOf i + 1).toNat)
    case atStart =>
      have h0 : m / 2 ^ (64 * L) = 0 := Nat.div_eq_of_lt Hm.out
      exact ⟨64 * L, [], by simp, by go_num, by rw [h0, Nat.zero_mod]; exact IsN.zero _ _, (show bval [] = _ by rw [h0, Nat.zero_div]; rfl), (fun x hx => absurd hx (by simp)), by simpa using hown, hb1, hgt⟩
    case round =>
      obtain ⟨j, hs, hj, rfl, hv, hbv, hle, hown, hbel, hgt⟩ := hrel
      cases j with
      | zero =>
        simp only [Nat.pow_zero, Nat.div_one] at hv hbv
        have hbits := bits_own hown (fun x hx => hle.out x (by simpa using hx))
        rw [List.replicate_zero, List.nil_append] at hbits
        have hlen : hs.length ≤ 1000000 := by omega
        have Hb := Lib.hid hbits
        clear hown hbits
        have hd : ((0 : Nat) : Int) - 1 = -1 := rfl
        go_wp2_with fail
        refine (from_any Hb.out hlen).mono ?_
        rintro e w2 ⟨u, rfl, hu, hb2⟩
        rw [hbv.out] at hu
        go_wp2
        go_ret2
        exact ⟨_, _, rfl, hu.mono (new_le hbel.size), (hv.below hb2).mono (new_le (by omega)), from_ hbel hb2⟩
      | succ i =>
        have hi1 : ((i + 1 : Nat) : Int) - 1 = (i : Int) := by omega
        rw [hi1]
        obtain ⟨r, hr⟩ : ∃ r, m / 2 ^ (i + 1) % n = r := ⟨_, rfl⟩
        obtain ⟨q, hq⟩ : ∃ q, m / 2 ^ (i + 1) / n = q := ⟨_, rfl⟩
        obtain ⟨x, hx⟩ : ∃ x, m / 2 ^ i % 2 = x := ⟨_, rfl⟩
        have hrn : r < n := by rw [← hr]; exact Nat.mod_lt _ hn
        have hx1 : x = 0 ∨ x = 1 := by omega
        have hstep := over_step hn hr hq hx
        rw [hr] at hv
        rw [hq] at hbv
        have l1 := HKl.out r hrn
        obtain ⟨l2, l3⟩ := HKr.out r x hrn (by omega)
        have hat := fun (w1 : World) (h : Below w.heap.size w w1) => at_good (i := i) (ha0.below h) (by omega)
        rw [hx] at hat
        have Hat := Lib.hid hat
        have hcm := fun (w1 : World) (v : Value) (Z : Zone) (h : Below w.heap.size w w1) (hv : IsN w1 Z v (r * 2 ^ 1 + x)) => compared_good hv (hb0.below h) l3 Hl1.out
        have hrs := fun (w1 : World) (v : Value) (Z : Zone) (d : Nat) (h : Below w.heap.size w w1) (hv : IsN w1 Z v (r * 2 ^ 1 + x)) (hd : r * 2 ^ 1 + x = d + n) => rest1_good hv (hb0.below h) l3 Hl1.out hd
        have hle2 : ∀ d, d ≤ 1 → ∀ y ∈ d :: hs, y ≤ 1 := fun d hd y hy => by
          rcases List.mem_cons.1 hy with rfl | h
          · exact hd
          · exact hle.out y h
        obtain ⟨c, hc⟩ : ∃ c, c = cmp3 ((r * 2 ^ 1 + x : Nat) : Int) (n : Int) := ⟨_, rfl⟩
        rw [← hc] at hcm
        have Hcm := Lib.hid hcm
        have Hrs := Lib.hid hrs
        have Hstep := Lib.hid hstep
        have Hle := Lib.hid hle2
        have HL3 := Lib.hid l3
        have hl2' : (limbs (r * 2)).length ≤ 10000 := l2
        have hcase : (n ≤ r * 2 ^ 1 + x ∧ decide (0 ≤ c) = true) ∨ (r * 2 ^ 1 + x < n ∧ decide (0 ≤ c) = false) := by
          rcases Nat.lt_or_ge (r * 2 ^ 1 + x) n with h | h
          · exact .inr ⟨h, by rw [hc, cmp3_lt (by omega)]; rfl⟩
          · refine .inl ⟨h, decide_eq_true ?_⟩
            rw [hc]
            unfold cmp3
            split
            · omega
            · split <;> omega
        clear hat hcm hrs hstep hle2 hr hq hx hc l3 hl2' hle
        rcases hcase with ⟨hge, hdc⟩ | ⟨hlt, hdc⟩ <;> rcases hx1 with rfl | rfl
        · go_wp2_with fail
          refine (times1_good (b := 1) hv (by omega) (by omega)).mono ?_
          rintro e w2 ⟨v2, rfl, hv2, hb2⟩
          have hB2 := from_ hbel hb2
          have hO2 := own_below hown hb2
          have hg2 : w.heap.size < w2.heap.size := Nat.lt_of_lt_of_le hgt hb2.size
          have hu2 := hv2.mono (Y := new (w.heap.size + 1)) (new_le (by omega))
          clear hv2 hb2 hown hbel hv hgt
          go_wp2_with fail
          refine (Hat.out _ hB2).mono ?_
          rintro e w3 ⟨rfl, rfl⟩
          go_wp2_with fail
          refine (Hcm.out _ _ _ hB2 hu2).mono ?_
          rintro e w4 ⟨rfl, rfl⟩
          obtain ⟨d, hd⟩ : ∃ d, r * 2 ^ 1 + 0 = d + n := ⟨r * 2 ^ 1 + 0 - n, by omega⟩
          obtain ⟨e1, e2⟩ := Hstep.out.1 hge
          go_wp2_with fail
          refine (Hrs.out _ _ _ d hB2 hu2 hd).mono ?_
          rintro e w5 ⟨v5, rfl, hv5, hb5⟩
          have hO5 := own_below hO2 hb5
          have c0 := hO5.cellAt i (by omega)
          rw [List.getElem?_map, List.getElem?_eq_getElem (by simp; omega)] at c0
          have f0 := hO5.frozenAt i
          have o1 := (hO5.stored i (.int .i64 1)).1
          have hB5 := (from_ hB2 hb5).setCell (p := ⟨w.heap.size, i, none⟩) (Nat.le_refl _) (.int .i64 1)
          have hg5 : w.heap.size < (w5.setCell ⟨w.heap.size, i, none⟩ (.int .i64 1)).heap.size := by
            have := hb5.size
            simp [World.setCell]
            omega
          have hu5 : IsN (w5.setCell ⟨w.heap.size, i, none⟩ (.int .i64 1)) (new (w.heap.size + 1)) v5 (m / 2 ^ i % n) := by
            rw [e1, hd, Nat.add_sub_cancel]
            refine (hv5.mono (new_le (show w.heap.size + 1 ≤ _ by omega))).keep fun b hb _ => Below.heap_setCell _ _ _ _ ?_
            have hb' : w.heap.size + 1 ≤ b := hb
            show b ≠ w.heap.size
            omega
          have HU := Lib.hid hu5
          have HO := Lib.hid o1
          have HB := Lib.hid hB5
          have He2 := Lib.hid e2
          clear hu5 o1 hB5 hv5 hO5 hO2 hB2 hu2 hb5 e1 e2 hd
          generalize (List.replicate (i + 1) 0 ++ hs)[i] = x0 at c0
          go_wp2
          go_roundw
          case rel =>
            refine ⟨i, 1 :: hs, by rw [List.length_cons]; omega, by go_num, HU.out, ?_, Hle.out 1 (by omega), ?_, HB.out, hg5⟩
            · show 1 + 2 * bval hs = _
              rw [hbv.out, He2.out]; omega
            · have := HO.out
              rw [← set_bit]
              simpa using this
          case measure => simp [intOf] <;> omega
        · go_wp2_with fail
          refine (times1_good (b := 1) hv (by omega) (by omega)).mono ?_
          rintro e w2 ⟨v2, rfl, hv2, hb2⟩
          have hB2 := from_ hbel hb2
          have hO2 := own_below hown hb2
          have hg2 : w.heap.size < w2.heap.size := Nat.lt_of_lt_of_le hgt hb2.size
          have hu2 := hv2.mono (Y := new (w.heap.size + 1)) (new_le (by omega))
          clear hv2 hb2 hown hbel hv hgt
          go_wp2_with fail
          refine (Hat.out _ hB2).mono ?_
          rintro e w3 ⟨rfl, rfl⟩
          have hal : Below w2.heap.size w2 (w2.alloc (.cells #[.int .u64 1] 59)) := (Below.refl _ _).alloc (Nat.le_refl _) _
          have hlit : IsN (w2.alloc (.cells #[.int .u64 1] 59)) old (.slice (some ⟨w2.heap.size, 0, none⟩) 1 1) 1 := isN_one (x := 1) (by omega) (by omega) (cell_newest (by simp) rfl)
          have Hlit := Lib.hid hlit
          have Hal := Lib.hid hal
          clear hlit hal
          go_wp2_with fail
          refine (sum1_good (hu2.below Hal.out) Hlit.out (by omega) Hone.out).mono ?_
          rintro e w3 ⟨v3, rfl, hv3, hb3⟩
          have hc3 := from_ Hal.out hb3
          have hB3 := from_ hB2 hc3
          have hO3 := own_below hO2 hc3
          have hg3 : w.heap.size < w3.heap.size := Nat.lt_of_lt_of_le hg2 hc3.size
          have hs3 : w2.heap.size ≤ (w2.alloc (.cells #[.int .u64 1] 59)).heap.size := Hal.out.size
          have hu3 := hv3.mono (Y := new (w.heap.size + 1)) (new_le (by omega))
          clear hv3 hb3 hO2 hB2 hu2 hg2 Hlit Hal hc3 hs3
          go_wp2_with fail
          refine (Hcm.out _ _ _ hB3 hu3).mono ?_
          rintro e w4 ⟨rfl, rfl⟩
          obtain ⟨d, hd⟩ : ∃ d, r * 2 ^ 1 + 1 = d + n := ⟨r * 2 ^ 1 + 1 - n, by omega⟩
          obtain ⟨e1, e2⟩ := Hstep.out.1 hge
          go_wp2_with fail
          refine (Hrs.out _ _ _ d hB3 hu3 hd).mono ?_
          rintro e w5 ⟨v5, rfl, hv5, hb5⟩
          have hO5 := own_below hO3 hb5
          have c0 := hO5.cellAt i (by omega)
          rw [List.getElem?_map, List.getElem?_eq_getElem (by simp; omega)] at c0
          have f0 := hO5.frozenAt i
          have o1 := (hO5.stored i (.int .i64 1)).1
          have hB5 := (from_ hB3 hb5).setCell (p := ⟨w.heap.size, i, none⟩) (Nat.le_refl _) (.int .i64 1)
          have hg5 : w.heap.size < (w5.setCell ⟨w.heap.size, i, none⟩ (.int .i64 1)).heap.size := by
            have := hb5.size
            simp [World.setCell]
            omega
          have hu5 : IsN (w5.setCell ⟨w.heap.size, i, none⟩ (.int .i64 1)) (new (w.heap.size + 1)) v5 (m / 2 ^ i % n) := by
            rw [e1, hd, Nat.add_sub_cancel]
            refine (hv5.mono (new_le (show w.heap.size + 1 ≤ _ by omega))).keep fun b hb _ => Below.heap_setCell _ _ _ _ ?_
            have hb' : w.heap.size + 1 ≤ b := hb
            show b ≠ w.heap.size
            omega
          have HU := Lib.hid hu5
          have HO := Lib.hid o1
          have HB := Lib.hid hB5
          have He2 := Lib.hid e2
          clear hu5 o1 hB5 hv5 hO5 hO3 hB3 hu3 hb5 e1 e2 hd
          generalize (List.replicate (i + 1) 0 ++ hs)[i] = x0 at c0
          go_wp2
          go_roundw
          case rel =>
            refine ⟨i, 1 :: hs, by rw [List.length_cons]; omega, by go_num, HU.out, ?_, Hle.out 1 (by omega), ?_, HB.out, hg5⟩
            · show 1 + 2 * bval hs = _
              rw [hbv.out, He2.out]; omega
            · have := HO.out
              rw [← set_bit]
              simpa using this
          case measure => simp [intOf] <;> omega
        · go_wp2_with fail
          refine (times1_good (b := 1) hv (by omega) (by omega)).mono ?_
          rintro e w2 ⟨v2, rfl, hv2, hb2⟩
          have hB2 := from_ hbel hb2
          have hO2 := own_below hown hb2
          have hg2 : w.heap.size < w2.heap.size := Nat.lt_of_lt_of_le hgt hb2.size
          have hu2 := hv2.mono (Y := new (w.heap.size + 1)) (new_le (by omega))
          clear hv2 hb2 hown hbel hv hgt
          go_wp2_with fail
          refine (Hat.out _ hB2).mono ?_
          rintro e w3 ⟨rfl, rfl⟩
          go_wp2_with fail
          refine (Hcm.out _ _ _ hB2 hu2).mono ?_
          rintro e w4 ⟨rfl, rfl⟩
          obtain ⟨e1, e2⟩ := Hstep.out.2 hlt
          have hu5 : IsN w2 (new (w.heap.size + 1)) v2 (m / 2 ^ i % n) := by rw [e1]; exact hu2
          have HU := Lib.hid hu5
          have HO := Lib.hid hO2
          have HB := Lib.hid hB2
          have He2 := Lib.hid e2
          clear hu5 hO2 hB2 hu2 e1 e2
          go_wp2
          go_roundw
          case rel =>
            refine ⟨i, 0 :: hs, by rw [List.length_cons]; omega, by go_num, HU.out, ?_, Hle.out 0 (by omega), ?_, HB.out, hg2⟩
            · show 0 + 2 * bval hs = _
              rw [hbv.out, He2.out]; omega
            · rw [← no_bit]
              exact HO.out
          case measure => simp [intOf] <;> omega
        · go_wp2_with fail
          refine (times1_good (b := 1) hv (by omega) (by omega)).mono ?_
          rintro e w2 ⟨v2, rfl, hv2, hb2⟩
          have hB2 := from_ hbel hb2
          have hO2 := own_below hown hb2
          have hg2 : w.heap.size < w2.heap.size := Nat.lt_of_lt_of_le hgt hb2.size
          have hu2 := hv2.mono (Y := new (w.heap.size + 1)) (new_le (by omega))
          clear hv2 hb2 hown hbel hv hgt
          go_wp2_with fail
          refine (Hat.out _ hB2).mono ?_
          rintro e w3 ⟨rfl, rfl⟩
          have hal : Below w2.heap.size w2 (w2.alloc (.cells #[.int .u64 1] 59)) := (Below.refl _ _).alloc (Nat.le_refl _) _
          have hlit : IsN (w2.alloc (.cells #[.int .u64 1] 59)) old (.slice (some ⟨w2.heap.size, 0, none⟩) 1 1) 1 := isN_one (x := 1) (by omega) (by omega) (cell_newest (by simp) rfl)
          have Hlit := Lib.hid hlit
          have Hal := Lib.hid hal
          clear hlit hal
          go_wp2_with fail
          refine (sum1_good (hu2.below Hal.out) Hlit.out (by omega) Hone.out).mono ?_
          rintro e w3 ⟨v3, rfl, hv3, hb3⟩
          have hc3 := from_ Hal.out hb3
          have hB3 := from_ hB2 hc3
          have hO3 := own_below hO2 hc3
          have hg3 : w.heap.size < w3.heap.size := Nat.lt_of_lt_of_le hg2 hc3.size
          have hs3 : w2.heap.size ≤ (w2.alloc (.cells #[.int .u64 1] 59)).heap.size := Hal.out.size
          have hu3 := hv3.mono (Y := new (w.heap.size + 1)) (new_le (by omega))
          clear hv3 hb3 hO2 hB2 hu2 hg2 Hlit Hal hc3 hs3
          go_wp2_with fail
          refine (Hcm.out _ _ _ hB3 hu3).mono ?_
          rintro e w4 ⟨rfl, rfl⟩
          obtain ⟨e1, e2⟩ := Hstep.out.2 hlt
          have hu5 : IsN w3 (new (w.heap.size + 1)) v3 (m / 2 ^ i % n) := by rw [e1]; exact hu3
          have HU := Lib.hid hu5
          have HO := Lib.hid hO3
          have HB := Lib.hid hB3
          have He2 := Lib.hid e2
          clear hu5 hO3 hB3 hu3 e1 e2
          go_wp2
          go_roundw
          case rel =>
            refine ⟨i, 0 :: hs, by rw [List.length_cons]; omega, by go_num, HU.out, ?_, Hle.out 0 (by omega), ?_, HB.out, hg3⟩
            · show 0 + 2 * bval hs = _
              rw [hbv.out, He2.out]; omega
            · rw [← no_bit]
              exact HO.out
          case measure => simp [intOf] <;> omega

set_option maxRecDepth 100000 in
set_option maxHeartbeats 1000000 in
theorem over_word {w : World} {Z Y : Zone} {a b : Value} {m n : Nat} (ha : IsN w Z a m) (hb : IsN w Y b n) (hn : 0 < n) (h1 : (limbs m).length = 1) (h2 : (limbs n).length = 1) :
    Calls Tryz.prog 70 #[a, b] w fun e w' => ∃ q r, e = .returned (.tuple #[q, r]) ∧ IsN w' (new w.heap.size) q (m / n) ∧ IsN w' (new w.heap.size) r (m % n) ∧ Below w.heap.size w w' := by
  have hm1 : m < 18446744073709551616 := by have := lt_pow_len m; rw [h1] at this; simpa using this
  have hn1 : n < 18446744073709551616 := by have := lt_pow_len n; rw [h2] at this; simpa using this
  have hm0 : 0 < m := by
    exact Nat.pos_of_ne_zero (len_pos.1 (by omega))
  have em := limbs_one hm0 hm1
  have en := limbs_one hn hn1
  obtain ⟨A, ca, rfl, ha⟩ := ha
  obtain ⟨B, cb, rfl, hb⟩ := hb
  rw [em] at ha ⊢
  rw [en] at hb ⊢
  obtain ⟨ba, oa, rfl, _, _, _, ca0⟩ := ha.open (by simp)
  obtain ⟨bb, ob, rfl, _, _, _, cb0⟩ := hb.open (by simp)
  have a0 := ca0 0 (by simp)
  have b0 := cb0 0 (by simp)
  have hq : Hid (∀ w1 : World, Calls Tryz.prog 63 #[.int .u64 ((m : Int) / (n : Int))] w1 fun e w' => ∃ v, e = .returned v ∧ IsN w' (new w1.heap.size) v (m / n) ∧ Below w1.heap.size w1 w') := fun w1 => by
    rw [← Int.natCast_ediv]
    exact rof_any (Nat.lt_of_le_of_lt (Nat.div_le_self _ _) hm1)
  have hr : Hid (∀ w1 : World, Calls Tryz.prog 63 #[.int .u64 ((m : Int) % (n : Int))] w1 fun e w' => ∃ v, e = .returned v ∧ IsN w' (new w1.heap.size) v (m % n) ∧ Below w1.heap.size w1 w') := fun w1 => by
    rw [← Int.natCast_emod]
    exact rof_any (Nat.lt_of_le_of_lt (Nat.mod_le _ _) hm1)
  have hbd : Below w.heap.size w w.drew := (Below.refl _ _).drew
  have HBd := Lib.hid hbd
  have hn0 : ((n : Int) == 0) = false := beq_eq_false_iff_ne.2 (by omega)
  have hw1 : IntKind.u64.wrap ((m : Int) / (n : Int)) = ((m / n : Nat) : Int) := by
    rw [← Int.natCast_ediv, Mul64.wrapN _ (by have := Nat.div_le_self m n; omega)]
  have hw2 : (m : Int).tmod (n : Int) = ((m % n : Nat) : Int) := by
    rw [Int.tmod_eq_emod_of_nonneg (by omega), ← Int.natCast_emod]
  have hn2 : ¬ (n = 0) := by omega
  have hn3 : ¬ ((n : Int) = 0) := by omega
  clear ca0 cb0 ha hb em en h1 h2 hbd
  go_enter Tryz.func70, Tryz.ntmps70
  have a0d := (show w.drew.cell? ⟨ba, oa, none⟩ = _ from a0)
  have b0d := (show w.drew.cell? ⟨bb, ob, none⟩ = _ from b0)
  go_wp2
  go_region_held3 (fun w' => w'.cell? ⟨ba, oa, none⟩ = some (.int .u64 (m : Int)) ∧ w'.cell? ⟨bb, ob, none⟩ = some (.int .u64 (n : Int)))
    (first
      | (go_keep; done)
      | exact ⟨p0, q0⟩
      | exact ⟨p1, q1⟩)
    (first
      | (go_at_call 63; with_reducible refine (hq.out _).mono ?_; rintro e w1 ⟨v1, rfl, hv1, hc1⟩; have p0 := keepC hc1 a0d; have q0 := keepC hc1 b0d)
      | (go_at_call 63; with_reducible refine (hr.out _).mono ?_; rintro e w2 ⟨v2, rfl, hv2, hc2⟩; have p1 := keepC hc2 p0; have q1 := keepC hc2 q0))
  all_goals
    have hB1 := from_ HBd.out hc1
    have hB2 := from_ hB1 hc2
    have hs1 := hB1.size
    have HV1 := Lib.hid ((hv1.below hc2).mono (Y := new w.heap.size) (new_le (Nat.le_refl _)))
    have HV2 := Lib.hid (hv2.mono (Y := new w.heap.size) (new_le (by omega)))
    go_wp2
    go_ret2
    exact ⟨_, _, rfl, HV1.out, HV2.out, hB2⟩

/-- What Over answers, where the second number is not 0. -/
theorem over_good {w : World} {Z Y : Zone} {a b : Value} {m n : Nat} (ha : IsN w Z a m) (hb : IsN w Y b n) (hn : 0 < n) (hl : (limbs m).length ≤ 9000) (hl2 : (limbs n).length ≤ 9000) :
    Calls Tryz.prog 70 #[a, b] w fun e w' => ∃ q r, e = .returned (.tuple #[q, r]) ∧ IsN w' (new w.heap.size) q (m / n) ∧ IsN w' (new w.heap.size) r (m % n) ∧ Below w.heap.size w w' := by
  by_cases h : (limbs m).length = 1 ∧ (limbs n).length = 1
  · exact over_word ha hb hn h.1 h.2
  · exact over_bits ha hb hn hl hl2 h

end Go.Proofs.YtdhgjkihghndiaaGreat

namespace Go.Proofs.YtdhgjkihghndiaaGreat
open Go.RowKit
set_option linter.unusedVariables false
set_option linter.unusedSimpArgs false

end Go.Proofs.YtdhgjkihghndiaaGreat

namespace Go.Proofs.YtdhgjkihghndiaaGreat
open Go.RowKit
set_option linter.unusedVariables false
set_option linter.unusedSimpArgs false

set_option maxRecDepth 100000 in
set_option maxHeartbeats 1000000 in
theorem half_good {w : World} {Z : Zone} {a : Value} {n : Nat} (ha : IsN w Z a n) (hl : (limbs n).length ≤ 10000) :
    Calls Tryz.prog 96 #[a] w fun e w' => ∃ v, e = .returned v ∧ IsN w' (new w.heap.size) v (n / 2) ∧ Below w.heap.size w w' := by
  have hd := Lib.hid (rdown_good (b := 1) ha hl (by omega))
  clear ha
  go_enter Tryz.func96, Tryz.ntmps96
  go_wp2_with fail
  refine hd.out.mono ?_
  rintro e w1 ⟨v, rfl, hv, hb⟩
  go_wp2
  go_ret
  exact ⟨_, rfl, by simpa using hv, hb⟩

set_option maxRecDepth 100000 in
set_option maxHeartbeats 1000000 in
theorem words_good {w : World} {m n : Nat} (hm : m < 18446744073709551616) (hn : n < 18446744073709551616) :
    Calls Tryz.prog 94 #[.int .u64 (m : Int), .int .u64 (n : Int)] w fun e w' => e = .returned (.int .u64 ((Nat.gcd m n : Nat) : Int)) ∧ Below w.heap.size w w' := by
  go_enter Tryz.func94, Tryz.ntmps94
  go_wp2
  go_loopw [0, 1] (fun u v wr => ∃ p q : Nat, u = .int .u64 (p : Int) ∧ v = .int .u64 (q : Int) ∧ p < 18446744073709551616 ∧ q < 18446744073709551616 ∧ Hid (Nat.gcd p q = Nat.gcd m n) ∧ Below w.heap.size w wr) (fun _ v _ => (intOf v).toNat)
  case atStart => exact ⟨m, n, rfl, rfl, hm, hn, rfl, Below.refl _ _⟩
  case round =>
    obtain ⟨p, q, rfl, rfl, hp, hq, hg, hbel⟩ := hrel
    by_cases h0 : q = 0
    · subst h0
      have hG : Nat.gcd m n = p := by rw [← hg.out, Nat.gcd_zero_right]
      have HG := Lib.hid hG
      clear hG hg
      go_wp2
      go_ret
      rw [HG.out]
      exact ⟨rfl, hbel⟩
    · have hd : decide ((0 : Int) < (q : Int)) = true := decide_eq_true (by omega)
      have hw2 : (p : Int).tmod (q : Int) = ((p % q : Nat) : Int) := by
        rw [Int.tmod_eq_emod_of_nonneg (by omega), ← Int.natCast_emod]
      have hn2 : ¬ (q = 0) := h0
      have hn3 : ¬ ((q : Int) = 0) := by omega
      have hst : Nat.gcd q (p % q) = Nat.gcd m n := by rw [← hg.out, Nat.gcd_comm p q, Nat.gcd_rec q p, Nat.gcd_comm]
      have Hst := Lib.hid hst
      have hlt : p % q < q := Nat.mod_lt _ (by omega)
      clear hst hg
      go_wp2
      go_quiet (fail)
      go_wp2
      go_roundw
      case rel => exact ⟨q, p % q, rfl, by go_num, hq, by omega, Hst, below_drewN' hbel _⟩
      case measure => simp [intOf]; omega

set_option maxRecDepth 100000 in
set_option maxHeartbeats 2000000 in
theorem common_good {w : World} {Z Y : Zone} {a b : Value} {m n : Nat} (ha : IsN w Z a m) (hb : IsN w Y b n) (hl : (limbs m).length ≤ 1000) (hl2 : (limbs n).length ≤ 1000) :
    Calls Tryz.prog 68 #[a, b] w fun e w' => ∃ v, e = .returned v ∧ IsN w' (new w.heap.size) v (Nat.gcd m n) ∧ Below w.heap.size w w' := by
  by_cases hm0 : m = 0
  · subst hm0
    rw [Nat.gcd_zero_left]
    have e0 : limbs 0 = [] := limbs_eq_nil.2 rfl
    obtain ⟨A, ca, rfl, hua⟩ := ha
    rw [e0] at hua ⊢
    have hs := sum1_good hb (IsN.zero w old) (by omega) (by rw [e0]; simp)
    have Hs := Lib.hid hs
    obtain ⟨B, cb, rfl, hub⟩ := hb
    clear hs hua hub
    generalize (limbs n).length = K at *
    go_enter Tryz.func68, Tryz.ntmps68
    go_wp2_with fail
    refine Hs.out.mono ?_
    rintro e w1 ⟨v, rfl, hv, hb1⟩
    go_wp2
    go_ret
    exact ⟨_, rfl, by simpa using hv, hb1⟩
  by_cases hn0 : n = 0
  · subst hn0
    rw [Nat.gcd_zero_right]
    have e0 : limbs 0 = [] := limbs_eq_nil.2 rfl
    have hpos : 0 < (limbs m).length := len_pos.2 hm0
    obtain ⟨B, cb, rfl, hub⟩ := hb
    rw [e0] at hub ⊢
    have hs := sum1_good ha (IsN.zero w old) (by omega) (by rw [e0]; simp)
    have Hs := Lib.hid hs
    obtain ⟨A, ca, rfl, hua⟩ := ha
    clear hs hua hub
    generalize (limbs m).length = L at *
    have hz : ((L : Int) == 0) = false := beq_eq_false_iff_ne.2 (by omega)
    have hz2 : decide (L = 0) = false := decide_eq_false (by omega)
    go_enter Tryz.func68, Tryz.ntmps68
    go_wp2_with fail
    refine Hs.out.mono ?_
    rintro e w1 ⟨v, rfl, hv, hb1⟩
    go_wp2
    go_ret
    exact ⟨_, rfl, by simpa using hv, hb1⟩
  have hmp : 0 < (limbs m).length := len_pos.2 hm0
  have hnp : 0 < (limbs n).length := len_pos.2 hn0
  have HA := Lib.hid ha.old
  have HB := Lib.hid hb.old
  have Hm0 := Lib.hid hm0
  have Hn0 := Lib.hid hn0
  obtain ⟨TT, hTT⟩ : ∃ T : Nat, T = 64000 := ⟨_, rfl⟩
  have hsz : m < 2 ^ TT := by
    have h1 := lt_pow_len m
    rw [W_pow] at h1
    exact Nat.lt_of_lt_of_le h1 (Nat.pow_le_pow_right (by omega) (by omega))
  have Hsz := Lib.hid hsz
  have Hll := Lib.hid (And.intro hl hl2)
  by_cases h11 : (limbs m).length = 1 ∧ (limbs n).length = 1
  · -- two words
    have hm1 : m < 18446744073709551616 := by have := lt_pow_len m; rw [h11.1] at this; simpa using this
    have hn1 : n < 18446744073709551616 := by have := lt_pow_len n; rw [h11.2] at this; simpa using this
    have em := limbs_one (Nat.pos_of_ne_zero hm0) hm1
    have en := limbs_one (Nat.pos_of_ne_zero hn0) hn1
    obtain ⟨A, ca, rfl, ha⟩ := ha
    obtain ⟨B, cb, rfl, hb⟩ := hb
    rw [em] at ha ⊢
    rw [en] at hb ⊢
    obtain ⟨ba, oa, rfl, _, _, _, ca0⟩ := ha.open (by simp)
    obtain ⟨bb, ob, rfl, _, _, _, cb0⟩ := hb.open (by simp)
    have a0 := ca0 0 (by simp)
    have b0 := cb0 0 (by simp)
    simp only [Nat.add_zero] at a0 b0
    replace a0 : w.cell? ⟨ba, oa, none⟩ = some (.int .u64 (m : Int)) := a0
    replace b0 : w.cell? ⟨bb, ob, none⟩ = some (.int .u64 (n : Int)) := b0
    have hg1 : Nat.gcd m n < 18446744073709551616 := Nat.lt_of_le_of_lt (Nat.le_of_dvd (Nat.pos_of_ne_zero hm0) (Nat.gcd_dvd_left m n)) hm1
    have hw := fun (w1 : World) => words_good (w := w1) hm1 hn1
    have ho := fun (w1 : World) => rof_any (w := w1) hg1
    obtain ⟨G, hG⟩ : ∃ G, G = Nat.gcd m n := ⟨_, rfl⟩
    rw [← hG] at hw ho ⊢
    have Hw := Lib.hid hw
    have Ho := Lib.hid ho
    have a0d := (show w.drew.cell? ⟨ba, oa, none⟩ = _ from a0)
    have b0d := (show w.drew.cell? ⟨bb, ob, none⟩ = _ from b0)
    have hbd : Below w.heap.size w w.drew := (Below.refl _ _).drew
    have HBd := Lib.hid hbd
    clear ca0 cb0 ha hb em en h11 hw ho hg1 hG hl hl2 HA HB hsz hmp hnp hbd
    go_enter Tryz.func68, Tryz.ntmps68
    go_wp2
    go_region_held3 (fun w' => w'.cell? ⟨ba, oa, none⟩ = some (.int .u64 (m : Int)) ∧ w'.cell? ⟨bb, ob, none⟩ = some (.int .u64 (n : Int)))
      (first
        | (go_keep; done)
        | exact ⟨p0, q0⟩
        | exact ⟨p1, q1⟩)
      (first
        | (go_at_call 94; with_reducible refine (Hw.out _).mono ?_; rintro e w1 ⟨rfl, hc1⟩; have p0 := keepC hc1 a0d; have q0 := keepC hc1 b0d)
        | (go_at_call 63; with_reducible refine (Ho.out _).mono ?_; rintro e w2 ⟨v2, rfl, hv2, hc2⟩; have p1 := keepC hc2 p0; have q1 := keepC hc2 q0))
    all_goals
      have hB1 := from_ HBd.out hc1
      have hB2 := from_ hB1 hc2
      have hs1 := hB1.size
      go_wp2
      go_ret
      exact ⟨_, rfl, hv2.mono (new_le (by omega)), hB2⟩
  · have d1 : (((limbs m).length : Int) == 1) = false ∨ ((((limbs m).length : Int) == 1) = true ∧ (((limbs n).length : Int) == 1) = false) := by
      by_cases h : (limbs m).length = 1
      · exact .inr ⟨by rw [h]; rfl, beq_eq_false_iff_ne.2 (by omega)⟩
      · exact .inl (beq_eq_false_iff_ne.2 (by omega))
    have z1 : (((limbs m).length : Int) == 0) = false := beq_eq_false_iff_ne.2 (by omega)
    have z2 : (((limbs n).length : Int) == 0) = false := beq_eq_false_iff_ne.2 (by omega)
    obtain ⟨A, ca, rfl, ha⟩ := ha
    obtain ⟨B, cb, rfl, hb⟩ := hb
    clear ha hb h11 hsz hl hl2 hmp hnp
    generalize (limbs m).length = L at HA z1 d1 ⊢
    generalize (limbs n).length = K at HB z2 d1 ⊢
    rcases d1 with d1 | ⟨d1, d2⟩
    all_goals
      go_enter Tryz.func68, Tryz.ntmps68
      go_wp2
      go_loopw [0, 1, 5] (fun u v t wr => ∃ (p q k : Nat), IsN wr old u p ∧ IsN wr old v q ∧ t = .int .i64 (k : Int) ∧ Hid (Nat.gcd m n = Nat.gcd p q * 2 ^ k) ∧ Hid (p * 2 ^ k ≤ m) ∧ p ≠ 0 ∧ q ≠ 0 ∧ Hid ((limbs p).length ≤ 1000 ∧ (limbs q).length ≤ 1000) ∧ Below w.heap.size w wr) (fun u _ _ wr => numAt wr u)
      case atStart => exact ⟨m, n, 0, HA.out, HB.out, rfl, (show _ = _ by rw [Nat.pow_zero, Nat.mul_one]), (show _ ≤ _ by rw [Nat.pow_zero, Nat.mul_one]; exact Nat.le_refl _), Hm0.out, Hn0.out, Hll.out, Below.refl _ _⟩
      case round =>
        obtain ⟨p, q, k, hp, hq, rfl, hg, hpm, hp0, hq0, hlen, hbel⟩ := hrel
        have hk : k < 64000 := by
          have h1 := hpm.out
          have h2 : 1 * 2 ^ k ≤ p * 2 ^ k := Nat.mul_le_mul_right _ (by omega)
          have h3 : 2 ^ k < 2 ^ TT := by have := Hsz.out; omega
          have h4 := (Nat.pow_lt_pow_iff_right (by omega)).1 h3
          omega
        rcases Nat.mod_two_eq_zero_or_one p with hxp | hxp
        · rcases Nat.mod_two_eq_zero_or_one q with hxq | hxq
          · have nm1 := numAt_eq hp
            have Nm1 := Lib.hid nm1
            have hst : Nat.gcd m n = Nat.gcd (p / 2) (q / 2) * 2 ^ (k + 1) := by rw [hg.out, gcd_half_b hxp hxq, Nat.mul_assoc, Nat.pow_succ, Nat.mul_comm 2]
            have hst2 : p / 2 * 2 ^ (k + 1) ≤ m := by
              have h1 := hpm.out
              have h2 : p / 2 * 2 ^ (k + 1) = (p / 2 * 2) * 2 ^ k := by rw [Nat.pow_succ, Nat.mul_comm (2 ^ k) 2, Nat.mul_assoc]
              rw [h2, show p / 2 * 2 = p by omega]
              exact h1
            have Hst := Lib.hid hst
            have Hst2 := Lib.hid hst2
            have Hxq := Lib.hid hxq
            have Hxp := Lib.hid hxp
            have hl2 := Lib.hid (And.intro (Nat.le_trans (len_mono (Nat.div_le_self p 2)) hlen.out.1) (Nat.le_trans (len_mono (Nat.div_le_self q 2)) hlen.out.2))
            clear hst hst2 hxq hxp nm1
            go_wp2_with fail
            have hat := at_good (i := 0) hp (by omega)
            rw [Nat.pow_zero, Nat.div_one, Hxp.out] at hat
            refine hat.mono ?_
            rintro e _ ⟨rfl, rfl⟩
            clear hat
            go_wp2_with fail
            have hat := at_good (i := 0) hq (by omega)
            rw [Nat.pow_zero, Nat.div_one, Hxq.out] at hat
            refine hat.mono ?_
            rintro e _ ⟨rfl, rfl⟩
            clear hat
            go_wp2_with fail
            refine (half_good hp (by have := hlen.out; omega)).mono ?_
            rintro e w2 ⟨v2, rfl, hv2, hb2⟩
            have hq2 := hq.below hb2
            have hB2 := from_ hbel hb2
            go_wp2_with fail
            refine (half_good hq2 (by have := hlen.out; omega)).mono ?_
            rintro e w3 ⟨v3, rfl, hv3, hb3⟩
            have hp3 := hv2.below hb3
            have hB3 := from_ hB2 hb3
            have hms : numAt w3 v2 < numAt wr u0 := by
              rw [numAt_eq hp3, Nm1.out]
              omega
            go_wp2
            go_roundw
            case rel => exact ⟨p / 2, q / 2, k + 1, hp3.old, hv3.old, by go_num, Hst, Hst2, by have := Hxp.out; omega, by have := Hxq.out; omega, hl2, hB3⟩
            case measure => exact hms
          · have hodd : Hid (¬ (p % 2 = 0 ∧ q % 2 = 0)) := (show ¬ _ by omega)
            have Hxq := Lib.hid hxq
            have Hxp := Lib.hid hxp
            clear hxq
            go_wp2_with fail
            have hat := at_good (i := 0) hp (by omega)
            rw [Nat.pow_zero, Nat.div_one, Hxp.out] at hat
            refine hat.mono ?_
            rintro e _ ⟨rfl, rfl⟩
            clear hat
            go_wp2_with fail
            have hat := at_good (i := 0) hq (by omega)
            rw [Nat.pow_zero, Nat.div_one, Hxq.out] at hat
            refine hat.mono ?_
            rintro e _ ⟨rfl, rfl⟩
            clear hat
            clear Hxq Hxp
            go_wp2
            go_loopw [0, 1] (fun u v wr => ∃ (p q : Nat), IsN wr old u p ∧ IsN wr old v q ∧ Hid (Nat.gcd m n = Nat.gcd p q * 2 ^ k) ∧ Hid (¬ (p % 2 = 0 ∧ q % 2 = 0)) ∧ p ≠ 0 ∧ q ≠ 0 ∧ Hid ((limbs p).length ≤ 1000 ∧ (limbs q).length ≤ 1000) ∧ Below w.heap.size w wr) (fun u v wr => numAt wr u + numAt wr v)
            case atStart => exact ⟨p, q, hp, hq, hg, hodd, hp0, hq0, hlen, hbel⟩
            case round =>
              clear hp hq hg hodd hp0 hq0 hlen hbel hpm hxp
              clear p q
              obtain ⟨p, q, hp, hq, hg, hodd, hp0, hq0, hlen, hbel⟩ := hrel
              have nm1 := numAt_eq hp
              have nm2 := numAt_eq hq
              have Nm1 := Lib.hid nm1
              have Nm2 := Lib.hid nm2
              clear nm1 nm2
              have hcm := compared_good hp hq (by have := hlen.out; omega) (by have := hlen.out; omega)
              rcases Nat.lt_trichotomy p q with hlt | heq | hgt
              · rw [cmp3_lt (by omega)] at hcm
                have Hcm := Lib.hid hcm
                clear hcm
                go_wp2_with fail
                refine Hcm.out.mono ?_
                rintro e _ ⟨rfl, rfl⟩
                rcases Nat.mod_two_eq_zero_or_one p with hxp | hxp
                · have hxq : q % 2 = 1 := by have := hodd.out; omega
                  have hst : Nat.gcd (p / 2) q = Nat.gcd p q := gcd_half_l hxp hxq
                  have Hst := Lib.hid hst
                  have Hxq := Lib.hid hxq
                  have Hxp := Lib.hid hxp
                  have hl2 := Lib.hid (And.intro (Nat.le_trans (len_mono (Nat.div_le_self p 2)) hlen.out.1) hlen.out.2)
                  clear hst hxq
                  go_wp2_with fail
                  have hat := at_good (i := 0) hp (by omega)
                  rw [Nat.pow_zero, Nat.div_one, Hxp.out] at hat
                  refine hat.mono ?_
                  rintro e _ ⟨rfl, rfl⟩
                  clear hat
                  go_wp2_with fail
                  refine (half_good hp (by have := hlen.out; omega)).mono ?_
                  rintro e w2 ⟨v2, rfl, hv2, hb2⟩
                  have hq2 := hq.below hb2
                  have hB2 := from_ hbel hb2
                  have hms : numAt w2 v2 + numAt w2 u1 < numAt wr u0 + numAt wr u1 := by
                    rw [numAt_eq hv2, numAt_eq hq2, Nm1.out, Nm2.out]
                    omega
                  go_wp2
                  go_roundw
                  case rel => exact ⟨p / 2, q, hv2.old, hq2, by rw [Hst.out]; exact hg, (show ¬ _ by have := Hxq.out; omega), by have := Hxp.out; omega, hq0, hl2, hB2⟩
                  case measure => exact hms
                · rcases Nat.mod_two_eq_zero_or_one q with hxq | hxq
                  · have hst : Nat.gcd p (q / 2) = Nat.gcd p q := gcd_half_r hxp hxq
                    have Hst := Lib.hid hst
                    have Hxq := Lib.hid hxq
                    have Hxp := Lib.hid hxp
                    have hl2 := Lib.hid (And.intro hlen.out.1 (Nat.le_trans (len_mono (Nat.div_le_self q 2)) hlen.out.2))
                    clear hst hxq
                    go_wp2_with fail
                    have hat := at_good (i := 0) hp (by omega)
                    rw [Nat.pow_zero, Nat.div_one, Hxp.out] at hat
                    refine hat.mono ?_
                    rintro e _ ⟨rfl, rfl⟩
                    clear hat
                    go_wp2_with fail
                    have hat := at_good (i := 0) hq (by omega)
                    rw [Nat.pow_zero, Nat.div_one, Hxq.out] at hat
                    refine hat.mono ?_
                    rintro e _ ⟨rfl, rfl⟩
                    clear hat
                    go_wp2_with fail
                    refine (half_good hq (by have := hlen.out; omega)).mono ?_
                    rintro e w2 ⟨v2, rfl, hv2, hb2⟩
                    have hp2 := hp.below hb2
                    have hB2 := from_ hbel hb2
                    have hms : numAt w2 u0 + numAt w2 v2 < numAt wr u0 + numAt wr u1 := by
                      rw [numAt_eq hv2, numAt_eq hp2, Nm1.out, Nm2.out]
                      omega
                    go_wp2
                    go_roundw
                    case rel => exact ⟨p, q / 2, hp2, hv2.old, by rw [Hst.out]; exact hg, (show ¬ _ by have := Hxp.out; omega), hp0, by have := Hxq.out; omega, hl2, hB2⟩
                    case measure => exact hms
                  · have hst : Nat.gcd p (q - p) = Nat.gcd p q := gcd_less_r (by omega)
                    obtain ⟨d, hd⟩ : ∃ d, q = d + p := ⟨q - p, by omega⟩
                    have hd2 : q - p = d := by omega
                    rw [hd2] at hst
                    have Hst := Lib.hid hst
                    have Hxq := Lib.hid hxq
                    have Hxp := Lib.hid hxp
                    have hl2 := Lib.hid (And.intro hlen.out.1 (Nat.le_trans (len_mono (show d ≤ q by omega)) hlen.out.2))
                    clear hst hxq hd2
                    go_wp2_with fail
                    have hat := at_good (i := 0) hp (by omega)
                    rw [Nat.pow_zero, Nat.div_one, Hxp.out] at hat
                    refine hat.mono ?_
                    rintro e _ ⟨rfl, rfl⟩
                    clear hat
                    go_wp2_with fail
                    have hat := at_good (i := 0) hq (by omega)
                    rw [Nat.pow_zero, Nat.div_one, Hxq.out] at hat
                    refine hat.mono ?_
                    rintro e _ ⟨rfl, rfl⟩
                    clear hat
                    go_wp2_with fail
                    refine Hcm.out.mono ?_
                    rintro e _ ⟨rfl, rfl⟩
                    go_wp2_with fail
                    refine (rest1_good hq hp (by have := hlen.out; omega) (by have := hlen.out; omega) hd).mono ?_
                    rintro e w2 ⟨v2, rfl, hv2, hb2⟩
                    have hp2 := hp.below hb2
                    have hB2 := from_ hbel hb2
                    have hms : numAt w2 u0 + numAt w2 v2 < numAt wr u0 + numAt wr u1 := by
                      rw [numAt_eq hv2, numAt_eq hp2, Nm1.out, Nm2.out]
                      omega
                    go_wp2
                    go_roundw
                    case rel => exact ⟨p, d, hp2, hv2.old, by rw [Hst.out]; exact hg, (show ¬ _ by have := Hxp.out; omega), hp0, by omega, hl2, hB2⟩
                    case measure => exact hms
              · rw [heq, cmp3_eq] at hcm
                have Hcm := Lib.hid hcm
                have hG : p * 2 ^ k = Nat.gcd m n := by rw [hg.out, ← heq, Nat.gcd_self]
                have HG := Lib.hid hG
                clear hcm hG heq
                go_wp2_with fail
                refine Hcm.out.mono ?_
                rintro e _ ⟨rfl, rfl⟩
                go_wp2_with fail
                refine (times1_good hp (by have := hlen.out; omega) (by omega)).mono ?_
                rintro e w2 ⟨v2, rfl, hv2, hb2⟩
                rw [HG.out] at hv2
                go_wp2
                go_ret
                exact ⟨_, rfl, hv2.mono (new_le hbel.size), from_ hbel hb2⟩
              · rw [cmp3_gt (by omega)] at hcm
                have Hcm := Lib.hid hcm
                clear hcm
                go_wp2_with fail
                refine Hcm.out.mono ?_
                rintro e _ ⟨rfl, rfl⟩
                rcases Nat.mod_two_eq_zero_or_one p with hxp | hxp
                · have hxq : q % 2 = 1 := by have := hodd.out; omega
                  have hst : Nat.gcd (p / 2) q = Nat.gcd p q := gcd_half_l hxp hxq
                  have Hst := Lib.hid hst
                  have Hxq := Lib.hid hxq
                  have Hxp := Lib.hid hxp
                  have hl2 := Lib.hid (And.intro (Nat.le_trans (len_mono (Nat.div_le_self p 2)) hlen.out.1) hlen.out.2)
                  clear hst hxq
                  go_wp2_with fail
                  have hat := at_good (i := 0) hp (by omega)
                  rw [Nat.pow_zero, Nat.div_one, Hxp.out] at hat
                  refine hat.mono ?_
                  rintro e _ ⟨rfl, rfl⟩
                  clear hat
                  go_wp2_with fail
                  refine (half_good hp (by have := hlen.out; omega)).mono ?_
                  rintro e w2 ⟨v2, rfl, hv2, hb2⟩
                  have hq2 := hq.below hb2
                  have hB2 := from_ hbel hb2
                  have hms : numAt w2 v2 + numAt w2 u1 < numAt wr u0 + numAt wr u1 := by
                    rw [numAt_eq hv2, numAt_eq hq2, Nm1.out, Nm2.out]
                    omega
                  go_wp2
                  go_roundw
                  case rel => exact ⟨p / 2, q, hv2.old, hq2, by rw [Hst.out]; exact hg, (show ¬ _ by have := Hxq.out; omega), by have := Hxp.out; omega, hq0, hl2, hB2⟩
                  case measure => exact hms
                · rcases Nat.mod_two_eq_zero_or_one q with hxq | hxq
                  · have hst : Nat.gcd p (q / 2) = Nat.gcd p q := gcd_half_r hxp hxq
                    have Hst := Lib.hid hst
                    have Hxq := Lib.hid hxq
                    have Hxp := Lib.hid hxp
                    have hl2 := Lib.hid (And.intro hlen.out.1 (Nat.le_trans (len_mono (Nat.div_le_self q 2)) hlen.out.2))
                    clear hst hxq
                    go_wp2_with fail
                    have hat := at_good (i := 0) hp (by omega)
                    rw [Nat.pow_zero, Nat.div_one, Hxp.out] at hat
                    refine hat.mono ?_
                    rintro e _ ⟨rfl, rfl⟩
                    clear hat
                    go_wp2_with fail
                    have hat := at_good (i := 0) hq (by omega)
                    rw [Nat.pow_zero, Nat.div_one, Hxq.out] at hat
                    refine hat.mono ?_
                    rintro e _ ⟨rfl, rfl⟩
                    clear hat
                    go_wp2_with fail
                    refine (half_good hq (by have := hlen.out; omega)).mono ?_
                    rintro e w2 ⟨v2, rfl, hv2, hb2⟩
                    have hp2 := hp.below hb2
                    have hB2 := from_ hbel hb2
                    have hms : numAt w2 u0 + numAt w2 v2 < numAt wr u0 + numAt wr u1 := by
                      rw [numAt_eq hv2, numAt_eq hp2, Nm1.out, Nm2.out]
                      omega
                    go_wp2
                    go_roundw
                    case rel => exact ⟨p, q / 2, hp2, hv2.old, by rw [Hst.out]; exact hg, (show ¬ _ by have := Hxp.out; omega), hp0, by have := Hxq.out; omega, hl2, hB2⟩
                    case measure => exact hms
                  · have hst : Nat.gcd (p - q) q = Nat.gcd p q := gcd_less_l (by omega)
                    obtain ⟨d, hd⟩ : ∃ d, p = d + q := ⟨p - q, by omega⟩
                    have hd2 : p - q = d := by omega
                    rw [hd2] at hst
                    have Hst := Lib.hid hst
                    have Hxq := Lib.hid hxq
                    have Hxp := Lib.hid hxp
                    have hl2 := Lib.hid (And.intro (Nat.le_trans (len_mono (show d ≤ p by omega)) hlen.out.1) hlen.out.2)
                    clear hst hxq hd2
                    go_wp2_with fail
                    have hat := at_good (i := 0) hp (by omega)
                    rw [Nat.pow_zero, Nat.div_one, Hxp.out] at hat
                    refine hat.mono ?_
                    rintro e _ ⟨rfl, rfl⟩
                    clear hat
                    go_wp2_with fail
                    have hat := at_good (i := 0) hq (by omega)
                    rw [Nat.pow_zero, Nat.div_one, Hxq.out] at hat
                    refine hat.mono ?_
                    rintro e _ ⟨rfl, rfl⟩
                    clear hat
                    go_wp2_with fail
                    refine Hcm.out.mono ?_
                    rintro e _ ⟨rfl, rfl⟩
                    go_wp2_with fail
                    refine (rest1_good hp hq (by have := hlen.out; omega) (by have := hlen.out; omega) hd).mono ?_
                    rintro e w2 ⟨v2, rfl, hv2, hb2⟩
                    have hq2 := hq.below hb2
                    have hB2 := from_ hbel hb2
                    have hms : numAt w2 v2 + numAt w2 u1 < numAt wr u0 + numAt wr u1 := by
                      rw [numAt_eq hv2, numAt_eq hq2, Nm1.out, Nm2.out]
                      omega
                    go_wp2
                    go_roundw
                    case rel => exact ⟨d, q, hv2.old, hq2, by rw [Hst.out]; exact hg, (show ¬ _ by have := Hxq.out; omega), by omega, hq0, hl2, hB2⟩
                    case measure => exact hms
        · have hodd : Hid (¬ (p % 2 = 0 ∧ q % 2 = 0)) := (show ¬ _ by omega)
          have Hxp := Lib.hid hxp
          go_wp2_with fail
          have hat := at_good (i := 0) hp (by omega)
          rw [Nat.pow_zero, Nat.div_one, Hxp.out] at hat
          refine hat.mono ?_
          rintro e _ ⟨rfl, rfl⟩
          clear hat
          clear Hxp
          go_wp2
          go_loopw [0, 1] (fun u v wr => ∃ (p q : Nat), IsN wr old u p ∧ IsN wr old v q ∧ Hid (Nat.gcd m n = Nat.gcd p q * 2 ^ k) ∧ Hid (¬ (p % 2 = 0 ∧ q % 2 = 0)) ∧ p ≠ 0 ∧ q ≠ 0 ∧ Hid ((limbs p).length ≤ 1000 ∧ (limbs q).length ≤ 1000) ∧ Below w.heap.size w wr) (fun u v wr => numAt wr u + numAt wr v)
          case atStart => exact ⟨p, q, hp, hq, hg, hodd, hp0, hq0, hlen, hbel⟩
          case round =>
            clear hp hq hg hodd hp0 hq0 hlen hbel hpm hxp
            clear p q
            obtain ⟨p, q, hp, hq, hg, hodd, hp0, hq0, hlen, hbel⟩ := hrel
            have nm1 := numAt_eq hp
            have nm2 := numAt_eq hq
            have Nm1 := Lib.hid nm1
            have Nm2 := Lib.hid nm2
            clear nm1 nm2
            have hcm := compared_good hp hq (by have := hlen.out; omega) (by have := hlen.out; omega)
            rcases Nat.lt_trichotomy p q with hlt | heq | hgt
            · rw [cmp3_lt (by omega)] at hcm
              have Hcm := Lib.hid hcm
              clear hcm
              go_wp2_with fail
              refine Hcm.out.mono ?_
              rintro e _ ⟨rfl, rfl⟩
              rcases Nat.mod_two_eq_zero_or_one p with hxp | hxp
              · have hxq : q % 2 = 1 := by have := hodd.out; omega
                have hst : Nat.gcd (p / 2) q = Nat.gcd p q := gcd_half_l hxp hxq
                have Hst := Lib.hid hst
                have Hxq := Lib.hid hxq
                have Hxp := Lib.hid hxp
                have hl2 := Lib.hid (And.intro (Nat.le_trans (len_mono (Nat.div_le_self p 2)) hlen.out.1) hlen.out.2)
                clear hst hxq
                go_wp2_with fail
                have hat := at_good (i := 0) hp (by omega)
                rw [Nat.pow_zero, Nat.div_one, Hxp.out] at hat
                refine hat.mono ?_
                rintro e _ ⟨rfl, rfl⟩
                clear hat
                go_wp2_with fail
                refine (half_good hp (by have := hlen.out; omega)).mono ?_
                rintro e w2 ⟨v2, rfl, hv2, hb2⟩
                have hq2 := hq.below hb2
                have hB2 := from_ hbel hb2
                have hms : numAt w2 v2 + numAt w2 u1 < numAt wr u0 + numAt wr u1 := by
                  rw [numAt_eq hv2, numAt_eq hq2, Nm1.out, Nm2.out]
                  omega
                go_wp2
                go_roundw
                case rel => exact ⟨p / 2, q, hv2.old, hq2, by rw [Hst.out]; exact hg, (show ¬ _ by have := Hxq.out; omega), by have := Hxp.out; omega, hq0, hl2, hB2⟩
                case measure => exact hms
              · rcases Nat.mod_two_eq_zero_or_one q with hxq | hxq
                · have hst : Nat.gcd p (q / 2) = Nat.gcd p q := gcd_half_r hxp hxq
                  have Hst := Lib.hid hst
                  have Hxq := Lib.hid hxq
                  have Hxp := Lib.hid hxp
                  have hl2 := Lib.hid (And.intro hlen.out.1 (Nat.le_trans (len_mono (Nat.div_le_self q 2)) hlen.out.2))
                  clear hst hxq
                  go_wp2_with fail
                  have hat := at_good (i := 0) hp (by omega)
                  rw [Nat.pow_zero, Nat.div_one, Hxp.out] at hat
                  refine hat.mono ?_
                  rintro e _ ⟨rfl, rfl⟩
                  clear hat
                  go_wp2_with fail
                  have hat := at_good (i := 0) hq (by omega)
                  rw [Nat.pow_zero, Nat.div_one, Hxq.out] at hat
                  refine hat.mono ?_
                  rintro e _ ⟨rfl, rfl⟩
                  clear hat
                  go_wp2_with fail
                  refine (half_good hq (by have := hlen.out; omega)).mono ?_
                  rintro e w2 ⟨v2, rfl, hv2, hb2⟩
                  have hp2 := hp.below hb2
                  have hB2 := from_ hbel hb2
                  have hms : numAt w2 u0 + numAt w2 v2 < numAt wr u0 + numAt wr u1 := by
                    rw [numAt_eq hv2, numAt_eq hp2, Nm1.out, Nm2.out]
                    omega
                  go_wp2
                  go_roundw
                  case rel => exact ⟨p, q / 2, hp2, hv2.old, by rw [Hst.out]; exact hg, (show ¬ _ by have := Hxp.out; omega), hp0, by have := Hxq.out; omega, hl2, hB2⟩
                  case measure => exact hms
                · have hst : Nat.gcd p (q - p) = Nat.gcd p q := gcd_less_r (by omega)
                  obtain ⟨d, hd⟩ : ∃ d, q = d + p := ⟨q - p, by omega⟩
                  have hd2 : q - p = d := by omega
                  rw [hd2] at hst
                  have Hst := Lib.hid hst
                  have Hxq := Lib.hid hxq
                  have Hxp := Lib.hid hxp
                  have hl2 := Lib.hid (And.intro hlen.out.1 (Nat.le_trans (len_mono (show d ≤ q by omega)) hlen.out.2))
                  clear hst hxq hd2
                  go_wp2_with fail
                  have hat := at_good (i := 0) hp (by omega)
                  rw [Nat.pow_zero, Nat.div_one, Hxp.out] at hat
                  refine hat.mono ?_
                  rintro e _ ⟨rfl, rfl⟩
                  clear hat
                  go_wp2_with fail
                  have hat := at_good (i := 0) hq (by omega)
                  rw [Nat.pow_zero, Nat.div_one, Hxq.out] at hat
                  refine hat.mono ?_
                  rintro e _ ⟨rfl, rfl⟩
                  clear hat
                  go_wp2_with fail
                  refine Hcm.out.mono ?_
                  rintro e _ ⟨rfl, rfl⟩
                  go_wp2_with fail
                  refine (rest1_good hq hp (by have := hlen.out; omega) (by have := hlen.out; omega) hd).mono ?_
                  rintro e w2 ⟨v2, rfl, hv2, hb2⟩
                  have hp2 := hp.below hb2
                  have hB2 := from_ hbel hb2
                  have hms : numAt w2 u0 + numAt w2 v2 < numAt wr u0 + numAt wr u1 := by
                    rw [numAt_eq hv2, numAt_eq hp2, Nm1.out, Nm2.out]
                    omega
                  go_wp2
                  go_roundw
                  case rel => exact ⟨p, d, hp2, hv2.old, by rw [Hst.out]; exact hg, (show ¬ _ by have := Hxp.out; omega), hp0, by omega, hl2, hB2⟩
                  case measure => exact hms
            · rw [heq, cmp3_eq] at hcm
              have Hcm := Lib.hid hcm
              have hG : p * 2 ^ k = Nat.gcd m n := by rw [hg.out, ← heq, Nat.gcd_self]
              have HG := Lib.hid hG
              clear hcm hG heq
              go_wp2_with fail
              refine Hcm.out.mono ?_
              rintro e _ ⟨rfl, rfl⟩
              go_wp2_with fail
              refine (times1_good hp (by have := hlen.out; omega) (by omega)).mono ?_
              rintro e w2 ⟨v2, rfl, hv2, hb2⟩
              rw [HG.out] at hv2
              go_wp2
              go_ret
              exact ⟨_, rfl, hv2.mono (new_le hbel.size), from_ hbel hb2⟩
            · rw [cmp3_gt (by omega)] at hcm
              have Hcm := Lib.hid hcm
              clear hcm
              go_wp2_with fail
              refine Hcm.out.mono ?_
              rintro e _ ⟨rfl, rfl⟩
              rcases Nat.mod_two_eq_zero_or_one p with hxp | hxp
              · have hxq : q % 2 = 1 := by have := hodd.out; omega
                have hst : Nat.gcd (p / 2) q = Nat.gcd p q := gcd_half_l hxp hxq
                have Hst := Lib.hid hst
                have Hxq := Lib.hid hxq
                have Hxp := Lib.hid hxp
                have hl2 := Lib.hid (And.intro (Nat.le_trans (len_mono (Nat.div_le_self p 2)) hlen.out.1) hlen.out.2)
                clear hst hxq
                go_wp2_with fail
                have hat := at_good (i := 0) hp (by omega)
                rw [Nat.pow_zero, Nat.div_one, Hxp.out] at hat
                refine hat.mono ?_
                rintro e _ ⟨rfl, rfl⟩
                clear hat
                go_wp2_with fail
                refine (half_good hp (by have := hlen.out; omega)).mono ?_
                rintro e w2 ⟨v2, rfl, hv2, hb2⟩
                have hq2 := hq.below hb2
                have hB2 := from_ hbel hb2
                have hms : numAt w2 v2 + numAt w2 u1 < numAt wr u0 + numAt wr u1 := by
                  rw [numAt_eq hv2, numAt_eq hq2, Nm1.out, Nm2.out]
                  omega
                go_wp2
                go_roundw
                case rel => exact ⟨p / 2, q, hv2.old, hq2, by rw [Hst.out]; exact hg, (show ¬ _ by have := Hxq.out; omega), by have := Hxp.out; omega, hq0, hl2, hB2⟩
                case measure => exact hms
              · rcases Nat.mod_two_eq_zero_or_one q with hxq | hxq
                · have hst : Nat.gcd p (q / 2) = Nat.gcd p q := gcd_half_r hxp hxq
                  have Hst := Lib.hid hst
                  have Hxq := Lib.hid hxq
                  have Hxp := Lib.hid hxp
                  have hl2 := Lib.hid (And.intro hlen.out.1 (Nat.le_trans (len_mono (Nat.div_le_self q 2)) hlen.out.2))
                  clear hst hxq
                  go_wp2_with fail
                  have hat := at_good (i := 0) hp (by omega)
                  rw [Nat.pow_zero, Nat.div_one, Hxp.out] at hat
                  refine hat.mono ?_
                  rintro e _ ⟨rfl, rfl⟩
                  clear hat
                  go_wp2_with fail
                  have hat := at_good (i := 0) hq (by omega)
                  rw [Nat.pow_zero, Nat.div_one, Hxq.out] at hat
                  refine hat.mono ?_
                  rintro e _ ⟨rfl, rfl⟩
                  clear hat
                  go_wp2_with fail
                  refine (half_good hq (by have := hlen.out; omega)).mono ?_
                  rintro e w2 ⟨v2, rfl, hv2, hb2⟩
                  have hp2 := hp.below hb2
                  have hB2 := from_ hbel hb2
                  have hms : numAt w2 u0 + numAt w2 v2 < numAt wr u0 + numAt wr u1 := by
                    rw [numAt_eq hv2, numAt_eq hp2, Nm1.out, Nm2.out]
                    omega
                  go_wp2
                  go_roundw
                  case rel => exact ⟨p, q / 2, hp2, hv2.old, by rw [Hst.out]; exact hg, (show ¬ _ by have := Hxp.out; omega), hp0, by have := Hxq.out; omega, hl2, hB2⟩
                  case measure => exact hms
                · have hst : Nat.gcd (p - q) q = Nat.gcd p q := gcd_less_l (by omega)
                  obtain ⟨d, hd⟩ : ∃ d, p = d + q := ⟨p - q, by omega⟩
                  have hd2 : p - q = d := by omega
                  rw [hd2] at hst
                  have Hst := Lib.hid hst
                  have Hxq := Lib.hid hxq
                  have Hxp := Lib.hid hxp
                  have hl2 := Lib.hid (And.intro (Nat.le_trans (len_mono (show d ≤ p by omega)) hlen.out.1) hlen.out.2)
                  clear hst hxq hd2
                  go_wp2_with fail
                  have hat := at_good (i := 0) hp (by omega)
                  rw [Nat.pow_zero, Nat.div_one, Hxp.out] at hat
                  refine hat.mono ?_
                  rintro e _ ⟨rfl, rfl⟩
                  clear hat
                  go_wp2_with fail
                  have hat := at_good (i := 0) hq (by omega)
                  rw [Nat.pow_zero, Nat.div_one, Hxq.out] at hat
                  refine hat.mono ?_
                  rintro e _ ⟨rfl, rfl⟩
                  clear hat
                  go_wp2_with fail
                  refine Hcm.out.mono ?_
                  rintro e _ ⟨rfl, rfl⟩
                  go_wp2_with fail
                  refine (rest1_good hp hq (by have := hlen.out; omega) (by have := hlen.out; omega) hd).mono ?_
                  rintro e w2 ⟨v2, rfl, hv2, hb2⟩
                  have hq2 := hq.below hb2
                  have hB2 := from_ hbel hb2
                  have hms : numAt w2 v2 + numAt w2 u1 < numAt wr u0 + numAt wr u1 := by
                    rw [numAt_eq hv2, numAt_eq hq2, Nm1.out, Nm2.out]
                    omega
                  go_wp2
                  go_roundw
                  case rel => exact ⟨d, q, hv2.old, hq2, by rw [Hst.out]; exact hg, (show ¬ _ by have := Hxq.out; omega), by omega, hq0, hl2, hB2⟩
                  case measure => exact hms


end Go.Proofs.YtdhgjkihghndiaaGreat
