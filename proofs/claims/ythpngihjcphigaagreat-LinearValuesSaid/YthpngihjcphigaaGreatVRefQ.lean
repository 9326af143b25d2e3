/- The document's own answer, layer 3: Over (the quotient and what is left over, bit by bit). No conditions but bounds on lengths, and that the second number is not 0. -/
import Derived.Deep.RegionHeld3
import Derived.Test.YthpngihjcphigaaGreatVRefI
import Derived.Test.YthpngihjcphigaaGreatVRefO
import Derived.Test.YthpngihjcphigaaGreatVWhJ
import Derived.Test.YthpngihjcphigaaGreatVWhK
set_option linter.unusedVariables false
set_option linter.unusedSimpArgs false
set_option maxRecDepth 100000
set_option maxHeartbeats 40000000
namespace Go.Proofs.YthpngihjcphigaaGreat
open Go.Lib (hid)
open Go.RowKit
variable {Y Z : Zone} {a b : Value} {m : Nat} {w : World}
theorem set_bit (i d : Nat) (hi : List Nat) : (List.replicate (i + 1) 0 ++ hi).set i d = List.replicate i 0 ++ d :: hi := by
 rw [List.replicate_succ', List.append_assoc, List.set_append_right _ _ (by simp)]
 simp
theorem no_bit (i : Nat) (hi : List Nat) : List.replicate (i + 1) 0 ++ hi = List.replicate i 0 ++ 0 :: hi := by
 rw [List.replicate_succ', List.append_assoc]
 rfl
theorem over_step {n i q r x : Nat} (hn : 0 < n) (hr : m / 2 ^ (i + 1) % n = r) (hq : m / 2 ^ (i + 1) / n = q) (hx : m / 2 ^ i % 2 = x) :
  (n ≤ r * 2 ^ 1 + x → m / 2 ^ i % n = r * 2 ^ 1 + x - n ∧ m / 2 ^ i / n = 2 * q + 1) ∧ (r * 2 ^ 1 + x < n → m / 2 ^ i % n = r * 2 ^ 1 + x ∧ m / 2 ^ i / n = 2 * q) := by
 have h1 : m / 2 ^ (i + 1) = m / 2 ^ i / 2 := by rw [Nat.pow_succ, Nat.div_div_eq_div_mul]
 rw [h1] at hr hq
 generalize m / 2 ^ i = M at *
 have h2 := Nat.div_add_mod (M / 2) n
 have h3 := Nat.mod_lt (M / 2) hn
 rw [hr] at h2 h3
 rw [hq] at h2
 have h4 : M = n * (2 * q) + (r * 2 ^ 1 + x) := by
  rw [show n * (2 * q) = 2 * (n * q) by rw [Nat.mul_left_comm]]
  omega
 constructor
 · intro h
   have h5 : M = (r * 2 ^ 1 + x - n) + n * (2 * q + 1) := by rw [Nat.mul_add]; omega
   have h6 : r * 2 ^ 1 + x - n < n := by omega
   rw [h5]
   exact ⟨by rw [Nat.add_mul_mod_self_left]; exact Nat.mod_eq_of_lt h6, by rw [Nat.add_mul_div_left _ _ hn, Nat.div_eq_of_lt h6, Nat.zero_add]⟩
 · intro h
   have h5 : M = (r * 2 ^ 1 + x) + n * (2 * q) := by omega
   rw [h5]
   exact ⟨by rw [Nat.add_mul_mod_self_left]; exact Nat.mod_eq_of_lt h, by rw [Nat.add_mul_div_left _ _ hn, Nat.div_eq_of_lt h, Nat.zero_add]⟩
theorem over_bits {n : Nat} (ha : IsN w Z a m) (hb : IsN w Y b n) (hn : 0 < n) (hl : (limbs m).length ≤ 9000) (hl2 : (limbs n).length ≤ 9000) (hmany : ¬ ((limbs m).length = 1 ∧ (limbs n).length = 1)) :
  Calls Tryz.prog 132 #[a, b] w fun e w' => ∃ q r, e = .returned (.tuple #[q, r]) ∧ IsN w' (new w.heap.size) q (m / n) ∧ IsN w' (new w.heap.size) r (m % n) ∧ Below w.heap.size w w' := by
 have ha0 := ha
 have hb0 := hb
 obtain ⟨A, ca, rfl, ha⟩ := ha
 obtain ⟨B, cb, rfl, hb⟩ := hb
 obtain ⟨i0, hi, hz0, hz1, hz2⟩ := info_parts (show (Tryz.prog.info? 3).map (fun i => (i.zero, i.size, i.bytes)) = some (some (.int .i64 0), 1, 8) by kernel_rfl)
 obtain ⟨L, hL⟩ : ∃ L, L = (limbs m).length := ⟨_, rfl⟩
 obtain ⟨K, hK⟩ : ∃ K, K = (limbs n).length := ⟨_, rfl⟩
 have hm := lt_pow_len m
 rw [W_pow, ← hL] at hm
 have Hm := hid hm
 have hKl : ∀ r, r < n → (limbs r).length ≤ 9000 := fun r hr => Nat.le_trans (len_mono (Nat.le_of_lt hr)) hl2
 have hKr : ∀ r x, r < n → x ≤ 1 → (limbs (r * 2 ^ 1)).length ≤ 10000000000 ∧ (limbs (r * 2 ^ 1 + x)).length ≤ 10000000000 := fun r x hr hx => by
  have h1 : (limbs (n * 2)).length ≤ 9001 := Nat.le_trans (len_mul n 2) (by rw [limbs_one (x := 2) (by omega) (by omega)]; simpa using hl2)
  exact ⟨Nat.le_trans (len_mono (show r * 2 ^ 1 ≤ n * 2 by omega)) (by omega), Nat.le_trans (len_mono (show r * 2 ^ 1 + x ≤ n * 2 by omega)) (by omega)⟩
 obtain ⟨HKl, HKr, Hl1⟩ := hid3 hKl hKr (show (limbs n).length ≤ 10000000000 by omega)
 have Hone : Hid ((limbs 1).length ≤ 10000000000) := by
  show (limbs 1).length ≤ 10000000000
  rw [limbs_one (by omega) (by omega)]
  simp
 rw [← hL, ← hK] at hmany
 rw [← hL] at hl ha0 ⊢
 rw [← hK] at hb0 ⊢
 have d1 : (((L : Int) == 1) = false) ∨ (((L : Int) == 1) = true ∧ ((K : Int) == 1) = false) := by
  by_cases h : L = 1
  · exact .inr ⟨by subst h; rfl, beq_eq_false_iff_ne.2 (by omega)⟩
  · exact .inl (beq_eq_false_iff_ne.2 (by omega))
 have hK9 : K ≤ 9000 := hK ▸ hl2
 clear hL hK hm ha hb hKl hKr hl2 hmany
 rcases d1 with d1 | ⟨d1, d2⟩
 all_goals
  go_enter Tryz.func132, Tryz.ntmps132
  go_wp2_with (at_make; go_loud (refine wpList_make_full _ rfl _ _ 132 rfl w.heap.size 3 i0 (.int .i64 0) 1 Tryz.underlying132 hi hz0 hz1 .i64 .i64 _ _ (64 * L) rfl rfl (by go_num) (by go_num) (by rw [hz2]; omega) (by simp only [maxLen]; omega) (Nat.le_refl _) ?_); intro w1 hown hgrow)
  have hb1 : Below w.heap.size w w1 := (Below.refl _ w).grown hgrow (Nat.le_refl _) (fun k h => by cases h)
  have hcells : (madeCells (Value.int .i64 0).cells ((64 * L) * 1)).toList = (List.replicate (64 * L) 0).map fun x : Nat => Value.int .i64 (x : Int) := by
   rw [Nat.mul_one, List.map_replicate]
   simpa [Value.cells] using toList_madeCells_one (.int .i64 0) (64 * L)
  rw [hcells] at hown
  clear hcells hgrow
  have hgt : w.heap.size < w1.heap.size := (hown.lt _ rfl).2
  go_wp2
  go_loopw [6, 9] (fun v i wr => ∃ (j : Nat) (hs : List Nat), j + hs.length = 64 * L ∧ i = .int .i64 ((j : Int) - 1) ∧ IsN wr (new (w.heap.size + 1)) v (m / 2 ^ j % n) ∧ Hid (bval hs = m / 2 ^ j / n) ∧ Hid (∀ x ∈ hs, x ≤ 1) ∧ wr.ownsRow w.heap.size 3 1 (.slice (some ⟨w.heap.size, 0, none⟩) (64 * L) (64 * L)) (64 * L) ((List.replicate j 0 ++ hs).map fun x : Nat => Value.int .i64 (x : Int)) ∧ Below w.heap.size w wr ∧ w.heap.size < wr.heap.size) (fun _ i _ => (intOf i + 1).toNat)
  case atStart =>
   have h0 : m / 2 ^ (64 * L) = 0 := Nat.div_eq_of_lt Hm.out
   exact ⟨64 * L, [], by simp, by go_num, by rw [h0, Nat.zero_mod]; exact IsN.zero _ _, (show bval [] = _ by rw [h0, Nat.zero_div]; rfl), (fun x hx => absurd hx (by simp)), by simpa using hown, hb1, hgt⟩
  case round =>
   obtain ⟨j, hs, hj, rfl, hv, hbv, hle, hown, hbel, hgt⟩ := hrel
   cases j with
   | zero =>
     simp only [Nat.pow_zero, Nat.div_one] at hv hbv
     have hbits := bits_own hown (fun x hx => hle.out x (by simpa using hx))
     rw [List.replicate_zero, List.nil_append] at hbits
     have hlen : hs.length ≤ 1000000000000 := by omega
     have Hb := hid hbits
     clear hown hbits
     have hd : ((0 : Nat) : Int) - 1 = -1 := rfl
     go_wp2_with fail
     refine (from_any Hb.out hlen).mono ?_
     rintro e w2 ⟨u, rfl, hu, hb2⟩
     rw [hbv.out] at hu
     go_wp2
     go_ret2
     exact ⟨_, _, rfl, hu.mono (new_le hbel.size), (hv.below hb2).mono (new_le (by omega)), from_ hbel hb2⟩
   | succ i =>
     have hi1 : ((i + 1 : Nat) : Int) - 1 = (i : Int) := by omega
     rw [hi1]
     obtain ⟨r, hr⟩ : ∃ r, m / 2 ^ (i + 1) % n = r := ⟨_, rfl⟩
     obtain ⟨q, hq⟩ : ∃ q, m / 2 ^ (i + 1) / n = q := ⟨_, rfl⟩
     obtain ⟨x, hx⟩ : ∃ x, m / 2 ^ i % 2 = x := ⟨_, rfl⟩
     have hrn : r < n := by rw [← hr]; exact Nat.mod_lt _ hn
     have hx1 : x = 0 ∨ x = 1 := by omega
     have hstep := over_step hn hr hq hx
     rw [hr] at hv
     rw [hq] at hbv
     have l1 := HKl.out r hrn
     obtain ⟨l2, l3⟩ := HKr.out r x hrn (by omega)
     have hat := fun (w1 : World) (h : Below w.heap.size w w1) => at_good (i := i) (ha0.below h) (by omega)
     rw [hx] at hat
     have Hat := hid hat
     have hcm := fun (w1 : World) (v : Value) (Z : Zone) (h : Below w.heap.size w w1) (hv : IsN w1 Z v (r * 2 ^ 1 + x)) => compared_good hv (hb0.below h) l3 Hl1.out
     have hrs := fun (w1 : World) (v : Value) (Z : Zone) (d : Nat) (h : Below w.heap.size w w1) (hv : IsN w1 Z v (r * 2 ^ 1 + x)) (hd : r * 2 ^ 1 + x = d + n) => rest1_good hv (hb0.below h) l3 Hl1.out hd
     have hle2 : ∀ d, d ≤ 1 → ∀ y ∈ d :: hs, y ≤ 1 := fun d hd y hy => by
      rcases List.mem_cons.1 hy with rfl | h
      · exact hd
      · exact hle.out y h
     obtain ⟨c, hc⟩ : ∃ c, c = cmp3 ((r * 2 ^ 1 + x : Nat) : Int) (n : Int) := ⟨_, rfl⟩
     rw [← hc] at hcm
     obtain ⟨Hcm, Hrs, Hstep, Hle, HL3⟩ := hid5 hcm hrs hstep hle2 l3
     have hl2' : (limbs (r * 2)).length ≤ 10000000000 := l2
     have hcase : (n ≤ r * 2 ^ 1 + x ∧ decide (0 ≤ c) = true) ∨ (r * 2 ^ 1 + x < n ∧ decide (0 ≤ c) = false) := by
      rcases Nat.lt_or_ge (r * 2 ^ 1 + x) n with h | h
      · exact .inr ⟨h, by rw [hc, cmp3_lt (by omega)]; rfl⟩
      · refine .inl ⟨h, decide_eq_true ?_⟩
        rw [hc]
        unfold cmp3
        split
        · omega
        · split <;> omega
     clear hat hcm hrs hstep hle2 hr hq hx hc l3 hl2' hle
     rcases hcase with ⟨hge, hdc⟩ | ⟨hlt, hdc⟩ <;> rcases hx1 with rfl | rfl
     · go_wp2_with fail
       refine (times1_good (b := 1) hv (by omega) (by omega)).mono ?_
       rintro e w2 ⟨v2, rfl, hv2, hb2⟩
       have hB2 := from_ hbel hb2
       have hO2 := own_below hown hb2
       have hg2 : w.heap.size < w2.heap.size := Nat.lt_of_lt_of_le hgt hb2.size
       have hu2 := hv2.mono (Y := new (w.heap.size + 1)) (new_le (by omega))
       clear hv2 hb2 hown hbel hv hgt
       go_wp2_with fail
       refine (Hat.out _ hB2).mono ?_
       rintro e w3 ⟨rfl, rfl⟩
       go_wp2_with fail
       refine (Hcm.out _ _ _ hB2 hu2).mono ?_
       rintro e w4 ⟨rfl, rfl⟩
       obtain ⟨d, hd⟩ : ∃ d, r * 2 ^ 1 + 0 = d + n := ⟨r * 2 ^ 1 + 0 - n, by omega⟩
       obtain ⟨e1, e2⟩ := Hstep.out.1 hge
       go_wp2_with fail
       refine (Hrs.out _ _ _ d hB2 hu2 hd).mono ?_
       rintro e w5 ⟨v5, rfl, hv5, hb5⟩
       have hO5 := own_below hO2 hb5
       have c0 := hO5.cellAt i (by omega)
       rw [List.getElem?_map, List.getElem?_eq_getElem (by simp; omega)] at c0
       have f0 := hO5.frozenAt i
       have o1 := (hO5.stored i (.int .i64 1)).1
       have hB5 := (from_ hB2 hb5).setCell (p := ⟨w.heap.size, i, none⟩) (Nat.le_refl _) (.int .i64 1)
       have hg5 : w.heap.size < (w5.setCell ⟨w.heap.size, i, none⟩ (.int .i64 1)).heap.size := by
        have := hb5.size
        simp [World.setCell]
        omega
       have hu5 : IsN (w5.setCell ⟨w.heap.size, i, none⟩ (.int .i64 1)) (new (w.heap.size + 1)) v5 (m / 2 ^ i % n) := by
        rw [e1, hd, Nat.add_sub_cancel]
        refine (hv5.mono (new_le (show w.heap.size + 1 ≤ _ by omega))).keep fun b hb _ => Below.heap_setCell _ _ _ _ ?_
        have hb' : w.heap.size + 1 ≤ b := hb
        show b ≠ w.heap.size
        omega
       obtain ⟨HU, HO, HB, He2⟩ := hid4 hu5 o1 hB5 e2
       clear hu5 o1 hB5 hv5 hO5 hO2 hB2 hu2 hb5 e1 e2 hd
       generalize (List.replicate (i + 1) 0 ++ hs)[i] = x0 at c0
       go_wp2
       go_roundw
       case rel =>
        refine ⟨i, 1 :: hs, by rw [List.length_cons]; omega, by go_num, HU.out, ?_, Hle.out 1 (by omega), ?_, HB.out, hg5⟩
        · show 1 + 2 * bval hs = _
          rw [hbv.out, He2.out]; omega
        · have := HO.out
          rw [← set_bit]
          simpa using this
       case measure => simp [intOf] <;> omega
     · go_wp2_with fail
       refine (times1_good (b := 1) hv (by omega) (by omega)).mono ?_
       rintro e w2 ⟨v2, rfl, hv2, hb2⟩
       have hB2 := from_ hbel hb2
       have hO2 := own_below hown hb2
       have hg2 : w.heap.size < w2.heap.size := Nat.lt_of_lt_of_le hgt hb2.size
       have hu2 := hv2.mono (Y := new (w.heap.size + 1)) (new_le (by omega))
       clear hv2 hb2 hown hbel hv hgt
       go_wp2_with fail
       refine (Hat.out _ hB2).mono ?_
       rintro e w3 ⟨rfl, rfl⟩
       have hal : Below w2.heap.size w2 (w2.alloc (.cells #[.int .u64 1] 95)) := (Below.refl _ _).alloc (Nat.le_refl _) _
       have hlit : IsN (w2.alloc (.cells #[.int .u64 1] 95)) old (.slice (some ⟨w2.heap.size, 0, none⟩) 1 1) 1 := isN_one (x := 1) (by omega) (by omega) (cell_newest (by simp) rfl)
       obtain ⟨Hlit, Hal⟩ := hid2 hlit hal
       clear hlit hal
       go_wp2_with fail
       refine (sum1_good (hu2.below Hal.out) Hlit.out (by omega) Hone.out).mono ?_
       rintro e w3 ⟨v3, rfl, hv3, hb3⟩
       have hc3 := from_ Hal.out hb3
       have hB3 := from_ hB2 hc3
       have hO3 := own_below hO2 hc3
       have hg3 : w.heap.size < w3.heap.size := Nat.lt_of_lt_of_le hg2 hc3.size
       have hs3 : w2.heap.size ≤ (w2.alloc (.cells #[.int .u64 1] 95)).heap.size := Hal.out.size
       have hu3 := hv3.mono (Y := new (w.heap.size + 1)) (new_le (by omega))
       clear hv3 hb3 hO2 hB2 hu2 hg2 Hlit Hal hc3 hs3
       go_wp2_with fail
       refine (Hcm.out _ _ _ hB3 hu3).mono ?_
       rintro e w4 ⟨rfl, rfl⟩
       obtain ⟨d, hd⟩ : ∃ d, r * 2 ^ 1 + 1 = d + n := ⟨r * 2 ^ 1 + 1 - n, by omega⟩
       obtain ⟨e1, e2⟩ := Hstep.out.1 hge
       go_wp2_with fail
       refine (Hrs.out _ _ _ d hB3 hu3 hd).mono ?_
       rintro e w5 ⟨v5, rfl, hv5, hb5⟩
       have hO5 := own_below hO3 hb5
       have c0 := hO5.cellAt i (by omega)
       rw [List.getElem?_map, List.getElem?_eq_getElem (by simp; omega)] at c0
       have f0 := hO5.frozenAt i
       have o1 := (hO5.stored i (.int .i64 1)).1
       have hB5 := (from_ hB3 hb5).setCell (p := ⟨w.heap.size, i, none⟩) (Nat.le_refl _) (.int .i64 1)
       have hg5 : w.heap.size < (w5.setCell ⟨w.heap.size, i, none⟩ (.int .i64 1)).heap.size := by
        have := hb5.size
        simp [World.setCell]
        omega
       have hu5 : IsN (w5.setCell ⟨w.heap.size, i, none⟩ (.int .i64 1)) (new (w.heap.size + 1)) v5 (m / 2 ^ i % n) := by
        rw [e1, hd, Nat.add_sub_cancel]
        refine (hv5.mono (new_le (show w.heap.size + 1 ≤ _ by omega))).keep fun b hb _ => Below.heap_setCell _ _ _ _ ?_
        have hb' : w.heap.size + 1 ≤ b := hb
        show b ≠ w.heap.size
        omega
       obtain ⟨HU, HO, HB, He2⟩ := hid4 hu5 o1 hB5 e2
       clear hu5 o1 hB5 hv5 hO5 hO3 hB3 hu3 hb5 e1 e2 hd
       generalize (List.replicate (i + 1) 0 ++ hs)[i] = x0 at c0
       go_wp2
       go_roundw
       case rel =>
        refine ⟨i, 1 :: hs, by rw [List.length_cons]; omega, by go_num, HU.out, ?_, Hle.out 1 (by omega), ?_, HB.out, hg5⟩
        · show 1 + 2 * bval hs = _
          rw [hbv.out, He2.out]; omega
        · have := HO.out
          rw [← set_bit]
          simpa using this
       case measure => simp [intOf] <;> omega
     · go_wp2_with fail
       refine (times1_good (b := 1) hv (by omega) (by omega)).mono ?_
       rintro e w2 ⟨v2, rfl, hv2, hb2⟩
       have hB2 := from_ hbel hb2
       have hO2 := own_below hown hb2
       have hg2 : w.heap.size < w2.heap.size := Nat.lt_of_lt_of_le hgt hb2.size
       have hu2 := hv2.mono (Y := new (w.heap.size + 1)) (new_le (by omega))
       clear hv2 hb2 hown hbel hv hgt
       go_wp2_with fail
       refine (Hat.out _ hB2).mono ?_
       rintro e w3 ⟨rfl, rfl⟩
       go_wp2_with fail
       refine (Hcm.out _ _ _ hB2 hu2).mono ?_
       rintro e w4 ⟨rfl, rfl⟩
       obtain ⟨e1, e2⟩ := Hstep.out.2 hlt
       have hu5 : IsN w2 (new (w.heap.size + 1)) v2 (m / 2 ^ i % n) := by rw [e1]; exact hu2
       obtain ⟨HU, HO, HB, He2⟩ := hid4 hu5 hO2 hB2 e2
       clear hu5 hO2 hB2 hu2 e1 e2
       go_wp2
       go_roundw
       case rel =>
        refine ⟨i, 0 :: hs, by rw [List.length_cons]; omega, by go_num, HU.out, ?_, Hle.out 0 (by omega), ?_, HB.out, hg2⟩
        · show 0 + 2 * bval hs = _
          rw [hbv.out, He2.out]; omega
        · rw [← no_bit]
          exact HO.out
       case measure => simp [intOf] <;> omega
     · go_wp2_with fail
       refine (times1_good (b := 1) hv (by omega) (by omega)).mono ?_
       rintro e w2 ⟨v2, rfl, hv2, hb2⟩
       have hB2 := from_ hbel hb2
       have hO2 := own_below hown hb2
       have hg2 : w.heap.size < w2.heap.size := Nat.lt_of_lt_of_le hgt hb2.size
       have hu2 := hv2.mono (Y := new (w.heap.size + 1)) (new_le (by omega))
       clear hv2 hb2 hown hbel hv hgt
       go_wp2_with fail
       refine (Hat.out _ hB2).mono ?_
       rintro e w3 ⟨rfl, rfl⟩
       have hal : Below w2.heap.size w2 (w2.alloc (.cells #[.int .u64 1] 95)) := (Below.refl _ _).alloc (Nat.le_refl _) _
       have hlit : IsN (w2.alloc (.cells #[.int .u64 1] 95)) old (.slice (some ⟨w2.heap.size, 0, none⟩) 1 1) 1 := isN_one (x := 1) (by omega) (by omega) (cell_newest (by simp) rfl)
       obtain ⟨Hlit, Hal⟩ := hid2 hlit hal
       clear hlit hal
       go_wp2_with fail
       refine (sum1_good (hu2.below Hal.out) Hlit.out (by omega) Hone.out).mono ?_
       rintro e w3 ⟨v3, rfl, hv3, hb3⟩
       have hc3 := from_ Hal.out hb3
       have hB3 := from_ hB2 hc3
       have hO3 := own_below hO2 hc3
       have hg3 : w.heap.size < w3.heap.size := Nat.lt_of_lt_of_le hg2 hc3.size
       have hs3 : w2.heap.size ≤ (w2.alloc (.cells #[.int .u64 1] 95)).heap.size := Hal.out.size
       have hu3 := hv3.mono (Y := new (w.heap.size + 1)) (new_le (by omega))
       clear hv3 hb3 hO2 hB2 hu2 hg2 Hlit Hal hc3 hs3
       go_wp2_with fail
       refine (Hcm.out _ _ _ hB3 hu3).mono ?_
       rintro e w4 ⟨rfl, rfl⟩
       obtain ⟨e1, e2⟩ := Hstep.out.2 hlt
       have hu5 : IsN w3 (new (w.heap.size + 1)) v3 (m / 2 ^ i % n) := by rw [e1]; exact hu3
       obtain ⟨HU, HO, HB, He2⟩ := hid4 hu5 hO3 hB3 e2
       clear hu5 hO3 hB3 hu3 e1 e2
       go_wp2
       go_roundw
       case rel =>
        refine ⟨i, 0 :: hs, by rw [List.length_cons]; omega, by go_num, HU.out, ?_, Hle.out 0 (by omega), ?_, HB.out, hg3⟩
        · show 0 + 2 * bval hs = _
          rw [hbv.out, He2.out]; omega
        · rw [← no_bit]
          exact HO.out
       case measure => simp [intOf] <;> omega
theorem over_word {n : Nat} (ha : IsN w Z a m) (hb : IsN w Y b n) (hn : 0 < n) (h1 : (limbs m).length = 1) (h2 : (limbs n).length = 1) :
  Calls Tryz.prog 132 #[a, b] w fun e w' => ∃ q r, e = .returned (.tuple #[q, r]) ∧ IsN w' (new w.heap.size) q (m / n) ∧ IsN w' (new w.heap.size) r (m % n) ∧ Below w.heap.size w w' := by
 have hm1 : m < 18446744073709551616 := by have := lt_pow_len m; rw [h1] at this; simpa using this
 have hn1 : n < 18446744073709551616 := by have := lt_pow_len n; rw [h2] at this; simpa using this
 have hm0 : 0 < m := by
  exact Nat.pos_of_ne_zero (len_pos.1 (by omega))
 have em := limbs_one hm0 hm1
 have en := limbs_one hn hn1
 obtain ⟨A, ca, rfl, ha⟩ := ha
 obtain ⟨B, cb, rfl, hb⟩ := hb
 rw [em] at ha ⊢
 rw [en] at hb ⊢
 obtain ⟨ba, oa, rfl, _, _, _, ca0⟩ := ha.open (by simp)
 obtain ⟨bb, ob, rfl, _, _, _, cb0⟩ := hb.open (by simp)
 have a0 := ca0 0 (by simp)
 have b0 := cb0 0 (by simp)
 have hq : Hid (∀ w1 : World, Calls Tryz.prog 95 #[.int .u64 ((m : Int) / (n : Int))] w1 fun e w' => ∃ v, e = .returned v ∧ IsN w' (new w1.heap.size) v (m / n) ∧ Below w1.heap.size w1 w') := fun w1 => by
  rw [← Int.natCast_ediv]
  exact rof_any (Nat.lt_of_le_of_lt (Nat.div_le_self _ _) hm1)
 have hr : Hid (∀ w1 : World, Calls Tryz.prog 95 #[.int .u64 ((m : Int) % (n : Int))] w1 fun e w' => ∃ v, e = .returned v ∧ IsN w' (new w1.heap.size) v (m % n) ∧ Below w1.heap.size w1 w') := fun w1 => by
  rw [← Int.natCast_emod]
  exact rof_any (Nat.lt_of_le_of_lt (Nat.mod_le _ _) hm1)
 have hbd : Below w.heap.size w w.drew := bdr_
 have HBd := hid hbd
 have hn0 : ((n : Int) == 0) = false := beq_eq_false_iff_ne.2 (by omega)
 have hw1 : IntKind.u64.wrap ((m : Int) / (n : Int)) = ((m / n : Nat) : Int) := by
  rw [← Int.natCast_ediv, Mul64.wrapN _ (by have := Nat.div_le_self m n; omega)]
 have hw2 : (m : Int).tmod (n : Int) = ((m % n : Nat) : Int) := by
  rw [Int.tmod_eq_emod_of_nonneg (by omega), ← Int.natCast_emod]
 have hn2 : ¬ (n = 0) := by omega
 have hn3 : ¬ ((n : Int) = 0) := by omega
 clear ca0 cb0 ha hb em en h1 h2 hbd
 go_enter Tryz.func132, Tryz.ntmps132
 have a0d := (show w.drew.cell? ⟨ba, oa, none⟩ = _ from a0)
 have b0d := (show w.drew.cell? ⟨bb, ob, none⟩ = _ from b0)
 go_wp2
 go_region_held3 (fun w' => w'.cell? ⟨ba, oa, none⟩ = some (.int .u64 (m : Int)) ∧ w'.cell? ⟨bb, ob, none⟩ = some (.int .u64 (n : Int)))
  (first
   | (go_keep; done)
   | exact ⟨p0, q0⟩
   | exact ⟨p1, q1⟩)
  (first
   | (go_at_call 95; with_reducible refine (hq.out _).mono ?_; rintro e w1 ⟨v1, rfl, hv1, hc1⟩; have p0 := keepC hc1 a0d; have q0 := keepC hc1 b0d)
   | (go_at_call 95; with_reducible refine (hr.out _).mono ?_; rintro e w2 ⟨v2, rfl, hv2, hc2⟩; have p1 := keepC hc2 p0; have q1 := keepC hc2 q0))
 all_goals
  have hB1 := from_ HBd.out hc1
  have hB2 := from_ hB1 hc2
  have hs1 := hB1.size
  obtain ⟨HV1, HV2⟩ := hid2 ((hv1.below hc2).mono (Y := new w.heap.size) (new_le (Nat.le_refl _))) (hv2.mono (Y := new w.heap.size) (new_le (by omega)))
  go_wp2
  go_ret2
  exact ⟨_, _, rfl, HV1.out, HV2.out, hB2⟩
theorem over_good {n : Nat} (ha : IsN w Z a m) (hb : IsN w Y b n) (hn : 0 < n) (hl : (limbs m).length ≤ 9000) (hl2 : (limbs n).length ≤ 9000) :
  Calls Tryz.prog 132 #[a, b] w fun e w' => ∃ q r, e = .returned (.tuple #[q, r]) ∧ IsN w' (new w.heap.size) q (m / n) ∧ IsN w' (new w.heap.size) r (m % n) ∧ Below w.heap.size w w' := by
 by_cases h : (limbs m).length = 1 ∧ (limbs n).length = 1
 · exact over_word ha hb hn h.1 h.2
 · exact over_bits ha hb hn hl hl2 h
end Go.Proofs.YthpngihjcphigaaGreat
