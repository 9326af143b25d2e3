/-
  facetroomlaw19.SatMasks, walked. No conditions.
-/
import Derived.Test.YtjnjlgknmocdlaaKSatS
import Derived.Test.YtjnjlgknmocdlaaKWhJ
import Derived.Test.YtjnjlgknmocdlaaKSatF
import Derived.Test.YtjnjlgknmocdlaaKClone
namespace Go.Proofs.Ytjnjlgknmocdlaa
open Go.RowKit
set_option linter.unusedVariables false
set_option linter.unusedSimpArgs false

set_option maxRecDepth 100000 in
set_option maxHeartbeats 4000000 in
theorem lawSatMasks {w : World} {v : Value} {ms : List Nat} {n i k : Int} (hm : IsU w old v ms) (hn : -9223372036854775808 ≤ n ∧ n ≤ 9223372036854775807) (hi : -9223372036854775808 ≤ i ∧ i ≤ 9223372036854775807) (hk : -9223372036854775808 ≤ k ∧ k ≤ 9223372036854775807) :
    Calls Try.prog 4 #[v, .int .i64 n, .int .i64 i, .int .i64 k] w fun e w' => e = .returned (.bool true) ∧ Below w.heap.size w w' := by
  obtain ⟨A, c, rfl, hu⟩ := hm
  have hlen := hu.len
  by_cases hfar : (80 < ms.length ∧ ms.length ≤ 4096) ∨ 10000 < ms.length
  · have hcase : (80 < ms.length ∧ ms.length ≤ 4096) ∨ (80 < ms.length ∧ ¬ ms.length ≤ 4096 ∧ 10000 < ms.length) := by omega
    clear hu hfar
    generalize ms.length = L at *
    rcases hcase with ⟨h1, h2⟩ | ⟨h1, h2, h3⟩
    · have m1 : decide ((80 : Int) < (L : Int)) = true := decide_eq_true (by omega)
      have m2 : decide ((L : Int) ≤ 4096) = true := decide_eq_true (by omega)
      go_enter Try.func4, Try.ntmps4
      go_wp2
      go_ret
      exact ⟨by first | rfl | trivial, Below.refl _ _⟩
    · have m1 : decide ((80 : Int) < (L : Int)) = true := decide_eq_true (by omega)
      have m2 : decide ((L : Int) ≤ 4096) = false := decide_eq_false (by omega)
      have m3 : decide ((10000 : Int) < (L : Int)) = true := decide_eq_true (by omega)
      go_enter Try.func4, Try.ntmps4
      go_wp2
      go_ret
      exact ⟨by first | rfl | trivial, Below.refl _ _⟩
  · have hcase : (ms.length ≤ 80 ∧ ¬ 10000 < ms.length) ∨ (80 < ms.length ∧ ¬ ms.length ≤ 4096 ∧ ¬ 10000 < ms.length) := by omega
    have hl : ms.length ≤ 10000 := by omega
    obtain ⟨i0, hif, hz0, hz1, hz2⟩ := info_parts Try.info34
    have hb0 : Below w.heap.size w (w.alloc (.cells #[] 34)) := (Below.refl _ w).alloc (Nat.le_refl _) _
    have hu1 := hu.below hb0
    have hown := ownsRow_empty w 34
    have hsm := hu.small
    have HU := Lib.hid hu
    have tA : (nearA ms i k == nearA ms i k) = true := beq_self_eq_true _
    have tT : (turnE ms n == turnE ms n) = true := beq_self_eq_true _
    have tE : (nearE ms i k == nearE ms i k) = true := beq_self_eq_true _
    have tK : (errK ms == errK ms) = true := beq_self_eq_true _
    clear hfar hu
    rcases hcase with ⟨h1, h2⟩ | ⟨h1, h2, h3⟩
    · have m1 : decide ((80 : Int) < (ms.length : Int)) = false := decide_eq_false (by omega)
      have m2 : decide ((10000 : Int) < (ms.length : Int)) = false := decide_eq_false (by omega)
      clear h1 h2
      go_enter Try.func4, Try.ntmps4
      go_wp2_with (at_builtin; go_loud (refine wpList_app _ rfl _ _ 22 rfl w.heap.size 34 i0 Try.underlying22 hif hz0 hz1 hz2 _ _ _ rfl hown rfl rfl hu1 (by omega) (by simp) ?_); intro v' w1 hown' hgrow; obtain ⟨A2, c2, rfl⟩ := own_shape hown')
      rw [Nat.zero_add, List.nil_append] at hown'
      have hB := hb0.grown hgrow (by simp) (own_nil_of hown)
      have uo : IsU w1 old (.slice A2 ms.length c2) ms := isU_own hown' hsm
      have ua : IsU w1 old (.slice A ms.length c) ms := ⟨A, c, rfl, HU.out.below hB⟩
      have Hw := Lib.hid (And.intro uo ua)
      clear hown hown' hb0 hgrow hu1 uo ua
      go_wp2_with fail
      refine (satturn_any Hw.out.1 hn).mono ?_
      rintro e w2 ⟨a, rfl, ia, hb2⟩
      have H2 := Lib.hid hb2
      clear hb2
      go_wp2_with fail
      refine (refturn_any (Hw.out.2.below H2.out) hn).mono ?_
      rintro e w3 ⟨b, rfl, ib, hb3⟩
      have H3 := Lib.hid (from_ H2.out hb3)
      replace ia := ia.below hb3
      clear hb3
      go_wp2_with fail
      refine (satnear_any (Hw.out.1.below H3.out) hi hk).mono ?_
      rintro e w4 ⟨rfl, hb4⟩
      have H4 := Lib.hid (from_ H3.out hb4)
      replace ia := ia.below hb4
      replace ib := ib.below hb4
      clear hb4
      go_wp2_with fail
      refine (refnear_any (Hw.out.2.below H4.out) hi hk).mono ?_
      rintro e w5 ⟨rfl, hb5⟩
      have H5 := Lib.hid (from_ H4.out hb5)
      replace ia := ia.below hb5
      replace ib := ib.below hb5
      clear hb5
      go_wp2_with fail
      refine (satmost_any (Hw.out.1.below H5.out)).mono ?_
      rintro e w6 ⟨x, rfl, ix, hb6⟩
      have H6 := Lib.hid (from_ H5.out hb6)
      replace ia := ia.below hb6
      replace ib := ib.below hb6
      clear hb6
      go_wp2_with fail
      refine (refmost_any (Hw.out.2.below H6.out)).mono ?_
      rintro e w7 ⟨y, rfl, iy, hb7⟩
      have H7 := Lib.hid (from_ H6.out hb7)
      replace ia := ia.below hb7
      replace ib := ib.below hb7
      replace ix := isInts_below ix hb7
      clear hb7
      have D1 := Lib.hid (words_dec ia ib)
      rw [decide_eq_true (rfl : turnL ms n = turnL ms n)] at D1
      have Hi := Lib.hid (And.intro ix iy)
      clear ia ib ix iy
      go_wp2_with fail
      refine D1.out.mono ?_
      rintro e w8 ⟨rfl, hb8⟩
      have D2 := Lib.hid (ints_dec (isInts_below Hi.out.1 hb8) (isInts_below Hi.out.2 hb8))
      rw [decide_eq_true (rfl : mostI ms = mostI ms)] at D2
      have H8 := Lib.hid (from_ H7.out hb8)
      clear hb8
      go_wp2_with fail
      refine D2.out.mono ?_
      rintro e w9 ⟨rfl, hb9⟩
      have H9 := Lib.hid (from_ H8.out hb9)
      clear hb9
      have D3 := Lib.hid (words_dec (Hw.out.1.below H9.out) (Hw.out.2.below H9.out))
      rw [decide_eq_true (rfl : ms = ms)] at D3
      go_wp2_with fail
      refine D3.out.mono ?_
      rintro e w10 ⟨rfl, hb10⟩
      go_wp2
      go_ret
      exact ⟨by first | rfl | trivial, hB.trans ((from_ H9.out hb10).mono hB.size)⟩
    · have m1 : decide ((80 : Int) < (ms.length : Int)) = true := decide_eq_true (by omega)
      have m2 : decide ((ms.length : Int) ≤ 4096) = false := decide_eq_false (by omega)
      have m3 : decide ((10000 : Int) < (ms.length : Int)) = false := decide_eq_false (by omega)
      clear h1 h2 h3
      go_enter Try.func4, Try.ntmps4
      go_wp2_with (at_builtin; go_loud (refine wpList_app _ rfl _ _ 22 rfl w.heap.size 34 i0 Try.underlying22 hif hz0 hz1 hz2 _ _ _ rfl hown rfl rfl hu1 (by omega) (by simp) ?_); intro v' w1 hown' hgrow; obtain ⟨A2, c2, rfl⟩ := own_shape hown')
      rw [Nat.zero_add, List.nil_append] at hown'
      have hB := hb0.grown hgrow (by simp) (own_nil_of hown)
      have uo : IsU w1 old (.slice A2 ms.length c2) ms := isU_own hown' hsm
      have ua : IsU w1 old (.slice A ms.length c) ms := ⟨A, c, rfl, HU.out.below hB⟩
      have Hw := Lib.hid (And.intro uo ua)
      clear hown hown' hb0 hgrow hu1 uo ua
      go_wp2_with fail
      refine (satturn_any Hw.out.1 hn).mono ?_
      rintro e w2 ⟨a, rfl, ia, hb2⟩
      have H2 := Lib.hid hb2
      clear hb2
      go_wp2_with fail
      refine (refturn_any (Hw.out.2.below H2.out) hn).mono ?_
      rintro e w3 ⟨b, rfl, ib, hb3⟩
      have H3 := Lib.hid (from_ H2.out hb3)
      replace ia := ia.below hb3
      clear hb3
      go_wp2_with fail
      refine (satnear_any (Hw.out.1.below H3.out) hi hk).mono ?_
      rintro e w4 ⟨rfl, hb4⟩
      have H4 := Lib.hid (from_ H3.out hb4)
      replace ia := ia.below hb4
      replace ib := ib.below hb4
      clear hb4
      go_wp2_with fail
      refine (refnear_any (Hw.out.2.below H4.out) hi hk).mono ?_
      rintro e w5 ⟨rfl, hb5⟩
      have H5 := Lib.hid (from_ H4.out hb5)
      replace ia := ia.below hb5
      replace ib := ib.below hb5
      clear hb5
      go_wp2_with fail
      refine (satmost_any (Hw.out.1.below H5.out)).mono ?_
      rintro e w6 ⟨x, rfl, ix, hb6⟩
      have H6 := Lib.hid (from_ H5.out hb6)
      replace ia := ia.below hb6
      replace ib := ib.below hb6
      clear hb6
      go_wp2_with fail
      refine (refmost_any (Hw.out.2.below H6.out)).mono ?_
      rintro e w7 ⟨y, rfl, iy, hb7⟩
      have H7 := Lib.hid (from_ H6.out hb7)
      replace ia := ia.below hb7
      replace ib := ib.below hb7
      replace ix := isInts_below ix hb7
      clear hb7
      have D1 := Lib.hid (words_dec ia ib)
      rw [decide_eq_true (rfl : turnL ms n = turnL ms n)] at D1
      have Hi := Lib.hid (And.intro ix iy)
      clear ia ib ix iy
      go_wp2_with fail
      refine D1.out.mono ?_
      rintro e w8 ⟨rfl, hb8⟩
      have D2 := Lib.hid (ints_dec (isInts_below Hi.out.1 hb8) (isInts_below Hi.out.2 hb8))
      rw [decide_eq_true (rfl : mostI ms = mostI ms)] at D2
      have H8 := Lib.hid (from_ H7.out hb8)
      clear hb8
      go_wp2_with fail
      refine D2.out.mono ?_
      rintro e w9 ⟨rfl, hb9⟩
      have H9 := Lib.hid (from_ H8.out hb9)
      clear hb9
      have D3 := Lib.hid (words_dec (Hw.out.1.below H9.out) (Hw.out.2.below H9.out))
      rw [decide_eq_true (rfl : ms = ms)] at D3
      go_wp2_with fail
      refine D3.out.mono ?_
      rintro e w10 ⟨rfl, hb10⟩
      go_wp2
      go_ret
      exact ⟨by first | rfl | trivial, hB.trans ((from_ H9.out hb10).mono hB.size)⟩

end Go.Proofs.Ytjnjlgknmocdlaa
