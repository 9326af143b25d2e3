/-
  The walk of GcdTells. No conditions.
-/
import Derived.Test.YtmeknjfffhblaaaRGcdB
namespace Go.Proofs.Ytmeknjfffhblaaa
open Go.RowKit
set_option linter.unusedVariables false
set_option linter.unusedSimpArgs false

set_option maxRecDepth 100000 in
set_option maxHeartbeats 2000000 in
theorem lawGcdTells {w : World} {a b : Value} {la lb : List Nat} (ha : IsU w old a la) (hb : IsU w old b lb) :
    Calls Try.prog 6 #[a, b] w fun e w' => e = .returned (.bool true) ∧ Below w.heap.size w w' := by
  obtain ⟨A, ca, rfl, ha⟩ := ha
  have hla := ha.len
  have ua : IsU w old (.slice A la.length ca) la := ⟨A, ca, rfl, ha⟩
  clear ha
  obtain ⟨B, cb, rfl, hb⟩ := hb
  have hlb := hb.len
  have ub : IsU w old (.slice B lb.length cb) lb := ⟨B, cb, rfl, hb⟩
  clear hb
  have hcase : ((4 : Int) < (la.length : Int)) ∨ (decide ((4 : Int) < (la.length : Int)) = false ∧ (4 : Int) < (lb.length : Int)) ∨ (decide ((4 : Int) < (la.length : Int)) = false ∧ decide ((4 : Int) < (lb.length : Int)) = false ∧ la.length ≤ 4 ∧ lb.length ≤ 4) := by simp only [decide_eq_false_iff_not]; omega
  rcases hcase with t0 | ⟨t0, t1⟩ | ⟨t0, t1, h0, h1⟩
  · go_enter Try.func6, Try.ntmps6
    go_wp2
    go_ret
    exact ⟨rfl, Below.refl _ _⟩
  · go_enter Try.func6, Try.ntmps6
    go_wp2
    go_ret
    exact ⟨rfl, Below.refl _ _⟩
  · obtain ⟨i0, hi0, hz0, hz1, hz2⟩ := info_parts Try.info43
    have hb0 : Below w.heap.size w (w.alloc (.cells #[] 43)) := (Below.refl _ w).alloc (Nat.le_refl _) _
    obtain ⟨A1, c1, e1, hu1⟩ := ua.below hb0
    injection e1 with e1 e2 e3
    subst e1 e3
    have hown := ownsRow_empty w 43
    clear e2
    clear hla hlb
    go_enter Try.func6, Try.ntmps6
    go_wp2_with (at_builtin; go_loud (refine wpList_app _ rfl _ _ 35 rfl w.heap.size 43 i0 Try.underlying35 hi0 hz0 hz1 hz2 _ _ _ rfl hown rfl rfl hu1 (by omega) (by simp) ?_); intro v' w1 hown' hgrow; obtain ⟨A2, c2, rfl⟩ := own_shape hown')
    rw [Nat.zero_add, List.nil_append] at hown'
    have hB := hb0.grown hgrow (by simp) (own_nil_of hown)
    have uo : IsU w1 (new w.heap.size) (.slice A2 la.length c2) la := by
      have hs := hu1.small
      exact ⟨A2, c2, rfl, isU_after hs rfl hown' (Nat.le_refl _)⟩
    replace ua := ua.below hB
    clear hown hown' hb0 hgrow hu1
    replace ub := ub.below hB
    have ud := uo
    have ad := ua
    have hBd := hB
    have hD : Below w1.heap.size w1 w1 := Below.refl _ _
    go_wp2_with fail
    refine (gcd_all (uo.below (by first | exact Below.refl _ _ | go_grown)) (ub.below (by first | exact Below.refl _ _ | go_grown)) (by omega) (by omega)).mono ?_
    rintro e w2 ⟨x, rfl, hx, hb⟩
    have hs : Below w1.heap.size w1 w2 := step (by first | exact Below.refl _ _ | go_grown) hb
    replace ua := ua.below hs
    replace ub := ub.below hs
    replace uo := uo.below hs
    replace hB := from_ hB hs
    replace hD := from_ hD hs
    clear hb hs
    go_wp2_with fail
    refine (rgcd_all (ua.below (by first | exact Below.refl _ _ | go_grown)) (ub.below (by first | exact Below.refl _ _ | go_grown)) (by omega) (by omega)).mono ?_
    rintro e w3 ⟨y, rfl, hy, hb⟩
    have hs : Below w2.heap.size w2 w3 := step (by first | exact Below.refl _ _ | go_grown) hb
    replace ua := ua.below hs
    replace ub := ub.below hs
    replace uo := uo.below hs
    replace hx := hx.below hs
    replace hB := from_ hB hs
    replace hD := from_ hD hs
    clear hb hs
    go_wp2_with fail
    refine (lcm_all (uo.below (by first | exact Below.refl _ _ | go_grown)) (ub.below (by first | exact Below.refl _ _ | go_grown)) (by omega) (by omega)).mono ?_
    rintro e w4 ⟨z, rfl, hz, hb⟩
    have hs : Below w3.heap.size w3 w4 := step (by first | exact Below.refl _ _ | go_grown) hb
    replace ua := ua.below hs
    replace ub := ub.below hs
    replace uo := uo.below hs
    replace hx := hx.below hs
    replace hy := hy.below hs
    replace hB := from_ hB hs
    replace hD := from_ hD hs
    clear hb hs
    go_wp2_with fail
    refine (rlcm_all (ua.below (by first | exact Below.refl _ _ | go_grown)) (ub.below (by first | exact Below.refl _ _ | go_grown)) (by omega) (by omega)).mono ?_
    rintro e w5 ⟨v, rfl, hv, hb⟩
    have hs : Below w4.heap.size w4 w5 := step (by first | exact Below.refl _ _ | go_grown) hb
    replace ua := ua.below hs
    replace ub := ub.below hs
    replace uo := uo.below hs
    replace hx := hx.below hs
    replace hy := hy.below hs
    replace hz := hz.below hs
    replace hB := from_ hB hs
    replace hD := from_ hD hs
    clear hb hs
    go_wp2_with fail
    refine (same_yes (hx.below (by first | exact Below.refl _ _ | go_grown)) (hy.below (by first | exact Below.refl _ _ | go_grown))).mono ?_
    rintro e w6 ⟨rfl, hb⟩
    have hs : Below w5.heap.size w5 w6 := step (by first | exact Below.refl _ _ | go_grown) hb
    replace ua := ua.below hs
    replace ub := ub.below hs
    replace uo := uo.below hs
    replace hx := hx.below hs
    replace hy := hy.below hs
    replace hz := hz.below hs
    replace hv := hv.below hs
    replace hB := from_ hB hs
    replace hD := from_ hD hs
    clear hb hs
    go_wp2_with fail
    refine (same_yes (hz.below (by first | exact Below.refl _ _ | go_grown)) (hv.below (by first | exact Below.refl _ _ | go_grown))).mono ?_
    rintro e w7 ⟨rfl, hb⟩
    have hs : Below w6.heap.size w6 w7 := step (by first | exact Below.refl _ _ | go_grown) hb
    replace ua := ua.below hs
    replace ub := ub.below hs
    replace uo := uo.below hs
    replace hx := hx.below hs
    replace hy := hy.below hs
    replace hz := hz.below hs
    replace hv := hv.below hs
    replace hB := from_ hB hs
    replace hD := from_ hD hs
    clear hb hs
    obtain ⟨Ax, cAx, rfl, hx⟩ := hx
    obtain ⟨N, hN⟩ : ∃ N, N = (gcdL la lb).length := ⟨_, rfl⟩
    rw [← hN]
    have hst : Hid (0 < N → ∃ b o, Ax = some ⟨b, o, none⟩ ∧ w1.heap.size ≤ b ∧ (∀ j, w7.frozen? ⟨b, o + j, none⟩ = false) ∧ ∀ j, 0 ≤ j → j < N → ∃ x : Nat, w7.cell? ⟨b, o + j, none⟩ = some (.int .u64 (x : Int))) := fun h0 => by
      obtain ⟨b, o, e, hbb, _, hf, hc⟩ := hx.open (by omega)
      exact ⟨b, o, e, hbb, hf trivial, fun j _ hj => ⟨_, hc j (by omega)⟩⟩
    have hcm := hx.cap
    have hmm := hx.max
    rw [← hN] at hcm
    clear hN hx hy hz hv ua ub uo hB
    go_wp2
    go_loopw [15] (fun q wr => ∃ k : Nat, k ≤ N ∧ q = .int .i64 k ∧ Below w1.heap.size w1 wr ∧ Hid (0 < N → ∃ b o, Ax = some ⟨b, o, none⟩ ∧ w1.heap.size ≤ b ∧ (∀ j, wr.frozen? ⟨b, o + j, none⟩ = false) ∧ ∀ j, k ≤ j → j < N → ∃ x : Nat, wr.cell? ⟨b, o + j, none⟩ = some (.int .u64 (x : Int)))) (fun q _ => N - (intOf q).toNat)
    case atStart => exact ⟨0, Nat.zero_le _, rfl, hD, hst⟩
    case round =>
      obtain ⟨k, hk, rfl, hD', hst'⟩ := hrel
      by_cases hlt : k < N
      · obtain ⟨b, o, e, hbb, hf, hc⟩ := hst'.out (by omega)
        obtain ⟨x, hx⟩ := hc k (Nat.le_refl _) hlt
        have hfr := hf k
        have Hf := Lib.hid hf
        have Hc := Lib.hid hc
        subst e
        clear hf hc hst hst'
        go_wp2
        go_roundw
        case rel =>
          refine ⟨k + 1, by omega, by go_num, hD'.setCell (p := ⟨b, o + k, none⟩) hbb _, fun _ => ⟨b, o, rfl, hbb, fun j => ?_, fun j hj1 hj2 => ?_⟩⟩
          · exact (World.frozen?_setCell _ _ _ _).trans (Hf.out j)
          · obtain ⟨y, hy⟩ := Hc.out j (by omega) hj2
            exact ⟨y, (World.cell?_setCell_other _ _ _ _ (by first | (simp; done) | (simp; omega))).trans hy⟩
        case measure => simp [intOf]; omega
      · obtain rfl : k = N := by omega
        have uo := ud.below hD'
        have ua := ad.below hD'
        have hB := from_ hBd hD'
        clear hD' hst' hBd ud ad
        go_wp2_with fail
        refine (same_yes (uo.below (by first | exact Below.refl _ _ | go_grown)) (ua.below (by first | exact Below.refl _ _ | go_grown))).mono ?_
        rintro e w41 ⟨rfl, hb⟩
        have hs : Below wr.heap.size wr w41 := step (by first | exact Below.refl _ _ | go_grown) hb
        replace uo := uo.below hs
        replace ua := ua.below hs
        replace hB := from_ hB hs
        clear hb hs
        go_wp2
        go_ret
        exact ⟨rfl, hB⟩
end Go.Proofs.Ytmeknjfffhblaaa
