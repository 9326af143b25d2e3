/-
  The walk of DivTells. No conditions.
-/
import Derived.Test.YthdmfggcfkeenaaURefR
import Derived.Test.YthdmfggcfkeenaaUWhK
namespace Go.Proofs.Ythdmfggcfkeenaa
open Go.RowKit
set_option linter.unusedVariables false
set_option linter.unusedSimpArgs false

theorem remW_facts {la : List Nat} {y : Nat} (hy : y < 18446744073709551616) : remW la y < 18446744073709551616 ∧ limbs (remW la y) = remL la (limbs y) := by
  unfold remW remL
  by_cases h : errD la (limbs y) = 0
  · rw [if_pos h, if_pos h, val_limbs]
    exact ⟨Nat.lt_of_le_of_lt (by
      have h3 := errD_zero h
      have h4 := len_pos.1 h3.2.2
      exact Nat.le_of_lt (Nat.mod_lt _ (Nat.pos_of_ne_zero h4))) hy, rfl⟩
  · rw [if_neg h, if_neg h]
    exact ⟨by omega, limbs_eq_nil.2 rfl⟩

set_option maxRecDepth 100000 in
set_option maxHeartbeats 2000000 in
theorem lawDivTells {w : World} {a b : Value} {la lb : List Nat} {xi : Int} (ha : IsU w old a la) (hb : IsU w old b lb) (hw : 0 ≤ xi ∧ xi ≤ 18446744073709551615) :
    Calls Try.prog 7 #[a, b, .int .u64 xi] w fun e w' => e = .returned (.bool true) ∧ Below w.heap.size w w' := by
  obtain ⟨A, ca, rfl, ha⟩ := ha
  have hla := ha.len
  have ua : IsU w old (.slice A la.length ca) la := ⟨A, ca, rfl, ha⟩
  clear ha
  obtain ⟨B, cb, rfl, hb⟩ := hb
  have hlb := hb.len
  have ub : IsU w old (.slice B lb.length cb) lb := ⟨B, cb, rfl, hb⟩
  clear hb
  obtain ⟨x0, rfl⟩ : ∃ k : Nat, xi = k := ⟨xi.toNat, by omega⟩
  replace hw : x0 < 18446744073709551616 := by omega
  have hcase : ((8 : Int) < (la.length : Int)) ∨ (decide ((8 : Int) < (la.length : Int)) = false ∧ (8 : Int) < (lb.length : Int)) ∨ (decide ((8 : Int) < (la.length : Int)) = false ∧ decide ((8 : Int) < (lb.length : Int)) = false ∧ la.length ≤ 8 ∧ lb.length ≤ 8) := by simp only [decide_eq_false_iff_not]; omega
  rcases hcase with t0 | ⟨t0, t1⟩ | ⟨t0, t1, h0, h1⟩
  · go_enter Try.func7, Try.ntmps7
    go_wp2
    go_ret
    exact ⟨rfl, Below.refl _ _⟩
  · go_enter Try.func7, Try.ntmps7
    go_wp2
    go_ret
    exact ⟨rfl, Below.refl _ _⟩
  · have hrw : remW la x0 < 18446744073709551616 ∧ limbs (remW la x0) = remL la (limbs x0) := remW_facts hw
    have hlx : (limbs x0).length ≤ 1 := len_limbs_le (by omega)
    obtain ⟨rw0, hrw0⟩ : ∃ r, r = remW la x0 := ⟨_, rfl⟩
    have hwd := fun (w1 : World) (Z : Zone) (a : Value) (h : IsU w1 Z a la) => dword_all h hw (by omega)
    rw [← hrw0] at hrw hwd
    obtain ⟨hrw1, hrw2⟩ := hrw
    have Hrw2 := Lib.hid hrw2
    have Hwd := Lib.hid hwd
    clear hrw2 hwd hrw0
    obtain ⟨i0, hi0, hz0, hz1, hz2⟩ := info_parts Try.info27
    have hb0 : Below w.heap.size w (w.alloc (.cells #[] 27)) := (Below.refl _ w).alloc (Nat.le_refl _) _
    obtain ⟨A1, c1, e1, hu1⟩ := ua.below hb0
    injection e1 with e1 e2 e3
    subst e1 e3
    have hown := ownsRow_empty w 27
    clear e2
    clear hla hlb
    go_enter Try.func7, Try.ntmps7
    go_wp2_with (at_builtin; go_loud (refine wpList_app _ rfl _ _ 23 rfl w.heap.size 27 i0 Try.underlying23 hi0 hz0 hz1 hz2 _ _ _ rfl hown rfl rfl hu1 (by omega) (by simp) ?_); intro v' w1 hown' hgrow; obtain ⟨A2, c2, rfl⟩ := own_shape hown')
    rw [Nat.zero_add, List.nil_append] at hown'
    have hB := hb0.grown hgrow (by simp) (own_nil_of hown)
    have uo : IsU w1 (new w.heap.size) (.slice A2 la.length c2) la := by
      have hs := hu1.small
      exact ⟨A2, c2, rfl, isU_after hs rfl hown' (Nat.le_refl _)⟩
    replace ua := ua.below hB
    clear hown hown' hb0 hgrow hu1
    replace ub := ub.below hB
    have ud := uo
    have ad := ua
    have hBd := hB
    have hD : Below w1.heap.size w1 w1 := Below.refl _ _
    go_wp2_with fail
    refine (ddiv_all (uo.below (by first | exact Below.refl _ _ | go_grown)) (ub.below (by first | exact Below.refl _ _ | go_grown)) (by omega)).mono ?_
    rintro e w2 ⟨q, r, rfl, hq, hr, hb⟩
    have hs : Below w1.heap.size w1 w2 := step (by first | exact Below.refl _ _ | go_grown) hb
    replace ua := ua.below hs
    replace ub := ub.below hs
    replace uo := uo.below hs
    replace hB := from_ hB hs
    replace hD := from_ hD hs
    clear hb hs
    go_wp2_with fail
    refine (rdiv_all (ua.below (by first | exact Below.refl _ _ | go_grown)) (ub.below (by first | exact Below.refl _ _ | go_grown)) (by omega) (by omega)).mono ?_
    rintro e w3 ⟨x, y, rfl, hx, hy, hb⟩
    have hs : Below w2.heap.size w2 w3 := step (by first | exact Below.refl _ _ | go_grown) hb
    replace ua := ua.below hs
    replace ub := ub.below hs
    replace uo := uo.below hs
    replace hq := hq.below hs
    replace hr := hr.below hs
    replace hB := from_ hB hs
    replace hD := from_ hD hs
    clear hb hs
    go_wp2_with fail
    refine (dlong_all (uo.below (by first | exact Below.refl _ _ | go_grown)) (ub.below (by first | exact Below.refl _ _ | go_grown)) (by omega) (by omega)).mono ?_
    rintro e w4 ⟨p, s, rfl, hp, hs1, hb⟩
    have hs : Below w3.heap.size w3 w4 := step (by first | exact Below.refl _ _ | go_grown) hb
    replace ua := ua.below hs
    replace ub := ub.below hs
    replace uo := uo.below hs
    replace hq := hq.below hs
    replace hr := hr.below hs
    replace hx := hx.below hs
    replace hy := hy.below hs
    replace hB := from_ hB hs
    replace hD := from_ hD hs
    clear hb hs
    go_wp2_with fail
    refine (dexact_all (uo.below (by first | exact Below.refl _ _ | go_grown)) (ub.below (by first | exact Below.refl _ _ | go_grown)) (by omega)).mono ?_
    rintro e w5 ⟨z, rfl, hz, hb⟩
    have hs : Below w4.heap.size w4 w5 := step (by first | exact Below.refl _ _ | go_grown) hb
    replace ua := ua.below hs
    replace ub := ub.below hs
    replace uo := uo.below hs
    replace hq := hq.below hs
    replace hr := hr.below hs
    replace hx := hx.below hs
    replace hy := hy.below hs
    replace hp := hp.below hs
    replace hs1 := hs1.below hs
    replace hB := from_ hB hs
    replace hD := from_ hD hs
    clear hb hs
    go_wp2_with fail
    refine (rexact_all (ua.below (by first | exact Below.refl _ _ | go_grown)) (ub.below (by first | exact Below.refl _ _ | go_grown)) (by omega) (by omega)).mono ?_
    rintro e w6 ⟨v, rfl, hv, hb⟩
    have hs : Below w5.heap.size w5 w6 := step (by first | exact Below.refl _ _ | go_grown) hb
    replace ua := ua.below hs
    replace ub := ub.below hs
    replace uo := uo.below hs
    replace hq := hq.below hs
    replace hr := hr.below hs
    replace hx := hx.below hs
    replace hy := hy.below hs
    replace hp := hp.below hs
    replace hs1 := hs1.below hs
    replace hz := hz.below hs
    replace hB := from_ hB hs
    replace hD := from_ hD hs
    clear hb hs
    go_wp2_with fail
    refine (Hwd.out _ _ _ (uo.below (by first | exact Below.refl _ _ | go_grown))).mono ?_
    rintro e w7 ⟨m, rfl, hm, hb⟩
    have hs : Below w6.heap.size w6 w7 := step (by first | exact Below.refl _ _ | go_grown) hb
    replace ua := ua.below hs
    replace ub := ub.below hs
    replace uo := uo.below hs
    replace hq := hq.below hs
    replace hr := hr.below hs
    replace hx := hx.below hs
    replace hy := hy.below hs
    replace hp := hp.below hs
    replace hs1 := hs1.below hs
    replace hz := hz.below hs
    replace hv := hv.below hs
    replace hB := from_ hB hs
    replace hD := from_ hD hs
    clear hb hs
    go_wp2_with fail
    refine (rof_any hw).mono ?_
    rintro e w8 ⟨ow, rfl, how, hb⟩
    have hs : Below w7.heap.size w7 w8 := step (by first | exact Below.refl _ _ | go_grown) hb
    replace ua := ua.below hs
    replace ub := ub.below hs
    replace uo := uo.below hs
    replace hq := hq.below hs
    replace hr := hr.below hs
    replace hx := hx.below hs
    replace hy := hy.below hs
    replace hp := hp.below hs
    replace hs1 := hs1.below hs
    replace hz := hz.below hs
    replace hv := hv.below hs
    replace hm := hm.below hs
    replace hB := from_ hB hs
    replace hD := from_ hD hs
    clear hb hs
    go_wp2_with fail
    refine (rdiv_all (ua.below (by first | exact Below.refl _ _ | go_grown)) (how.below (by first | exact Below.refl _ _ | go_grown)) (by omega) (by omega)).mono ?_
    rintro e w9 ⟨c, d, rfl, hc, hd, hb⟩
    have hs : Below w8.heap.size w8 w9 := step (by first | exact Below.refl _ _ | go_grown) hb
    replace ua := ua.below hs
    replace ub := ub.below hs
    replace uo := uo.below hs
    replace hq := hq.below hs
    replace hr := hr.below hs
    replace hx := hx.below hs
    replace hy := hy.below hs
    replace hp := hp.below hs
    replace hs1 := hs1.below hs
    replace hz := hz.below hs
    replace hv := hv.below hs
    replace hm := hm.below hs
    replace how := how.below hs
    replace hB := from_ hB hs
    replace hD := from_ hD hs
    clear hb hs
    go_wp2_with fail
    refine (same_yes (hq.below (by first | exact Below.refl _ _ | go_grown)) (hx.below (by first | exact Below.refl _ _ | go_grown))).mono ?_
    rintro e w10 ⟨rfl, hb⟩
    have hs : Below w9.heap.size w9 w10 := step (by first | exact Below.refl _ _ | go_grown) hb
    replace ua := ua.below hs
    replace ub := ub.below hs
    replace uo := uo.below hs
    replace hq := hq.below hs
    replace hr := hr.below hs
    replace hx := hx.below hs
    replace hy := hy.below hs
    replace hp := hp.below hs
    replace hs1 := hs1.below hs
    replace hz := hz.below hs
    replace hv := hv.below hs
    replace hm := hm.below hs
    replace how := how.below hs
    replace hc := hc.below hs
    replace hd := hd.below hs
    replace hB := from_ hB hs
    replace hD := from_ hD hs
    clear hb hs
    go_wp2_with fail
    refine (same_yes (hr.below (by first | exact Below.refl _ _ | go_grown)) (hy.below (by first | exact Below.refl _ _ | go_grown))).mono ?_
    rintro e w11 ⟨rfl, hb⟩
    have hs : Below w10.heap.size w10 w11 := step (by first | exact Below.refl _ _ | go_grown) hb
    replace ua := ua.below hs
    replace ub := ub.below hs
    replace uo := uo.below hs
    replace hq := hq.below hs
    replace hr := hr.below hs
    replace hx := hx.below hs
    replace hy := hy.below hs
    replace hp := hp.below hs
    replace hs1 := hs1.below hs
    replace hz := hz.below hs
    replace hv := hv.below hs
    replace hm := hm.below hs
    replace how := how.below hs
    replace hc := hc.below hs
    replace hd := hd.below hs
    replace hB := from_ hB hs
    replace hD := from_ hD hs
    clear hb hs
    go_wp2_with fail
    refine (same_yes (hp.below (by first | exact Below.refl _ _ | go_grown)) (hx.below (by first | exact Below.refl _ _ | go_grown))).mono ?_
    rintro e w12 ⟨rfl, hb⟩
    have hs : Below w11.heap.size w11 w12 := step (by first | exact Below.refl _ _ | go_grown) hb
    replace ua := ua.below hs
    replace ub := ub.below hs
    replace uo := uo.below hs
    replace hq := hq.below hs
    replace hr := hr.below hs
    replace hx := hx.below hs
    replace hy := hy.below hs
    replace hp := hp.below hs
    replace hs1 := hs1.below hs
    replace hz := hz.below hs
    replace hv := hv.below hs
    replace hm := hm.below hs
    replace how := how.below hs
    replace hc := hc.below hs
    replace hd := hd.below hs
    replace hB := from_ hB hs
    replace hD := from_ hD hs
    clear hb hs
    go_wp2_with fail
    refine (same_yes (hs1.below (by first | exact Below.refl _ _ | go_grown)) (hy.below (by first | exact Below.refl _ _ | go_grown))).mono ?_
    rintro e w13 ⟨rfl, hb⟩
    have hs : Below w12.heap.size w12 w13 := step (by first | exact Below.refl _ _ | go_grown) hb
    replace ua := ua.below hs
    replace ub := ub.below hs
    replace uo := uo.below hs
    replace hq := hq.below hs
    replace hr := hr.below hs
    replace hx := hx.below hs
    replace hy := hy.below hs
    replace hp := hp.below hs
    replace hs1 := hs1.below hs
    replace hz := hz.below hs
    replace hv := hv.below hs
    replace hm := hm.below hs
    replace how := how.below hs
    replace hc := hc.below hs
    replace hd := hd.below hs
    replace hB := from_ hB hs
    replace hD := from_ hD hs
    clear hb hs
    go_wp2_with fail
    refine (same_yes (hz.below (by first | exact Below.refl _ _ | go_grown)) (hv.below (by first | exact Below.refl _ _ | go_grown))).mono ?_
    rintro e w14 ⟨rfl, hb⟩
    have hs : Below w13.heap.size w13 w14 := step (by first | exact Below.refl _ _ | go_grown) hb
    replace ua := ua.below hs
    replace ub := ub.below hs
    replace uo := uo.below hs
    replace hq := hq.below hs
    replace hr := hr.below hs
    replace hx := hx.below hs
    replace hy := hy.below hs
    replace hp := hp.below hs
    replace hs1 := hs1.below hs
    replace hz := hz.below hs
    replace hv := hv.below hs
    replace hm := hm.below hs
    replace how := how.below hs
    replace hc := hc.below hs
    replace hd := hd.below hs
    replace hB := from_ hB hs
    replace hD := from_ hD hs
    clear hb hs
    go_wp2_with fail
    refine (same_yes (hm.below (by first | exact Below.refl _ _ | go_grown)) (hc.below (by first | exact Below.refl _ _ | go_grown))).mono ?_
    rintro e w15 ⟨rfl, hb⟩
    have hs : Below w14.heap.size w14 w15 := step (by first | exact Below.refl _ _ | go_grown) hb
    replace ua := ua.below hs
    replace ub := ub.below hs
    replace uo := uo.below hs
    replace hq := hq.below hs
    replace hr := hr.below hs
    replace hx := hx.below hs
    replace hy := hy.below hs
    replace hp := hp.below hs
    replace hs1 := hs1.below hs
    replace hz := hz.below hs
    replace hv := hv.below hs
    replace hm := hm.below hs
    replace how := how.below hs
    replace hc := hc.below hs
    replace hd := hd.below hs
    replace hB := from_ hB hs
    replace hD := from_ hD hs
    clear hb hs
    go_wp2_with fail
    refine (rof_any hrw1).mono ?_
    rintro e w16 ⟨ox, rfl, hox, hb⟩
    have hs : Below w15.heap.size w15 w16 := step (by first | exact Below.refl _ _ | go_grown) hb
    replace ua := ua.below hs
    replace ub := ub.below hs
    replace uo := uo.below hs
    replace hq := hq.below hs
    replace hr := hr.below hs
    replace hx := hx.below hs
    replace hy := hy.below hs
    replace hp := hp.below hs
    replace hs1 := hs1.below hs
    replace hz := hz.below hs
    replace hv := hv.below hs
    replace hm := hm.below hs
    replace how := how.below hs
    replace hc := hc.below hs
    replace hd := hd.below hs
    replace hB := from_ hB hs
    replace hD := from_ hD hs
    clear hb hs
    have hox2 : IsU w16 old ox (remL la (limbs x0)) := by rw [← Hrw2.out]; exact hox.old
    go_wp2_with fail
    refine (same_yes (hox2.below (by first | exact Below.refl _ _ | go_grown)) (hd.below (by first | exact Below.refl _ _ | go_grown))).mono ?_
    rintro e w17 ⟨rfl, hb⟩
    have hs : Below w16.heap.size w16 w17 := step (by first | exact Below.refl _ _ | go_grown) hb
    replace ua := ua.below hs
    replace ub := ub.below hs
    replace uo := uo.below hs
    replace hq := hq.below hs
    replace hr := hr.below hs
    replace hx := hx.below hs
    replace hy := hy.below hs
    replace hp := hp.below hs
    replace hs1 := hs1.below hs
    replace hz := hz.below hs
    replace hv := hv.below hs
    replace hm := hm.below hs
    replace how := how.below hs
    replace hc := hc.below hs
    replace hd := hd.below hs
    replace hox := hox.below hs
    replace hox2 := hox2.below hs
    replace hB := from_ hB hs
    replace hD := from_ hD hs
    clear hb hs
    obtain ⟨Ar, cAr, rfl, hr⟩ := hr
    obtain ⟨N, hN⟩ : ∃ N, N = (remL la lb).length := ⟨_, rfl⟩
    rw [← hN]
    have hst : Hid (0 < N → ∃ b o, Ar = some ⟨b, o, none⟩ ∧ w1.heap.size ≤ b ∧ (∀ j, w17.frozen? ⟨b, o + j, none⟩ = false) ∧ ∀ j, 0 ≤ j → j < N → ∃ x : Nat, w17.cell? ⟨b, o + j, none⟩ = some (.int .u64 (x : Int))) := fun h0 => by
      obtain ⟨b, o, e, hbb, _, hf, hc⟩ := hr.open (by omega)
      exact ⟨b, o, e, hbb, hf trivial, fun j _ hj => ⟨_, hc j (by omega)⟩⟩
    have hcm := hr.cap
    have hmm := hr.max
    rw [← hN] at hcm
    clear hN hr hq hx hy hp hs1 hz hv hm how hc hd hox hox2 ua ub uo hB
    go_wp2
    go_loopw [29] (fun q wr => ∃ k : Nat, k ≤ N ∧ q = .int .i64 k ∧ Below w1.heap.size w1 wr ∧ Hid (0 < N → ∃ b o, Ar = some ⟨b, o, none⟩ ∧ w1.heap.size ≤ b ∧ (∀ j, wr.frozen? ⟨b, o + j, none⟩ = false) ∧ ∀ j, k ≤ j → j < N → ∃ x : Nat, wr.cell? ⟨b, o + j, none⟩ = some (.int .u64 (x : Int)))) (fun q _ => N - (intOf q).toNat)
    case atStart => exact ⟨0, Nat.zero_le _, rfl, hD, hst⟩
    case round =>
      obtain ⟨k, hk, rfl, hD', hst'⟩ := hrel
      by_cases hlt : k < N
      · obtain ⟨b, o, e, hbb, hf, hc⟩ := hst'.out (by omega)
        obtain ⟨x, hx⟩ := hc k (Nat.le_refl _) hlt
        have hfr := hf k
        have Hf := Lib.hid hf
        have Hc := Lib.hid hc
        subst e
        clear hf hc hst hst'
        go_wp2
        go_roundw
        case rel =>
          refine ⟨k + 1, by omega, by go_num, hD'.setCell (p := ⟨b, o + k, none⟩) hbb _, fun _ => ⟨b, o, rfl, hbb, fun j => ?_, fun j hj1 hj2 => ?_⟩⟩
          · exact (World.frozen?_setCell _ _ _ _).trans (Hf.out j)
          · obtain ⟨y, hy⟩ := Hc.out j (by omega) hj2
            exact ⟨y, (World.cell?_setCell_other _ _ _ _ (by first | (simp; done) | (simp; omega))).trans hy⟩
        case measure => simp [intOf]; omega
      · obtain rfl : k = N := by omega
        have uo := ud.below hD'
        have ua := ad.below hD'
        have hB := from_ hBd hD'
        clear hD' hst' hBd ud ad
        go_wp2_with fail
        refine (same_yes (uo.below (by first | exact Below.refl _ _ | go_grown)) (ua.below (by first | exact Below.refl _ _ | go_grown))).mono ?_
        rintro e w41 ⟨rfl, hb⟩
        have hs : Below wr.heap.size wr w41 := step (by first | exact Below.refl _ _ | go_grown) hb
        replace uo := uo.below hs
        replace ua := ua.below hs
        replace hB := from_ hB hs
        clear hb hs
        go_wp2
        go_ret
        exact ⟨rfl, hB⟩
end Go.Proofs.Ythdmfggcfkeenaa
