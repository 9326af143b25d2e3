/-
  The walk of NatShifts. No conditions.
-/
import Derived.Test.YtodcjaobbnjikaaRefD
namespace Go.Proofs.Ytodcjaobbnjikaa
open Go.RowKit
set_option linter.unusedVariables false
set_option linter.unusedSimpArgs false

set_option maxRecDepth 100000 in
set_option maxHeartbeats 2000000 in
theorem lawNatShifts {w : World} {a : Value} {la : List Nat} {i bits : Int} (ha : IsU w old a la) (hi : -9223372036854775808 ≤ i ∧ i ≤ 9223372036854775807) (hbits : -9223372036854775808 ≤ bits ∧ bits ≤ 9223372036854775807) :
    Calls Try.prog 6 #[a, .int .i64 i, .int .i64 bits] w fun e w' => e = .returned (.bool true) ∧ Below w.heap.size w w' := by
  obtain ⟨A, ca, rfl, ha⟩ := ha
  have hla := ha.len
  have ua : IsU w old (.slice A la.length ca) la := ⟨A, ca, rfl, ha⟩
  clear ha
  have hcase : (100 : Int) < (la.length : Int) ∨ (decide ((100 : Int) < (la.length : Int)) = false ∧ (2000 : Int) < bits ∧ bits ≤ 65536) ∨ (decide ((100 : Int) < (la.length : Int)) = false ∧ decide ((2000 : Int) < bits) = false ∧ la.length ≤ 100) ∨ (decide ((100 : Int) < (la.length : Int)) = false ∧ (2000 : Int) < bits ∧ decide (bits ≤ 65536) = false ∧ la.length ≤ 100) := by
    simp only [decide_eq_false_iff_not]
    omega
  rcases hcase with t1 | ⟨t1, t2, t3⟩ | ⟨t1, t2, h1⟩ | ⟨t1, t2, t3, h1⟩
  · go_enter Try.func6, Try.ntmps6
    go_wp2
    go_ret
    exact ⟨rfl, Below.refl _ _⟩
  · go_enter Try.func6, Try.ntmps6
    go_wp2
    go_ret
    exact ⟨rfl, Below.refl _ _⟩
  all_goals
    obtain ⟨i0, hi0, hz0, hz1, hz2⟩ := info_parts Try.info62
    have hb0 : Below w.heap.size w (w.alloc (.cells #[] 62)) := (Below.refl _ w).alloc (Nat.le_refl _) _
    obtain ⟨A1, c1, e1, hu1⟩ := ua.below hb0
    injection e1 with e1 e2 e3
    subst e1 e3
    have hown := ownsRow_empty w 62
    clear e2 hla
    go_enter Try.func6, Try.ntmps6
    go_wp2_with (at_builtin; go_loud (refine wpList_app _ rfl _ _ 46 rfl w.heap.size 62 i0 Try.underlying46 hi0 hz0 hz1 hz2 _ _ _ rfl hown rfl rfl hu1 (by omega) (by simp) ?_); intro v' w1 hown' hgrow; obtain ⟨A2, c2, rfl⟩ := own_shape hown')
    rw [Nat.zero_add, List.nil_append] at hown'
    have hB := hb0.grown hgrow (by simp) (own_nil_of hown)
    have uo : IsU w1 (new w.heap.size) (.slice A2 la.length c2) la := by
      have hs := hu1.small
      exact ⟨A2, c2, rfl, isU_after hs rfl hown' (Nat.le_refl _)⟩
    replace ua := ua.below hB
    clear hown hown' hb0 hgrow hu1
    go_wp2_with fail
    refine (long_all (uo.below (by first | exact Below.refl _ _ | go_grown)) (by omega)).mono ?_
    rintro e _ ⟨rfl, rfl⟩
    go_wp2_with fail
    refine (rlong_all (ua.below (by first | exact Below.refl _ _ | go_grown)) (by omega)).mono ?_
    rintro e _ ⟨rfl, rfl⟩
    go_wp2_with fail
    refine (bit_all (uo.below (by first | exact Below.refl _ _ | go_grown)) (by omega)).mono ?_
    rintro e _ ⟨rfl, rfl⟩
    go_wp2_with fail
    refine (rbit_all (ua.below (by first | exact Below.refl _ _ | go_grown)) (by omega)).mono ?_
    rintro e _ ⟨rfl, rfl⟩
    go_wp2_with fail
    refine (up_all (uo.below (by first | exact Below.refl _ _ | go_grown)) (by omega)).mono ?_
    rintro e w2 ⟨z, rfl, hz, hb⟩
    have hs : Below w1.heap.size w1 w2 := step (by first | exact Below.refl _ _ | go_grown) hb
    replace ua := ua.below hs
    replace uo := uo.below hs
    replace hB := from_ hB hs
    clear hb hs
    go_wp2_with fail
    refine (rup_all (ua.below (by first | exact Below.refl _ _ | go_grown)) (by omega)).mono ?_
    rintro e w3 ⟨v, rfl, hv, hb⟩
    have hs : Below w2.heap.size w2 w3 := step (by first | exact Below.refl _ _ | go_grown) hb
    replace ua := ua.below hs
    replace uo := uo.below hs
    replace hz := hz.below hs
    replace hB := from_ hB hs
    clear hb hs
    have ud := uo
    have ad := ua
    have hBd := hB
    go_wp2_with fail
    refine (down_all (uo.below (by first | exact Below.refl _ _ | go_grown)) (by omega)).mono ?_
    rintro e w4 ⟨m, rfl, hm, hb⟩
    have hs : Below w3.heap.size w3 w4 := step (by first | exact Below.refl _ _ | go_grown) hb
    replace ua := ua.below hs
    replace uo := uo.below hs
    replace hz := hz.below hs
    replace hv := hv.below hs
    replace hB := from_ hB hs
    have hD := hs
    clear hb hs
    go_wp2_with fail
    refine (rdown_all (ua.below (by first | exact Below.refl _ _ | go_grown)) (by omega)).mono ?_
    rintro e w5 ⟨n, rfl, hn, hb⟩
    have hs : Below w4.heap.size w4 w5 := step (by first | exact Below.refl _ _ | go_grown) hb
    replace ua := ua.below hs
    replace uo := uo.below hs
    replace hz := hz.below hs
    replace hv := hv.below hs
    replace hm := hm.below hs
    replace hB := from_ hB hs
    replace hD := from_ hD hs
    clear hb hs
    go_wp2_with fail
    refine (same_yes (hz.below (by first | exact Below.refl _ _ | go_grown)) (hv.below (by first | exact Below.refl _ _ | go_grown))).mono ?_
    rintro e w6 ⟨rfl, hb⟩
    have hs : Below w5.heap.size w5 w6 := step (by first | exact Below.refl _ _ | go_grown) hb
    replace ua := ua.below hs
    replace uo := uo.below hs
    replace hz := hz.below hs
    replace hv := hv.below hs
    replace hm := hm.below hs
    replace hn := hn.below hs
    replace hB := from_ hB hs
    replace hD := from_ hD hs
    clear hb hs
    go_wp2_with fail
    refine (same_yes (hm.below (by first | exact Below.refl _ _ | go_grown)) (hn.below (by first | exact Below.refl _ _ | go_grown))).mono ?_
    rintro e w7 ⟨rfl, hb⟩
    have hs : Below w6.heap.size w6 w7 := step (by first | exact Below.refl _ _ | go_grown) hb
    replace ua := ua.below hs
    replace uo := uo.below hs
    replace hz := hz.below hs
    replace hv := hv.below hs
    replace hm := hm.below hs
    replace hn := hn.below hs
    replace hB := from_ hB hs
    replace hD := from_ hD hs
    clear hb hs
    obtain ⟨Am, cm, rfl, hm⟩ := hm
    obtain ⟨N, hN⟩ : ∃ N, N = (downL la bits).length := ⟨_, rfl⟩
    rw [← hN]
    have hst : Hid (0 < N → ∃ b o, Am = some ⟨b, o, none⟩ ∧ w3.heap.size ≤ b ∧ (∀ j, w7.frozen? ⟨b, o + j, none⟩ = false) ∧ ∀ j, 0 ≤ j → j < N → ∃ x : Nat, w7.cell? ⟨b, o + j, none⟩ = some (.int .u64 (x : Int))) := fun h0 => by
      obtain ⟨b, o, e, hbb, _, hf, hc⟩ := hm.open (by omega)
      exact ⟨b, o, e, hbb, hf trivial, fun j _ hj => ⟨_, hc j (by omega)⟩⟩
    have hcm := hm.cap
    have hmm := hm.max
    rw [← hN] at hcm
    clear hN hm hn hz hv ua uo hB
    go_wp2
    go_loopw [25] (fun q wr => ∃ k : Nat, k ≤ N ∧ q = .int .i64 k ∧ Below w3.heap.size w3 wr ∧ Hid (0 < N → ∃ b o, Am = some ⟨b, o, none⟩ ∧ w3.heap.size ≤ b ∧ (∀ j, wr.frozen? ⟨b, o + j, none⟩ = false) ∧ ∀ j, k ≤ j → j < N → ∃ x : Nat, wr.cell? ⟨b, o + j, none⟩ = some (.int .u64 (x : Int)))) (fun q _ => N - (intOf q).toNat)
    case atStart => exact ⟨0, Nat.zero_le _, rfl, hD, hst⟩
    case round =>
      obtain ⟨k, hk, rfl, hD', hst'⟩ := hrel
      by_cases hlt : k < N
      · obtain ⟨b, o, e, hbb, hf, hc⟩ := hst'.out (by omega)
        obtain ⟨x, hx⟩ := hc k (Nat.le_refl _) hlt
        have hfr := hf k
        have Hf := Lib.hid hf
        have Hc := Lib.hid hc
        subst e
        clear hf hc hst hst'
        go_wp2
        go_roundw
        case rel =>
          refine ⟨k + 1, by omega, by go_num, hD'.setCell (p := ⟨b, o + k, none⟩) hbb _, fun _ => ⟨b, o, rfl, hbb, fun j => ?_, fun j hj1 hj2 => ?_⟩⟩
          · exact (World.frozen?_setCell _ _ _ _).trans (Hf.out j)
          · obtain ⟨y, hy⟩ := Hc.out j (by omega) hj2
            exact ⟨y, (World.cell?_setCell_other _ _ _ _ (by first | (simp; done) | (simp; omega))).trans hy⟩
        case measure => simp [intOf]; omega
      · obtain rfl : k = N := by omega
        have uo := ud.below hD'
        have ua := ad.below hD'
        go_wp2_with fail
        refine (same_yes uo ua).mono ?_
        rintro e w8 ⟨rfl, hb⟩
        have hs := step (by first | exact Below.refl _ _ | go_grown) hb
        have hfin := from_ hBd (from_ hD' hs)
        go_wp2
        go_ret
        exact ⟨rfl, hfin⟩
end Go.Proofs.Ytodcjaobbnjikaa
