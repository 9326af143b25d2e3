/- The document's own answer, layer 5: Sum, Times. No conditions but bounds on lengths. -/
import Derived.Deep.RegionWith
import Derived.Test.YthpngihjcphigaaGreatVWhJ
import Derived.Test.YthpngihjcphigaaGreatVWhF
import Derived.Test.YthpngihjcphigaaGreatVRefI
import Derived.Test.YthpngihjcphigaaGreatVRefO
import Derived.Test.YthpngihjcphigaaGreatVW5C
set_option linter.unusedVariables false
set_option linter.unusedSimpArgs false
set_option maxRecDepth 100000
set_option maxHeartbeats 40000000
namespace Go.Proofs.YthpngihjcphigaaGreat
open Go.Lib (hid)
open Go.RowKit
theorem r5sum_good {w : World} {Z Y : Zone} {a b : Value} {x y : Int} (ha : IsZ w Z a x) (hb : IsZ w Y b y) (hl : (limbs x.natAbs).length ≤ 10000000000) (hl2 : (limbs y.natAbs).length ≤ 10000000000) :
  Calls Tryz.prog 90 #[a, b] w fun e w' => ∃ v, e = .returned v ∧ IsZ w' (new w.heap.size) v (x + y) ∧ Below w.heap.size w w' := by
 obtain ⟨_, rfl, A, ca, rfl, hu⟩ := ha
 obtain ⟨_, rfl, B, cb, rfl, hv⟩ := hb
 obtain ⟨m, hm⟩ : ∃ m, m = x.natAbs := ⟨_, rfl⟩
 obtain ⟨n, hn⟩ : ∃ n, n = y.natAbs := ⟨_, rfl⟩
 rw [← hm] at hu hl ⊢
 rw [← hn] at hv hl2 ⊢
 have ua : IsN w Z (.slice A (limbs m).length ca) m := ⟨A, ca, rfl, hu⟩
 have ub : IsN w Y (.slice B (limbs n).length cb) n := ⟨B, cb, rfl, hv⟩
 clear hu hv
 obtain ⟨s, hsx⟩ : ∃ s, s = decide (x < 0) := ⟨_, rfl⟩
 obtain ⟨t, hty⟩ : ∃ t, t = decide (y < 0) := ⟨_, rfl⟩
 rw [← hsx, ← hty]
 obtain ⟨bA, bB, bR, hB0⟩ := boxes3 w (.bool s) (.slice A (limbs m).length ca) (.bool t) (.slice B (limbs n).length cb) (.bool false) (.slice none 0 0) 25
 obtain ⟨a0, a1, _, _, _⟩ := bA
 obtain ⟨b0, b1, _, _, _⟩ := bB
 have hall : (s = t ∧ decide (x + y < 0) = s ∧ (x + y).natAbs = m + n) ∨ ((s == t) = false ∧ ((m = n ∧ x + y = 0) ∨ (n < m ∧ decide (x + y < 0) = s ∧ (x + y).natAbs = m - n) ∨ (m < n ∧ decide (x + y < 0) = t ∧ (x + y).natAbs = n - m))) := by
  rw [hsx, hty]
  by_cases hx : x < 0 <;> by_cases hy : y < 0
  · exact .inl ⟨by rw [decide_eq_true hx, decide_eq_true hy], by rw [decide_eq_true hx]; exact decide_eq_true (by omega), by omega⟩
  · refine .inr ⟨by rw [decide_eq_true hx, decide_eq_false hy]; rfl, ?_⟩
    rcases Nat.lt_trichotomy m n with h | h | h
    · exact .inr (.inr ⟨h, by rw [decide_eq_false hy]; exact decide_eq_false (by omega), by omega⟩)
    · exact .inl ⟨h, by omega⟩
    · exact .inr (.inl ⟨h, by rw [decide_eq_true hx]; exact decide_eq_true (by omega), by omega⟩)
  · refine .inr ⟨by rw [decide_eq_false hx, decide_eq_true hy]; rfl, ?_⟩
    rcases Nat.lt_trichotomy m n with h | h | h
    · exact .inr (.inr ⟨h, by rw [decide_eq_true hy]; exact decide_eq_true (by omega), by omega⟩)
    · exact .inl ⟨h, by omega⟩
    · exact .inr (.inl ⟨h, by rw [decide_eq_false hx]; exact decide_eq_false (by omega), by omega⟩)
  · exact .inl ⟨by rw [decide_eq_false hx, decide_eq_false hy], by rw [decide_eq_false hx]; exact decide_eq_false (by omega), by omega⟩
 unfold IsZ
 clear hsx hty hm hn
 rcases hall with ⟨rfl, h1, h2⟩ | ⟨hst, ⟨rfl, h1⟩ | ⟨hmn, h1, h2⟩ | ⟨hmn, h1, h2⟩⟩
 · rw [h1, h2]
   clear h1 h2
   have hsum := fun (w1 : World) (h : Below w.heap.size w w1) => sum1_good (ua.below h) (ub.below h) hl hl2
   have Hsum := hid hsum
   clear hsum ua ub
   go_enter Tryz.func90, Tryz.ntmps90
   go_wp2
   generalize hW : (((w.alloc (.cells #[.bool s, .slice A (limbs m).length ca] 25)).alloc (.cells #[.bool s, .slice B (limbs n).length cb] 25)).alloc (.cells #[.bool false, .slice none 0 0] 25)) = W at *
   have hBd : Below w.heap.size w W.drew := hB0.drew
   have bRd := bR.below (W' := W.drew) ((Below.refl _ W).drew)
   have A0 := (show W.drew.cell? ⟨_, 0, none⟩ = _ from a0)
   have hz2 : w.heap.size + 2 < W.drew.heap.size := bRd.lt
   have hS : Calls Tryz.prog 121 _ W.drew (fun e w' => ∃ Av cv, e = .returned (.slice Av (limbs (m + n)).length cv) ∧ IsU w' (new W.drew.heap.size) (.slice Av (limbs (m + n)).length cv) (limbs (m + n)) ∧ Below W.drew.heap.size W.drew w') := (Hsum.out _ hBd).mono (by
    rintro e w2 ⟨_, rfl, ⟨Av, cv, rfl, hv⟩, hb2⟩
    exact ⟨Av, cv, rfl, ⟨Av, cv, rfl, hv⟩, hb2⟩)
   have HS := hid hS
   clear hS hW Hsum bR hB0
   go_region_with (go_at_call 121; refine HS.out.mono ?_; rintro e w2 ⟨Av, cv, rfl, hv, hc2⟩; have A1 := keepC hc2 A0; obtain ⟨q0, q1, f0, f1, _⟩ := bRd.below hc2)
   all_goals
    have hP := (bRd.below hc2).put (from_ hBd hc2) (by omega) (.bool s) (.slice Av (limbs (m + n)).length cv)
    have hu2 := hP.keep hz2 hv
    obtain ⟨Hu, HP⟩ := hid2 hu2 hP
    clear hv hu2 hP A0
    go_wp2
    refine bodyPost_ret (res_int rfl _ (w.heap.size + 2) rfl HP.out.c0 HP.out.c1) rfl ?_
    exact ⟨_, rfl, ⟨_, rfl, Hu.out⟩, HP.out.bel⟩
 · rw [h1]
   have hcmp := compared_good (ua.below hB0) (ub.below hB0) hl hl2
   rw [cmp3_eq] at hcmp
   have Hcmp := hid hcmp
   clear h1 hcmp
   go_enter Tryz.func90, Tryz.ntmps90
   go_wp2_with fail
   refine Hcmp.out.mono ?_
   rintro e w1 ⟨rfl, rfl⟩
   have HB := hid hB0
   obtain ⟨q0, q1, f0, f1, _⟩ := bR
   clear hB0
   go_wp2
   refine bodyPost_ret (res_int rfl _ (w.heap.size + 2) rfl q0 q1) rfl ?_
   exact ⟨_, rfl, ⟨_, rfl, IsU.nil _ _⟩, HB.out⟩
 · rw [h1, h2]
   have hcmp := compared_good (ua.below hB0) (ub.below hB0) hl hl2
   rw [cmp3_gt (by omega)] at hcmp
   have Hcmp := hid hcmp
   have hsum := fun (w1 : World) (h : Below w.heap.size w w1) => rest1_good (ua.below h) (ub.below h) hl hl2 (show m = (m - n) + n by omega)
   clear h1 h2 hcmp
   have Hsum := hid hsum
   clear hsum ua ub
   go_enter Tryz.func90, Tryz.ntmps90
   go_wp2_with fail
   refine Hcmp.out.mono ?_
   rintro e w1 ⟨rfl, rfl⟩
   go_wp2
   generalize hW : (((w.alloc (.cells #[.bool s, .slice A (limbs m).length ca] 25)).alloc (.cells #[.bool t, .slice B (limbs n).length cb] 25)).alloc (.cells #[.bool false, .slice none 0 0] 25)) = W at *
   have hBd : Below w.heap.size w W.drew := hB0.drew
   have bRd := bR.below (W' := W.drew) ((Below.refl _ W).drew)
   have A0 := (show W.drew.cell? ⟨_, 0, none⟩ = _ from a0)
   have hz2 : w.heap.size + 2 < W.drew.heap.size := bRd.lt
   have hS : Calls Tryz.prog 123 _ W.drew (fun e w' => ∃ Av cv, e = .returned (.slice Av (limbs (m - n)).length cv) ∧ IsU w' (new W.drew.heap.size) (.slice Av (limbs (m - n)).length cv) (limbs (m - n)) ∧ Below W.drew.heap.size W.drew w') := (Hsum.out _ hBd).mono (by
    rintro e w2 ⟨_, rfl, ⟨Av, cv, rfl, hv⟩, hb2⟩
    exact ⟨Av, cv, rfl, ⟨Av, cv, rfl, hv⟩, hb2⟩)
   have HS := hid hS
   clear hS hW Hsum bR hB0
   go_region_with (go_at_call 123; refine HS.out.mono ?_; rintro e w2 ⟨Av, cv, rfl, hv, hc2⟩; have A1 := keepC hc2 A0; obtain ⟨q0, q1, f0, f1, _⟩ := bRd.below hc2)
   all_goals
    have hP := (bRd.below hc2).put (from_ hBd hc2) (by omega) (.bool s) (.slice Av (limbs (m - n)).length cv)
    have hu2 := hP.keep hz2 hv
    obtain ⟨Hu, HP⟩ := hid2 hu2 hP
    clear hv hu2 hP A0
    go_wp2
    refine bodyPost_ret (res_int rfl _ (w.heap.size + 2) rfl HP.out.c0 HP.out.c1) rfl ?_
    exact ⟨_, rfl, ⟨_, rfl, Hu.out⟩, HP.out.bel⟩
 · rw [h1, h2]
   have hcmp := compared_good (ua.below hB0) (ub.below hB0) hl hl2
   rw [cmp3_lt (by omega)] at hcmp
   have Hcmp := hid hcmp
   have hsum := fun (w1 : World) (h : Below w.heap.size w w1) => rest1_good (ub.below h) (ua.below h) hl2 hl (show n = (n - m) + m by omega)
   clear h1 h2 hcmp
   have Hsum := hid hsum
   clear hsum ua ub
   go_enter Tryz.func90, Tryz.ntmps90
   go_wp2_with fail
   refine Hcmp.out.mono ?_
   rintro e w1 ⟨rfl, rfl⟩
   go_wp2
   generalize hW : (((w.alloc (.cells #[.bool s, .slice A (limbs m).length ca] 25)).alloc (.cells #[.bool t, .slice B (limbs n).length cb] 25)).alloc (.cells #[.bool false, .slice none 0 0] 25)) = W at *
   have hBd : Below w.heap.size w W.drew := hB0.drew
   have bRd := bR.below (W' := W.drew) ((Below.refl _ W).drew)
   have A0 := (show W.drew.cell? ⟨_, 0, none⟩ = _ from b0)
   have hz2 : w.heap.size + 2 < W.drew.heap.size := bRd.lt
   have hS : Calls Tryz.prog 123 _ W.drew (fun e w' => ∃ Av cv, e = .returned (.slice Av (limbs (n - m)).length cv) ∧ IsU w' (new W.drew.heap.size) (.slice Av (limbs (n - m)).length cv) (limbs (n - m)) ∧ Below W.drew.heap.size W.drew w') := (Hsum.out _ hBd).mono (by
    rintro e w2 ⟨_, rfl, ⟨Av, cv, rfl, hv⟩, hb2⟩
    exact ⟨Av, cv, rfl, ⟨Av, cv, rfl, hv⟩, hb2⟩)
   have HS := hid hS
   clear hS hW Hsum bR hB0
   go_region_with (go_at_call 123; refine HS.out.mono ?_; rintro e w2 ⟨Av, cv, rfl, hv, hc2⟩; have A1 := keepC hc2 A0; obtain ⟨q0, q1, f0, f1, _⟩ := bRd.below hc2)
   all_goals
    have hP := (bRd.below hc2).put (from_ hBd hc2) (by omega) (.bool t) (.slice Av (limbs (n - m)).length cv)
    have hu2 := hP.keep hz2 hv
    obtain ⟨Hu, HP⟩ := hid2 hu2 hP
    clear hv hu2 hP A0
    go_wp2
    refine bodyPost_ret (res_int rfl _ (w.heap.size + 2) rfl HP.out.c0 HP.out.c1) rfl ?_
    exact ⟨_, rfl, ⟨_, rfl, Hu.out⟩, HP.out.bel⟩
end Go.Proofs.YthpngihjcphigaaGreat
