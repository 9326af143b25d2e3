/-
  The document's own answer, layer 5: Sum, Times. No conditions but bounds on lengths.
  The document's own answer, layer 5: Add, Mul, at any signs and words. No conditions but bounds on lengths.
-/
import Derived.Deep.RegionWith
import Derived.Test.YthdmfggcfkeenaaZWhJ
import Derived.Test.YthdmfggcfkeenaaZWhF
import Derived.Test.YthdmfggcfkeenaaZRefI
import Derived.Test.YthdmfggcfkeenaaZRefO
import Derived.Test.YthdmfggcfkeenaaZW5C
namespace Go.Proofs.Ythdmfggcfkeenaa
open Go.RowKit
set_option linter.unusedVariables false
set_option linter.unusedSimpArgs false

set_option maxRecDepth 100000 in
set_option maxHeartbeats 4000000 in
theorem r5sum_good {w : World} {Z Y : Zone} {a b : Value} {x y : Int} (ha : IsZ w Z a x) (hb : IsZ w Y b y) (hl : (limbs x.natAbs).length ≤ 10000) (hl2 : (limbs y.natAbs).length ≤ 10000) :
    Calls Try.prog 97 #[a, b] w fun e w' => ∃ v, e = .returned v ∧ IsZ w' (new w.heap.size) v (x + y) ∧ Below w.heap.size w w' := by
  obtain ⟨_, rfl, A, ca, rfl, hu⟩ := ha
  obtain ⟨_, rfl, B, cb, rfl, hv⟩ := hb
  obtain ⟨m, hm⟩ : ∃ m, m = x.natAbs := ⟨_, rfl⟩
  obtain ⟨n, hn⟩ : ∃ n, n = y.natAbs := ⟨_, rfl⟩
  rw [← hm] at hu hl ⊢
  rw [← hn] at hv hl2 ⊢
  have ua : IsN w Z (.slice A (limbs m).length ca) m := ⟨A, ca, rfl, hu⟩
  have ub : IsN w Y (.slice B (limbs n).length cb) n := ⟨B, cb, rfl, hv⟩
  clear hu hv
  obtain ⟨s, hsx⟩ : ∃ s, s = decide (x < 0) := ⟨_, rfl⟩
  obtain ⟨t, hty⟩ : ∃ t, t = decide (y < 0) := ⟨_, rfl⟩
  rw [← hsx, ← hty]
  obtain ⟨bA, bB, bR, hB0⟩ := boxes3 w (.bool s) (.slice A (limbs m).length ca) (.bool t) (.slice B (limbs n).length cb) (.bool false) (.slice none 0 0) 52
  obtain ⟨a0, a1, _, _, _⟩ := bA
  obtain ⟨b0, b1, _, _, _⟩ := bB
  have hall : (s = t ∧ decide (x + y < 0) = s ∧ (x + y).natAbs = m + n) ∨ ((s == t) = false ∧ ((m = n ∧ x + y = 0) ∨ (n < m ∧ decide (x + y < 0) = s ∧ (x + y).natAbs = m - n) ∨ (m < n ∧ decide (x + y < 0) = t ∧ (x + y).natAbs = n - m))) := by
    rw [hsx, hty]
    by_cases hx : x < 0 <;> by_cases hy : y < 0
    · exact .inl ⟨by rw [decide_eq_true hx, decide_eq_true hy], by rw [decide_eq_true hx]; exact decide_eq_true (by omega), by omega⟩
    · refine .inr ⟨by rw [decide_eq_true hx, decide_eq_false hy]; rfl, ?_⟩
      rcases Nat.lt_trichotomy m n with h | h | h
      · exact .inr (.inr ⟨h, by rw [decide_eq_false hy]; exact decide_eq_false (by omega), by omega⟩)
      · exact .inl ⟨h, by omega⟩
      · exact .inr (.inl ⟨h, by rw [decide_eq_true hx]; exact decide_eq_true (by omega), by omega⟩)
    · refine .inr ⟨by rw [decide_eq_false hx, decide_eq_true hy]; rfl, ?_⟩
      rcases Nat.lt_trichotomy m n with h | h | h
      · exact .inr (.inr ⟨h, by rw [decide_eq_true hy]; exact decide_eq_true (by omega), by omega⟩)
      · exact .inl ⟨h, by omega⟩
      · exact .inr (.inl ⟨h, by rw [decide_eq_false hx]; exact decide_eq_false (by omega), by omega⟩)
    · exact .inl ⟨by rw [decide_eq_false hx, decide_eq_false hy], by rw [decide_eq_false hx]; exact decide_eq_false (by omega), by omega⟩
  unfold IsZ
  clear hsx hty hm hn
  rcases hall with ⟨rfl, h1, h2⟩ | ⟨hst, ⟨rfl, h1⟩ | ⟨hmn, h1, h2⟩ | ⟨hmn, h1, h2⟩⟩
  · rw [h1, h2]
    clear h1 h2
    have hsum := fun (w1 : World) (h : Below w.heap.size w w1) => sum1_good (ua.below h) (ub.below h) hl hl2
    have Hsum := Lib.hid hsum
    clear hsum ua ub
    go_enter Try.func97, Try.ntmps97
    go_wp2
    generalize hW : (((w.alloc (.cells #[.bool s, .slice A (limbs m).length ca] 52)).alloc (.cells #[.bool s, .slice B (limbs n).length cb] 52)).alloc (.cells #[.bool false, .slice none 0 0] 52)) = W at *
    have hBd : Below w.heap.size w W.drew := hB0.drew
    have bRd := bR.below (W' := W.drew) ((Below.refl _ W).drew)
    have A0 := (show W.drew.cell? ⟨_, 0, none⟩ = _ from a0)
    have hz2 : w.heap.size + 2 < W.drew.heap.size := bRd.lt
    have hS : Calls Try.prog 130 _ W.drew (fun e w' => ∃ Av cv, e = .returned (.slice Av (limbs (m + n)).length cv) ∧ IsU w' (new W.drew.heap.size) (.slice Av (limbs (m + n)).length cv) (limbs (m + n)) ∧ Below W.drew.heap.size W.drew w') := (Hsum.out _ hBd).mono (by
      rintro e w2 ⟨_, rfl, ⟨Av, cv, rfl, hv⟩, hb2⟩
      exact ⟨Av, cv, rfl, ⟨Av, cv, rfl, hv⟩, hb2⟩)
    have HS := Lib.hid hS
    clear hS hW Hsum bR hB0
    go_region_with (go_at_call 130; refine HS.out.mono ?_; rintro e w2 ⟨Av, cv, rfl, hv, hc2⟩; have A1 := keepC hc2 A0; obtain ⟨q0, q1, f0, f1, _⟩ := bRd.below hc2)
    all_goals
      have hP := (bRd.below hc2).put (from_ hBd hc2) (by omega) (.bool s) (.slice Av (limbs (m + n)).length cv)
      have hu2 := hP.keep hz2 hv
      have Hu := Lib.hid hu2
      have HP := Lib.hid hP
      clear hv hu2 hP A0
      go_wp2
      refine bodyPost_ret (res_int rfl _ (w.heap.size + 2) rfl HP.out.c0 HP.out.c1) rfl ?_
      exact ⟨_, rfl, ⟨_, rfl, Hu.out⟩, HP.out.bel⟩
  · rw [h1]
    have hcmp := compared_good (ua.below hB0) (ub.below hB0) hl hl2
    rw [cmp3_eq] at hcmp
    have Hcmp := Lib.hid hcmp
    clear h1 hcmp
    go_enter Try.func97, Try.ntmps97
    go_wp2_with fail
    refine Hcmp.out.mono ?_
    rintro e w1 ⟨rfl, rfl⟩
    have HB := Lib.hid hB0
    obtain ⟨q0, q1, f0, f1, _⟩ := bR
    clear hB0
    go_wp2
    refine bodyPost_ret (res_int rfl _ (w.heap.size + 2) rfl q0 q1) rfl ?_
    exact ⟨_, rfl, ⟨_, rfl, IsU.nil _ _⟩, HB.out⟩
  · rw [h1, h2]
    have hcmp := compared_good (ua.below hB0) (ub.below hB0) hl hl2
    rw [cmp3_gt (by omega)] at hcmp
    have Hcmp := Lib.hid hcmp
    have hsum := fun (w1 : World) (h : Below w.heap.size w w1) => rest1_good (ua.below h) (ub.below h) hl hl2 (show m = (m - n) + n by omega)
    clear h1 h2 hcmp
    have Hsum := Lib.hid hsum
    clear hsum ua ub
    go_enter Try.func97, Try.ntmps97
    go_wp2_with fail
    refine Hcmp.out.mono ?_
    rintro e w1 ⟨rfl, rfl⟩
    go_wp2
    generalize hW : (((w.alloc (.cells #[.bool s, .slice A (limbs m).length ca] 52)).alloc (.cells #[.bool t, .slice B (limbs n).length cb] 52)).alloc (.cells #[.bool false, .slice none 0 0] 52)) = W at *
    have hBd : Below w.heap.size w W.drew := hB0.drew
    have bRd := bR.below (W' := W.drew) ((Below.refl _ W).drew)
    have A0 := (show W.drew.cell? ⟨_, 0, none⟩ = _ from a0)
    have hz2 : w.heap.size + 2 < W.drew.heap.size := bRd.lt
    have hS : Calls Try.prog 132 _ W.drew (fun e w' => ∃ Av cv, e = .returned (.slice Av (limbs (m - n)).length cv) ∧ IsU w' (new W.drew.heap.size) (.slice Av (limbs (m - n)).length cv) (limbs (m - n)) ∧ Below W.drew.heap.size W.drew w') := (Hsum.out _ hBd).mono (by
      rintro e w2 ⟨_, rfl, ⟨Av, cv, rfl, hv⟩, hb2⟩
      exact ⟨Av, cv, rfl, ⟨Av, cv, rfl, hv⟩, hb2⟩)
    have HS := Lib.hid hS
    clear hS hW Hsum bR hB0
    go_region_with (go_at_call 132; refine HS.out.mono ?_; rintro e w2 ⟨Av, cv, rfl, hv, hc2⟩; have A1 := keepC hc2 A0; obtain ⟨q0, q1, f0, f1, _⟩ := bRd.below hc2)
    all_goals
      have hP := (bRd.below hc2).put (from_ hBd hc2) (by omega) (.bool s) (.slice Av (limbs (m - n)).length cv)
      have hu2 := hP.keep hz2 hv
      have Hu := Lib.hid hu2
      have HP := Lib.hid hP
      clear hv hu2 hP A0
      go_wp2
      refine bodyPost_ret (res_int rfl _ (w.heap.size + 2) rfl HP.out.c0 HP.out.c1) rfl ?_
      exact ⟨_, rfl, ⟨_, rfl, Hu.out⟩, HP.out.bel⟩
  · rw [h1, h2]
    have hcmp := compared_good (ua.below hB0) (ub.below hB0) hl hl2
    rw [cmp3_lt (by omega)] at hcmp
    have Hcmp := Lib.hid hcmp
    have hsum := fun (w1 : World) (h : Below w.heap.size w w1) => rest1_good (ub.below h) (ua.below h) hl2 hl (show n = (n - m) + m by omega)
    clear h1 h2 hcmp
    have Hsum := Lib.hid hsum
    clear hsum ua ub
    go_enter Try.func97, Try.ntmps97
    go_wp2_with fail
    refine Hcmp.out.mono ?_
    rintro e w1 ⟨rfl, rfl⟩
    go_wp2
    generalize hW : (((w.alloc (.cells #[.bool s, .slice A (limbs m).length ca] 52)).alloc (.cells #[.bool t, .slice B (limbs n).length cb] 52)).alloc (.cells #[.bool false, .slice none 0 0] 52)) = W at *
    have hBd : Below w.heap.size w W.drew := hB0.drew
    have bRd := bR.below (W' := W.drew) ((Below.refl _ W).drew)
    have A0 := (show W.drew.cell? ⟨_, 0, none⟩ = _ from b0)
    have hz2 : w.heap.size + 2 < W.drew.heap.size := bRd.lt
    have hS : Calls Try.prog 132 _ W.drew (fun e w' => ∃ Av cv, e = .returned (.slice Av (limbs (n - m)).length cv) ∧ IsU w' (new W.drew.heap.size) (.slice Av (limbs (n - m)).length cv) (limbs (n - m)) ∧ Below W.drew.heap.size W.drew w') := (Hsum.out _ hBd).mono (by
      rintro e w2 ⟨_, rfl, ⟨Av, cv, rfl, hv⟩, hb2⟩
      exact ⟨Av, cv, rfl, ⟨Av, cv, rfl, hv⟩, hb2⟩)
    have HS := Lib.hid hS
    clear hS hW Hsum bR hB0
    go_region_with (go_at_call 132; refine HS.out.mono ?_; rintro e w2 ⟨Av, cv, rfl, hv, hc2⟩; have A1 := keepC hc2 A0; obtain ⟨q0, q1, f0, f1, _⟩ := bRd.below hc2)
    all_goals
      have hP := (bRd.below hc2).put (from_ hBd hc2) (by omega) (.bool t) (.slice Av (limbs (n - m)).length cv)
      have hu2 := hP.keep hz2 hv
      have Hu := Lib.hid hu2
      have HP := Lib.hid hP
      clear hv hu2 hP A0
      go_wp2
      refine bodyPost_ret (res_int rfl _ (w.heap.size + 2) rfl HP.out.c0 HP.out.c1) rfl ?_
      exact ⟨_, rfl, ⟨_, rfl, Hu.out⟩, HP.out.bel⟩


end Go.Proofs.Ythdmfggcfkeenaa

namespace Go.Proofs.Ythdmfggcfkeenaa
open Go.RowKit
set_option linter.unusedVariables false
set_option linter.unusedSimpArgs false

set_option maxRecDepth 100000 in
set_option maxHeartbeats 2000000 in
theorem r5mul_all {w : World} {Z Y : Zone} {a b : Value} {s t : Bool} {l k : List Nat} (ha : IsI w Z a s l) (hb : IsI w Y b t k) (hl : l.length ≤ 9000) (hl2 : k.length ≤ 9000) :
    Calls Try.prog 41 #[a, b] w fun e w' => ∃ v, e = .returned (.tuple #[v, .int .i64 (errO s l t k)]) ∧ IsI w' (new w.heap.size) v (opP (· * ·) s l t k).1 (opP (· * ·) s l t k).2 ∧ Below w.heap.size w w' := by
  have htwo := fun (w1 : World) (h : Below w.heap.size w w1) => r5two_all (ha.below h) (hb.below h)
  obtain ⟨_, rfl, A, ca, rfl, hu⟩ := ha
  obtain ⟨_, rfl, B, cb, rfl, hv⟩ := hb
  obtain ⟨bA, bB, bR, hB0⟩ := boxes3 w (.bool s) (.slice A l.length ca) (.bool t) (.slice B k.length cb) (.bool false) (.slice none 0 0) 52
  have ia : IsI w Z (.agg #[.bool s, .slice A l.length ca]) s l := ⟨_, rfl, A, ca, rfl, hu⟩
  have ib : IsI w Y (.agg #[.bool t, .slice B k.length cb]) t k := ⟨_, rfl, B, cb, rfl, hv⟩
  have hsa := hu.small
  have hsb := hv.small
  have ht := htwo _ hB0
  clear htwo hu hv
  obtain ⟨a0, a1, _, _, _⟩ := bA
  obtain ⟨b0, b1, _, _, _⟩ := bB
  by_cases hok : okI s l = true ∧ okI t k = true
  · have e1 : errO s l t k = 0 := by simp [errO, hok]
    have e2 : opP (· * ·) s l t k = (decide ((· * ·) (zof s l) (zof t k) < 0), limbs ((· * ·) (zof s l) (zof t k)).natAbs) := by simp [opP, hok]
    rw [e1] at ht ⊢
    rw [e2]
    obtain ⟨z, hz⟩ : ∃ z, z = (· * ·) (zof s l) (zof t k) := ⟨_, rfl⟩
    rw [← hz]
    obtain ⟨sz, hsz⟩ : ∃ sz, sz = decide (z < 0) := ⟨_, rfl⟩
    obtain ⟨L, hL⟩ : ∃ L, L = limbs z.natAbs := ⟨_, rfl⟩
    rw [← hsz, ← hL]
    have q1 := len_zof hok.1 hsa
    have q2 := len_zof hok.2 hsb
    have hS : ∀ w1, Below w.heap.size w w1 → Calls Try.prog 100 #[.agg #[.bool s, .slice A l.length ca], .agg #[.bool t, .slice B k.length cb]] w1 (fun e w' => ∃ Av cv, e = .returned (.agg #[.bool sz, .slice Av L.length cv]) ∧ IsU w' (new w1.heap.size) (.slice Av L.length cv) L ∧ Below w1.heap.size w1 w') := fun w1 h => by
      refine (r5times_good (ia.below h) (ib.below h) hok.1 hok.2 (by omega) (by omega)).mono ?_
      rintro e w3 ⟨_, rfl, ⟨_, rfl, Av, cv, rfl, hv'⟩, hc3⟩
      rw [hsz, hL, hz]
      exact ⟨Av, cv, rfl, ⟨Av, cv, rfl, hv'⟩, hc3⟩
    have HS := Lib.hid hS
    have Ht := Lib.hid ht
    clear hS ht e1 e2 hok hz hsz hL ia ib
    go_enter Try.func41, Try.ntmps41
    go_wp2_with fail
    refine Ht.out.mono ?_
    rintro e w1 ⟨rfl, hc1⟩
    have bR1 := bR.below hc1
    have a0 := keepC hc1 a0
    have a1 := keepC hc1 a1
    have b0 := keepC hc1 b0
    have b1 := keepC hc1 b1
    have hB1 := from_ hB0 hc1
    have hz2 : w.heap.size + 2 < w1.heap.size := bR1.lt
    go_wp2_with fail
    refine (HS.out _ hB1).mono ?_
    rintro e w2 ⟨Av, cv, rfl, hv, hc2⟩
    have bR2 := bR1.below hc2
    have hP := bR2.put (from_ hB1 hc2) (by omega) (.bool sz) (.slice Av L.length cv)
    have hu2 := hP.keep hz2 hv
    have Hu := Lib.hid hu2
    have HP := Lib.hid hP
    obtain ⟨q0, q1, f0, f1, _⟩ := bR2
    clear hv hu2 hP bR1 a0 a1 b0 b1 hB1
    go_wp2
    refine bodyPost_ret (res_int2 rfl _ (w.heap.size + 2) rfl HP.out.c0 HP.out.c1) rfl ?_
    exact ⟨_, rfl, ⟨_, rfl, Hu.out⟩, HP.out.bel⟩
  · have e1 : errO s l t k = 8 := by simp only [errO, hok, if_false]
    have e2 : opP (· * ·) s l t k = (false, []) := by simp only [opP, hok, if_false]
    rw [e1] at ht ⊢
    rw [e2]
    have Ht := Lib.hid ht
    clear ht e1 e2 hok ia ib
    go_enter Try.func41, Try.ntmps41
    go_wp2_with fail
    refine Ht.out.mono ?_
    rintro e w1 ⟨rfl, hc1⟩
    have bR1 := bR.below hc1
    have hP := bR1.put (from_ hB0 hc1) (by omega) (.bool false) (.slice none 0 0)
    have HP := Lib.hid hP
    obtain ⟨q0, q1, f0, f1, _⟩ := bR1
    clear hP bR hB0
    go_wp2
    refine bodyPost_ret (res_int2 rfl _ (w.heap.size + 2) rfl HP.out.c0 HP.out.c1) rfl ?_
    exact ⟨_, rfl, ⟨_, rfl, IsU.nil _ _⟩, HP.out.bel⟩

set_option maxRecDepth 100000 in
set_option maxHeartbeats 2000000 in
theorem r5add_all {w : World} {Z Y : Zone} {a b : Value} {s t : Bool} {l k : List Nat} (ha : IsI w Z a s l) (hb : IsI w Y b t k) (hl : l.length ≤ 9000) (hl2 : k.length ≤ 9000) :
    Calls Try.prog 37 #[a, b] w fun e w' => ∃ v, e = .returned (.tuple #[v, .int .i64 (errO s l t k)]) ∧ IsI w' (new w.heap.size) v (opP (· + ·) s l t k).1 (opP (· + ·) s l t k).2 ∧ Below w.heap.size w w' := by
  have htwo := fun (w1 : World) (h : Below w.heap.size w w1) => r5two_all (ha.below h) (hb.below h)
  obtain ⟨_, rfl, A, ca, rfl, hu⟩ := ha
  obtain ⟨_, rfl, B, cb, rfl, hv⟩ := hb
  obtain ⟨bA, bB, bR, hB0⟩ := boxes3 w (.bool s) (.slice A l.length ca) (.bool t) (.slice B k.length cb) (.bool false) (.slice none 0 0) 52
  have ia : IsI w Z (.agg #[.bool s, .slice A l.length ca]) s l := ⟨_, rfl, A, ca, rfl, hu⟩
  have ib : IsI w Y (.agg #[.bool t, .slice B k.length cb]) t k := ⟨_, rfl, B, cb, rfl, hv⟩
  have hsa := hu.small
  have hsb := hv.small
  have ht := htwo _ hB0
  clear htwo hu hv
  obtain ⟨a0, a1, _, _, _⟩ := bA
  obtain ⟨b0, b1, _, _, _⟩ := bB
  by_cases hok : okI s l = true ∧ okI t k = true
  · have e1 : errO s l t k = 0 := by simp [errO, hok]
    have e2 : opP (· + ·) s l t k = (decide ((· + ·) (zof s l) (zof t k) < 0), limbs ((· + ·) (zof s l) (zof t k)).natAbs) := by simp [opP, hok]
    rw [e1] at ht ⊢
    rw [e2]
    obtain ⟨z, hz⟩ : ∃ z, z = (· + ·) (zof s l) (zof t k) := ⟨_, rfl⟩
    rw [← hz]
    obtain ⟨sz, hsz⟩ : ∃ sz, sz = decide (z < 0) := ⟨_, rfl⟩
    obtain ⟨L, hL⟩ : ∃ L, L = limbs z.natAbs := ⟨_, rfl⟩
    rw [← hsz, ← hL]
    have q1 := len_zof hok.1 hsa
    have q2 := len_zof hok.2 hsb
    have hS : ∀ w1, Below w.heap.size w w1 → Calls Try.prog 97 #[.agg #[.bool s, .slice A l.length ca], .agg #[.bool t, .slice B k.length cb]] w1 (fun e w' => ∃ Av cv, e = .returned (.agg #[.bool sz, .slice Av L.length cv]) ∧ IsU w' (new w1.heap.size) (.slice Av L.length cv) L ∧ Below w1.heap.size w1 w') := fun w1 h => by
      refine (r5sum_good ((IsI.num ia hok.1).below h) ((IsI.num ib hok.2).below h) (by omega) (by omega)).mono ?_
      rintro e w3 ⟨_, rfl, ⟨_, rfl, Av, cv, rfl, hv'⟩, hc3⟩
      rw [hsz, hL, hz]
      exact ⟨Av, cv, rfl, ⟨Av, cv, rfl, hv'⟩, hc3⟩
    have HS := Lib.hid hS
    have Ht := Lib.hid ht
    clear hS ht e1 e2 hok hz hsz hL ia ib
    go_enter Try.func37, Try.ntmps37
    go_wp2_with fail
    refine Ht.out.mono ?_
    rintro e w1 ⟨rfl, hc1⟩
    have bR1 := bR.below hc1
    have a0 := keepC hc1 a0
    have a1 := keepC hc1 a1
    have b0 := keepC hc1 b0
    have b1 := keepC hc1 b1
    have hB1 := from_ hB0 hc1
    have hz2 : w.heap.size + 2 < w1.heap.size := bR1.lt
    go_wp2_with fail
    refine (HS.out _ hB1).mono ?_
    rintro e w2 ⟨Av, cv, rfl, hv, hc2⟩
    have bR2 := bR1.below hc2
    have hP := bR2.put (from_ hB1 hc2) (by omega) (.bool sz) (.slice Av L.length cv)
    have hu2 := hP.keep hz2 hv
    have Hu := Lib.hid hu2
    have HP := Lib.hid hP
    obtain ⟨q0, q1, f0, f1, _⟩ := bR2
    clear hv hu2 hP bR1 a0 a1 b0 b1 hB1
    go_wp2
    refine bodyPost_ret (res_int2 rfl _ (w.heap.size + 2) rfl HP.out.c0 HP.out.c1) rfl ?_
    exact ⟨_, rfl, ⟨_, rfl, Hu.out⟩, HP.out.bel⟩
  · have e1 : errO s l t k = 8 := by simp only [errO, hok, if_false]
    have e2 : opP (· + ·) s l t k = (false, []) := by simp only [opP, hok, if_false]
    rw [e1] at ht ⊢
    rw [e2]
    have Ht := Lib.hid ht
    clear ht e1 e2 hok ia ib
    go_enter Try.func37, Try.ntmps37
    go_wp2_with fail
    refine Ht.out.mono ?_
    rintro e w1 ⟨rfl, hc1⟩
    have bR1 := bR.below hc1
    have hP := bR1.put (from_ hB0 hc1) (by omega) (.bool false) (.slice none 0 0)
    have HP := Lib.hid hP
    obtain ⟨q0, q1, f0, f1, _⟩ := bR1
    clear hP bR hB0
    go_wp2
    refine bodyPost_ret (res_int2 rfl _ (w.heap.size + 2) rfl HP.out.c0 HP.out.c1) rfl ?_
    exact ⟨_, rfl, ⟨_, rfl, IsU.nil _ _⟩, HP.out.bel⟩

end Go.Proofs.Ythdmfggcfkeenaa
