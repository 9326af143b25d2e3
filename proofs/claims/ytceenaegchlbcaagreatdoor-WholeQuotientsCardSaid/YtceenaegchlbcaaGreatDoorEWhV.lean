/-
  The document's own answer, layer 5: Down, Floor, Ceil, Exact. No conditions but bounds on lengths.
-/
import Derived.Deep.RegionHeld3
import Derived.Test.YtceenaegchlbcaaGreatDoorEWhU
import Derived.Test.YtceenaegchlbcaaGreatDoorERefQ
import Derived.Test.YtceenaegchlbcaaGreatDoorEW5G
namespace Go.Proofs.YtceenaegchlbcaaGreatDoor
open Go.RowKit
set_option linter.unusedVariables false
set_option linter.unusedSimpArgs false

/-- The document's words for a quotient rounded down. -/
theorem down_case {x y : Int} (hy : y ≠ 0) :
    (decide (x < 0) = decide (y < 0) ∧ rq x y true = ((x.natAbs / y.natAbs : Nat) : Int)) ∨
    (decide (x < 0) ≠ decide (y < 0) ∧ x.natAbs % y.natAbs = 0 ∧ rq x y true = -((x.natAbs / y.natAbs : Nat) : Int)) ∨
    (decide (x < 0) ≠ decide (y < 0) ∧ x.natAbs % y.natAbs ≠ 0 ∧ rq x y true = -((x.natAbs / y.natAbs + 1 : Nat) : Int)) := by
  by_cases hs : decide (x < 0) = decide (y < 0)
  · left
    refine ⟨hs, ?_⟩
    unfold rq tq
    rw [hs]
    simp
  · right
    have hb : (decide (x < 0) != decide (y < 0)) = true := by simpa using hs
    by_cases h0 : x.natAbs % y.natAbs = 0
    · left
      refine ⟨hs, h0, ?_⟩
      have hz : decide (0 < (limbs (x.natAbs % y.natAbs)).length) = false := decide_eq_false (by rw [len_pos]; omega)
      unfold rq tq
      rw [hz, if_neg hs]
      simp
    · right
      refine ⟨hs, h0, ?_⟩
      have hz : decide (0 < (limbs (x.natAbs % y.natAbs)).length) = true := decide_eq_true (by rw [len_pos]; omega)
      unfold rq tq
      rw [hz, hb, if_neg hs]
      simp
      omega
theorem nm_nat (n : Nat) : Nm (n : Int) false (limbs n) := ⟨(decide_eq_false (by omega)).symm, by rw [Int.natAbs_natCast]⟩
theorem nm_minus (n : Nat) : Nm (-(n : Int)) (decide (0 < (limbs n).length)) (limbs n) := by
  refine ⟨?_, by rw [Int.natAbs_neg, Int.natAbs_natCast]⟩
  rw [decide_eq_decide, len_pos]
  omega

theorem Nm.isN {x : Int} {s : Bool} {l : List Nat} (h : Nm x s l) {w : World} {Z : Zone} {A : Option Addr} {c : Nat} (hu : U64s w Z A c l) : IsN w Z (.slice A l.length c) x.natAbs := by
  obtain ⟨rfl, rfl⟩ := h
  exact ⟨A, c, rfl, hu⟩
theorem Nm.uniq {x : Int} {s t : Bool} {l k : List Nat} (h : Nm x s l) (h' : Nm x t k) : s = t ∧ l = k := ⟨h.1.trans h'.1.symm, h.2.trans h'.2.symm⟩


set_option maxRecDepth 100000 in
set_option maxHeartbeats 4000000 in
theorem r5down_n {w : World} {Z1 Z2 : Zone} {x y z : Int} {s t r : Bool} {l k m : List Nat} {A B : Option Addr} {c d : Nat} (h1 : Nm x s l) (h2 : Nm y t k) (h3 : Nm z r m) (hz : rq x y true = z) (hy : y ≠ 0) (hl : l.length ≤ 9000) (hl2 : k.length ≤ 9000) (u1 : U64s w Z1 A c l) (u2 : U64s w Z2 B d k) :
    Calls Tryz.prog 65 #[.agg #[.bool s, .slice A l.length c], .agg #[.bool t, .slice B k.length d]] w fun e w' => ∃ Av cv, e = .returned (.agg #[.bool r, .slice Av m.length cv]) ∧ U64s w' (new w.heap.size) Av cv m ∧ Below w.heap.size w w' := by
  obtain ⟨bA, bB, bR, hB0⟩ := boxes3 w (.bool s) (.slice A l.length c) (.bool t) (.slice B k.length d) (.bool false) (.slice none 0 0) 36
  have na := h1.isN (u1.below hB0)
  have nb := h2.isN (u2.below hB0)
  have la := h1.len
  have lb := h2.len
  have hov := over_good na nb (by omega) (by omega) (by omega)
  have hq1 : (limbs (x.natAbs / y.natAbs)).length ≤ 9000 := Nat.le_trans (len_mono (Nat.div_le_self _ _)) (by omega)
  have hcase := down_case (x := x) hy
  rw [hz, ← h1.1, ← h2.1] at hcase
  have hways : (s = t ∧ r = false ∧ m = limbs (x.natAbs / y.natAbs)) ∨
      (((s = true ∧ t = false) ∨ (s = false ∧ t = true)) ∧ x.natAbs % y.natAbs = 0 ∧ r = decide (0 < (limbs (x.natAbs / y.natAbs)).length) ∧ m = limbs (x.natAbs / y.natAbs)) ∨
      (((s = true ∧ t = false) ∨ (s = false ∧ t = true)) ∧ x.natAbs % y.natAbs ≠ 0 ∧ r = true ∧ m = limbs (x.natAbs / y.natAbs + 1)) := by
    have hne : s ≠ t → (s = true ∧ t = false) ∨ (s = false ∧ t = true) := by cases s <;> cases t <;> simp
    rcases hcase with ⟨e, h⟩ | ⟨e, h0, h⟩ | ⟨e, h0, h⟩
    · rw [h] at h3
      obtain ⟨g1, g2⟩ := h3.uniq (nm_nat _)
      exact .inl ⟨e, g1, g2⟩
    · rw [h] at h3
      obtain ⟨g1, g2⟩ := h3.uniq (nm_minus _)
      exact .inr (.inl ⟨hne e, h0, g1, g2⟩)
    · rw [h] at h3
      obtain ⟨g1, g2⟩ := h3.uniq (nm_minus _)
      rw [decide_eq_true (len_pos.2 (Nat.succ_ne_zero (x.natAbs / y.natAbs)))] at g1
      exact .inr (.inr ⟨hne e, h0, g1, g2⟩)
  obtain ⟨a0, a1, _, _, _⟩ := bA
  obtain ⟨b0, b1, _, _, _⟩ := bB
  have Hov := Lib.hid hov
  have HB0 := Lib.hid hB0
  clear hov hcase h1 h2 h3 hz hy hl hl2 u1 u2 na nb la lb
  generalize l.length = L at *
  generalize k.length = K at *
  generalize x.natAbs / y.natAbs = q at *
  generalize x.natAbs % y.natAbs = ρ at *
  rcases hways with ⟨rfl, rfl, rfl⟩ | ⟨hst, rfl, hr, rfl⟩ | ⟨hst, hr0, rfl, rfl⟩
  · go_enter Tryz.func65, Tryz.ntmps65
    go_wp2_with fail
    refine Hov.out.mono ?_
    rintro e w1 ⟨_, v2, rfl, ⟨Av, cv, rfl, hv⟩, ⟨Ar, cr, rfl, _⟩, hc1⟩
    replace a0 := keepC hc1 a0
    replace b0 := keepC hc1 b0
    have bR1 := bR.below hc1
    have hP := bR1.put (from_ HB0.out hc1) (by omega) (.bool false) (.slice Av (limbs q).length cv)
    have hu2 := hP.keep (by simp) (⟨Av, cv, rfl, hv⟩ : IsU w1 _ (.slice Av (limbs q).length cv) (limbs q))
    have Hu := Lib.hid hu2
    have HP := Lib.hid hP
    obtain ⟨q0, q1, f0, f1, _⟩ := bR1
    clear hv hu2 hP bR HB0 a1 b1
    go_wp2
    refine bodyPost_ret (res_int rfl _ (w.heap.size + 2) rfl HP.out.c0 HP.out.c1) rfl ?_
    obtain ⟨A', c', e', hu⟩ := Hu.out
    injection e' with e1 _ e3
    subst e1 e3
    exact ⟨_, _, rfl, hu, HP.out.bel⟩
  · have e0 : limbs 0 = [] := limbs_eq_nil.2 rfl
    obtain ⟨D, hD⟩ : ∃ D, D = decide (0 < (limbs q).length) := ⟨_, rfl⟩
    have hdi : decide ((0 : Int) < ((limbs q).length : Int)) = D := by rw [hD]; exact decide_eq_decide.2 (by omega)
    have hdi2 : decide (0 < (limbs q).length) = D := hD.symm
    rw [← hD] at hr
    subst hr
    clear hD
    cases r
    all_goals
     rcases hst with ⟨rfl, rfl⟩ | ⟨rfl, rfl⟩
     all_goals
      go_enter Tryz.func65, Tryz.ntmps65
      go_wp2_with fail
      refine Hov.out.mono ?_
      rintro e w1 ⟨_, v2, rfl, ⟨Av, cv, rfl, hv⟩, ⟨Ar, cr, rfl, _⟩, hc1⟩
      rw [e0]
      replace a0 := keepC hc1 a0
      replace b0 := keepC hc1 b0
      have bR1 := bR.below hc1
      have hP := fun sz => bR1.put (from_ HB0.out hc1) (by omega) (.bool sz) (.slice Av (limbs q).length cv)
      have hu2 := fun sz => (hP sz).keep (by simp) (⟨Av, cv, rfl, hv⟩ : IsU w1 _ (.slice Av (limbs q).length cv) (limbs q))
      have Hu := Lib.hid hu2
      have HP := Lib.hid hP
      obtain ⟨q0, q1, f0, f1, _⟩ := bR1
      clear hv hu2 hP bR HB0 a1 b1
      go_wp2
      refine bodyPost_ret (res_int rfl _ (w.heap.size + 2) rfl (HP.out _).c0 (HP.out _).c1) rfl ?_
      obtain ⟨A', c', e', hu⟩ := Hu.out _
      injection e' with e1 _ e3
      subst e1 e3
      exact ⟨_, _, rfl, hu, (HP.out _).bel⟩
  · have hpos := len_pos.2 hr0
    have hdr : decide ((0 : Int) < ((limbs ρ).length : Int)) = true := decide_eq_true (by omega)
    have hpq := len_pos.2 (show q + 1 ≠ 0 by omega)
    have hdq : decide ((0 : Int) < ((limbs (q + 1)).length : Int)) = true := decide_eq_true (by omega)
    have HQ1 := Lib.hid hq1
    clear hq1 hr0
    rcases hst with ⟨rfl, rfl⟩ | ⟨rfl, rfl⟩
    all_goals
      go_enter Tryz.func65, Tryz.ntmps65
      go_wp2_with fail
      refine Hov.out.mono ?_
      rintro e w1 ⟨_, v2, rfl, hq, ⟨Ar, cr, rfl, _⟩, hc1⟩
      replace a0 := keepC hc1 a0
      replace b0 := keepC hc1 b0
      have bR1 := bR.below hc1
      have hB1 := from_ HB0.out hc1
      have hal : Below w1.heap.size w1 (w1.alloc (.cells #[.int .u64 1] 68)) := (Below.refl _ w1).alloc (Nat.le_refl _) _
      have h1 : IsN (w1.alloc (.cells #[.int .u64 1] 68)) old (.slice (some ⟨w1.heap.size, 0, none⟩) 1 1) 1 := isN_one (by omega) (by omega) (cell_newest rfl rfl)
      have hsm := Lib.hid (sum1_good (hq.below hal) h1 (by have := HQ1.out; omega) (by decide +kernel))
      have Hal := Lib.hid hal
      have hsz := bR1.lt
      obtain ⟨Av, cv, rfl, hq⟩ := hq
      clear h1 hal hq bR
      go_wp2_with fail
      refine hsm.out.mono ?_
      rintro e w2 ⟨_, rfl, ⟨Av, cv, rfl, hv⟩, hc2⟩
      have hs2 := step Hal.out hc2
      have bR2 := bR1.below hs2
      have hP := bR2.put (from_ hB1 hs2) (by omega) (.bool true) (.slice Av (limbs (q + 1)).length cv)
      have hu2 := hP.keep (by simp; omega) (⟨Av, cv, rfl, hv⟩ : IsU w2 _ (.slice Av (limbs (q + 1)).length cv) (limbs (q + 1)))
      have Hu := Lib.hid hu2
      have HP := Lib.hid hP
      obtain ⟨q0, q1, f0, f1, _⟩ := bR2
      clear hv hu2 hP HB0 a1 b1 bR1 hB1 hs2 hc2 Hal hc1
      go_wp2
      refine bodyPost_ret (res_int rfl _ (w.heap.size + 2) rfl HP.out.c0 HP.out.c1) rfl ?_
      obtain ⟨A', c', e', hu⟩ := Hu.out
      injection e' with e1 _ e3
      subst e1 e3
      exact ⟨_, _, rfl, hu, HP.out.bel⟩



theorem two_err {s t : Bool} {l k : List Nat} (h : ¬ (okI s l = true ∧ okI t k = true)) : errO s l t k = 8 := by unfold errO; rw [if_neg h]
theorem two_ok {s t : Bool} {l k : List Nat} (h : okI s l = true ∧ okI t k = true) : errO s l t k = 0 := by unfold errO; rw [if_pos h]
theorem nm_len {x : Int} {s : Bool} {l : List Nat} (h : Nm x s l) (n : Nat) (hl : l.length ≤ n) : (limbs x.natAbs).length ≤ n := by rw [← h.len]; exact hl

theorem r5turned_v {w : World} {Z1 : Zone} {x z : Int} {s r : Bool} {l m : List Nat} {A : Option Addr} {c : Nat} (h1 : Nm x s l) (h3 : Nm z r m) (hz : -x = z) (hl : l.length ≤ 10000) (u1 : U64s w Z1 A c l) :
    Calls Tryz.prog 66 #[.agg #[.bool s, .slice A l.length c]] w fun e w' => ∃ Av cv, e = .returned (.agg #[.bool r, .slice Av m.length cv]) ∧ U64s w' (new w.heap.size) Av cv m ∧ Below w.heap.size w w' := by
  subst hz
  refine (r5turned_good (h1.isZ u1) (nm_len h1 _ hl)).mono ?_
  rintro e w' ⟨Bv, dv, rfl, hv, hb⟩
  obtain ⟨Av, cv, e2, hu⟩ := h3.of hv
  rw [e2]
  exact ⟨Av, cv, rfl, hu, hb⟩
theorem r5times_v {w : World} {Z1 Z2 : Zone} {x y z : Int} {s t r : Bool} {l k m : List Nat} {A B : Option Addr} {c d : Nat} (h1 : Nm x s l) (h2 : Nm y t k) (h3 : Nm z r m) (hz : x * y = z) (hl : l.length ≤ 90000) (hl2 : k.length ≤ 90000) (u1 : U64s w Z1 A c l) (u2 : U64s w Z2 B d k) :
    Calls Tryz.prog 69 #[.agg #[.bool s, .slice A l.length c], .agg #[.bool t, .slice B k.length d]] w fun e w' => ∃ Av cv, e = .returned (.agg #[.bool r, .slice Av m.length cv]) ∧ U64s w' (new w.heap.size) Av cv m ∧ Below w.heap.size w w' := by
  have o1 : okI s l = true := by obtain ⟨rfl, rfl⟩ := h1; exact IsZ.ok x
  have o2 : okI t k = true := by obtain ⟨rfl, rfl⟩ := h2; exact IsZ.ok y
  have e1 : zof s l = x := by
    have n1 := Nm.ok o1 u1.small
    have h4 : decide (zof s l < 0) = decide (x < 0) := n1.1.symm.trans h1.1
    have h5 : (zof s l).natAbs = x.natAbs := limbs_inj (n1.2.symm.trans h1.2)
    have h6 := decide_eq_decide.1 h4
    omega
  have e2 : zof t k = y := by
    have n1 := Nm.ok o2 u2.small
    have h4 : decide (zof t k < 0) = decide (y < 0) := n1.1.symm.trans h2.1
    have h5 : (zof t k).natAbs = y.natAbs := limbs_inj (n1.2.symm.trans h2.2)
    have h6 := decide_eq_decide.1 h4
    omega
  refine (r5times_good ⟨_, rfl, A, c, rfl, u1⟩ ⟨_, rfl, B, d, rfl, u2⟩ o1 o2 hl hl2).mono ?_
  rintro e w' ⟨v, rfl, hv, hb⟩
  rw [e1, e2, hz] at hv
  obtain ⟨Av, cv, rfl, hu⟩ := h3.of hv
  exact ⟨Av, cv, rfl, hu, hb⟩
theorem r5compared_w {w : World} {Z1 Z2 : Zone} {x y g : Int} {s t : Bool} {l k : List Nat} {A B : Option Addr} {c d : Nat} (h1 : Nm x s l) (h2 : Nm y t k) (hg : sgn (x - y) = g) (hl : l.length ≤ 9000) (hl2 : k.length ≤ 9000) (u1 : U64s w Z1 A c l) (u2 : U64s w Z2 B d k) :
    Calls Tryz.prog 68 #[.agg #[.bool s, .slice A l.length c], .agg #[.bool t, .slice B k.length d]] w fun e w' => e = .returned (.int .i64 g) ∧ Below w.heap.size w w' := by
  subst hg
  exact r5compared_good (h1.isZ u1) (h2.isZ u2) (nm_len h1 _ hl) (nm_len h2 _ hl2)

set_option maxRecDepth 100000 in
set_option maxHeartbeats 4000000 in
theorem r5floor_any {w : World} {Z1 Z2 : Zone} {s t : Bool} {l k : List Nat} {A B : Option Addr} {c d : Nat} (u1 : U64s w Z1 A c l) (u2 : U64s w Z2 B d k) (hl : l.length ≤ 4000) (hl2 : k.length ≤ 4000) :
    Calls Tryz.prog 12 #[.agg #[.bool s, .slice A l.length c], .agg #[.bool t, .slice B k.length d]] w fun e w' => ∃ Av cv, e = .returned (.tuple #[.agg #[.bool (flS true s l t k), .slice Av (flL true s l t k).length cv], .int .i64 (flE s l t k)]) ∧ U64s w' (new w.heap.size) Av cv (flL true s l t k) ∧ Below w.heap.size w w' := by
  obtain ⟨bA, bB, bR, hB0⟩ := boxes3 w (.bool s) (.slice A l.length c) (.bool t) (.slice B k.length d) (.bool false) (.slice none 0 0) 36
  have ia : IsI w Z1 (.agg #[.bool s, .slice A l.length c]) s l := ⟨_, rfl, A, c, rfl, u1⟩
  have ib : IsI w Z2 (.agg #[.bool t, .slice B k.length d]) t k := ⟨_, rfl, B, d, rfl, u2⟩
  have htwo := r5two_all (ia.below hB0) (ib.below hB0)
  obtain ⟨a0, a1, _, _, _⟩ := bA
  obtain ⟨b0, b1, _, _, _⟩ := bB
  have eS : flS true s l t k = if flE s l t k = 0 then decide (rq (zof s l) (zof t k) true < 0) else false := rfl
  have eL : flL true s l t k = if flE s l t k = 0 then limbs (rq (zof s l) (zof t k) true).natAbs else [] := rfl
  rcases fl_case (s := s) (t := t) u1.small u2.small with ⟨h, e⟩ | ⟨h, rfl, rfl, e⟩ | ⟨e, hy, n1, n2⟩
  · rw [e, if_neg (by omega)] at eS eL
    rw [e, eS, eL]
    rw [two_err h] at htwo
    have Ht := Lib.hid htwo
    clear htwo h e eS eL ia ib u1 u2 hl hl2
    generalize l.length = L at *
    generalize k.length = K at *
    go_enter Tryz.func12, Tryz.ntmps12
    go_wp2_with fail
    refine Ht.out.mono ?_
    rintro e w1 ⟨rfl, hc1⟩
    have bR1 := bR.below hc1
    have hP := bR1.put (from_ hB0 hc1) (by omega) (.bool false) (.slice none 0 0)
    have HP := Lib.hid hP
    obtain ⟨q0, q1, f0, f1, _⟩ := bR1
    clear hP bR hB0
    go_wp2
    refine bodyPost_ret (res_int2 rfl _ (w.heap.size + 2) rfl HP.out.c0 HP.out.c1) rfl ?_
    exact ⟨none, 0, rfl, U64s.nil _ _, HP.out.bel⟩
  · rw [e, if_neg (by omega)] at eS eL
    rw [e, eS, eL]
    rw [two_ok ⟨h, rfl⟩] at htwo
    have Ht := Lib.hid htwo
    clear htwo h e eS eL ia ib u1 u2 hl hl2
    generalize l.length = L at *
    go_enter Tryz.func12, Tryz.ntmps12
    go_wp2_with fail
    refine Ht.out.mono ?_
    rintro e w1 ⟨rfl, hc1⟩
    replace b1 := keepC hc1 b1
    have bR1 := bR.below hc1
    have hP := bR1.put (from_ hB0 hc1) (by omega) (.bool false) (.slice none 0 0)
    have HP := Lib.hid hP
    obtain ⟨q0, q1, f0, f1, _⟩ := bR1
    clear hP bR hB0
    go_wp2
    refine bodyPost_ret (res_int2 rfl _ (w.heap.size + 2) rfl HP.out.c0 HP.out.c1) rfl ?_
    exact ⟨none, 0, rfl, U64s.nil _ _, HP.out.bel⟩
  · have hok : okI s l = true ∧ okI t k = true := by
      unfold flE at e
      split at e
      · assumption
      · omega
    rw [e, if_pos rfl] at eS eL
    rw [e, eS, eL]
    rw [two_ok hok] at htwo
    have hk : 0 < k.length := by rw [n2.2]; exact len_pos.2 (by omega)
    have hk2 : ((k.length : Int) == 0) = false := beq_eq_false_iff_ne.2 (by omega)
    have hk3 : decide (k.length = 0) = false := decide_eq_false (by omega)
    have hD := fun (W : World) (h : Below w.heap.size w W) => r5down_n n1 n2 (Nm.mk' (rq (zof s l) (zof t k) true)) rfl hy (by omega) (by omega) (u1.below h) (u2.below h)
    generalize decide (rq (zof s l) (zof t k) true < 0) = r at *
    generalize limbs (rq (zof s l) (zof t k) true).natAbs = m at *
    have Ht := Lib.hid htwo
    have HD := Lib.hid hD
    clear htwo hD hok e eS eL ia ib u1 u2 hl hl2 n1 n2 hy hk
    generalize l.length = L at *
    generalize k.length = K at *
    go_enter Tryz.func12, Tryz.ntmps12
    go_wp2_with fail
    refine Ht.out.mono ?_
    rintro e w1 ⟨rfl, hc1⟩
    replace a0 := keepC hc1 a0
    replace a1 := keepC hc1 a1
    replace b0 := keepC hc1 b0
    replace b1 := keepC hc1 b1
    have bR1 := bR.below hc1
    have hB1 := from_ hB0 hc1
    clear bR hB0 hc1 Ht
    go_wp2_with fail
    refine (HD.out _ hB1).mono ?_
    rintro e w2 ⟨Av, cv, rfl, hv, hc2⟩
    have bR2 := bR1.below hc2
    have hP := bR2.put (from_ hB1 hc2) (by omega) (.bool r) (.slice Av m.length cv)
    have hlt := bR1.lt
    have hu2 := hP.keep (by omega) (⟨Av, cv, rfl, hv⟩ : IsU w2 _ (.slice Av m.length cv) m)
    have Hu := Lib.hid hu2
    have HP := Lib.hid hP
    obtain ⟨q0, q1, f0, f1, _⟩ := bR2
    clear hv hu2 hP bR1 hB1 hlt hc2 HD
    go_wp2
    refine bodyPost_ret (res_int2 rfl _ (w.heap.size + 2) rfl HP.out.c0 HP.out.c1) rfl ?_
    obtain ⟨A', c', e', hu⟩ := Hu.out
    injection e' with e1 _ e3
    subst e1 e3
    exact ⟨_, _, rfl, hu, HP.out.bel⟩

set_option maxRecDepth 100000 in
set_option maxHeartbeats 4000000 in
theorem r5ceil_any {w : World} {Z1 Z2 : Zone} {s t : Bool} {l k : List Nat} {A B : Option Addr} {c d : Nat} (u1 : U64s w Z1 A c l) (u2 : U64s w Z2 B d k) (hl : l.length ≤ 4000) (hl2 : k.length ≤ 4000) :
    Calls Tryz.prog 14 #[.agg #[.bool s, .slice A l.length c], .agg #[.bool t, .slice B k.length d]] w fun e w' => ∃ Av cv, e = .returned (.tuple #[.agg #[.bool (flS false s l t k), .slice Av (flL false s l t k).length cv], .int .i64 (flE s l t k)]) ∧ U64s w' (new w.heap.size) Av cv (flL false s l t k) ∧ Below w.heap.size w w' := by
  obtain ⟨bA, bB, bR, hB0⟩ := boxes3 w (.bool s) (.slice A l.length c) (.bool t) (.slice B k.length d) (.bool false) (.slice none 0 0) 36
  have ia : IsI w Z1 (.agg #[.bool s, .slice A l.length c]) s l := ⟨_, rfl, A, c, rfl, u1⟩
  have ib : IsI w Z2 (.agg #[.bool t, .slice B k.length d]) t k := ⟨_, rfl, B, d, rfl, u2⟩
  have htwo := r5two_all (ia.below hB0) (ib.below hB0)
  obtain ⟨a0, a1, _, _, _⟩ := bA
  obtain ⟨b0, b1, _, _, _⟩ := bB
  have eS : flS false s l t k = if flE s l t k = 0 then decide (rq (zof s l) (zof t k) false < 0) else false := rfl
  have eL : flL false s l t k = if flE s l t k = 0 then limbs (rq (zof s l) (zof t k) false).natAbs else [] := rfl
  rcases fl_case (s := s) (t := t) u1.small u2.small with ⟨h, e⟩ | ⟨h, rfl, rfl, e⟩ | ⟨e, hy, n1, n2⟩
  · rw [e, if_neg (by omega)] at eS eL
    rw [e, eS, eL]
    rw [two_err h] at htwo
    have Ht := Lib.hid htwo
    clear htwo h e eS eL ia ib u1 u2 hl hl2
    generalize l.length = L at *
    generalize k.length = K at *
    go_enter Tryz.func14, Tryz.ntmps14
    go_wp2_with fail
    refine Ht.out.mono ?_
    rintro e w1 ⟨rfl, hc1⟩
    have bR1 := bR.below hc1
    have hP := bR1.put (from_ hB0 hc1) (by omega) (.bool false) (.slice none 0 0)
    have HP := Lib.hid hP
    obtain ⟨q0, q1, f0, f1, _⟩ := bR1
    clear hP bR hB0
    go_wp2
    refine bodyPost_ret (res_int2 rfl _ (w.heap.size + 2) rfl HP.out.c0 HP.out.c1) rfl ?_
    exact ⟨none, 0, rfl, U64s.nil _ _, HP.out.bel⟩
  · rw [e, if_neg (by omega)] at eS eL
    rw [e, eS, eL]
    rw [two_ok ⟨h, rfl⟩] at htwo
    have Ht := Lib.hid htwo
    clear htwo h e eS eL ia ib u1 u2 hl hl2
    generalize l.length = L at *
    go_enter Tryz.func14, Tryz.ntmps14
    go_wp2_with fail
    refine Ht.out.mono ?_
    rintro e w1 ⟨rfl, hc1⟩
    replace b1 := keepC hc1 b1
    have bR1 := bR.below hc1
    have hP := bR1.put (from_ hB0 hc1) (by omega) (.bool false) (.slice none 0 0)
    have HP := Lib.hid hP
    obtain ⟨q0, q1, f0, f1, _⟩ := bR1
    clear hP bR hB0
    go_wp2
    refine bodyPost_ret (res_int2 rfl _ (w.heap.size + 2) rfl HP.out.c0 HP.out.c1) rfl ?_
    exact ⟨none, 0, rfl, U64s.nil _ _, HP.out.bel⟩
  · have hok : okI s l = true ∧ okI t k = true := by
      unfold flE at e
      split at e
      · assumption
      · omega
    rw [e, if_pos rfl] at eS eL
    rw [e, eS, eL]
    rw [two_ok hok] at htwo
    have hk : 0 < k.length := by rw [n2.2]; exact len_pos.2 (by omega)
    have hk2 : ((k.length : Int) == 0) = false := beq_eq_false_iff_ne.2 (by omega)
    have hk3 : decide (k.length = 0) = false := decide_eq_false (by omega)
    have hneg : -(rq (-(zof s l)) (zof t k) true) = rq (zof s l) (zof t k) false := by
      rcases rounds_plain (x := zof s l) hy with ⟨_, _, h1, h2, _⟩ | ⟨_, _, h1, h2, _⟩
      · rw [h1, h2]
      · rw [h1, h2]
    obtain ⟨sn, ln, nn⟩ : ∃ s' l', Nm (-(zof s l)) s' l' := ⟨_, _, Nm.mk' _⟩
    obtain ⟨sq, lq, nq⟩ : ∃ s' l', Nm (rq (-(zof s l)) (zof t k) true) s' l' := ⟨_, _, Nm.mk' _⟩
    have hln : ln.length ≤ 9000 := by rw [nn.len, Int.natAbs_neg, ← n1.len]; omega
    have hlq : lq.length ≤ 10000 := by
      rw [nq.len]
      have := len_rq (-(zof s l)) (zof t k) true
      rw [Int.natAbs_neg, ← n1.len] at this
      omega
    have hT1 := fun (W : World) (h : Below w.heap.size w W) => r5turned_v n1 nn rfl (by omega) (u1.below h)
    have hD := fun (W : World) (Z : Zone) (An : Option Addr) (cn : Nat) (h : Below w.heap.size w W) (hu : U64s W Z An cn ln) => r5down_n nn n2 nq rfl hy hln (by omega) hu (u2.below h)
    have hT2 := fun (W : World) (Z : Zone) (Aq : Option Addr) (cq : Nat) (hu : U64s W Z Aq cq lq) => r5turned_v nq (Nm.mk' (rq (zof s l) (zof t k) false)) hneg hlq hu
    generalize decide (rq (zof s l) (zof t k) false < 0) = r at *
    generalize limbs (rq (zof s l) (zof t k) false).natAbs = m at *
    have Ht := Lib.hid htwo
    have HD := Lib.hid hD
    have HT1 := Lib.hid hT1
    have HT2 := Lib.hid hT2
    clear htwo hD hT1 hT2 hok e eS eL ia ib u1 u2 hl hl2 n1 n2 nn nq hy hk hneg hln hlq
    generalize l.length = L at *
    generalize k.length = K at *
    go_enter Tryz.func14, Tryz.ntmps14
    go_wp2_with fail
    refine Ht.out.mono ?_
    rintro e w1 ⟨rfl, hc1⟩
    replace b1 := keepC hc1 b1
    have hs := And.intro (keepC (Below.refl _ w1).drew (keepC hc1 a0)) (And.intro (keepC (Below.refl _ w1).drew (keepC hc1 a1)) (And.intro (keepC (Below.refl _ w1).drew (keepC hc1 b0)) (keepC (Below.refl _ w1).drew b1)))
    have bR1 := Lib.hid ((bR.below hc1).below (W' := w1.drew) ((Below.refl _ _).drew))
    have HB1 := Lib.hid ((from_ hB0 hc1).drew)
    have Hlt := Lib.hid bR1.out.lt
    clear bR hB0 hc1 Ht a0 a1 b0
    go_wp2
    go_region_held3 (fun w' => w'.cell? ⟨w.heap.size, 0, none⟩ = some (.bool s) ∧ w'.cell? ⟨w.heap.size, 1, none⟩ = some (.slice A L c) ∧ w'.cell? ⟨w.heap.size + 1, 0, none⟩ = some (.bool t) ∧ w'.cell? ⟨w.heap.size + 1, 1, none⟩ = some (.slice B K d))
      (first
        | with_reducible exact hs
        | exact ⟨st hs.1 (by omega), st hs.2.1 (by omega), st hs.2.2.1 (by omega), st hs.2.2.2 (by omega)⟩)
      (first
        | (go_at_call 66; with_reducible refine (HT1.out _ HB1.out).mono ?_; rintro e w2 ⟨An, cn, rfl, un, hc⟩; replace hs := And.intro (keepC hc hs.1) (And.intro (keepC hc hs.2.1) (And.intro (keepC hc hs.2.2.1) (keepC hc hs.2.2.2))); have HB2 := Lib.hid (from_ HB1.out hc); have bR2 := Lib.hid (bR1.out.below hc))
        | (go_at_call 65; with_reducible refine (HD.out _ _ _ _ HB2.out un).mono ?_; rintro e w3 ⟨Aq, cq, rfl, uq, hc⟩; replace hs := And.intro (keepC hc hs.1) (And.intro (keepC hc hs.2.1) (And.intro (keepC hc hs.2.2.1) (keepC hc hs.2.2.2))); have HB3 := Lib.hid (from_ HB2.out hc); have bR3 := Lib.hid (bR2.out.below hc))
        | (go_at_call 66; with_reducible refine (HT2.out _ _ _ _ uq).mono ?_; rintro e w4 ⟨Av, cv, rfl, uv, hc⟩; replace hs := And.intro (keepC hc hs.1) (And.intro (keepC hc hs.2.1) (And.intro (keepC hc hs.2.2.1) (keepC hc hs.2.2.2))); have HB4 := Lib.hid (from_ HB3.out hc); have Hl3 := Lib.hid bR3.out.lt; have bR4 := Lib.hid (bR3.out.below hc); obtain ⟨q0, q1, f0, f1, _⟩ := id bR4.out))
    all_goals
      have hP := bR4.out.put HB4.out (by omega) (.bool r) (.slice Av m.length cv)
      have hu2 := hP.keep (by have := Hl3.out; omega) (⟨Av, cv, rfl, uv⟩ : IsU w4 _ (.slice Av m.length cv) m)
      have Hu := Lib.hid hu2
      have HP := Lib.hid hP
      clear uv hu2 hP
      go_wp2
      refine bodyPost_ret (res_int2 rfl _ (w.heap.size + 2) rfl HP.out.c0 HP.out.c1) rfl ?_
      obtain ⟨A', c', e', hu⟩ := Hu.out
      injection e' with e1 _ e3
      subst e1 e3
      exact ⟨_, _, rfl, hu, HP.out.bel⟩

set_option maxRecDepth 100000 in
set_option maxHeartbeats 4000000 in
theorem r5exact_any {w : World} {Z1 Z2 : Zone} {s t : Bool} {l k : List Nat} {A B : Option Addr} {c d : Nat} (u1 : U64s w Z1 A c l) (u2 : U64s w Z2 B d k) (hl : l.length ≤ 4000) (hl2 : k.length ≤ 4000) :
    Calls Tryz.prog 16 #[.agg #[.bool s, .slice A l.length c], .agg #[.bool t, .slice B k.length d]] w fun e w' => ∃ Av cv, e = .returned (.tuple #[.agg #[.bool (wxS s l t k), .slice Av (wxL s l t k).length cv], .int .i64 (wxE s l t k)]) ∧ U64s w' (new w.heap.size) Av cv (wxL s l t k) ∧ Below w.heap.size w w' := by
  obtain ⟨bA, bB, bR, hB0⟩ := boxes3 w (.bool s) (.slice A l.length c) (.bool t) (.slice B k.length d) (.bool false) (.slice none 0 0) 36
  have ia : IsI w Z1 (.agg #[.bool s, .slice A l.length c]) s l := ⟨_, rfl, A, c, rfl, u1⟩
  have ib : IsI w Z2 (.agg #[.bool t, .slice B k.length d]) t k := ⟨_, rfl, B, d, rfl, u2⟩
  obtain ⟨a0, a1, _, _, _⟩ := bA
  obtain ⟨b0, b1, _, _, _⟩ := bB
  have eS : wxS s l t k = if wxE s l t k = 0 then decide (rq (zof s l) (zof t k) true < 0) else false := rfl
  have eL : wxL s l t k = if wxE s l t k = 0 then limbs (rq (zof s l) (zof t k) true).natAbs else [] := rfl
  have eE : wxE s l t k = if flE s l t k = 0 then (if (zof s l).natAbs % (zof t k).natAbs = 0 then 0 else 6) else flE s l t k := rfl
  have hF := fun (W : World) (h : Below w.heap.size w W) => r5floor_any (s := s) (t := t) (u1.below h) (u2.below h) hl hl2
  have hbad : flE s l t k ≠ 0 → wxE s l t k = flE s l t k ∧ flS true s l t k = false ∧ flL true s l t k = [] := fun h => ⟨by rw [eE, if_neg h], if_neg h, if_neg h⟩
  by_cases e : flE s l t k = 0
  · rcases fl_case (s := s) (t := t) u1.small u2.small with ⟨h, e8⟩ | ⟨h, rfl, rfl, e30⟩ | ⟨_, hy, n1, n2⟩
    · omega
    · omega
    rw [e, if_pos rfl] at eE
    have fS : flS true s l t k = decide (rq (zof s l) (zof t k) true < 0) := if_pos e
    have fL : flL true s l t k = limbs (rq (zof s l) (zof t k) true).natAbs := if_pos e
    rw [e, fS, fL] at hF
    have nq := Nm.mk' (rq (zof s l) (zof t k) true)
    have hlq : (limbs (rq (zof s l) (zof t k) true).natAbs).length ≤ 4001 := by
      have := len_rq (zof s l) (zof t k) true
      rw [← n1.len] at this
      omega
    obtain ⟨sp, lp, np⟩ : ∃ s' l', Nm (rq (zof s l) (zof t k) true * zof t k) s' l' := ⟨_, _, Nm.mk' _⟩
    have hlp : lp.length ≤ 9000 := by
      rw [np.len]
      have := lz_mul (rq (zof s l) (zof t k) true) (zof t k)
      rw [← n2.len] at this
      omega
    have hTm := fun (W : World) (Z : Zone) (Aq : Option Addr) (cq : Nat) (h : Below w.heap.size w W) (hu : U64s W Z Aq cq (limbs (rq (zof s l) (zof t k) true).natAbs)) => r5times_v nq n2 np rfl (by omega) (by omega) hu (u2.below h)
    have hC := fun (W : World) (Z : Zone) (Ap : Option Addr) (cp : Nat) (h : Below w.heap.size w W) (hu : U64s W Z Ap cp lp) => r5compared_w np n1 rfl hlp (by omega) hu (u1.below h)
    obtain ⟨g, hg⟩ : ∃ g, g = sgn (rq (zof s l) (zof t k) true * zof t k - zof s l) := ⟨_, rfl⟩
    rw [← hg] at hC
    have hgg : ((zof s l).natAbs % (zof t k).natAbs = 0 ∧ g = 0) ∨ ((zof s l).natAbs % (zof t k).natAbs ≠ 0 ∧ (g != 0) = true) := by
      rcases rounds_plain (x := zof s l) hy with ⟨h0, h1, _⟩ | ⟨h0, h1, _⟩
      · left
        refine ⟨h0, ?_⟩
        rw [hg, show rq (zof s l) (zof t k) true * zof t k - zof s l = 0 by omega]
        rfl
      · right
        refine ⟨h0, ?_⟩
        have h2 : zof s l - rq (zof s l) (zof t k) true * zof t k ≠ 0 := fun h3 => by
          rw [h3] at h1
          unfold sgn at h1
          rw [if_pos rfl, if_neg hy] at h1
          split at h1 <;> omega
        have h4 : g ≠ 0 := by
          rw [hg]
          unfold sgn
          rw [if_neg (by omega)]
          split <;> omega
        simpa using h4
    have hsm : Hid (∀ (W : World) (Aq : Option Addr) (cq : Nat), U64s W (new w.heap.size) Aq cq (limbs (rq (zof s l) (zof t k) true).natAbs) → True) := fun _ _ _ _ => trivial
    generalize decide (rq (zof s l) (zof t k) true < 0) = r at *
    generalize limbs (rq (zof s l) (zof t k) true).natAbs = m at *
    have HF := Lib.hid hF
    have HTm := Lib.hid hTm
    have HC := Lib.hid hC
    clear hF hTm hC hg hbad e fS fL ia ib u1 u2 hl hl2 n1 n2 np nq hy hlq hlp hsm
    rcases hgg with ⟨h0, rfl⟩ | ⟨h0, hgn⟩
    · rw [if_pos h0] at eE
      rw [eE, if_pos rfl] at eS eL
      rw [eE, eS, eL]
      clear eE eS eL h0
      generalize l.length = L at *
      generalize k.length = K at *
      generalize hM : m.length = M at *
      have HM := Lib.hid hM
      clear hM
      go_enter Tryz.func16, Tryz.ntmps16
      go_wp2_with fail
      refine (HF.out _ hB0).mono ?_
      rintro e w1 ⟨Aq, cq, rfl, uq, hc1⟩
      have hal : Below w1.heap.size w1 (w1.alloc (.cells #[.bool r, .slice Aq M cq] 36)) := (Below.refl _ _).alloc (Nat.le_refl _) _
      obtain ⟨x0, x1, _, _, _⟩ := Box.new w1 (.bool r) (.slice Aq M cq) 36
      have hall := from_ hc1 hal
      have hdr := hall.drew
      have hs := And.intro (keepC hdr a0) (And.intro (keepC hdr a1) (And.intro (keepC hdr b0) (And.intro (keepC hdr b1) (And.intro (keepC (Below.refl _ (w1.alloc (.cells #[.bool r, .slice Aq M cq] 36))).drew x0) (keepC (Below.refl _ (w1.alloc (.cells #[.bool r, .slice Aq M cq] 36))).drew x1)))))
      have HB1 := Lib.hid (from_ hB0 hdr)
      have bR1 := Lib.hid (bR.below hdr)
      have Hne := Lib.hid (show ¬ (w1.heap.size = w.heap.size + 2) from by have := (bR.below hc1).lt; omega)
      replace uq := uq.below (hal.drew)
      have Hlt := Lib.hid (bR.lt)
      clear bR hB0 hc1 hal hall hdr a0 a1 b0 b1 x0 x1
      go_wp2
      go_region_held3 (fun w' => w'.cell? ⟨w.heap.size, 0, none⟩ = some (.bool s) ∧ w'.cell? ⟨w.heap.size, 1, none⟩ = some (.slice A L c) ∧ w'.cell? ⟨w.heap.size + 1, 0, none⟩ = some (.bool t) ∧ w'.cell? ⟨w.heap.size + 1, 1, none⟩ = some (.slice B K d) ∧ w'.cell? ⟨w1.heap.size, 0, none⟩ = some (.bool r) ∧ w'.cell? ⟨w1.heap.size, 1, none⟩ = some (.slice Aq M cq))
        (first
          | with_reducible exact hs)
        (first
          | (go_at_call 69; refine (HTm.out _ _ _ _ HB1.out uq).mono ?_; rintro e w2 ⟨Ap, cp, rfl, up, hc⟩; replace hs := And.intro (keepC hc hs.1) (And.intro (keepC hc hs.2.1) (And.intro (keepC hc hs.2.2.1) (And.intro (keepC hc hs.2.2.2.1) (And.intro (keepC hc hs.2.2.2.2.1) (keepC hc hs.2.2.2.2.2))))); have HB2 := Lib.hid (from_ HB1.out hc); have bR2 := Lib.hid (bR1.out.below hc); have uq2 := uq.below hc)
          | (go_at_call 68; refine (HC.out _ _ _ _ HB2.out up).mono ?_; rintro e w3 ⟨rfl, hc⟩; replace hs := And.intro (keepC hc hs.1) (And.intro (keepC hc hs.2.1) (And.intro (keepC hc hs.2.2.1) (And.intro (keepC hc hs.2.2.2.1) (And.intro (keepC hc hs.2.2.2.2.1) (keepC hc hs.2.2.2.2.2))))); have HB3 := Lib.hid (from_ HB2.out hc); have bR3 := Lib.hid (bR2.out.below hc); have uq3 := Lib.hid (uq2.below hc)))
      all_goals
        obtain ⟨q0, q1, f0, f1, _⟩ := id bR3.out
        have hP := bR3.out.put HB3.out (by omega) (.bool r) (.slice Aq M cq)
        have HP := Lib.hid hP
        have hu2 := hP.keep (by have := Hlt.out; omega) (⟨Aq, cq, by rw [HM.out], uq3.out⟩ : IsU w3 _ (.slice Aq M cq) m)
        have Hu := Lib.hid hu2
        obtain ⟨-, -, -, -, x0, x1⟩ := hs
        clear hP hu2 uq up uq2
        go_wp2
        refine bodyPost_ret (res_int2 rfl _ (w.heap.size + 2) rfl HP.out.c0 HP.out.c1) rfl ?_
        obtain ⟨A', c', e', hu⟩ := Hu.out
        injection e' with e1 e2 e3
        subst e1 e3
        exact ⟨_, _, rfl, hu, HP.out.bel⟩
    · rw [if_neg h0] at eE
      rw [eE, if_neg (by omega)] at eS eL
      rw [eE, eS, eL]
      clear eE eS eL h0
      generalize l.length = L at *
      generalize k.length = K at *
      generalize hM : m.length = M at *
      have HM := Lib.hid hM
      clear hM
      go_enter Tryz.func16, Tryz.ntmps16
      go_wp2_with fail
      refine (HF.out _ hB0).mono ?_
      rintro e w1 ⟨Aq, cq, rfl, uq, hc1⟩
      have hal : Below w1.heap.size w1 (w1.alloc (.cells #[.bool r, .slice Aq M cq] 36)) := (Below.refl _ _).alloc (Nat.le_refl _) _
      obtain ⟨x0, x1, _, _, _⟩ := Box.new w1 (.bool r) (.slice Aq M cq) 36
      have hall := from_ hc1 hal
      have hdr := hall.drew
      have hs := And.intro (keepC hdr a0) (And.intro (keepC hdr a1) (And.intro (keepC hdr b0) (And.intro (keepC hdr b1) (And.intro (keepC (Below.refl _ (w1.alloc (.cells #[.bool r, .slice Aq M cq] 36))).drew x0) (keepC (Below.refl _ (w1.alloc (.cells #[.bool r, .slice Aq M cq] 36))).drew x1)))))
      have HB1 := Lib.hid (from_ hB0 hdr)
      have bR1 := Lib.hid (bR.below hdr)
      have Hne := Lib.hid (show ¬ (w1.heap.size = w.heap.size + 2) from by have := (bR.below hc1).lt; omega)
      replace uq := uq.below (hal.drew)
      have Hlt := Lib.hid (bR.lt)
      clear bR hB0 hc1 hal hall hdr a0 a1 b0 b1 x0 x1
      go_wp2
      go_region_held3 (fun w' => w'.cell? ⟨w.heap.size, 0, none⟩ = some (.bool s) ∧ w'.cell? ⟨w.heap.size, 1, none⟩ = some (.slice A L c) ∧ w'.cell? ⟨w.heap.size + 1, 0, none⟩ = some (.bool t) ∧ w'.cell? ⟨w.heap.size + 1, 1, none⟩ = some (.slice B K d) ∧ w'.cell? ⟨w1.heap.size, 0, none⟩ = some (.bool r) ∧ w'.cell? ⟨w1.heap.size, 1, none⟩ = some (.slice Aq M cq))
        (first
          | with_reducible exact hs)
        (first
          | (go_at_call 69; refine (HTm.out _ _ _ _ HB1.out uq).mono ?_; rintro e w2 ⟨Ap, cp, rfl, up, hc⟩; replace hs := And.intro (keepC hc hs.1) (And.intro (keepC hc hs.2.1) (And.intro (keepC hc hs.2.2.1) (And.intro (keepC hc hs.2.2.2.1) (And.intro (keepC hc hs.2.2.2.2.1) (keepC hc hs.2.2.2.2.2))))); have HB2 := Lib.hid (from_ HB1.out hc); have bR2 := Lib.hid (bR1.out.below hc); have uq2 := uq.below hc)
          | (go_at_call 68; refine (HC.out _ _ _ _ HB2.out up).mono ?_; rintro e w3 ⟨rfl, hc⟩; replace hs := And.intro (keepC hc hs.1) (And.intro (keepC hc hs.2.1) (And.intro (keepC hc hs.2.2.1) (And.intro (keepC hc hs.2.2.2.1) (And.intro (keepC hc hs.2.2.2.2.1) (keepC hc hs.2.2.2.2.2))))); have HB3 := Lib.hid (from_ HB2.out hc); have bR3 := Lib.hid (bR2.out.below hc); have uq3 := Lib.hid (uq2.below hc)))
      all_goals
        obtain ⟨q0, q1, f0, f1, _⟩ := id bR3.out
        have hP := bR3.out.put HB3.out (by omega) (.bool false) (.slice none 0 0)
        have HP := Lib.hid hP
        clear hP hs uq up uq2
        go_wp2
        refine bodyPost_ret (res_int2 rfl _ (w.heap.size + 2) rfl HP.out.c0 HP.out.c1) rfl ?_
        exact ⟨none, 0, rfl, U64s.nil _ _, HP.out.bel⟩
  · obtain ⟨e1, e2, e3⟩ := hbad e
    have eS : wxS s l t k = false := if_neg (by rw [e1]; exact e)
    have eL : wxL s l t k = [] := if_neg (by rw [e1]; exact e)
    rw [e1, eS, eL]
    rw [e2, e3] at hF
    obtain ⟨E, hE⟩ : ∃ E, E = flE s l t k := ⟨_, rfl⟩
    rw [← hE] at hF e ⊢
    have hE1 : (E != 0) = true := by simp [e]
    have HF := Lib.hid hF
    clear hF hbad e e1 e2 e3 eE eS eL ia ib u1 u2 hl hl2 hE
    generalize l.length = L at *
    generalize k.length = K at *
    go_enter Tryz.func16, Tryz.ntmps16
    go_wp2_with fail
    refine (HF.out _ hB0).mono ?_
    rintro e w1 ⟨Aq, cq, rfl, -, hc1⟩
    have hal : Below w1.heap.size w1 (w1.alloc (.cells #[.bool false, .slice Aq 0 cq] 36)) := (Below.refl _ _).alloc (Nat.le_refl _) _
    obtain ⟨x0, x1, _, _, _⟩ := Box.new w1 (.bool false) (.slice Aq 0 cq) 36
    have bR1 := (bR.below hc1).below hal
    have hP := bR1.put (from_ (from_ hB0 hc1) hal) (by omega) (.bool false) (.slice none 0 0)
    have HP := Lib.hid hP
    obtain ⟨q0, q1, f0, f1, _⟩ := bR1
    clear hP bR hB0 hal hc1
    go_wp2
    refine bodyPost_ret (res_int2 rfl _ (w.heap.size + 2) rfl HP.out.c0 HP.out.c1) rfl ?_
    exact ⟨none, 0, rfl, U64s.nil _ _, HP.out.bel⟩

end Go.Proofs.YtceenaegchlbcaaGreatDoor
