/-
  Whole numbers that may be: Floor, Ceil; Add, Sub, Mul, Cmp, Sign, Neg, Int once more. No conditions but bounds on lengths.
-/
import Derived.Test.YtdhknjflelkghaaGreatDoorHWhL
import Derived.Test.YtdhknjflelkghaaGreatDoorHWhJ
import Derived.Test.YtdhknjflelkghaaGreatDoorHWhH
namespace Go.Proofs.YtdhknjflelkghaaGreatDoor
open Go.RowKit
set_option linter.unusedVariables false
set_option linter.unusedSimpArgs false

theorem zof_z (x : Int) : zof (decide (x < 0)) (limbs x.natAbs) = x := by
  unfold zof
  rw [val_limbs]
  by_cases h : x < 0
  · rw [if_pos (decide_eq_true h)]; omega
  · rw [if_neg (by simpa using h)]; omega

theorem op_z (f : Int → Int → Int) (x y : Int) : errO (decide (x < 0)) (limbs x.natAbs) (decide (y < 0)) (limbs y.natAbs) = 0 ∧ opP f (decide (x < 0)) (limbs x.natAbs) (decide (y < 0)) (limbs y.natAbs) = (decide (f x y < 0), limbs (f x y).natAbs) := by
  have h1 := IsZ.ok x
  have h2 := IsZ.ok y
  refine ⟨by unfold errO; rw [if_pos ⟨h1, h2⟩], ?_⟩
  unfold opP
  rw [if_pos ⟨h1, h2⟩, zof_z, zof_z]

theorem int_z {x : Int} (h : -9223372036854775808 ≤ x ∧ x ≤ 9223372036854775807) : intE (decide (x < 0)) (limbs x.natAbs) = 0 ∧ intX (decide (x < 0)) (limbs x.natAbs) = x := by
  have h1 := int_fits (s := decide (x < 0)) (l := limbs x.natAbs) (IsZ.ok x) ⟨len_limbs_le (k := 1) (by omega), by
    rw [val_limbs]
    by_cases h0 : x < 0
    · by_cases h2 : x.natAbs = 9223372036854775808
      · exact .inr ⟨decide_eq_true h0, h2⟩
      · exact .inl (by omega)
    · exact .inl (by omega)⟩
  rw [zof_z] at h1
  exact h1

theorem wadd_z {w : World} {Z Y : Zone} {a b : Value} {x y : Int} (ha : IsZ w Z a x) (hb : IsZ w Y b y) (hl : (limbs x.natAbs).length ≤ 90000) (hl2 : (limbs y.natAbs).length ≤ 90000) :
    Calls Tryz.prog 15 #[a, b] w fun e w' => ∃ v, e = .returned (.tuple #[v, .int .i64 0]) ∧ IsZ w' (new w.heap.size) v (x + y) ∧ Below w.heap.size w w' := by
  have h := wadd_all ha hb hl hl2
  obtain ⟨e1, e2⟩ := op_z (· + ·) x y
  rw [e1, e2] at h
  exact h

theorem wmul_z {w : World} {Z Y : Zone} {a b : Value} {x y : Int} (ha : IsZ w Z a x) (hb : IsZ w Y b y) (hl : (limbs x.natAbs).length ≤ 90000) (hl2 : (limbs y.natAbs).length ≤ 90000) :
    Calls Tryz.prog 16 #[a, b] w fun e w' => ∃ v, e = .returned (.tuple #[v, .int .i64 0]) ∧ IsZ w' (new w.heap.size) v (x * y) ∧ Below w.heap.size w w' := by
  have h := wmul_all ha hb hl hl2
  obtain ⟨e1, e2⟩ := op_z (· * ·) x y
  rw [e1, e2] at h
  exact h

theorem wneg_z {w : World} {Z : Zone} {a : Value} {x : Int} (ha : IsZ w Z a x) (hl : (limbs x.natAbs).length ≤ 90000) :
    Calls Tryz.prog 11 #[a] w fun e w' => ∃ v, e = .returned (.tuple #[v, .int .i64 0]) ∧ IsZ w' (new w.heap.size) v (-x) ∧ Below w.heap.size w w' := by
  have h := wneg_all ha hl
  have e1 : errC (decide (x < 0)) (limbs x.natAbs) = 0 := by unfold errC; rw [if_pos (IsZ.ok x)]
  have e2 : negP (decide (x < 0)) (limbs x.natAbs) = (decide (-x < 0), limbs (-x).natAbs) := by unfold negP; rw [if_pos (IsZ.ok x), zof_z, Int.natAbs_neg]
  rw [e1, e2] at h
  exact h

theorem wcheck_z {w : World} {Z : Zone} {a : Value} {x : Int} (ha : IsZ w Z a x) :
    Calls Tryz.prog 13 #[a] w fun e w' => e = .returned (.int .i64 0) ∧ Below w.heap.size w w' := by
  have h := wcheck_any ha
  have e1 : errC (decide (x < 0)) (limbs x.natAbs) = 0 := by unfold errC; rw [if_pos (IsZ.ok x)]
  rwa [e1] at h

theorem wint_z {w : World} {Z : Zone} {a : Value} {x : Int} (ha : IsZ w Z a x) (hx : -9223372036854775808 ≤ x ∧ x ≤ 9223372036854775807) :
    Calls Tryz.prog 9 #[a] w fun e w' => e = .returned (.tuple #[.int .i64 x, .int .i64 0]) ∧ Below w.heap.size w w' := by
  have h := wint_all ha
  obtain ⟨e1, e2⟩ := int_z hx
  rwa [e1, e2] at h

set_option maxRecDepth 100000 in
set_option maxHeartbeats 1000000 in
theorem wfloor_z {w : World} {Z Y : Zone} {a b : Value} {x y : Int} (ha : IsZ w Z a x) (hb : IsZ w Y b y) (hy : y ≠ 0) (hl : (limbs x.natAbs).length ≤ 10000) :
    Calls Tryz.prog 12 #[a, b] w fun e w' => ∃ v, e = .returned (.tuple #[v, .int .i64 0]) ∧ IsZ w' (new w.heap.size) v (rq x y true) ∧ Below w.heap.size w w' := by
  have hr := fun (w1 : World) (h : Below w.heap.size w w1) => wrounded_good (d := true) (ha.below h) (hb.below h) hy hl
  obtain ⟨_, rfl, A, ca, rfl, hu⟩ := ha
  obtain ⟨_, rfl, B, cb, rfl, hv⟩ := hb
  obtain ⟨bA, bB, bR, hB0⟩ := boxes3 w (.bool (decide (x < 0))) (.slice A (limbs x.natAbs).length ca) (.bool (decide (y < 0))) (.slice B (limbs y.natAbs).length cb) (.bool false) (.slice none 0 0) 25
  unfold IsZ at hr ⊢
  obtain ⟨s, hs⟩ : ∃ s, s = decide (rq x y true < 0) := ⟨_, rfl⟩
  obtain ⟨l, hl'⟩ : ∃ l, l = limbs (rq x y true).natAbs := ⟨_, rfl⟩
  obtain ⟨sx, hsx⟩ : ∃ sx, sx = decide (x < 0) := ⟨_, rfl⟩
  obtain ⟨sy, hsy⟩ : ∃ sy, sy = decide (y < 0) := ⟨_, rfl⟩
  simp only [← hs, ← hl', ← hsx, ← hsy] at hr bA bB bR hB0 ⊢
  generalize (limbs x.natAbs).length = lx at *
  generalize (limbs y.natAbs).length = ly at *
  have Hr := Lib.hid hr
  clear hr hu hv hs hl' hsx hsy hl hy
  obtain ⟨a0, a1, _, _, _⟩ := bA
  obtain ⟨b0, b1, _, _, _⟩ := bB
  go_enter Tryz.func12, Tryz.ntmps12
  go_wp2_with fail
  refine (Hr.out _ hB0).mono ?_
  rintro e w1 ⟨_, rfl, ⟨_, rfl, Av, cv, rfl, hv⟩, hc1⟩
  have bR1 := bR.below hc1
  have hP := bR1.put (from_ hB0 hc1) (by omega) (.bool s) (.slice Av l.length cv)
  have hiv : IsU w1 _ (.slice Av l.length cv) l := ⟨Av, cv, rfl, hv⟩
  have hu2 := hP.keep (by simp <;> omega) hiv
  have Hu := Lib.hid hu2
  have HP := Lib.hid hP
  obtain ⟨q0, q1, f0, f1, _⟩ := bR1
  clear hv hiv hu2 hP bR hB0
  go_wp2
  refine bodyPost_ret (res_int2 rfl _ (w.heap.size + 2) rfl HP.out.c0 HP.out.c1) rfl ?_
  exact ⟨_, rfl, ⟨_, rfl, Hu.out⟩, HP.out.bel⟩

set_option maxRecDepth 100000 in
set_option maxHeartbeats 1000000 in
theorem wceil_z {w : World} {Z Y : Zone} {a b : Value} {x y : Int} (ha : IsZ w Z a x) (hb : IsZ w Y b y) (hy : y ≠ 0) (hl : (limbs x.natAbs).length ≤ 10000) :
    Calls Tryz.prog 17 #[a, b] w fun e w' => ∃ v, e = .returned (.tuple #[v, .int .i64 0]) ∧ IsZ w' (new w.heap.size) v (rq x y false) ∧ Below w.heap.size w w' := by
  have hr := fun (w1 : World) (h : Below w.heap.size w w1) => wrounded_good (d := false) (ha.below h) (hb.below h) hy hl
  obtain ⟨_, rfl, A, ca, rfl, hu⟩ := ha
  obtain ⟨_, rfl, B, cb, rfl, hv⟩ := hb
  obtain ⟨bA, bB, bR, hB0⟩ := boxes3 w (.bool (decide (x < 0))) (.slice A (limbs x.natAbs).length ca) (.bool (decide (y < 0))) (.slice B (limbs y.natAbs).length cb) (.bool false) (.slice none 0 0) 25
  unfold IsZ at hr ⊢
  obtain ⟨s, hs⟩ : ∃ s, s = decide (rq x y false < 0) := ⟨_, rfl⟩
  obtain ⟨l, hl'⟩ : ∃ l, l = limbs (rq x y false).natAbs := ⟨_, rfl⟩
  obtain ⟨sx, hsx⟩ : ∃ sx, sx = decide (x < 0) := ⟨_, rfl⟩
  obtain ⟨sy, hsy⟩ : ∃ sy, sy = decide (y < 0) := ⟨_, rfl⟩
  simp only [← hs, ← hl', ← hsx, ← hsy] at hr bA bB bR hB0 ⊢
  generalize (limbs x.natAbs).length = lx at *
  generalize (limbs y.natAbs).length = ly at *
  have Hr := Lib.hid hr
  clear hr hu hv hs hl' hsx hsy hl hy
  obtain ⟨a0, a1, _, _, _⟩ := bA
  obtain ⟨b0, b1, _, _, _⟩ := bB
  go_enter Tryz.func17, Tryz.ntmps17
  go_wp2_with fail
  refine (Hr.out _ hB0).mono ?_
  rintro e w1 ⟨_, rfl, ⟨_, rfl, Av, cv, rfl, hv⟩, hc1⟩
  have bR1 := bR.below hc1
  have hP := bR1.put (from_ hB0 hc1) (by omega) (.bool s) (.slice Av l.length cv)
  have hiv : IsU w1 _ (.slice Av l.length cv) l := ⟨Av, cv, rfl, hv⟩
  have hu2 := hP.keep (by simp <;> omega) hiv
  have Hu := Lib.hid hu2
  have HP := Lib.hid hP
  obtain ⟨q0, q1, f0, f1, _⟩ := bR1
  clear hv hiv hu2 hP bR hB0
  go_wp2
  refine bodyPost_ret (res_int2 rfl _ (w.heap.size + 2) rfl HP.out.c0 HP.out.c1) rfl ?_
  exact ⟨_, rfl, ⟨_, rfl, Hu.out⟩, HP.out.bel⟩

set_option maxRecDepth 100000 in
set_option maxHeartbeats 1000000 in
theorem gives5_Add {w : World} {n m c : Int} (hn : -9223372036854775808 ≤ n ∧ n ≤ 9223372036854775807) (hm : -9223372036854775808 ≤ m ∧ m ≤ 9223372036854775807) (hc : -9223372036854775808 ≤ c ∧ c ≤ 9223372036854775807) (he : n + m = c) :
    Calls Tryz.prog 14 #[.func (.func 15) #[] #[], .int .i64 n, .int .i64 m, .int .i64 c] w fun e w' => e = .returned (.bool true) ∧ Below w.heap.size w w' := by
  have h1 := fun (w1 : World) => wof_any (w := w1) hn
  have h2 := fun (w1 : World) => wof_any (w := w1) hm
  have k1 : (limbs n.natAbs).length ≤ 1 := len_limbs_le (by omega)
  have k2 : (limbs m.natAbs).length ≤ 1 := len_limbs_le (by omega)
  obtain ⟨s, hs⟩ : ∃ s, s = decide (c < 0) := ⟨_, rfl⟩
  obtain ⟨l, hl⟩ : ∃ l, l = limbs c.natAbs := ⟨_, rfl⟩
  have h3 : ∀ w1 Z1 Z2 u v, IsZ w1 Z1 u n → IsZ w1 Z2 v m → Calls Tryz.prog 15 #[u, v] w1 (fun e w' => ∃ Av cv, e = .returned (.tuple #[.agg #[.bool s, .slice Av l.length cv], .int .i64 0]) ∧ U64s w' (new w1.heap.size) Av cv l ∧ Below w1.heap.size w1 w') := fun w1 Z1 Z2 u v h1 h2 => by
    refine (wadd_z h1 h2 (by omega) (by omega)).mono ?_
    rintro e w' ⟨_, rfl, h4, h5⟩
    rw [he] at h4
    obtain ⟨_, rfl, Av, cv, rfl, h6⟩ := h4
    rw [← hs]
    rw [← hl] at h6 ⊢
    exact ⟨Av, cv, rfl, h6, h5⟩
  have h4 : ∀ w1 Z1 A c', U64s w1 Z1 A c' l → Calls Tryz.prog 9 #[.agg #[.bool s, .slice A l.length c']] w1 (fun e w' => e = .returned (.tuple #[.int .i64 c, .int .i64 0]) ∧ Below w1.heap.size w1 w') := fun w1 Z1 A c' h => by
    refine wint_z (Z := Z1) ?_ hc
    unfold IsZ
    rw [← hs, ← hl]
    exact ⟨_, rfl, A, c', rfl, h⟩
  have hrun : ∀ w1 args, (callFunc 15 args).run Tryz.prog w1 = .ok (.enter 15 args) w1 := fun w1 args => enters_of Tryz.func15 (by kernel_rfl) rfl args w1
  have H1 := Lib.hid h1
  have H2 := Lib.hid h2
  have H3 := Lib.hid h3
  have H4 := Lib.hid h4
  clear h1 h2 h3 h4 hs hl he hn hm hc k1 k2 hrun
  go_enter Tryz.func14, Tryz.ntmps14
  go_wp2_with fail
  refine (H1.out _).mono ?_
  rintro e w1 ⟨u, rfl, hu, hB⟩
  go_wp2_with fail
  refine (H2.out _).mono ?_
  rintro e w2 ⟨v, rfl, hv, hb2⟩
  replace hu := hu.below hb2
  replace hB := from_ hB hb2
  clear hb2
  go_wp2_with fail
  refine (H3.out _ _ _ _ _ hu hv).mono ?_
  rintro e w3 ⟨Av, cv, rfl, hx, hb3⟩
  have hal : Below w3.heap.size w3 (w3.alloc (.cells #[.bool s, .slice Av l.length cv] 25)) := (Below.refl _ _).alloc (Nat.le_refl _) _
  have hx1 := hx.below hal
  obtain ⟨c0, c1, _, _, _⟩ := Box.new w3 (.bool s) (.slice Av l.length cv) 25
  replace hB := from_ (from_ hB hb3) hal
  clear hb3 hx hu hv hal
  go_wp2_with fail
  refine (H4.out _ _ _ _ hx1).mono ?_
  rintro e w4 ⟨rfl, hb4⟩
  replace hB := from_ hB hb4
  go_wp2
  go_ret
  exact ⟨rfl, hB⟩

set_option maxRecDepth 100000 in
set_option maxHeartbeats 1000000 in
theorem gives5_Mul {w : World} {n m c : Int} (hn : -9223372036854775808 ≤ n ∧ n ≤ 9223372036854775807) (hm : -9223372036854775808 ≤ m ∧ m ≤ 9223372036854775807) (hc : -9223372036854775808 ≤ c ∧ c ≤ 9223372036854775807) (he : n * m = c) :
    Calls Tryz.prog 14 #[.func (.func 16) #[] #[], .int .i64 n, .int .i64 m, .int .i64 c] w fun e w' => e = .returned (.bool true) ∧ Below w.heap.size w w' := by
  have h1 := fun (w1 : World) => wof_any (w := w1) hn
  have h2 := fun (w1 : World) => wof_any (w := w1) hm
  have k1 : (limbs n.natAbs).length ≤ 1 := len_limbs_le (by omega)
  have k2 : (limbs m.natAbs).length ≤ 1 := len_limbs_le (by omega)
  obtain ⟨s, hs⟩ : ∃ s, s = decide (c < 0) := ⟨_, rfl⟩
  obtain ⟨l, hl⟩ : ∃ l, l = limbs c.natAbs := ⟨_, rfl⟩
  have h3 : ∀ w1 Z1 Z2 u v, IsZ w1 Z1 u n → IsZ w1 Z2 v m → Calls Tryz.prog 16 #[u, v] w1 (fun e w' => ∃ Av cv, e = .returned (.tuple #[.agg #[.bool s, .slice Av l.length cv], .int .i64 0]) ∧ U64s w' (new w1.heap.size) Av cv l ∧ Below w1.heap.size w1 w') := fun w1 Z1 Z2 u v h1 h2 => by
    refine (wmul_z h1 h2 (by omega) (by omega)).mono ?_
    rintro e w' ⟨_, rfl, h4, h5⟩
    rw [he] at h4
    obtain ⟨_, rfl, Av, cv, rfl, h6⟩ := h4
    rw [← hs]
    rw [← hl] at h6 ⊢
    exact ⟨Av, cv, rfl, h6, h5⟩
  have h4 : ∀ w1 Z1 A c', U64s w1 Z1 A c' l → Calls Tryz.prog 9 #[.agg #[.bool s, .slice A l.length c']] w1 (fun e w' => e = .returned (.tuple #[.int .i64 c, .int .i64 0]) ∧ Below w1.heap.size w1 w') := fun w1 Z1 A c' h => by
    refine wint_z (Z := Z1) ?_ hc
    unfold IsZ
    rw [← hs, ← hl]
    exact ⟨_, rfl, A, c', rfl, h⟩
  have hrun : ∀ w1 args, (callFunc 16 args).run Tryz.prog w1 = .ok (.enter 16 args) w1 := fun w1 args => enters_of Tryz.func16 (by kernel_rfl) rfl args w1
  have H1 := Lib.hid h1
  have H2 := Lib.hid h2
  have H3 := Lib.hid h3
  have H4 := Lib.hid h4
  clear h1 h2 h3 h4 hs hl he hn hm hc k1 k2 hrun
  go_enter Tryz.func14, Tryz.ntmps14
  go_wp2_with fail
  refine (H1.out _).mono ?_
  rintro e w1 ⟨u, rfl, hu, hB⟩
  go_wp2_with fail
  refine (H2.out _).mono ?_
  rintro e w2 ⟨v, rfl, hv, hb2⟩
  replace hu := hu.below hb2
  replace hB := from_ hB hb2
  clear hb2
  go_wp2_with fail
  refine (H3.out _ _ _ _ _ hu hv).mono ?_
  rintro e w3 ⟨Av, cv, rfl, hx, hb3⟩
  have hal : Below w3.heap.size w3 (w3.alloc (.cells #[.bool s, .slice Av l.length cv] 25)) := (Below.refl _ _).alloc (Nat.le_refl _) _
  have hx1 := hx.below hal
  obtain ⟨c0, c1, _, _, _⟩ := Box.new w3 (.bool s) (.slice Av l.length cv) 25
  replace hB := from_ (from_ hB hb3) hal
  clear hb3 hx hu hv hal
  go_wp2_with fail
  refine (H4.out _ _ _ _ hx1).mono ?_
  rintro e w4 ⟨rfl, hb4⟩
  replace hB := from_ hB hb4
  go_wp2
  go_ret
  exact ⟨rfl, hB⟩

set_option maxRecDepth 100000 in
set_option maxHeartbeats 1000000 in
theorem gives5_Floor {w : World} {n m c : Int} (hn : -9223372036854775808 ≤ n ∧ n ≤ 9223372036854775807) (hm : -9223372036854775808 ≤ m ∧ m ≤ 9223372036854775807) (hc : -9223372036854775808 ≤ c ∧ c ≤ 9223372036854775807) (hm0 : m ≠ 0) (he : rq n m true = c) :
    Calls Tryz.prog 14 #[.func (.func 12) #[] #[], .int .i64 n, .int .i64 m, .int .i64 c] w fun e w' => e = .returned (.bool true) ∧ Below w.heap.size w w' := by
  have h1 := fun (w1 : World) => wof_any (w := w1) hn
  have h2 := fun (w1 : World) => wof_any (w := w1) hm
  have k1 : (limbs n.natAbs).length ≤ 1 := len_limbs_le (by omega)
  have k2 : (limbs m.natAbs).length ≤ 1 := len_limbs_le (by omega)
  obtain ⟨s, hs⟩ : ∃ s, s = decide (c < 0) := ⟨_, rfl⟩
  obtain ⟨l, hl⟩ : ∃ l, l = limbs c.natAbs := ⟨_, rfl⟩
  have h3 : ∀ w1 Z1 Z2 u v, IsZ w1 Z1 u n → IsZ w1 Z2 v m → Calls Tryz.prog 12 #[u, v] w1 (fun e w' => ∃ Av cv, e = .returned (.tuple #[.agg #[.bool s, .slice Av l.length cv], .int .i64 0]) ∧ U64s w' (new w1.heap.size) Av cv l ∧ Below w1.heap.size w1 w') := fun w1 Z1 Z2 u v h1 h2 => by
    refine (wfloor_z h1 h2 hm0 (by omega)).mono ?_
    rintro e w' ⟨_, rfl, h4, h5⟩
    rw [he] at h4
    obtain ⟨_, rfl, Av, cv, rfl, h6⟩ := h4
    rw [← hs]
    rw [← hl] at h6 ⊢
    exact ⟨Av, cv, rfl, h6, h5⟩
  have h4 : ∀ w1 Z1 A c', U64s w1 Z1 A c' l → Calls Tryz.prog 9 #[.agg #[.bool s, .slice A l.length c']] w1 (fun e w' => e = .returned (.tuple #[.int .i64 c, .int .i64 0]) ∧ Below w1.heap.size w1 w') := fun w1 Z1 A c' h => by
    refine wint_z (Z := Z1) ?_ hc
    unfold IsZ
    rw [← hs, ← hl]
    exact ⟨_, rfl, A, c', rfl, h⟩
  have hrun : ∀ w1 args, (callFunc 12 args).run Tryz.prog w1 = .ok (.enter 12 args) w1 := fun w1 args => enters_of Tryz.func12 (by kernel_rfl) rfl args w1
  have H1 := Lib.hid h1
  have H2 := Lib.hid h2
  have H3 := Lib.hid h3
  have H4 := Lib.hid h4
  clear h1 h2 h3 h4 hs hl he hn hm hc k1 k2 hrun hm0
  go_enter Tryz.func14, Tryz.ntmps14
  go_wp2_with fail
  refine (H1.out _).mono ?_
  rintro e w1 ⟨u, rfl, hu, hB⟩
  go_wp2_with fail
  refine (H2.out _).mono ?_
  rintro e w2 ⟨v, rfl, hv, hb2⟩
  replace hu := hu.below hb2
  replace hB := from_ hB hb2
  clear hb2
  go_wp2_with fail
  refine (H3.out _ _ _ _ _ hu hv).mono ?_
  rintro e w3 ⟨Av, cv, rfl, hx, hb3⟩
  have hal : Below w3.heap.size w3 (w3.alloc (.cells #[.bool s, .slice Av l.length cv] 25)) := (Below.refl _ _).alloc (Nat.le_refl _) _
  have hx1 := hx.below hal
  obtain ⟨c0, c1, _, _, _⟩ := Box.new w3 (.bool s) (.slice Av l.length cv) 25
  replace hB := from_ (from_ hB hb3) hal
  clear hb3 hx hu hv hal
  go_wp2_with fail
  refine (H4.out _ _ _ _ hx1).mono ?_
  rintro e w4 ⟨rfl, hb4⟩
  replace hB := from_ hB hb4
  go_wp2
  go_ret
  exact ⟨rfl, hB⟩

set_option maxRecDepth 100000 in
set_option maxHeartbeats 1000000 in
theorem gives5_Ceil {w : World} {n m c : Int} (hn : -9223372036854775808 ≤ n ∧ n ≤ 9223372036854775807) (hm : -9223372036854775808 ≤ m ∧ m ≤ 9223372036854775807) (hc : -9223372036854775808 ≤ c ∧ c ≤ 9223372036854775807) (hm0 : m ≠ 0) (he : rq n m false = c) :
    Calls Tryz.prog 14 #[.func (.func 17) #[] #[], .int .i64 n, .int .i64 m, .int .i64 c] w fun e w' => e = .returned (.bool true) ∧ Below w.heap.size w w' := by
  have h1 := fun (w1 : World) => wof_any (w := w1) hn
  have h2 := fun (w1 : World) => wof_any (w := w1) hm
  have k1 : (limbs n.natAbs).length ≤ 1 := len_limbs_le (by omega)
  have k2 : (limbs m.natAbs).length ≤ 1 := len_limbs_le (by omega)
  obtain ⟨s, hs⟩ : ∃ s, s = decide (c < 0) := ⟨_, rfl⟩
  obtain ⟨l, hl⟩ : ∃ l, l = limbs c.natAbs := ⟨_, rfl⟩
  have h3 : ∀ w1 Z1 Z2 u v, IsZ w1 Z1 u n → IsZ w1 Z2 v m → Calls Tryz.prog 17 #[u, v] w1 (fun e w' => ∃ Av cv, e = .returned (.tuple #[.agg #[.bool s, .slice Av l.length cv], .int .i64 0]) ∧ U64s w' (new w1.heap.size) Av cv l ∧ Below w1.heap.size w1 w') := fun w1 Z1 Z2 u v h1 h2 => by
    refine (wceil_z h1 h2 hm0 (by omega)).mono ?_
    rintro e w' ⟨_, rfl, h4, h5⟩
    rw [he] at h4
    obtain ⟨_, rfl, Av, cv, rfl, h6⟩ := h4
    rw [← hs]
    rw [← hl] at h6 ⊢
    exact ⟨Av, cv, rfl, h6, h5⟩
  have h4 : ∀ w1 Z1 A c', U64s w1 Z1 A c' l → Calls Tryz.prog 9 #[.agg #[.bool s, .slice A l.length c']] w1 (fun e w' => e = .returned (.tuple #[.int .i64 c, .int .i64 0]) ∧ Below w1.heap.size w1 w') := fun w1 Z1 A c' h => by
    refine wint_z (Z := Z1) ?_ hc
    unfold IsZ
    rw [← hs, ← hl]
    exact ⟨_, rfl, A, c', rfl, h⟩
  have hrun : ∀ w1 args, (callFunc 17 args).run Tryz.prog w1 = .ok (.enter 17 args) w1 := fun w1 args => enters_of Tryz.func17 (by kernel_rfl) rfl args w1
  have H1 := Lib.hid h1
  have H2 := Lib.hid h2
  have H3 := Lib.hid h3
  have H4 := Lib.hid h4
  clear h1 h2 h3 h4 hs hl he hn hm hc k1 k2 hrun hm0
  go_enter Tryz.func14, Tryz.ntmps14
  go_wp2_with fail
  refine (H1.out _).mono ?_
  rintro e w1 ⟨u, rfl, hu, hB⟩
  go_wp2_with fail
  refine (H2.out _).mono ?_
  rintro e w2 ⟨v, rfl, hv, hb2⟩
  replace hu := hu.below hb2
  replace hB := from_ hB hb2
  clear hb2
  go_wp2_with fail
  refine (H3.out _ _ _ _ _ hu hv).mono ?_
  rintro e w3 ⟨Av, cv, rfl, hx, hb3⟩
  have hal : Below w3.heap.size w3 (w3.alloc (.cells #[.bool s, .slice Av l.length cv] 25)) := (Below.refl _ _).alloc (Nat.le_refl _) _
  have hx1 := hx.below hal
  obtain ⟨c0, c1, _, _, _⟩ := Box.new w3 (.bool s) (.slice Av l.length cv) 25
  replace hB := from_ (from_ hB hb3) hal
  clear hb3 hx hu hv hal
  go_wp2_with fail
  refine (H4.out _ _ _ _ hx1).mono ?_
  rintro e w4 ⟨rfl, hb4⟩
  replace hB := from_ hB hb4
  go_wp2
  go_ret
  exact ⟨rfl, hB⟩

set_option maxRecDepth 100000 in
set_option maxHeartbeats 1000000 in
theorem alive5 (w : World) : Calls Tryz.prog 5 #[] w fun e w' => e = .returned (.bool true) ∧ Below w.heap.size w w' := by
  have r1 : rq (-7) 2 true = -4 := by simp [rq, tq, limbs_one]
  have r2 : rq (-7) 2 false = -3 := by simp [rq, tq, limbs_one]
  have r3 : rq 7 (-2) true = -4 := by simp [rq, tq, limbs_one]
  have R1 := Lib.hid r1
  have R2 := Lib.hid r2
  have R3 := Lib.hid r3
  clear r1 r2 r3
  go_enter Tryz.func5, Tryz.ntmps5
  go_wp2_with fail
  refine (gives5_Add (by omega) (by omega) (by omega) (by omega)).mono ?_
  rintro e w1 ⟨rfl, hB⟩
  go_wp2_with fail
  refine (gives5_Mul (by omega) (by omega) (by omega) (by omega)).mono ?_
  rintro e w2 ⟨rfl, hb⟩
  replace hB := from_ hB hb
  clear hb
  go_wp2_with fail
  refine (gives5_Floor (by omega) (by omega) (by omega) (by omega) R1.out).mono ?_
  rintro e w3 ⟨rfl, hb⟩
  replace hB := from_ hB hb
  clear hb
  go_wp2_with fail
  refine (gives5_Ceil (by omega) (by omega) (by omega) (by omega) R2.out).mono ?_
  rintro e w4 ⟨rfl, hb⟩
  replace hB := from_ hB hb
  clear hb
  go_wp2_with fail
  refine (gives5_Floor (by omega) (by omega) (by omega) (by omega) R3.out).mono ?_
  rintro e w5 ⟨rfl, hb⟩
  replace hB := from_ hB hb
  go_wp2
  go_ret
  exact ⟨rfl, hB⟩

end Go.Proofs.YtdhknjflelkghaaGreatDoor
