/- Whole numbers that may be: Floor, Ceil; Add, Sub, Mul, Cmp, Sign, Neg, Int once more. No conditions but bounds on lengths. -/
import Derived.Test.YtcheajjjdbllfaaGreatNWhL
import Derived.Test.YtcheajjjdbllfaaGreatNWhJ
import Derived.Test.YtcheajjjdbllfaaGreatNWhH
set_option linter.unusedVariables false
set_option linter.unusedSimpArgs false
set_option maxRecDepth 100000
set_option maxHeartbeats 40000000
namespace Go.Proofs.YtcheajjjdbllfaaGreat
open Go.Lib (hid)
open Go.RowKit
variable {Y Z : Zone} {a b : Value} {w : World} {x y : Int}
theorem zof_z (x : Int) : zof (decide (x < 0)) (limbs x.natAbs) = x := by
 unfold zof
 rw [val_limbs]
 by_cases h : x < 0
 · rw [if_pos (decide_eq_true h)]; omega
 · rw [if_neg (by simpa using h)]; omega
theorem op_z (f : Int → Int → Int) (x y : Int) : errO (decide (x < 0)) (limbs x.natAbs) (decide (y < 0)) (limbs y.natAbs) = 0 ∧ opP f (decide (x < 0)) (limbs x.natAbs) (decide (y < 0)) (limbs y.natAbs) = (decide (f x y < 0), limbs (f x y).natAbs) := by
 have h1 := IsZ.ok x
 have h2 := IsZ.ok y
 refine ⟨by unfold errO; rw [if_pos ⟨h1, h2⟩], ?_⟩
 unfold opP
 rw [if_pos ⟨h1, h2⟩, zof_z, zof_z]
theorem wadd_z (ha : IsZ w Z a x) (hb : IsZ w Y b y) (hl : (limbs x.natAbs).length ≤ 90000000000) (hl2 : (limbs y.natAbs).length ≤ 90000000000) :
  Calls Tryz.prog 114 #[a, b] w fun e w' => ∃ v, e = .returned (.tuple #[v, .int .i64 0]) ∧ IsZ w' (new w.heap.size) v (x + y) ∧ Below w.heap.size w w' := by
 have h := wadd_all ha hb hl hl2
 obtain ⟨e1, e2⟩ := op_z (· + ·) x y
 rw [e1, e2] at h
 exact h
theorem wcmp_z (ha : IsZ w Z a x) (hb : IsZ w Y b y) (hl : (limbs x.natAbs).length ≤ 90000000000) (hl2 : (limbs y.natAbs).length ≤ 90000000000) :
  Calls Tryz.prog 87 #[a, b] w fun e w' => e = .returned (.tuple #[.int .i64 (sgn (x - y)), .int .i64 0]) ∧ Below w.heap.size w w' := by
 have h := wcmp_all ha hb hl hl2
 obtain ⟨e1, _⟩ := op_z (· - ·) x y
 have e2 : cmpO (decide (x < 0)) (limbs x.natAbs) (decide (y < 0)) (limbs y.natAbs) = sgn (x - y) := by
  unfold cmpO
  rw [if_pos ⟨IsZ.ok x, IsZ.ok y⟩, zof_z, zof_z]
 rw [e1, e2] at h
 exact h
theorem wSign_z (ha : IsZ w Z a x) :
  Calls Tryz.prog 115 #[a] w fun e w' => e = .returned (.tuple #[.int .i64 (sgn x), .int .i64 0]) ∧ Below w.heap.size w w' := by
 have h := wSign_all ha
 have e1 : errC (decide (x < 0)) (limbs x.natAbs) = 0 := by unfold errC; rw [if_pos (IsZ.ok x)]
 have e2 : sgX (decide (x < 0)) (limbs x.natAbs) = sgn x := by unfold sgX; rw [if_pos (IsZ.ok x), zof_z]
 rw [e1, e2] at h
 exact h
theorem wneg_z (ha : IsZ w Z a x) (hl : (limbs x.natAbs).length ≤ 90000000000) :
  Calls Tryz.prog 111 #[a] w fun e w' => ∃ v, e = .returned (.tuple #[v, .int .i64 0]) ∧ IsZ w' (new w.heap.size) v (-x) ∧ Below w.heap.size w w' := by
 have h := wneg_all ha hl
 have e1 : errC (decide (x < 0)) (limbs x.natAbs) = 0 := by unfold errC; rw [if_pos (IsZ.ok x)]
 have e2 : negP (decide (x < 0)) (limbs x.natAbs) = (decide (-x < 0), limbs (-x).natAbs) := by unfold negP; rw [if_pos (IsZ.ok x), zof_z, Int.natAbs_neg]
 rw [e1, e2] at h
 exact h
theorem wfloor_z (ha : IsZ w Z a x) (hb : IsZ w Y b y) (hy : y ≠ 0) (hl : (limbs x.natAbs).length ≤ 10000000000) :
  Calls Tryz.prog 113 #[a, b] w fun e w' => ∃ v, e = .returned (.tuple #[v, .int .i64 0]) ∧ IsZ w' (new w.heap.size) v (rq x y true) ∧ Below w.heap.size w w' := by
 have hr := fun (w1 : World) (h : Below w.heap.size w w1) => wrounded_good (d := true) (ha.below h) (hb.below h) hy hl
 obtain ⟨_, rfl, A, ca, rfl, hu⟩ := ha
 obtain ⟨_, rfl, B, cb, rfl, hv⟩ := hb
 obtain ⟨bA, bB, bR, hB0⟩ := boxes3 w (.bool (decide (x < 0))) (.slice A (limbs x.natAbs).length ca) (.bool (decide (y < 0))) (.slice B (limbs y.natAbs).length cb) (.bool false) (.slice none 0 0) 25
 unfold IsZ at hr ⊢
 obtain ⟨s, hs⟩ : ∃ s, s = decide (rq x y true < 0) := ⟨_, rfl⟩
 obtain ⟨l, hl'⟩ : ∃ l, l = limbs (rq x y true).natAbs := ⟨_, rfl⟩
 obtain ⟨sx, hsx⟩ : ∃ sx, sx = decide (x < 0) := ⟨_, rfl⟩
 obtain ⟨sy, hsy⟩ : ∃ sy, sy = decide (y < 0) := ⟨_, rfl⟩
 simp only [← hs, ← hl', ← hsx, ← hsy] at hr bA bB bR hB0 ⊢
 generalize (limbs x.natAbs).length = lx at *
 generalize (limbs y.natAbs).length = ly at *
 have Hr := hid hr
 clear hr hu hv hs hl' hsx hsy hl hy
 obtain ⟨a0, a1, _, _, _⟩ := bA
 obtain ⟨b0, b1, _, _, _⟩ := bB
 go_enter Tryz.func113, Tryz.ntmps113
 go_wp2_with fail
 refine (Hr.out _ hB0).mono ?_
 rintro e w1 ⟨_, rfl, ⟨_, rfl, Av, cv, rfl, hv⟩, hc1⟩
 have bR1 := bR.below hc1
 have hP := bR1.put (from_ hB0 hc1) (by omega) (.bool s) (.slice Av l.length cv)
 have hiv : IsU w1 _ (.slice Av l.length cv) l := ⟨Av, cv, rfl, hv⟩
 have hu2 := hP.keep (by simp <;> omega) hiv
 obtain ⟨Hu, HP⟩ := hid2 hu2 hP
 obtain ⟨q0, q1, f0, f1, _⟩ := bR1
 clear hv hiv hu2 hP bR hB0
 go_wp2
 refine bodyPost_ret (res_int2 rfl _ (w.heap.size + 2) rfl HP.out.c0 HP.out.c1) rfl ?_
 exact ⟨_, rfl, ⟨_, rfl, Hu.out⟩, HP.out.bel⟩
theorem wceil_z (ha : IsZ w Z a x) (hb : IsZ w Y b y) (hy : y ≠ 0) (hl : (limbs x.natAbs).length ≤ 10000000000) :
  Calls Tryz.prog 112 #[a, b] w fun e w' => ∃ v, e = .returned (.tuple #[v, .int .i64 0]) ∧ IsZ w' (new w.heap.size) v (rq x y false) ∧ Below w.heap.size w w' := by
 have hr := fun (w1 : World) (h : Below w.heap.size w w1) => wrounded_good (d := false) (ha.below h) (hb.below h) hy hl
 obtain ⟨_, rfl, A, ca, rfl, hu⟩ := ha
 obtain ⟨_, rfl, B, cb, rfl, hv⟩ := hb
 obtain ⟨bA, bB, bR, hB0⟩ := boxes3 w (.bool (decide (x < 0))) (.slice A (limbs x.natAbs).length ca) (.bool (decide (y < 0))) (.slice B (limbs y.natAbs).length cb) (.bool false) (.slice none 0 0) 25
 unfold IsZ at hr ⊢
 obtain ⟨s, hs⟩ : ∃ s, s = decide (rq x y false < 0) := ⟨_, rfl⟩
 obtain ⟨l, hl'⟩ : ∃ l, l = limbs (rq x y false).natAbs := ⟨_, rfl⟩
 obtain ⟨sx, hsx⟩ : ∃ sx, sx = decide (x < 0) := ⟨_, rfl⟩
 obtain ⟨sy, hsy⟩ : ∃ sy, sy = decide (y < 0) := ⟨_, rfl⟩
 simp only [← hs, ← hl', ← hsx, ← hsy] at hr bA bB bR hB0 ⊢
 generalize (limbs x.natAbs).length = lx at *
 generalize (limbs y.natAbs).length = ly at *
 have Hr := hid hr
 clear hr hu hv hs hl' hsx hsy hl hy
 obtain ⟨a0, a1, _, _, _⟩ := bA
 obtain ⟨b0, b1, _, _, _⟩ := bB
 go_enter Tryz.func112, Tryz.ntmps112
 go_wp2_with fail
 refine (Hr.out _ hB0).mono ?_
 rintro e w1 ⟨_, rfl, ⟨_, rfl, Av, cv, rfl, hv⟩, hc1⟩
 have bR1 := bR.below hc1
 have hP := bR1.put (from_ hB0 hc1) (by omega) (.bool s) (.slice Av l.length cv)
 have hiv : IsU w1 _ (.slice Av l.length cv) l := ⟨Av, cv, rfl, hv⟩
 have hu2 := hP.keep (by simp <;> omega) hiv
 obtain ⟨Hu, HP⟩ := hid2 hu2 hP
 obtain ⟨q0, q1, f0, f1, _⟩ := bR1
 clear hv hiv hu2 hP bR hB0
 go_wp2
 refine bodyPost_ret (res_int2 rfl _ (w.heap.size + 2) rfl HP.out.c0 HP.out.c1) rfl ?_
 exact ⟨_, rfl, ⟨_, rfl, Hu.out⟩, HP.out.bel⟩
end Go.Proofs.YtcheajjjdbllfaaGreat
