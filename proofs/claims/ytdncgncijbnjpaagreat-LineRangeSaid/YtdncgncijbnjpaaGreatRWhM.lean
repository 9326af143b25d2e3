/- Whole numbers that may be: Floor, Ceil; Add, Sub, Mul, Cmp, Sign, Neg, Int once more. No conditions but bounds on lengths. -/
import Derived.Test.YtdncgncijbnjpaaGreatRWhL
import Derived.Test.YtdncgncijbnjpaaGreatRWhJ
import Derived.Test.YtdncgncijbnjpaaGreatRWhH
set_option linter.unusedVariables false
set_option linter.unusedSimpArgs false
set_option maxRecDepth 100000
set_option maxHeartbeats 40000000
namespace Go.Proofs.YtdncgncijbnjpaaGreat
open Go.Lib (hid)
open Go.RowKit
variable {Y Z : Zone} {a b : Value} {x y : Int}
theorem zof_z (x : Int) : zof (decide (x < 0)) (limbs x.natAbs) = x := by
 unfold zof
 rw [val_limbs]
 by_cases h : x < 0
 · rw [if_pos (decide_eq_true h)]; omega
 · rw [if_neg (by simpa using h)]; omega
theorem op_z (f : Int → Int → Int) (x y : Int) : errO (decide (x < 0)) (limbs x.natAbs) (decide (y < 0)) (limbs y.natAbs) = 0 ∧ opP f (decide (x < 0)) (limbs x.natAbs) (decide (y < 0)) (limbs y.natAbs) = (decide (f x y < 0), limbs (f x y).natAbs) := by
 have A := IsZ.ok x
 have B := IsZ.ok y
 refine ⟨by unfold errO; rw [if_pos ⟨A, B⟩], ?_⟩
 unfold opP
 rw [if_pos ⟨A, B⟩, zof_z, zof_z]
theorem int_z (h : -9223372036854775808 ≤ x ∧ x ≤ 9223372036854775807) : intE (decide (x < 0)) (limbs x.natAbs) = 0 ∧ intX (decide (x < 0)) (limbs x.natAbs) = x := by
 have A := int_fits (s := decide (x < 0)) (l := limbs x.natAbs) (IsZ.ok x) ⟨len_limbs_le (k := 1) (by omega), by
  rw [val_limbs]
  by_cases h0 : x < 0
  · by_cases h2 : x.natAbs = 9223372036854775808
    · exact .inr ⟨decide_eq_true h0, h2⟩
    · exact .inl (by omega)
  · exact .inl (by omega)⟩
 rw [zof_z] at A
 exact A
theorem wadd_z {w : World} (ha : IsZ w Z a x) (hb : IsZ w Y b y) (hl : (limbs x.natAbs).length ≤ 90000000000) (hl2 : (limbs y.natAbs).length ≤ 90000000000) :
  Calls Tryz.prog 196 #[a, b] w fun e w' => ∃ v, e = .returned (.tuple #[v, .int .i64 0]) ∧ IsZ w' (new w.heap.size) v (x + y) ∧ Below w.heap.size w w' := by
 have h := wadd_all ha hb hl hl2
 obtain ⟨B, C⟩ := op_z (· + ·) x y
 rw [B, C] at h
 exact h
theorem wmul_z {w : World} (ha : IsZ w Z a x) (hb : IsZ w Y b y) (hl : (limbs x.natAbs).length ≤ 90000000000) (hl2 : (limbs y.natAbs).length ≤ 90000000000) :
  Calls Tryz.prog 195 #[a, b] w fun e w' => ∃ v, e = .returned (.tuple #[v, .int .i64 0]) ∧ IsZ w' (new w.heap.size) v (x * y) ∧ Below w.heap.size w w' := by
 have h := wmul_all ha hb hl hl2
 obtain ⟨B, C⟩ := op_z (· * ·) x y
 rw [B, C] at h
 exact h
theorem wcmp_z {w : World} (ha : IsZ w Z a x) (hb : IsZ w Y b y) (hl : (limbs x.natAbs).length ≤ 90000000000) (hl2 : (limbs y.natAbs).length ≤ 90000000000) :
  Calls Tryz.prog 85 #[a, b] w fun e w' => e = .returned (.tuple #[.int .i64 (sgn (x - y)), .int .i64 0]) ∧ Below w.heap.size w w' := by
 have h := wcmp_all ha hb hl hl2
 obtain ⟨C, _⟩ := op_z (· - ·) x y
 have B : cmpO (decide (x < 0)) (limbs x.natAbs) (decide (y < 0)) (limbs y.natAbs) = sgn (x - y) := by
  unfold cmpO
  rw [if_pos ⟨IsZ.ok x, IsZ.ok y⟩, zof_z, zof_z]
 rw [C, B] at h
 exact h
theorem wSign_z {w : World} (ha : IsZ w Z a x) :
  Calls Tryz.prog 219 #[a] w fun e w' => e = .returned (.tuple #[.int .i64 (sgn x), .int .i64 0]) ∧ Below w.heap.size w w' := by
 have h := wSign_all ha
 have B : errC (decide (x < 0)) (limbs x.natAbs) = 0 := by unfold errC; rw [if_pos (IsZ.ok x)]
 have C : sgX (decide (x < 0)) (limbs x.natAbs) = sgn x := by unfold sgX; rw [if_pos (IsZ.ok x), zof_z]
 rw [B, C] at h
 exact h
theorem wneg_z {w : World} (ha : IsZ w Z a x) (hl : (limbs x.natAbs).length ≤ 90000000000) :
  Calls Tryz.prog 216 #[a] w fun e w' => ∃ v, e = .returned (.tuple #[v, .int .i64 0]) ∧ IsZ w' (new w.heap.size) v (-x) ∧ Below w.heap.size w w' := by
 have h := wneg_all ha hl
 have B : errC (decide (x < 0)) (limbs x.natAbs) = 0 := by unfold errC; rw [if_pos (IsZ.ok x)]
 have C : negP (decide (x < 0)) (limbs x.natAbs) = (decide (-x < 0), limbs (-x).natAbs) := by unfold negP; rw [if_pos (IsZ.ok x), zof_z, Int.natAbs_neg]
 rw [B, C] at h
 exact h
theorem wint_z {w : World} (ha : IsZ w Z a x) (hx : -9223372036854775808 ≤ x ∧ x ≤ 9223372036854775807) :
  Calls Tryz.prog 221 #[a] w fun e w' => e = .returned (.tuple #[.int .i64 x, .int .i64 0]) ∧ Below w.heap.size w w' := by
 have h := wint_all ha
 obtain ⟨B, C⟩ := int_z hx
 rwa [B, C] at h
theorem wfloor_z {w : World} (ha : IsZ w Z a x) (hb : IsZ w Y b y) (hy : y ≠ 0) (hl : (limbs x.natAbs).length ≤ 10000000000) :
  Calls Tryz.prog 218 #[a, b] w fun e w' => ∃ v, e = .returned (.tuple #[v, .int .i64 0]) ∧ IsZ w' (new w.heap.size) v (rq x y true) ∧ Below w.heap.size w w' := by
 have C := fun (H : World) (h : Below w.heap.size w H) => wrounded_good (d := true) (ha.below h) (hb.below h) hy hl
 obtain ⟨_, rfl, A, c, rfl, g⟩ := ha
 obtain ⟨_, rfl, B, i, rfl, D⟩ := hb
 obtain ⟨O, P, G, E⟩ := boxes3 w (.bool (decide (x < 0))) (.slice A (limbs x.natAbs).length c) (.bool (decide (y < 0))) (.slice B (limbs y.natAbs).length i) (.bool false) (.slice none 0 0) 35
 unfold IsZ at C ⊢
 obtain ⟨s, Q⟩ : ∃ s, s = decide (rq x y true < 0) := ⟨_, rfl⟩
 obtain ⟨l, R⟩ : ∃ l, l = limbs (rq x y true).natAbs := ⟨_, rfl⟩
 obtain ⟨S, T⟩ : ∃ S, S = decide (x < 0) := ⟨_, rfl⟩
 obtain ⟨U, V⟩ : ∃ U, U = decide (y < 0) := ⟨_, rfl⟩
 simp only [← Q, ← R, ← T, ← V] at C O P G E ⊢
 generalize (limbs x.natAbs).length = lx at *
 generalize (limbs y.natAbs).length = ly at *
 have X := hid C
 clear C g D Q R T V hl hy
 obtain ⟨m, o, _, _, _⟩ := O
 obtain ⟨q, r, _, _, _⟩ := P
 go_enter Tryz.func218, Tryz.ntmps218
 go_wp2_with fail
 refine (X.out _ E).mono ?_
 rintro e H ⟨_, rfl, ⟨_, rfl, I, J, rfl, D⟩, W⟩
 have L := G.below W
 have F := L.put (from_ E W) (by omega) (.bool s) (.slice I l.length J)
 have M : IsU H _ (.slice I l.length J) l := ⟨I, J, rfl, D⟩
 have N := F.keep (by simp <;> omega) M
 obtain ⟨j, K⟩ := hid2 N F
 obtain ⟨u, z, f0, f1, _⟩ := L
 clear D M N F G E
 go_wp2
 refine bodyPost_ret (res_int2 rfl _ (w.heap.size + 2) rfl K.out.c0 K.out.c1) rfl ?_
 exact ⟨_, rfl, ⟨_, rfl, j.out⟩, K.out.bel⟩
theorem wceil_z {w : World} (ha : IsZ w Z a x) (hb : IsZ w Y b y) (hy : y ≠ 0) (hl : (limbs x.natAbs).length ≤ 10000000000) :
  Calls Tryz.prog 217 #[a, b] w fun e w' => ∃ v, e = .returned (.tuple #[v, .int .i64 0]) ∧ IsZ w' (new w.heap.size) v (rq x y false) ∧ Below w.heap.size w w' := by
 have C := fun (H : World) (h : Below w.heap.size w H) => wrounded_good (d := false) (ha.below h) (hb.below h) hy hl
 obtain ⟨_, rfl, A, c, rfl, g⟩ := ha
 obtain ⟨_, rfl, B, i, rfl, D⟩ := hb
 obtain ⟨O, P, G, E⟩ := boxes3 w (.bool (decide (x < 0))) (.slice A (limbs x.natAbs).length c) (.bool (decide (y < 0))) (.slice B (limbs y.natAbs).length i) (.bool false) (.slice none 0 0) 35
 unfold IsZ at C ⊢
 obtain ⟨s, Q⟩ : ∃ s, s = decide (rq x y false < 0) := ⟨_, rfl⟩
 obtain ⟨l, R⟩ : ∃ l, l = limbs (rq x y false).natAbs := ⟨_, rfl⟩
 obtain ⟨S, T⟩ : ∃ S, S = decide (x < 0) := ⟨_, rfl⟩
 obtain ⟨U, V⟩ : ∃ U, U = decide (y < 0) := ⟨_, rfl⟩
 simp only [← Q, ← R, ← T, ← V] at C O P G E ⊢
 generalize (limbs x.natAbs).length = lx at *
 generalize (limbs y.natAbs).length = ly at *
 have X := hid C
 clear C g D Q R T V hl hy
 obtain ⟨m, o, _, _, _⟩ := O
 obtain ⟨q, r, _, _, _⟩ := P
 go_enter Tryz.func217, Tryz.ntmps217
 go_wp2_with fail
 refine (X.out _ E).mono ?_
 rintro e H ⟨_, rfl, ⟨_, rfl, I, J, rfl, D⟩, W⟩
 have L := G.below W
 have F := L.put (from_ E W) (by omega) (.bool s) (.slice I l.length J)
 have M : IsU H _ (.slice I l.length J) l := ⟨I, J, rfl, D⟩
 have N := F.keep (by simp <;> omega) M
 obtain ⟨j, K⟩ := hid2 N F
 obtain ⟨u, z, f0, f1, _⟩ := L
 clear D M N F G E
 go_wp2
 refine bodyPost_ret (res_int2 rfl _ (w.heap.size + 2) rfl K.out.c0 K.out.c1) rfl ?_
 exact ⟨_, rfl, ⟨_, rfl, j.out⟩, K.out.bel⟩
end Go.Proofs.YtdncgncijbnjpaaGreat
