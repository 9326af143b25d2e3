/- Whole numbers: the sign. No conditions. -/
import Derived.Test.YtcheajjjdbllfaaGreatNWhC
import Derived.Test.YtcheajjjdbllfaaGreatNRefE
set_option linter.unusedVariables false
set_option linter.unusedSimpArgs false
set_option maxRecDepth 100000
set_option maxHeartbeats 40000000
namespace Go.Proofs.YtcheajjjdbllfaaGreat
open Go.Lib (hid)
open Go.RowKit
variable {Y Z : Zone} {a : Value} {s t : Bool} {w : World}
def opP (f : Int → Int → Int) (s : Bool) (l : List Nat) (t : Bool) (k : List Nat) : Bool × List Nat :=
 if okI s l = true ∧ okI t k = true then (decide (f (zof s l) (zof t k) < 0), limbs (f (zof s l) (zof t k)).natAbs) else (false, [])
def errO (s : Bool) (l : List Nat) (t : Bool) (k : List Nat) : Int := if okI s l = true ∧ okI t k = true then 0 else 8
theorem errCs_two (s t : Bool) (l k : List Nat) : errCs [(s, l), (t, k)] = errO s l t k := by simp [errCs, errO]
theorem given_twoI {u v : Value} {l k : List Nat} {ty : TypeId} (ha : IsU w Z u l) (hb : IsU w Y v k) :
  GivenI (w.alloc (.cells #[.bool s, u, .bool t, v] ty)) w.heap.size [(s, l), (t, k)] := fun j hj => by
 have hb0 : Below w.heap.size w (w.alloc (.cells #[.bool s, u, .bool t, v] ty)) := (Below.refl _ w).alloc (Nat.le_refl _) _
 match j, hj with
 | 0, _ => exact ⟨u, cell_newest rfl rfl, cell_newest rfl rfl, (ha.below hb0).old⟩
 | 1, _ => exact ⟨v, cell_newest rfl rfl, cell_newest rfl rfl, (hb.below hb0).old⟩
theorem len_zof {l : List Nat} (h : okI s l = true) (hs : Small l) : (limbs (zof s l).natAbs).length = l.length := by rw [(zof_enc h hs).2]
theorem Below.refl_alloc {W : World} {B : Nat} (h : Below B w W) (o : Obj) : Below W.heap.size W (W.alloc o) := (Below.refl _ W).alloc (Nat.le_refl _) _
theorem wadd_all {b : Value} {l k : List Nat} (ha : IsI w Z a s l) (hb : IsI w Y b t k) (hl : l.length ≤ 90000000000) (hl2 : k.length ≤ 90000000000) :
  Calls Tryz.prog 114 #[a, b] w fun e w' => ∃ v, e = .returned (.tuple #[v, .int .i64 (errO s l t k)]) ∧ IsI w' (new w.heap.size) v (opP (· + ·) s l t k).1 (opP (· + ·) s l t k).2 ∧ Below w.heap.size w w' := by
 obtain ⟨_, rfl, A, ca, rfl, hu⟩ := ha
 obtain ⟨_, rfl, B, cb, rfl, hv⟩ := hb
 obtain ⟨bA, bB, bR, hB0⟩ := boxes3 w (.bool s) (.slice A l.length ca) (.bool t) (.slice B k.length cb) (.bool false) (.slice none 0 0) 25
 have ua : IsU w Z (.slice A l.length ca) l := ⟨A, ca, rfl, hu⟩
 have ub : IsU w Y (.slice B k.length cb) k := ⟨B, cb, rfl, hv⟩
 have hg := given_twoI (s := s) (t := t) (ty := 25) (ua.below hB0) (ub.below hB0)
 have hg2 : (((w.alloc (.cells #[.bool s, .slice A l.length ca] 25)).alloc (.cells #[.bool t, .slice B k.length cb] 25)).alloc (.cells #[.bool false, .slice none 0 0] 25)).heap.size = w.heap.size + 3 := by simp
 rw [hg2] at hg
 have hck := wchecked_any (n := 2) (c := 2) hg rfl (by simp)
 rw [errCs_two] at hck
 have hsa := hu.small
 have hsb := hv.small
 clear hg hg2 hu hv
 have hb1 := hB0.alloc hB0.size (.cells #[.bool s, .slice A l.length ca, .bool t, .slice B k.length cb] 25)
 by_cases hok : okI s l = true ∧ okI t k = true
 · have e1 : errO s l t k = 0 := by simp [errO, hok]
   have e2 : opP (· + ·) s l t k = (decide ((· + ·) (zof s l) (zof t k) < 0), limbs ((· + ·) (zof s l) (zof t k)).natAbs) := by simp [opP, hok]
   rw [e1] at hck ⊢
   rw [e2]
   have nza := IsI.num ⟨_, rfl, ua⟩ hok.1
   have nzb := IsI.num ⟨_, rfl, ub⟩ hok.2
   have q1 := len_zof hok.1 hsa
   have q2 := len_zof hok.2 hsb
   obtain ⟨Hck, Hok⟩ := hid2 hck hok
   clear hck e1 e2 hok
   obtain ⟨a0, a1, _, _, _⟩ := bA
   obtain ⟨b0, b1, _, _, _⟩ := bB
   go_enter Tryz.func114, Tryz.ntmps114
   go_wp2_with fail
   refine Hck.out.mono ?_
   rintro e w1 ⟨rfl, hc1⟩
   have bR1 := (bR.alloc (.cells #[.bool s, .slice A l.length ca, .bool t, .slice B k.length cb] 25)).below hc1
   have a0 := keepC (Below.refl_alloc hB0 (.cells #[.bool s, .slice A l.length ca, .bool t, .slice B k.length cb] 25)) a0
   have a1 := keepC (Below.refl_alloc hB0 (.cells #[.bool s, .slice A l.length ca, .bool t, .slice B k.length cb] 25)) a1
   have b0 := keepC (Below.refl_alloc hB0 (.cells #[.bool s, .slice A l.length ca, .bool t, .slice B k.length cb] 25)) b0
   have b1 := keepC (Below.refl_alloc hB0 (.cells #[.bool s, .slice A l.length ca, .bool t, .slice B k.length cb] 25)) b1
   have a0 := keepC hc1 a0
   have a1 := keepC hc1 a1
   have b0 := keepC hc1 b0
   have b1 := keepC hc1 b1
   have hB1 := from_ hb1 hc1
   clear bR hB0 hb1 Hck
   go_wp2_with fail
   refine (wsum_good (nza.below hB1) (nzb.below hB1) (by omega) (by omega)).mono ?_
   rintro e w2 ⟨_, rfl, ⟨_, rfl, Av, cv, rfl, hv'⟩, hc2⟩
   have hv : IsU w2 _ (.slice Av (limbs (zof s l + zof t k).natAbs).length cv) (limbs (zof s l + zof t k).natAbs) := ⟨Av, cv, rfl, hv'⟩
   have bR2 := bR1.below hc2
   have hP := bR2.put (from_ hB1 hc2) (by omega) (.bool (decide (zof s l + zof t k < 0))) (.slice Av (limbs (zof s l + zof t k).natAbs).length cv)
   have hu2 := hP.keep (by have := hc1.size; simp at this; omega) hv
   obtain ⟨Hu, HP⟩ := hid2 hu2 hP
   obtain ⟨q0, q1, f0, f1, _⟩ := bR2
   clear hv hv' hu2 hP bR1 a0 a1 b0 b1 hB1 nza nzb
   go_wp2
   refine bodyPost_ret (res_int2 rfl _ (w.heap.size + 2) rfl HP.out.c0 HP.out.c1) rfl ?_
   exact ⟨_, rfl, ⟨_, rfl, Hu.out⟩, HP.out.bel⟩
 · have e1 : errO s l t k = 8 := by simp only [errO, hok, if_false]
   have e2 : opP (· + ·) s l t k = (false, []) := by simp only [opP, hok, if_false]
   rw [e1] at hck ⊢
   rw [e2]
   have Hck := hid hck
   clear hck e1 e2 hok
   obtain ⟨a0, a1, _, _, _⟩ := bA
   obtain ⟨b0, b1, _, _, _⟩ := bB
   go_enter Tryz.func114, Tryz.ntmps114
   go_wp2_with fail
   refine Hck.out.mono ?_
   rintro e w1 ⟨rfl, hc1⟩
   have bR1 := (bR.alloc (.cells #[.bool s, .slice A l.length ca, .bool t, .slice B k.length cb] 25)).below hc1
   have hP := bR1.put (from_ hb1 hc1) (by omega) (.bool false) (.slice none 0 0)
   have HP := hid hP
   obtain ⟨q0, q1, f0, f1, _⟩ := bR1
   clear hP bR hB0 hb1 Hck
   go_wp2
   refine bodyPost_ret (res_int2 rfl _ (w.heap.size + 2) rfl HP.out.c0 HP.out.c1) rfl ?_
   exact ⟨_, rfl, ⟨_, rfl, IsU.nil _ _⟩, HP.out.bel⟩
theorem okI_cases {l : List Nat} (h : okI s l = true) (hs : Small l) : good l = true ∧ (s = false ∨ (s = true ∧ 0 < val l)) := by
 have h0 := h
 unfold okI at h
 rw [Bool.and_eq_true] at h
 refine ⟨h.1, ?_⟩
 cases s with
 | false => exact .inl rfl
 | true =>
   right
   refine ⟨rfl, Nat.pos_of_ne_zero fun h3 => ?_⟩
   rw [val_zero h.1 hs h3] at h0
   simp [okI] at h0
theorem neg_enc {l : List Nat} (h1 : okI s l = true) (hs : Small l) :
  (!s && decide (0 < l.length)) = decide (-zof s l < 0) ∧ limbs (-zof s l).natAbs = l := by
 obtain ⟨g1, c1⟩ := okI_cases h1 hs
 have hl := limbs_val l hs g1
 have hlen : decide (0 < l.length) = decide (0 < val l) := decide_eq_decide.2 (by
  rw [← hl, val_limbs, len_pos]
  omega)
 rw [hlen]
 rcases c1 with rfl | ⟨rfl, p1⟩
 · simp only [zof, Bool.false_eq_true, if_false, Bool.not_false, Bool.true_and, Int.natAbs_neg, Int.natAbs_natCast]
   exact ⟨decide_eq_decide.2 (by omega), hl⟩
 · simp only [zof, if_true, Bool.not_true, Bool.false_and, Int.neg_neg, Int.natAbs_natCast]
   exact ⟨(decide_eq_false (by omega)).symm, hl⟩
def sgn (x : Int) : Int := if x = 0 then 0 else if x < 0 then -1 else 1
def sgX (s : Bool) (l : List Nat) : Int := if okI s l = true then sgn (zof s l) else 0
theorem eqA (w : World) : (Op.equalIn 10000 164 (.agg #[.bool false, .bool true]) (.agg #[.bool false, .bool true])).run Tryz.prog w = .ok true w := by kernel_rfl
theorem eqB (w : World) : (Op.equalIn 10000 164 (.agg #[.bool true, .bool false]) (.agg #[.bool false, .bool true])).run Tryz.prog w = .ok false w := by kernel_rfl
theorem eqC (w : World) : (Op.equalIn 10000 164 (.agg #[.bool false, .bool false]) (.agg #[.bool false, .bool true])).run Tryz.prog w = .ok false w := by kernel_rfl
theorem wsign_good {x : Int} (ha : IsZ w Z a x) :
  Calls Tryz.prog 110 #[a] w fun e w' => e = .returned (.int .i64 (sgn x)) ∧ Below w.heap.size w w' := by
 obtain ⟨_, rfl, A, c, rfl, hu⟩ := ha
 have hlen := hu.len
 have hb0 : Below w.heap.size w (w.alloc (.cells #[.bool (decide (x < 0)), .slice A (limbs x.natAbs).length c] 25)) := (Below.refl _ w).alloc (Nat.le_refl _) _
 obtain ⟨q0, q1, _, _, _⟩ := Box.new w (.bool (decide (x < 0))) (.slice A (limbs x.natAbs).length c) 25
 have hpos : (0 < (limbs x.natAbs).length) ↔ x ≠ 0 := by rw [len_pos]; omega
 have eA := eqA
 have eB := eqB
 have eC := eqC
 clear hu
 rcases (show x = 0 ∨ x < 0 ∨ 0 < x by omega) with h | h | h
 · have e1 : sgn x = 0 := by simp [sgn, h]
   have hl0 : (limbs x.natAbs).length = 0 := by omega
   rw [e1, hl0] at *
   have hd : decide (x < 0) = false := decide_eq_false (by omega)
   rw [hd] at *
   clear hpos h e1 hl0 hd hlen
   go_enter Tryz.func110, Tryz.ntmps110
   go_wp2
   go_ret
   exact ⟨rfl, by go_grown⟩
 · have e1 : sgn x = -1 := by simp [sgn]; omega
   have hl0 : (((limbs x.natAbs).length : Int) == 0) = false := beq_eq_false_iff_ne.2 (by omega)
   have hd : decide (x < 0) = true := decide_eq_true h
   rw [e1]
   rw [hd] at *
   clear hpos h e1 hd hlen
   generalize (limbs x.natAbs).length = L at *
   go_enter Tryz.func110, Tryz.ntmps110
   go_wp2
   go_ret
   exact ⟨rfl, by go_grown⟩
 · have e1 : sgn x = 1 := by simp [sgn]; omega
   have hl0 : (((limbs x.natAbs).length : Int) == 0) = false := beq_eq_false_iff_ne.2 (by omega)
   have hd : decide (x < 0) = false := decide_eq_false (by omega)
   rw [e1]
   rw [hd] at *
   clear hpos h e1 hd hlen
   generalize (limbs x.natAbs).length = L at *
   go_enter Tryz.func110, Tryz.ntmps110
   go_wp2
   go_ret
   exact ⟨rfl, by go_grown⟩
end Go.Proofs.YtcheajjjdbllfaaGreat
