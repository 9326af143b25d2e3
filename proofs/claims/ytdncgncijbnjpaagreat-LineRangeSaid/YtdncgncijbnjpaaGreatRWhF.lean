/- Whole numbers: the sign. No conditions. -/
import Derived.Test.YtdncgncijbnjpaaGreatRWhC
import Derived.Test.YtdncgncijbnjpaaGreatRRefE
set_option linter.unusedVariables false
set_option linter.unusedSimpArgs false
set_option maxRecDepth 100000
set_option maxHeartbeats 40000000
namespace Go.Proofs.YtdncgncijbnjpaaGreat
open Go.Lib (hid)
open Go.RowKit
variable {Y Z : Zone} {a b : Value} {s t : Bool}
def opP (f : Int → Int → Int) (s : Bool) (l : List Nat) (t : Bool) (k : List Nat) : Bool × List Nat :=
 if okI s l = true ∧ okI t k = true then (decide (f (zof s l) (zof t k) < 0), limbs (f (zof s l) (zof t k)).natAbs) else (false, [])
def errO (s : Bool) (l : List Nat) (t : Bool) (k : List Nat) : Int := if okI s l = true ∧ okI t k = true then 0 else 8
theorem errCs_two (s t : Bool) (l k : List Nat) : errCs [(s, l), (t, k)] = errO s l t k := by simp [errCs, errO]
theorem given_twoI {w : World} {u v : Value} {l k : List Nat} {ty : TypeId} (ha : IsU w Z u l) (hb : IsU w Y v k) :
  GivenI (w.alloc (.cells #[.bool s, u, .bool t, v] ty)) w.heap.size [(s, l), (t, k)] := fun j hj => by
 have A : Below w.heap.size w (w.alloc (.cells #[.bool s, u, .bool t, v] ty)) := (Below.refl _ w).alloc (Nat.le_refl _) _
 match j, hj with
 | 0, _ => exact ⟨u, cell_newest rfl rfl, cell_newest rfl rfl, (ha.below A).old⟩
 | 1, _ => exact ⟨v, cell_newest rfl rfl, cell_newest rfl rfl, (hb.below A).old⟩
theorem len_zof {l : List Nat} (h : okI s l = true) (hs : Small l) : (limbs (zof s l).natAbs).length = l.length := by rw [(zof_enc h hs).2]
theorem Below.refl_alloc {w W : World} {B : Nat} (h : Below B w W) (o : Obj) : Below W.heap.size W (W.alloc o) := (Below.refl _ W).alloc (Nat.le_refl _) _
theorem wadd_all {w : World} {l k : List Nat} (ha : IsI w Z a s l) (hb : IsI w Y b t k) (hl : l.length ≤ 90000000000) (hl2 : k.length ≤ 90000000000) :
  Calls Tryz.prog 196 #[a, b] w fun e w' => ∃ v, e = .returned (.tuple #[v, .int .i64 (errO s l t k)]) ∧ IsI w' (new w.heap.size) v (opP (· + ·) s l t k).1 (opP (· + ·) s l t k).2 ∧ Below w.heap.size w w' := by
 obtain ⟨_, rfl, A, C, rfl, W⟩ := ha
 obtain ⟨_, rfl, B, D, rfl, M⟩ := hb
 obtain ⟨u, x, U, E⟩ := boxes3 w (.bool s) (.slice A l.length C) (.bool t) (.slice B k.length D) (.bool false) (.slice none 0 0) 35
 have g : IsU w Z (.slice A l.length C) l := ⟨A, C, rfl, W⟩
 have h : IsU w Y (.slice B k.length D) k := ⟨B, D, rfl, M⟩
 have V := given_twoI (s := s) (t := t) (ty := 35) (g.below E) (h.below E)
 have i : (((w.alloc (.cells #[.bool s, .slice A l.length C] 35)).alloc (.cells #[.bool t, .slice B k.length D] 35)).alloc (.cells #[.bool false, .slice none 0 0] 35)).heap.size = w.heap.size + 3 := by simp
 rw [i] at V
 have G := wchecked_any (n := 2) (c := 2) V rfl (by simp)
 rw [errCs_two] at G
 have Ka := W.small
 have Kb := M.small
 clear V i W M
 have S := E.alloc E.size (.cells #[.bool s, .slice A l.length C, .bool t, .slice B k.length D] 35)
 by_cases hok : okI s l = true ∧ okI t k = true
 · have O : errO s l t k = 0 := by simp [errO, hok]
   have P : opP (· + ·) s l t k = (decide ((· + ·) (zof s l) (zof t k) < 0), limbs ((· + ·) (zof s l) (zof t k)).natAbs) := by simp [opP, hok]
   rw [O] at G ⊢
   rw [P]
   have j := IsI.num ⟨_, rfl, g⟩ hok.1
   have m := IsI.num ⟨_, rfl, h⟩ hok.2
   have o := len_zof hok.1 Ka
   have q2 := len_zof hok.2 Kb
   obtain ⟨R, Kc⟩ := hid2 G hok
   clear G O P hok
   obtain ⟨I, J, _, _, _⟩ := u
   obtain ⟨K, L, _, _, _⟩ := x
   go_enter Tryz.func196, Tryz.ntmps196
   go_wp2_with fail
   refine R.out.mono ?_
   rintro e w1 ⟨rfl, F⟩
   have Q := (U.alloc (.cells #[.bool s, .slice A l.length C, .bool t, .slice B k.length D] 35)).below F
   have I := keepC (Below.refl_alloc E (.cells #[.bool s, .slice A l.length C, .bool t, .slice B k.length D] 35)) I
   have J := keepC (Below.refl_alloc E (.cells #[.bool s, .slice A l.length C, .bool t, .slice B k.length D] 35)) J
   have K := keepC (Below.refl_alloc E (.cells #[.bool s, .slice A l.length C, .bool t, .slice B k.length D] 35)) K
   have L := keepC (Below.refl_alloc E (.cells #[.bool s, .slice A l.length C, .bool t, .slice B k.length D] 35)) L
   have I := keepC F I
   have J := keepC F J
   have K := keepC F K
   have L := keepC F L
   have T := from_ S F
   clear U E S R
   go_wp2_with fail
   refine (wsum_good (j.below T) (m.below T) (by omega) (by omega)).mono ?_
   rintro e w2 ⟨_, rfl, ⟨_, rfl, X, d, rfl, y⟩, z⟩
   have M : IsU w2 _ (.slice X (limbs (zof s l + zof t k).natAbs).length d) (limbs (zof s l + zof t k).natAbs) := ⟨X, d, rfl, y⟩
   have q := Q.below z
   have N := q.put (from_ T z) (by omega) (.bool (decide (zof s l + zof t k < 0))) (.slice X (limbs (zof s l + zof t k).natAbs).length d)
   have r := N.keep (by have := F.size; simp at this; omega) M
   obtain ⟨Hu, H⟩ := hid2 r N
   obtain ⟨q0, o, f0, f1, _⟩ := q
   clear M y r N Q I J K L T j m
   go_wp2
   refine bodyPost_ret (res_int2 rfl _ (w.heap.size + 2) rfl H.out.c0 H.out.c1) rfl ?_
   exact ⟨_, rfl, ⟨_, rfl, Hu.out⟩, H.out.bel⟩
 · have O : errO s l t k = 8 := by simp only [errO, hok, if_false]
   have P : opP (· + ·) s l t k = (false, []) := by simp only [opP, hok, if_false]
   rw [O] at G ⊢
   rw [P]
   have R := hid G
   clear G O P hok
   obtain ⟨I, J, _, _, _⟩ := u
   obtain ⟨K, L, _, _, _⟩ := x
   go_enter Tryz.func196, Tryz.ntmps196
   go_wp2_with fail
   refine R.out.mono ?_
   rintro e w1 ⟨rfl, F⟩
   have Q := (U.alloc (.cells #[.bool s, .slice A l.length C, .bool t, .slice B k.length D] 35)).below F
   have N := Q.put (from_ S F) (by omega) (.bool false) (.slice none 0 0)
   have H := hid N
   obtain ⟨q0, o, f0, f1, _⟩ := Q
   clear N U E S R
   go_wp2
   refine bodyPost_ret (res_int2 rfl _ (w.heap.size + 2) rfl H.out.c0 H.out.c1) rfl ?_
   exact ⟨_, rfl, ⟨_, rfl, IsU.nil _ _⟩, H.out.bel⟩
theorem okI_cases {l : List Nat} (h : okI s l = true) (hs : Small l) : good l = true ∧ (s = false ∨ (s = true ∧ 0 < val l)) := by
 have A := h
 unfold okI at h
 rw [Bool.and_eq_true] at h
 refine ⟨h.1, ?_⟩
 cases s with
 | false => exact .inl rfl
 | true =>
   right
   refine ⟨rfl, Nat.pos_of_ne_zero fun h3 => ?_⟩
   rw [val_zero h.1 hs h3] at A
   simp [okI] at A
theorem mul_enc {l k : List Nat} (h1 : okI s l = true) (h2 : okI t k = true) (hs : Small l) (ht : Small k) :
  ((s != t) && decide (0 < (limbs (val l * val k)).length)) = decide (zof s l * zof t k < 0) ∧ (zof s l * zof t k).natAbs = val l * val k := by
 obtain ⟨F, D⟩ := okI_cases h1 hs
 obtain ⟨G, E⟩ := okI_cases h2 ht
 obtain ⟨P, A⟩ : ∃ P, P = val l * val k := ⟨_, rfl⟩
 have B : (val l : Int) * (val k : Int) = (P : Int) := by rw [A, Int.natCast_mul]
 rw [← A]
 have C : decide (0 < (limbs P).length) = decide (0 < P) := decide_eq_decide.2 (by rw [len_pos]; omega)
 rw [C]
 rcases D with rfl | ⟨rfl, p1⟩ <;> rcases E with rfl | ⟨rfl, p2⟩ <;>
  simp only [zof, Bool.false_eq_true, if_false, if_true, Int.neg_mul, Int.mul_neg, B, Int.neg_neg, bne_self_eq_false, Bool.false_and]
 · exact ⟨(decide_eq_false (by omega)).symm, by omega⟩
 · refine ⟨?_, by omega⟩
   rw [show (false != true) = true from rfl, Bool.true_and]
   exact decide_eq_decide.2 (by omega)
 · refine ⟨?_, by omega⟩
   rw [show (true != false) = true from rfl, Bool.true_and]
   exact decide_eq_decide.2 (by omega)
 · exact ⟨(decide_eq_false (by omega)).symm, by omega⟩
theorem neg_enc {l : List Nat} (h1 : okI s l = true) (hs : Small l) :
  (!s && decide (0 < l.length)) = decide (-zof s l < 0) ∧ limbs (-zof s l).natAbs = l := by
 obtain ⟨C, D⟩ := okI_cases h1 hs
 have A := limbs_val l hs C
 have B : decide (0 < l.length) = decide (0 < val l) := decide_eq_decide.2 (by
  rw [← A, val_limbs, len_pos]
  omega)
 rw [B]
 rcases D with rfl | ⟨rfl, p1⟩
 · simp only [zof, Bool.false_eq_true, if_false, Bool.not_false, Bool.true_and, Int.natAbs_neg, Int.natAbs_natCast]
   exact ⟨decide_eq_decide.2 (by omega), A⟩
 · simp only [zof, if_true, Bool.not_true, Bool.false_and, Int.neg_neg, Int.natAbs_natCast]
   exact ⟨(decide_eq_false (by omega)).symm, A⟩
theorem wmul_all {w : World} {l k : List Nat} (ha : IsI w Z a s l) (hb : IsI w Y b t k) (hl : l.length ≤ 90000000000) (hl2 : k.length ≤ 90000000000) :
  Calls Tryz.prog 195 #[a, b] w fun e w' => ∃ v, e = .returned (.tuple #[v, .int .i64 (errO s l t k)]) ∧ IsI w' (new w.heap.size) v (opP (· * ·) s l t k).1 (opP (· * ·) s l t k).2 ∧ Below w.heap.size w w' := by
 obtain ⟨_, rfl, A, C, rfl, o⟩ := ha
 obtain ⟨_, rfl, B, D, rfl, J⟩ := hb
 obtain ⟨bA, bB, U, E⟩ := boxes3 w (.bool s) (.slice A l.length C) (.bool t) (.slice B k.length D) (.bool false) (.slice none 0 0) 35
 have X : IsU w Z (.slice A l.length C) l := ⟨A, C, rfl, o⟩
 have d : IsU w Y (.slice B k.length D) k := ⟨B, D, rfl, J⟩
 have g := given_twoI (s := s) (t := t) (ty := 35) (X.below E) (d.below E)
 have x : (((w.alloc (.cells #[.bool s, .slice A l.length C] 35)).alloc (.cells #[.bool t, .slice B k.length D] 35)).alloc (.cells #[.bool false, .slice none 0 0] 35)).heap.size = w.heap.size + 3 := by simp
 rw [x] at g
 have I := wchecked_any (n := 2) (c := 2) g rfl (by simp)
 rw [errCs_two] at I
 have h := o.small
 have i := J.small
 clear g x o J
 have S := E.alloc E.size (.cells #[.bool s, .slice A l.length C, .bool t, .slice B k.length D] 35)
 by_cases hok : okI s l = true ∧ okI t k = true
 · have P : errO s l t k = 0 := by simp [errO, hok]
   have Q : opP (· * ·) s l t k = (decide ((· * ·) (zof s l) (zof t k) < 0), limbs ((· * ·) (zof s l) (zof t k)).natAbs) := by simp [opP, hok]
   rw [P] at I ⊢
   rw [Q]
   have Kh := IsI.num ⟨_, rfl, X⟩ hok.1
   have Ki := IsI.num ⟨_, rfl, d⟩ hok.2
   have y := len_zof hok.1 h
   have q2 := len_zof hok.2 i
   obtain ⟨R, V⟩ := hid2 I hok
   clear I P Q hok
   obtain ⟨G, M, _, _, _⟩ := bA
   obtain ⟨H, N, _, _, _⟩ := bB
   go_enter Tryz.func195, Tryz.ntmps195
   go_wp2_with fail
   refine R.out.mono ?_
   rintro e w1 ⟨rfl, F⟩
   have L := (U.alloc (.cells #[.bool s, .slice A l.length C, .bool t, .slice B k.length D] 35)).below F
   have G := keepC (Below.refl_alloc E (.cells #[.bool s, .slice A l.length C, .bool t, .slice B k.length D] 35)) G
   have M := keepC (Below.refl_alloc E (.cells #[.bool s, .slice A l.length C, .bool t, .slice B k.length D] 35)) M
   have H := keepC (Below.refl_alloc E (.cells #[.bool s, .slice A l.length C, .bool t, .slice B k.length D] 35)) H
   have N := keepC (Below.refl_alloc E (.cells #[.bool s, .slice A l.length C, .bool t, .slice B k.length D] 35)) N
   have G := keepC F G
   have M := keepC F M
   have H := keepC F H
   have N := keepC F N
   have T := from_ S F
   clear U E S R
   have j : good l = true := by have := V.out.1; unfold okI at this; rw [Bool.and_eq_true] at this; exact this.1
   have m : good k = true := by have := V.out.2; unfold okI at this; rw [Bool.and_eq_true] at this; exact this.1
   have z := (X.below T).num j
   have nb := (d.below T).num m
   have k1 : (limbs (val l)).length = l.length := by rw [limbs_val l h j]
   have k2 : (limbs (val k)).length = k.length := by rw [limbs_val k i m]
   obtain ⟨Ke, Kf⟩ := mul_enc V.out.1 V.out.2 h i
   obtain ⟨Kk, Kl⟩ := hid2 Kf Ke
   clear j m Kh Ki Ke Kf
   go_wp2_with fail
   refine (mul_good z nb (by omega) (by omega)).mono ?_
   rintro e w2 ⟨_, rfl, ⟨q, r, rfl, Kg⟩, W⟩
   have J : IsU w2 _ (.slice q (limbs (val l * val k)).length r) (limbs (val l * val k)) := ⟨q, r, rfl, Kg⟩
   have Ka := L.below W
   have G := keepC W G
   have H := keepC W H
   have Kb := from_ T W
   have Kj : w.heap.size + 2 < w1.heap.size := L.lt
   clear Kg L M N T z nb
   go_wp2_with fail
   refine (made_at J Kl.out).mono ?_
   rintro e w3 ⟨rfl, u⟩
   have Kc := Ka.below u
   have O := Kc.put (from_ Kb u) (by omega) (.bool (decide (zof s l * zof t k < 0))) (.slice q (limbs (val l * val k)).length r)
   have Kd := O.keep Kj (J.below u)
   obtain ⟨Hu, K⟩ := hid2 Kd O
   obtain ⟨q0, y, f0, f1, _⟩ := Kc
   clear J Kd O Ka G H Kb
   go_wp2
   refine bodyPost_ret (res_int2 rfl _ (w.heap.size + 2) rfl K.out.c0 K.out.c1) rfl ?_
   exact ⟨_, rfl, ⟨_, rfl, by rw [Kk.out]; exact Hu.out⟩, K.out.bel⟩
 · have P : errO s l t k = 8 := by simp only [errO, hok, if_false]
   have Q : opP (· * ·) s l t k = (false, []) := by simp only [opP, hok, if_false]
   rw [P] at I ⊢
   rw [Q]
   have R := hid I
   clear I P Q hok
   obtain ⟨G, M, _, _, _⟩ := bA
   obtain ⟨H, N, _, _, _⟩ := bB
   go_enter Tryz.func195, Tryz.ntmps195
   go_wp2_with fail
   refine R.out.mono ?_
   rintro e w1 ⟨rfl, F⟩
   have L := (U.alloc (.cells #[.bool s, .slice A l.length C, .bool t, .slice B k.length D] 35)).below F
   have O := L.put (from_ S F) (by omega) (.bool false) (.slice none 0 0)
   have K := hid O
   obtain ⟨q0, y, f0, f1, _⟩ := L
   clear O U E S R
   go_wp2
   refine bodyPost_ret (res_int2 rfl _ (w.heap.size + 2) rfl K.out.c0 K.out.c1) rfl ?_
   exact ⟨_, rfl, ⟨_, rfl, IsU.nil _ _⟩, K.out.bel⟩
def sgn (x : Int) : Int := if x = 0 then 0 else if x < 0 then -1 else 1
def sgX (s : Bool) (l : List Nat) : Int := if okI s l = true then sgn (zof s l) else 0
theorem eqA (w : World) : (Op.equalIn 10000 215 (.agg #[.bool false, .bool true]) (.agg #[.bool false, .bool true])).run Tryz.prog w = .ok true w := by kernel_rfl
theorem eqB (w : World) : (Op.equalIn 10000 215 (.agg #[.bool true, .bool false]) (.agg #[.bool false, .bool true])).run Tryz.prog w = .ok false w := by kernel_rfl
theorem eqC (w : World) : (Op.equalIn 10000 215 (.agg #[.bool false, .bool false]) (.agg #[.bool false, .bool true])).run Tryz.prog w = .ok false w := by kernel_rfl
theorem wsign_good {w : World} {x : Int} (ha : IsZ w Z a x) :
  Calls Tryz.prog 141 #[a] w fun e w' => e = .returned (.int .i64 (sgn x)) ∧ Below w.heap.size w w' := by
 obtain ⟨_, rfl, A, c, rfl, G⟩ := ha
 have E := G.len
 have H : Below w.heap.size w (w.alloc (.cells #[.bool (decide (x < 0)), .slice A (limbs x.natAbs).length c] 35)) := (Below.refl _ w).alloc (Nat.le_refl _) _
 obtain ⟨M, N, _, _, _⟩ := Box.new w (.bool (decide (x < 0))) (.slice A (limbs x.natAbs).length c) 35
 have F : (0 < (limbs x.natAbs).length) ↔ x ≠ 0 := by rw [len_pos]; omega
 have I := eqA
 have J := eqB
 have K := eqC
 clear G
 rcases (show x = 0 ∨ x < 0 ∨ 0 < x by omega) with h | h | h
 · have B : sgn x = 0 := by simp [sgn, h]
   have D : (limbs x.natAbs).length = 0 := by omega
   rw [B, D] at *
   have C : decide (x < 0) = false := decide_eq_false (by omega)
   rw [C] at *
   clear F h B D C E
   go_enter Tryz.func141, Tryz.ntmps141
   go_wp2
   go_ret
   exact ⟨rfl, by go_grown⟩
 · have B : sgn x = -1 := by simp [sgn]; omega
   have D : (((limbs x.natAbs).length : Int) == 0) = false := beq_eq_false_iff_ne.2 (by omega)
   have C : decide (x < 0) = true := decide_eq_true h
   rw [B]
   rw [C] at *
   clear F h B C E
   generalize (limbs x.natAbs).length = L at *
   go_enter Tryz.func141, Tryz.ntmps141
   go_wp2
   go_ret
   exact ⟨rfl, by go_grown⟩
 · have B : sgn x = 1 := by simp [sgn]; omega
   have D : (((limbs x.natAbs).length : Int) == 0) = false := beq_eq_false_iff_ne.2 (by omega)
   have C : decide (x < 0) = false := decide_eq_false (by omega)
   rw [B]
   rw [C] at *
   clear F h B C E
   generalize (limbs x.natAbs).length = L at *
   go_enter Tryz.func141, Tryz.ntmps141
   go_wp2
   go_ret
   exact ⟨rfl, by go_grown⟩
end Go.Proofs.YtdncgncijbnjpaaGreat
