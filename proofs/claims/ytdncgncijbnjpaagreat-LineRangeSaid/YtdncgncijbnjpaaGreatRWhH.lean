/- Whole numbers: Neg, at any sign and words. No conditions but bounds on lengths. -/
import Derived.Deep.RegionWith
import Derived.Test.YtdncgncijbnjpaaGreatRWhF
import Derived.Test.YtdncgncijbnjpaaGreatRClone
set_option linter.unusedVariables false
set_option linter.unusedSimpArgs false
set_option maxRecDepth 100000
set_option maxHeartbeats 40000000
namespace Go.Proofs.YtdncgncijbnjpaaGreat
open Go.Lib (hid)
open Go.RowKit
variable {Y Z : Zone} {a b : Value} {s t : Bool}
theorem wsub_all {w : World} {l k : List Nat} (ha : IsI w Z a s l) (hb : IsI w Y b t k) (hl : l.length ≤ 90000000000) (hl2 : k.length ≤ 90000000000) :
  Calls Tryz.prog 140 #[a, b] w fun e w' => ∃ v, e = .returned (.tuple #[v, .int .i64 (errO s l t k)]) ∧ IsI w' (new w.heap.size) v (opP (· - ·) s l t k).1 (opP (· - ·) s l t k).2 ∧ Below w.heap.size w w' := by
 obtain ⟨_, rfl, A, D, rfl, x⟩ := ha
 obtain ⟨_, rfl, B, C, rfl, S⟩ := hb
 obtain ⟨bA, bB, i, E⟩ := boxes3 w (.bool s) (.slice A l.length D) (.bool t) (.slice B k.length C) (.bool false) (.slice none 0 0) 35
 have q : IsU w Z (.slice A l.length D) l := ⟨A, D, rfl, x⟩
 have d : IsU w Y (.slice B k.length C) k := ⟨B, C, rfl, S⟩
 have r := given_twoI (s := s) (t := t) (ty := 35) (q.below E) (d.below E)
 have Kb : (((w.alloc (.cells #[.bool s, .slice A l.length D] 35)).alloc (.cells #[.bool t, .slice B k.length C] 35)).alloc (.cells #[.bool false, .slice none 0 0] 35)).heap.size = w.heap.size + 3 := by simp
 rw [Kb] at r
 have M := wchecked_any (n := 2) (c := 2) r rfl (by simp)
 rw [errCs_two] at M
 have Kk := x.small
 have Kc := S.small
 clear r Kb x S
 have g := E.alloc E.size (.cells #[.bool s, .slice A l.length D, .bool t, .slice B k.length C] 35)
 by_cases hok : okI s l = true ∧ okI t k = true
 · have T : errO s l t k = 0 := by simp [errO, hok]
   have U : opP (· - ·) s l t k = (decide ((· - ·) (zof s l) (zof t k) < 0), limbs ((· - ·) (zof s l) (zof t k)).natAbs) := by simp [opP, hok]
   rw [T] at M ⊢
   rw [U]
   have Kd := IsI.num ⟨_, rfl, q⟩ hok.1
   have Kl := IsI.num ⟨_, rfl, d⟩ hok.2
   have q1 := len_zof hok.1 Kk
   have q2 := len_zof hok.2 Kc
   obtain ⟨W, Kp⟩ := hid2 M hok
   clear M T U hok
   obtain ⟨H, I, _, _, _⟩ := bA
   obtain ⟨J, K, _, _, _⟩ := bB
   go_enter Tryz.func140, Tryz.ntmps140
   go_wp2_with fail
   refine W.out.mono ?_
   rintro e F ⟨rfl, G⟩
   have V := (i.alloc (.cells #[.bool s, .slice A l.length D, .bool t, .slice B k.length C] 35)).below G
   have H := keepC (Below.refl_alloc E (.cells #[.bool s, .slice A l.length D, .bool t, .slice B k.length C] 35)) H
   have I := keepC (Below.refl_alloc E (.cells #[.bool s, .slice A l.length D, .bool t, .slice B k.length C] 35)) I
   have J := keepC (Below.refl_alloc E (.cells #[.bool s, .slice A l.length D, .bool t, .slice B k.length C] 35)) J
   have K := keepC (Below.refl_alloc E (.cells #[.bool s, .slice A l.length D, .bool t, .slice B k.length C] 35)) K
   have H := keepC G H
   have I := keepC G I
   have J := keepC G J
   have K := keepC G K
   have Ke := from_ g G
   clear i E g W
   obtain ⟨n1, n2⟩ := neg_enc Kp.out.2 Kc
   obtain ⟨j, y⟩ : ∃ j, j = decide (-zof t k < 0) := ⟨_, rfl⟩
   obtain ⟨z, o⟩ : ∃ z, z = zof s l + -zof t k := ⟨_, rfl⟩
   obtain ⟨sz, Ka⟩ : ∃ sz, sz = decide (z < 0) := ⟨_, rfl⟩
   obtain ⟨m, hm⟩ : ∃ m, m = z.natAbs := ⟨_, rfl⟩
   rw [← y] at n1
   obtain ⟨Kq, Kj⟩ := hid2 n1 n2
   have Km : Hid (sz = decide (zof s l - zof t k < 0) ∧ limbs m = limbs (zof s l - zof t k).natAbs) := hid ⟨by rw [Ka, o, Int.sub_eq_add_neg], by rw [hm, o, Int.sub_eq_add_neg]⟩
   have H := (show F.drew.cell? ⟨w.heap.size, 0, none⟩ = _ from H)
   have I := (show F.drew.cell? ⟨w.heap.size, 1, none⟩ = _ from I)
   have J := (show F.drew.cell? ⟨w.heap.size + 1, 0, none⟩ = _ from J)
   have K := (show F.drew.cell? ⟨w.heap.size + 1, 1, none⟩ = _ from K)
   have u : Below w.heap.size w F.drew := Ke.drew
   have Kf := d.below u
   have Kn := Kd.below u
   have Kg := V.below (W' := F.drew) ((Below.refl _ F).drew)
   have Ko := hid G.size
   have hS : ∀ L, Below F.drew.heap.size F.drew L → Calls Tryz.prog 179 #[.agg #[.bool s, .slice A l.length D], .agg #[.bool j, .slice B k.length C]] L (fun e w' => ∃ O P, e = .returned (.agg #[.bool sz, .slice O (limbs m).length P]) ∧ IsU w' (new L.heap.size) (.slice O (limbs m).length P) (limbs m) ∧ Below L.heap.size L w') := fun L h => by
    have hy : IsZ L Y (.agg #[.bool j, .slice B k.length C]) (-zof t k) := ⟨_, by rw [y], by rw [Kj.out]; exact Kf.below h⟩
    refine (wsum_good (Kn.below h) hy (by omega) (by rw [Kj.out]; omega)).mono ?_
    rintro e w3 ⟨_, rfl, ⟨_, rfl, O, P, rfl, Kr⟩, X⟩
    rw [Ka, hm, o]
    exact ⟨O, P, rfl, ⟨O, P, rfl, Kr⟩, X⟩
   have HS := hid hS
   clear hS n1 n2 Kl V Ke q d Kd y o Ka hm
   go_wp2
   go_region_with (first
    | (go_at_call 109; refine (made_at Kf Kq.out).mono ?_; rintro e L ⟨rfl, Q⟩; have A0 := keepC Q H; have A1 := keepC Q I)
    | (go_at_call 179; refine (HS.out _ Q).mono ?_; rintro e w3 ⟨O, P, rfl, S, X⟩; obtain ⟨q0, q1, f0, f1, _⟩ := (Kg.below Q).below X))
   all_goals
    have Kh := (Kg.below Q).below X
    have R := Kh.put (from_ (from_ u Q) X) (by omega) (.bool sz) (.slice O (limbs m).length P)
    have Ki := R.keep (by have := Ko.out; have := Q.size; simp at *; omega) S
    obtain ⟨Hu, N⟩ := hid2 Ki R
    clear S Ki R Kh H I J K
    go_wp2
    refine bodyPost_ret (res_int2 rfl _ (w.heap.size + 2) rfl N.out.c0 N.out.c1) rfl ?_
    obtain ⟨h1, h2⟩ := Km.out
    exact ⟨_, rfl, ⟨_, by rw [h1], by show IsU _ _ _ (limbs (zof s l - zof t k).natAbs); rw [← h2]; exact Hu.out⟩, N.out.bel⟩
 · have T : errO s l t k = 8 := by simp only [errO, hok, if_false]
   have U : opP (· - ·) s l t k = (false, []) := by simp only [opP, hok, if_false]
   rw [T] at M ⊢
   rw [U]
   have W := hid M
   clear M T U hok
   obtain ⟨H, I, _, _, _⟩ := bA
   obtain ⟨J, K, _, _, _⟩ := bB
   go_enter Tryz.func140, Tryz.ntmps140
   go_wp2_with fail
   refine W.out.mono ?_
   rintro e F ⟨rfl, G⟩
   have V := (i.alloc (.cells #[.bool s, .slice A l.length D, .bool t, .slice B k.length C] 35)).below G
   have R := V.put (from_ g G) (by omega) (.bool false) (.slice none 0 0)
   have N := hid R
   obtain ⟨q0, q1, f0, f1, _⟩ := V
   clear R i E g W
   go_wp2
   refine bodyPost_ret (res_int2 rfl _ (w.heap.size + 2) rfl N.out.c0 N.out.c1) rfl ?_
   exact ⟨_, rfl, ⟨_, rfl, IsU.nil _ _⟩, N.out.bel⟩
theorem wSign_all {w : World} {l : List Nat} (ha : IsI w Z a s l) :
  Calls Tryz.prog 219 #[a] w fun e w' => e = .returned (.tuple #[.int .i64 (sgX s l), .int .i64 (errC s l)]) ∧ Below w.heap.size w w' := by
 obtain ⟨_, rfl, A, c, rfl, I⟩ := ha
 have G : Below w.heap.size w (w.alloc (.cells #[.bool s, .slice A l.length c] 35)) := (Below.refl _ w).alloc (Nat.le_refl _) _
 obtain ⟨K, L, _, _, _⟩ := Box.new w (.bool s) (.slice A l.length c) 35
 have J : IsI w Z (.agg #[.bool s, .slice A l.length c]) s l := ⟨_, rfl, A, c, rfl, I⟩
 have B := wcheck_any (J.below G)
 have Q := I.small
 clear I
 cases hok : okI s l with
 | true =>
   have C : errC s l = 0 := by simp [errC, hok]
   have D : sgX s l = sgn (zof s l) := by simp [sgX, hok]
   rw [C] at B ⊢
   rw [D]
   have M := J.num hok
   have H := hid B
   clear B C D hok
   go_enter Tryz.func219, Tryz.ntmps219
   go_wp2_with fail
   refine H.out.mono ?_
   rintro e O ⟨rfl, E⟩
   have K := keepC E K
   have L := keepC E L
   have F := from_ G E
   go_wp2_with fail
   refine (wsign_good (M.below F)).mono ?_
   rintro e R ⟨rfl, P⟩
   have N := from_ F P
   go_wp2
   go_ret2
   exact ⟨rfl, N⟩
 | false =>
   have C : errC s l = 8 := by simp [errC, hok]
   have D : sgX s l = 0 := by simp [sgX, hok]
   rw [C] at B ⊢
   rw [D]
   have H := hid B
   clear B C D hok
   go_enter Tryz.func219, Tryz.ntmps219
   go_wp2_with fail
   refine H.out.mono ?_
   rintro e O ⟨rfl, E⟩
   have F := from_ G E
   go_wp2
   go_ret2
   exact ⟨rfl, F⟩
def cmpO (s : Bool) (l : List Nat) (t : Bool) (k : List Nat) : Int := if okI s l = true ∧ okI t k = true then sgn (zof s l - zof t k) else 0
theorem wcmp_all {w : World} {l k : List Nat} (ha : IsI w Z a s l) (hb : IsI w Y b t k) (hl : l.length ≤ 90000000000) (hl2 : k.length ≤ 90000000000) :
  Calls Tryz.prog 85 #[a, b] w fun e w' => e = .returned (.tuple #[.int .i64 (cmpO s l t k), .int .i64 (errO s l t k)]) ∧ Below w.heap.size w w' := by
 have W := fun (C : World) (h : Below w.heap.size w C) => wsub_all (ha.below h) (hb.below h) hl hl2
 obtain ⟨_, rfl, A, H, rfl, r⟩ := ha
 obtain ⟨_, rfl, B, N, rfl, I⟩ := hb
 have O : Below w.heap.size w ((w.alloc (.cells #[.bool s, .slice A l.length H] 35)).alloc (.cells #[.bool t, .slice B k.length N] 35)) := ((Below.refl _ w).alloc (Nat.le_refl _) _).alloc (by simp) _
 have X := ((Box.new w (.bool s) (.slice A l.length H) 35).alloc (.cells #[.bool t, .slice B k.length N] 35)).c0
 have c := ((Box.new w (.bool s) (.slice A l.length H) 35).alloc (.cells #[.bool t, .slice B k.length N] 35)).c1
 have P := (Box.new (w.alloc (.cells #[.bool s, .slice A l.length H] 35)) (.bool t) (.slice B k.length N) 35).c0
 have Q := (Box.new (w.alloc (.cells #[.bool s, .slice A l.length H] 35)) (.bool t) (.slice B k.length N) 35).c1
 rw [show (w.alloc (.cells #[.bool s, .slice A l.length H] 35)).heap.size = w.heap.size + 1 by simp] at P Q
 have F := W _ O
 clear W r I
 by_cases hok : okI s l = true ∧ okI t k = true
 · have G : errO s l t k = 0 := by simp [errO, hok]
   have J : opP (· - ·) s l t k = (decide (zof s l - zof t k < 0), limbs (zof s l - zof t k).natAbs) := by simp [opP, hok]
   have K : cmpO s l t k = sgn (zof s l - zof t k) := by simp [cmpO, hok]
   rw [G, J] at F
   rw [G, K]
   generalize zof s l - zof t k = z at *
   obtain ⟨sz, T⟩ : ∃ sz, sz = decide (z < 0) := ⟨_, rfl⟩
   obtain ⟨L, U⟩ : ∃ L, L = limbs z.natAbs := ⟨_, rfl⟩
   rw [← T, ← U] at F
   obtain ⟨S, m⟩ := hid2 F (And.intro T U)
   clear F T U G J K hok
   go_enter Tryz.func85, Tryz.ntmps85
   go_wp2_with fail
   refine S.out.mono ?_
   rintro e C ⟨_, rfl, ⟨_, rfl, D, E, rfl, I⟩, V⟩
   have M := from_ O V
   have d : IsI C _ (.agg #[.bool sz, .slice D L.length E]) sz L := ⟨_, rfl, D, E, rfl, I⟩
   have R : Below w.heap.size w (C.alloc (.cells #[.bool sz, .slice D L.length E] 35)) := M.alloc M.size _
   have g := d.below ((Below.refl _ C).alloc (Nat.le_refl _) (.cells #[.bool sz, .slice D L.length E] 35))
   have i : IsZ (C.alloc (.cells #[.bool sz, .slice D L.length E] 35)) old (.agg #[.bool sz, .slice D L.length E]) z := by
    unfold IsZ
    rw [← m.out.1, ← m.out.2]
    exact g.mono (le_old _)
   obtain ⟨v, x, _, _, _⟩ := Box.new C (.bool sz) (.slice D L.length E) 35
   have j := wsign_good i
   have o := hid j
   clear j i g d I X c P Q
   go_wp2_with fail
   refine o.out.mono ?_
   rintro e y ⟨rfl, u⟩
   have q := from_ R u
   go_wp2
   go_ret2
   exact ⟨rfl, q⟩
 · have G : errO s l t k = 8 := by simp only [errO, hok, if_false]
   have J : opP (· - ·) s l t k = (false, []) := by simp only [opP, hok, if_false]
   have K : cmpO s l t k = 0 := by simp only [cmpO, hok, if_false]
   rw [G, J] at F
   rw [G, K]
   have S := hid F
   clear F G J K hok
   go_enter Tryz.func85, Tryz.ntmps85
   go_wp2_with fail
   refine S.out.mono ?_
   rintro e C ⟨_, rfl, ⟨_, rfl, D, E, rfl, I⟩, V⟩
   have M := from_ O V
   have R : Below w.heap.size w (C.alloc (.cells #[.bool false, .slice D 0 E] 35)) := M.alloc M.size _
   clear I X c P Q
   go_wp2
   go_ret2
   exact ⟨rfl, R⟩
def negP (s : Bool) (l : List Nat) : Bool × List Nat := if okI s l = true then (decide (-zof s l < 0), l) else (false, [])
theorem wneg_all {w : World} {l : List Nat} (ha : IsI w Z a s l) (hl : l.length ≤ 90000000000) :
  Calls Tryz.prog 216 #[a] w fun e w' => ∃ v, e = .returned (.tuple #[v, .int .i64 (errC s l)]) ∧ IsI w' (new w.heap.size) v (negP s l).1 (negP s l).2 ∧ Below w.heap.size w w' := by
 obtain ⟨_, rfl, A, c, rfl, P⟩ := ha
 obtain ⟨r, Q, N⟩ : Box ((w.alloc (.cells #[.bool s, .slice A l.length c] 35)).alloc (.cells #[.bool false, .slice none 0 0] 35)) w.heap.size (.bool s) (.slice A l.length c) ∧ Box ((w.alloc (.cells #[.bool s, .slice A l.length c] 35)).alloc (.cells #[.bool false, .slice none 0 0] 35)) (w.heap.size + 1) (.bool false) (.slice none 0 0) ∧ Below w.heap.size w ((w.alloc (.cells #[.bool s, .slice A l.length c] 35)).alloc (.cells #[.bool false, .slice none 0 0] 35)) := by
  have V := Box.new (w.alloc (.cells #[.bool s, .slice A l.length c] 35)) (.bool false) (.slice none 0 0) 35
  rw [show (w.alloc (.cells #[.bool s, .slice A l.length c] 35)).heap.size = w.heap.size + 1 by simp] at V
  exact ⟨(Box.new w _ _ _).alloc _, V, ((Below.refl _ w).alloc (Nat.le_refl _) _).alloc (by simp) _⟩
 have W : IsI w Z (.agg #[.bool s, .slice A l.length c]) s l := ⟨_, rfl, A, c, rfl, P⟩
 have G := wcheck_any (W.below N)
 have X := P.small
 obtain ⟨H, I, _, _, _⟩ := r
 cases hok : okI s l with
 | true =>
   have K : errC s l = 0 := by simp [errC, hok]
   have L : negP s l = (decide (-zof s l < 0), l) := by simp [negP, hok]
   rw [K] at G ⊢
   rw [L]
   obtain ⟨n1, _⟩ := neg_enc hok X
   obtain ⟨T, j⟩ : ∃ T, T = decide (-zof s l < 0) := ⟨_, rfl⟩
   rw [← j] at n1 ⊢
   obtain ⟨u, M⟩ := hid2 n1 G
   clear G K L hok n1 j
   go_enter Tryz.func216, Tryz.ntmps216
   go_wp2_with fail
   refine M.out.mono ?_
   rintro e B ⟨rfl, D⟩
   have H := keepC D H
   have I := keepC D I
   have H := (show B.drew.cell? ⟨w.heap.size, 0, none⟩ = _ from H)
   have I := (show B.drew.cell? ⟨w.heap.size, 1, none⟩ = _ from I)
   have Y : Below w.heap.size w B.drew := (from_ N D).drew
   have S := (Q.below D).below (W' := B.drew) ((Below.refl _ B).drew)
   have b := clone_any (n := l.length) (w := B.drew) rfl (P.below Y) (by omega)
   have d : Calls Tryz.prog 108 #[.slice A l.length c] B.drew (fun e w' => ∃ E F, e = .returned (.slice E l.length F) ∧ IsU w' (new B.drew.heap.size) (.slice E l.length F) l ∧ Below B.drew.heap.size B.drew w') := by
    refine b.mono ?_
    rintro e x ⟨v, rfl, m, y⟩
    obtain ⟨E, F, rfl⟩ := own_shape m
    exact ⟨E, F, rfl, ⟨E, F, rfl, isU_after X rfl m (Nat.le_refl _)⟩, y⟩
   have o := hid d
   have q : w.heap.size + 1 < B.drew.heap.size := S.lt
   clear d b Q N M P W
   go_wp2
   go_region_with (first
    | (go_at_call 108; refine o.out.mono ?_; rintro e x ⟨E, F, rfl, U, O⟩; have A0 := keepC O H; have A1 := keepC O I)
    | (go_at_call 109; refine (made_at U u.out).mono ?_; rintro e w3 ⟨rfl, R⟩; obtain ⟨z, q1, f0, f1, _⟩ := (S.below O).below R))
   all_goals
    have g := (S.below O).below R
    have J := g.put (from_ (from_ Y O) R) (by omega) (.bool T) (.slice E l.length F)
    have h := J.keep q (U.below R)
    obtain ⟨Hu, C⟩ := hid2 h J
    clear U h J g H I
    go_wp2
    refine bodyPost_ret (res_int2 rfl _ (w.heap.size + 1) rfl C.out.c0 C.out.c1) rfl ?_
    exact ⟨_, rfl, ⟨_, rfl, Hu.out⟩, C.out.bel⟩
 | false =>
   have K : errC s l = 8 := by simp [errC, hok]
   have L : negP s l = (false, []) := by simp [negP, hok]
   rw [K] at G ⊢
   rw [L]
   have M := hid G
   clear G K L hok
   go_enter Tryz.func216, Tryz.ntmps216
   go_wp2_with fail
   refine M.out.mono ?_
   rintro e B ⟨rfl, D⟩
   have i := Q.below D
   have J := i.put (from_ N D) (by omega) (.bool false) (.slice none 0 0)
   have C := hid J
   obtain ⟨z, q1, f0, f1, _⟩ := i
   clear J Q N M
   go_wp2
   refine bodyPost_ret (res_int2 rfl _ (w.heap.size + 1) rfl C.out.c0 C.out.c1) rfl ?_
   exact ⟨_, rfl, ⟨_, rfl, IsU.nil _ _⟩, C.out.bel⟩
end Go.Proofs.YtdncgncijbnjpaaGreat
