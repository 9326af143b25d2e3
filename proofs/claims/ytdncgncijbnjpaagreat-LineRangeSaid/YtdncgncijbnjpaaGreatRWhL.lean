/- Whole numbers: rounded, Floor, Ceil (the second number not 0). No conditions but bounds on lengths. -/
import Derived.Deep.RegionWith
import Derived.Test.YtdncgncijbnjpaaGreatRWhK
set_option linter.unusedVariables false
set_option linter.unusedSimpArgs false
set_option maxRecDepth 100000
set_option maxHeartbeats 40000000
namespace Go.Proofs.YtdncgncijbnjpaaGreat
open Go.Lib (hid)
open Go.RowKit
variable {a b : Value}
def rq (x y : Int) (d : Bool) : Int := if (decide (0 < (limbs (x.natAbs % y.natAbs)).length) && ((decide (x < 0) != decide (y < 0)) == d)) = true then tq x y + (if d = true then -1 else 1) else tq x y
theorem Box.other {W : World} {g h : Nat} {x y : Value} (hb : Box W g a b) (hn : h ≠ g) : Box ((W.setCell ⟨h, 0, none⟩ x).setCell ⟨h, 1, none⟩ y) g a b :=
 ⟨by rw [World.cell?_setCell_other _ _ _ _ (fun e => hn (by injection e)), World.cell?_setCell_other _ _ _ _ (fun e => hn (by injection e))]; exact hb.c0,
  by rw [World.cell?_setCell_other _ _ _ _ (fun e => hn (by injection e)), World.cell?_setCell_other _ _ _ _ (fun e => hn (by injection e))]; exact hb.c1,
  (World.frozen?_setCell _ _ _ _).trans ((World.frozen?_setCell _ _ _ _).trans hb.f0), (World.frozen?_setCell _ _ _ _).trans ((World.frozen?_setCell _ _ _ _).trans hb.f1), by have := hb.lt; simpa [World.setCell] using this⟩
theorem one_enc (d : Bool) : decide ((if d = true then (-1 : Int) else 1) < 0) = d ∧ limbs (if d = true then (-1 : Int) else 1).natAbs = [1] := by
 cases d
 · exact ⟨by simp, by simp [limbs_one (x := 1) (by omega) (by omega)]⟩
 · exact ⟨by simp, by simp [limbs_one (x := 1) (by omega) (by omega)]⟩
theorem wrounded_good {w : World} {Z Y : Zone} {x y : Int} {d : Bool} (ha : IsZ w Z a x) (hb : IsZ w Y b y) (hy : y ≠ 0) (hl : (limbs x.natAbs).length ≤ 10000000000) :
  Calls Tryz.prog 247 #[a, b, .bool d] w fun e w' => ∃ v, e = .returned (.tuple #[v, .int .i64 0]) ∧ IsZ w' (new w.heap.size) v (rq x y d) ∧ Below w.heap.size w w' := by
 have Kl := fun (C : World) (h : Below w.heap.size w C) => wquot_good (ha.below h) (hb.below h) hy hl
 have KE : (limbs (tq x y).natAbs).length ≤ 10000000000 := by
  rw [(tq_enc x y).2]
  exact Nat.le_trans (len_div _ _) hl
 obtain ⟨o1, o2⟩ := one_enc d
 have r := fun (C : World) (Z1 Z2 : Zone) (u v : Value) (hu : IsZ C Z1 u (tq x y)) (hv : IsZ C Z2 v (if d = true then -1 else 1)) => wsum_good hu hv (by omega) (by rw [o2]; simp)
 have Km : ∀ (C : World) (Z1 : Zone) A c, U64s C Z1 A c [1] → IsZ C Z1 (.agg #[.bool d, .slice A 1 c]) (if d = true then -1 else 1) := fun C Z1 A c h => by
  unfold IsZ
  rw [o1, o2]
  exact ⟨_, rfl, A, c, rfl, h⟩
 unfold rq
 obtain ⟨_, rfl, A, ca, rfl, hu⟩ := ha
 obtain ⟨_, rfl, B, cb, rfl, hv⟩ := hb
 generalize tq x y = q at *
 generalize decide (0 < (limbs (x.natAbs % y.natAbs)).length) = R at *
 generalize (decide (x < 0) != decide (y < 0)) = L at *
 generalize (if d = true then (-1 : Int) else 1) = dz at *
 obtain ⟨F, Kf⟩ : ∃ F, F = decide (q < 0) := ⟨_, rfl⟩
 obtain ⟨ql, Kg⟩ : ∃ ql, ql = limbs q.natAbs := ⟨_, rfl⟩
 obtain ⟨S, hS⟩ : ∃ S, S = q + dz := ⟨_, rfl⟩
 rw [← hS] at r ⊢
 obtain ⟨J, Kh⟩ : ∃ J, J = decide (S < 0) := ⟨_, rfl⟩
 obtain ⟨G, Ki⟩ : ∃ G, G = limbs S.natAbs := ⟨_, rfl⟩
 have Kn : ∀ C Z1 A c, U64s C Z1 A c ql → IsZ C Z1 (.agg #[.bool F, .slice A ql.length c]) q := fun C Z1 A c h => by
  rw [Kf]
  unfold IsZ
  rw [← Kg]
  exact ⟨_, rfl, A, c, rfl, h⟩
 have Ko : ∀ C Z1 A c, IsU C Z1 (.slice A G.length c) G → IsZ C Z1 (.agg #[.bool J, .slice A G.length c]) S := fun C Z1 A c h => by
  rw [Kh]
  unfold IsZ
  rw [← Ki]
  exact ⟨_, rfl, h⟩
 have s : ∀ C, Below w.heap.size w C → Calls Tryz.prog 266 #[.agg #[.bool (decide (x < 0)), .slice A (limbs x.natAbs).length ca], .agg #[.bool (decide (y < 0)), .slice B (limbs y.natAbs).length cb]] C (fun e w' => ∃ D E, e = .returned (.tuple #[.agg #[.bool F, .slice D ql.length E], .bool R, .bool L, .int .i64 0]) ∧ U64s w' (new C.heap.size) D E ql ∧ Below C.heap.size C w') := fun C h => by
  refine (Kl C h).mono ?_
  rintro e w' ⟨_, rfl, ⟨_, rfl, D, E, rfl, Q⟩, W⟩
  rw [← Kf]
  rw [← Kg] at Q ⊢
  exact ⟨D, E, rfl, Q, W⟩
 have Kp : ∀ C Z1 Z2 u v, IsZ C Z1 u q → IsZ C Z2 v dz → Calls Tryz.prog 179 #[u, v] C (fun e w' => ∃ H I, e = .returned (.agg #[.bool J, .slice H G.length I]) ∧ IsU w' (new C.heap.size) (.slice H G.length I) G ∧ Below C.heap.size C w') := fun C Z1 Z2 u v Q W => by
  refine (r C Z1 Z2 u v Q W).mono ?_
  rintro e w' ⟨_, rfl, ⟨_, rfl, H, I, rfl, h3⟩, h4⟩
  rw [← Kh]
  rw [← Ki] at h3 ⊢
  exact ⟨H, I, rfl, ⟨H, I, rfl, h3⟩, h4⟩
 obtain ⟨bA, bB, bR, X⟩ := boxes3 w (.bool (decide (x < 0))) (.slice A (limbs x.natAbs).length ca) (.bool (decide (y < 0))) (.slice B (limbs y.natAbs).length cb) (.bool false) (.slice none 0 0) 35
 obtain ⟨sx, g⟩ : ∃ sx, sx = decide (x < 0) := ⟨_, rfl⟩
 obtain ⟨sy, i⟩ : ∃ sy, sy = decide (y < 0) := ⟨_, rfl⟩
 rw [← g, ← i] at bA bB bR X
 simp only [← g, ← i] at s
 rw [← g, ← i]
 generalize (limbs x.natAbs).length = lx at *
 generalize (limbs y.natAbs).length = ly at *
 obtain ⟨KH, KI, KJ, KC, KK⟩ := hid5 s Kp Km Kn Ko
 clear Kl s r Kp Km Kn Ko hu hv Kf Kg hS Kh Ki g i o1 o2 KE hl hy
 obtain ⟨a0, a1, _, _, _⟩ := bA
 obtain ⟨b0, b1, _, _, _⟩ := bB
 cases R <;> cases L <;> cases d
 all_goals
  simp only [Bool.false_and, Bool.true_and, Bool.false_eq_true, if_false, beq_self_eq_true, if_true, show (false == true) = false from rfl, show (true == false) = false from rfl]
  go_enter Tryz.func247, Tryz.ntmps247
  go_wp2_with fail
  refine (KH.out _ X).mono ?_
  rintro e C ⟨D, E, rfl, j, Kj⟩
  have T : Below C.heap.size C (C.alloc (.cells #[.bool F, .slice D ql.length E] 35)) := (Below.refl _ _).alloc (Nat.le_refl _) _
  have N := bR.below Kj
  have z := N.below T
  have bQ := Box.new C (.bool F) (.slice D ql.length E) 35
  have U := from_ X Kj
  have Ka := from_ U T
  have Kb := j.below T
  have Kq : w.heap.size + 2 < C.heap.size := N.lt
  clear bR X Kj T
  first
  | -- nothing to be added
    obtain ⟨c0, c1, _, _, _⟩ := bQ
    have K := N.put U (by omega) (.bool F) (.slice D ql.length E)
    have Kr : IsU C _ (.slice D ql.length E) ql := ⟨D, E, rfl, j⟩
    have O := (K.keep (by simp <;> omega) Kr).below ((Below.refl _ _).alloc (Nat.le_refl _) (.cells #[.bool F, .slice D ql.length E] 35))
    have Ks := K.box.alloc (.cells #[.bool F, .slice D ql.length E] 35)
    have Kt := K.bel.alloc K.bel.size (.cells #[.bool F, .slice D ql.length E] 35)
    obtain ⟨Hu, KD, KL⟩ := hid3 O Ks Kt
    obtain ⟨q0, q1, f0, f1, _⟩ := (show Box C (w.heap.size + 1 + 1) _ _ from N)
    have KQ : ¬ (C.heap.size = w.heap.size + 1 + 1) := by omega
    have KR : ¬ (w.heap.size + 1 + 1 = C.heap.size) := by omega
    clear K O Kr Kb Ka U Ks Kt z j
    go_wp2
    refine bodyPost_ret (res_int2 rfl _ (w.heap.size + 2) rfl KD.out.c0 KD.out.c1) rfl ?_
    exact ⟨_, rfl, KC.out _ _ _ _ (by obtain ⟨A', c', e', h'⟩ := Hu.out; injection e' with m e2 e3; subst m e3; exact h'), KL.out⟩
  | skip
 all_goals
  have P : Below (C.alloc (.cells #[.bool F, .slice D ql.length E] 35)).heap.size (C.alloc (.cells #[.bool F, .slice D ql.length E] 35)) ((C.alloc (.cells #[.bool F, .slice D ql.length E] 35)).drew.alloc (.cells #[.int .u64 1] 143)) := ((Below.refl _ (C.alloc (.cells #[.bool F, .slice D ql.length E] 35))).drew).alloc (Nat.le_refl _) _
  obtain ⟨c0, c1, _, _, _⟩ := id bQ
  have d0 := (show (C.alloc (.cells #[.bool F, .slice D ql.length E] 35)).drew.cell? ⟨C.heap.size, 0, none⟩ = _ from c0)
  have d1 := (show (C.alloc (.cells #[.bool F, .slice D ql.length E] 35)).drew.cell? ⟨C.heap.size, 1, none⟩ = _ from c1)
  have Kv := bQ.below P
  have Kw := z.below P
  have Kx := Kb.below P
  have Ky := from_ Ka P
  have Kc : IsU ((C.alloc (.cells #[.bool F, .slice D ql.length E] 35)).drew.alloc (.cells #[.int .u64 1] 143)) old (.slice (some ⟨C.heap.size + 1, 0, none⟩) 1 1) [1] := isU_one (x := 1) (by omega) (cell_newest (by simp) rfl)
  have Kz : U64s ((C.alloc (.cells #[.bool F, .slice D ql.length E] 35)).drew.alloc (.cells #[.int .u64 1] 143)) old (some ⟨C.heap.size + 1, 0, none⟩) 1 [1] := by
   obtain ⟨A', c', e', h'⟩ := Kc
   injection e' with m e2 e3
   subst m e3
   exact h'
  obtain ⟨HB, KM, KN, KO, KP, Kk⟩ := hid6 Ky Kc Kz Kx Kw Kv
  obtain ⟨e0, m, _, _, _⟩ := Kv
  have KS : w.heap.size + 2 < C.heap.size := Kq
  have V : ((C.alloc (.cells #[.bool F, .slice D ql.length E] 35)).drew.alloc (.cells #[.int .u64 1] 143)).heap.size = C.heap.size + 1 + 1 := by simp
  have KF := hid V
  clear Ka Kb z N U j Kw Kx Ky Kc Kz P V Kq
  go_wp2
  go_region_with (first
   | (go_at_call 109; refine (made_at KM.out rfl).mono ?_; rintro e w3 ⟨rfl, M⟩; obtain ⟨g0, g1, _, _, _⟩ := Kk.out.below M)
   | (go_at_call 179; refine (KI.out _ _ _ _ _ (KC.out _ _ _ _ (KO.out.below M)) (KJ.out _ _ _ _ (KN.out.below M))).mono ?_; rintro e w4 ⟨H, I, rfl, hs, o⟩; obtain ⟨h0, Q, W, h3, _⟩ := (Kk.out.below M).below o))
  all_goals
   have Kd := from_ (from_ HB.out M) o
   have Ke := ((Kk.out.below M).below o).put Kd (by omega) (.bool J) (.slice H G.length I)
   have KA := ((KP.out.below M).below o).other (h := C.heap.size) (x := .bool J) (y := .slice H G.length I) (by omega)
   have K := KA.put Ke.bel (by omega) (.bool J) (.slice H G.length I)
   have KG := M.size
   have V := KF.out
   have O := IsU.keep (w' := (((w4.setCell ⟨C.heap.size, 0, none⟩ (.bool J)).setCell ⟨C.heap.size, 1, none⟩ (.slice H G.length I)).setCell ⟨w.heap.size + 2, 0, none⟩ (.bool J)).setCell ⟨w.heap.size + 2, 1, none⟩ (.slice H G.length I)) hs (fun b hb _ => by
    have KT : w3.heap.size ≤ b := hb
    rw [Below.heap_setCell _ _ _ _ (show b ≠ w.heap.size + 2 by omega), Below.heap_setCell _ _ _ _ (show b ≠ w.heap.size + 2 by omega), Below.heap_setCell _ _ _ _ (show b ≠ C.heap.size by omega), Below.heap_setCell _ _ _ _ (show b ≠ C.heap.size by omega)])
   have KB := O.mono (Y := new w.heap.size) (new_le (by have := Kd.size; have := HB.out.size; omega))
   obtain ⟨Hu, HP⟩ := hid2 KB K
   obtain ⟨k0, k1, _, _, _⟩ := Ke.box
   obtain ⟨q0, q1, f0, f1, _⟩ := KA
   clear K O KB hs Ke Kd KG V
   go_wp2
   refine bodyPost_ret (res_int2 rfl _ (w.heap.size + 2) rfl HP.out.c0 HP.out.c1) rfl ?_
   exact ⟨_, rfl, KK.out _ _ _ _ Hu.out, HP.out.bel⟩
end Go.Proofs.YtdncgncijbnjpaaGreat
