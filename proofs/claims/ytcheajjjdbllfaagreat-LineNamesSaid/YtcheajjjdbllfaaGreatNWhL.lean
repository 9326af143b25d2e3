/- Whole numbers: rounded, Floor, Ceil (the second number not 0). No conditions but bounds on lengths. -/
import Derived.Deep.RegionWith
import Derived.Test.YtcheajjjdbllfaaGreatNWhK
set_option linter.unusedVariables false
set_option linter.unusedSimpArgs false
set_option maxRecDepth 100000
set_option maxHeartbeats 40000000
namespace Go.Proofs.YtcheajjjdbllfaaGreat
open Go.Lib (hid)
open Go.RowKit
variable {a b : Value}
def rq (x y : Int) (d : Bool) : Int := if (decide (0 < (limbs (x.natAbs % y.natAbs)).length) && ((decide (x < 0) != decide (y < 0)) == d)) = true then tq x y + (if d = true then -1 else 1) else tq x y
theorem Box.other {W : World} {g h : Nat} {x y : Value} (hb : Box W g a b) (hn : h ≠ g) : Box ((W.setCell ⟨h, 0, none⟩ x).setCell ⟨h, 1, none⟩ y) g a b :=
 ⟨by rw [World.cell?_setCell_other _ _ _ _ (fun e => hn (by injection e)), World.cell?_setCell_other _ _ _ _ (fun e => hn (by injection e))]; exact hb.c0,
  by rw [World.cell?_setCell_other _ _ _ _ (fun e => hn (by injection e)), World.cell?_setCell_other _ _ _ _ (fun e => hn (by injection e))]; exact hb.c1,
  (World.frozen?_setCell _ _ _ _).trans ((World.frozen?_setCell _ _ _ _).trans hb.f0), (World.frozen?_setCell _ _ _ _).trans ((World.frozen?_setCell _ _ _ _).trans hb.f1), by have := hb.lt; simpa [World.setCell] using this⟩
theorem one_enc (d : Bool) : decide ((if d = true then (-1 : Int) else 1) < 0) = d ∧ limbs (if d = true then (-1 : Int) else 1).natAbs = [1] := by
 cases d
 · exact ⟨by simp, by simp [limbs_one (x := 1) (by omega) (by omega)]⟩
 · exact ⟨by simp, by simp [limbs_one (x := 1) (by omega) (by omega)]⟩
theorem wrounded_good {w : World} {Z Y : Zone} {x y : Int} {d : Bool} (ha : IsZ w Z a x) (hb : IsZ w Y b y) (hy : y ≠ 0) (hl : (limbs x.natAbs).length ≤ 10000000000) :
  Calls Tryz.prog 125 #[a, b, .bool d] w fun e w' => ∃ v, e = .returned (.tuple #[v, .int .i64 0]) ∧ IsZ w' (new w.heap.size) v (rq x y d) ∧ Below w.heap.size w w' := by
 have hquot := fun (w1 : World) (h : Below w.heap.size w w1) => wquot_good (ha.below h) (hb.below h) hy hl
 have hlq : (limbs (tq x y).natAbs).length ≤ 10000000000 := by
  rw [(tq_enc x y).2]
  exact Nat.le_trans (len_div _ _) hl
 obtain ⟨o1, o2⟩ := one_enc d
 have hsum := fun (w1 : World) (Z1 Z2 : Zone) (u v : Value) (hu : IsZ w1 Z1 u (tq x y)) (hv : IsZ w1 Z2 v (if d = true then -1 else 1)) => wsum_good hu hv (by omega) (by rw [o2]; simp)
 have hone : ∀ (w1 : World) (Z1 : Zone) A c, U64s w1 Z1 A c [1] → IsZ w1 Z1 (.agg #[.bool d, .slice A 1 c]) (if d = true then -1 else 1) := fun w1 Z1 A c h => by
  unfold IsZ
  rw [o1, o2]
  exact ⟨_, rfl, A, c, rfl, h⟩
 unfold rq
 obtain ⟨_, rfl, A, ca, rfl, hu⟩ := ha
 obtain ⟨_, rfl, B, cb, rfl, hv⟩ := hb
 generalize tq x y = q at *
 generalize decide (0 < (limbs (x.natAbs % y.natAbs)).length) = R at *
 generalize (decide (x < 0) != decide (y < 0)) = L at *
 generalize (if d = true then (-1 : Int) else 1) = dz at *
 obtain ⟨qs, hqs⟩ : ∃ qs, qs = decide (q < 0) := ⟨_, rfl⟩
 obtain ⟨ql, hql⟩ : ∃ ql, ql = limbs q.natAbs := ⟨_, rfl⟩
 obtain ⟨S, hS⟩ : ∃ S, S = q + dz := ⟨_, rfl⟩
 rw [← hS] at hsum ⊢
 obtain ⟨ss, hss⟩ : ∃ ss, ss = decide (S < 0) := ⟨_, rfl⟩
 obtain ⟨sl, hsl⟩ : ∃ sl, sl = limbs S.natAbs := ⟨_, rfl⟩
 have hZq : ∀ w1 Z1 A c, U64s w1 Z1 A c ql → IsZ w1 Z1 (.agg #[.bool qs, .slice A ql.length c]) q := fun w1 Z1 A c h => by
  rw [hqs]
  unfold IsZ
  rw [← hql]
  exact ⟨_, rfl, A, c, rfl, h⟩
 have hZs : ∀ w1 Z1 A c, IsU w1 Z1 (.slice A sl.length c) sl → IsZ w1 Z1 (.agg #[.bool ss, .slice A sl.length c]) S := fun w1 Z1 A c h => by
  rw [hss]
  unfold IsZ
  rw [← hsl]
  exact ⟨_, rfl, h⟩
 have hquot2 : ∀ w1, Below w.heap.size w w1 → Calls Tryz.prog 133 #[.agg #[.bool (decide (x < 0)), .slice A (limbs x.natAbs).length ca], .agg #[.bool (decide (y < 0)), .slice B (limbs y.natAbs).length cb]] w1 (fun e w' => ∃ Aq cq, e = .returned (.tuple #[.agg #[.bool qs, .slice Aq ql.length cq], .bool R, .bool L, .int .i64 0]) ∧ U64s w' (new w1.heap.size) Aq cq ql ∧ Below w1.heap.size w1 w') := fun w1 h => by
  refine (hquot w1 h).mono ?_
  rintro e w' ⟨_, rfl, ⟨_, rfl, Aq, cq, rfl, h1⟩, h2⟩
  rw [← hqs]
  rw [← hql] at h1 ⊢
  exact ⟨Aq, cq, rfl, h1, h2⟩
 have hsum2 : ∀ w1 Z1 Z2 u v, IsZ w1 Z1 u q → IsZ w1 Z2 v dz → Calls Tryz.prog 124 #[u, v] w1 (fun e w' => ∃ As cs, e = .returned (.agg #[.bool ss, .slice As sl.length cs]) ∧ IsU w' (new w1.heap.size) (.slice As sl.length cs) sl ∧ Below w1.heap.size w1 w') := fun w1 Z1 Z2 u v h1 h2 => by
  refine (hsum w1 Z1 Z2 u v h1 h2).mono ?_
  rintro e w' ⟨_, rfl, ⟨_, rfl, As, cs, rfl, h3⟩, h4⟩
  rw [← hss]
  rw [← hsl] at h3 ⊢
  exact ⟨As, cs, rfl, ⟨As, cs, rfl, h3⟩, h4⟩
 obtain ⟨bA, bB, bR, hB0⟩ := boxes3 w (.bool (decide (x < 0))) (.slice A (limbs x.natAbs).length ca) (.bool (decide (y < 0))) (.slice B (limbs y.natAbs).length cb) (.bool false) (.slice none 0 0) 25
 obtain ⟨sx, hsx⟩ : ∃ sx, sx = decide (x < 0) := ⟨_, rfl⟩
 obtain ⟨sy, hsy⟩ : ∃ sy, sy = decide (y < 0) := ⟨_, rfl⟩
 rw [← hsx, ← hsy] at bA bB bR hB0
 simp only [← hsx, ← hsy] at hquot2
 rw [← hsx, ← hsy]
 generalize (limbs x.natAbs).length = lx at *
 generalize (limbs y.natAbs).length = ly at *
 obtain ⟨Hquot, Hsum, Hone, HZq, HZs⟩ := hid5 hquot2 hsum2 hone hZq hZs
 clear hquot hquot2 hsum hsum2 hone hZq hZs hu hv hqs hql hS hss hsl hsx hsy o1 o2 hlq hl hy
 obtain ⟨a0, a1, _, _, _⟩ := bA
 obtain ⟨b0, b1, _, _, _⟩ := bB
 cases R <;> cases L <;> cases d
 all_goals
  simp only [Bool.false_and, Bool.true_and, Bool.false_eq_true, if_false, beq_self_eq_true, if_true, show (false == true) = false from rfl, show (true == false) = false from rfl]
  go_enter Tryz.func125, Tryz.ntmps125
  go_wp2_with fail
  refine (Hquot.out _ hB0).mono ?_
  rintro e w1 ⟨Aq, cq, rfl, hq, hc1⟩
  have hal : Below w1.heap.size w1 (w1.alloc (.cells #[.bool qs, .slice Aq ql.length cq] 25)) := (Below.refl _ _).alloc (Nat.le_refl _) _
  have bRw := bR.below hc1
  have bR1 := bRw.below hal
  have bQ := Box.new w1 (.bool qs) (.slice Aq ql.length cq) 25
  have hBw := from_ hB0 hc1
  have hB1 := from_ hBw hal
  have hq1 := hq.below hal
  have hz2 : w.heap.size + 2 < w1.heap.size := bRw.lt
  clear bR hB0 hc1 hal
  first
  | -- nothing to be added
    obtain ⟨c0, c1, _, _, _⟩ := bQ
    have hP := bRw.put hBw (by omega) (.bool qs) (.slice Aq ql.length cq)
    have hiq : IsU w1 _ (.slice Aq ql.length cq) ql := ⟨Aq, cq, rfl, hq⟩
    have hu2 := (hP.keep (by simp <;> omega) hiq).below ((Below.refl _ _).alloc (Nat.le_refl _) (.cells #[.bool qs, .slice Aq ql.length cq] 25))
    have hbx := hP.box.alloc (.cells #[.bool qs, .slice Aq ql.length cq] 25)
    have hbl := hP.bel.alloc hP.bel.size (.cells #[.bool qs, .slice Aq ql.length cq] 25)
    obtain ⟨Hu, Hbx, Hbl⟩ := hid3 hu2 hbx hbl
    obtain ⟨q0, q1, f0, f1, _⟩ := (show Box w1 (w.heap.size + 1 + 1) _ _ from bRw)
    have hne : ¬ (w1.heap.size = w.heap.size + 1 + 1) := by omega
    have hne2 : ¬ (w.heap.size + 1 + 1 = w1.heap.size) := by omega
    clear hP hu2 hiq hq1 hB1 hBw hbx hbl bR1 hq
    go_wp2
    refine bodyPost_ret (res_int2 rfl _ (w.heap.size + 2) rfl Hbx.out.c0 Hbx.out.c1) rfl ?_
    exact ⟨_, rfl, HZq.out _ _ _ _ (by obtain ⟨A', c', e', h'⟩ := Hu.out; injection e' with e1 e2 e3; subst e1 e3; exact h'), Hbl.out⟩
  | skip
 all_goals
  have hbd : Below (w1.alloc (.cells #[.bool qs, .slice Aq ql.length cq] 25)).heap.size (w1.alloc (.cells #[.bool qs, .slice Aq ql.length cq] 25)) ((w1.alloc (.cells #[.bool qs, .slice Aq ql.length cq] 25)).drew.alloc (.cells #[.int .u64 1] 76)) := ((Below.refl _ (w1.alloc (.cells #[.bool qs, .slice Aq ql.length cq] 25))).drew).alloc (Nat.le_refl _) _
  obtain ⟨c0, c1, _, _, _⟩ := id bQ
  have d0 := (show (w1.alloc (.cells #[.bool qs, .slice Aq ql.length cq] 25)).drew.cell? ⟨w1.heap.size, 0, none⟩ = _ from c0)
  have d1 := (show (w1.alloc (.cells #[.bool qs, .slice Aq ql.length cq] 25)).drew.cell? ⟨w1.heap.size, 1, none⟩ = _ from c1)
  have bQa := bQ.below hbd
  have bRa := bR1.below hbd
  have hqa := hq1.below hbd
  have hBa := from_ hB1 hbd
  have hlit : IsU ((w1.alloc (.cells #[.bool qs, .slice Aq ql.length cq] 25)).drew.alloc (.cells #[.int .u64 1] 76)) old (.slice (some ⟨w1.heap.size + 1, 0, none⟩) 1 1) [1] := isU_one (x := 1) (by omega) (cell_newest (by simp) rfl)
  have hlitU : U64s ((w1.alloc (.cells #[.bool qs, .slice Aq ql.length cq] 25)).drew.alloc (.cells #[.int .u64 1] 76)) old (some ⟨w1.heap.size + 1, 0, none⟩) 1 [1] := by
   obtain ⟨A', c', e', h'⟩ := hlit
   injection e' with e1 e2 e3
   subst e1 e3
   exact h'
  obtain ⟨HB, Hlit, HlitU, Hqa, HbR, HbQ⟩ := hid6 hBa hlit hlitU hqa bRa bQa
  obtain ⟨e0, e1, _, _, _⟩ := bQa
  have hsz3 : w.heap.size + 2 < w1.heap.size := hz2
  have hszW : ((w1.alloc (.cells #[.bool qs, .slice Aq ql.length cq] 25)).drew.alloc (.cells #[.int .u64 1] 76)).heap.size = w1.heap.size + 1 + 1 := by simp
  have HszW := hid hszW
  clear hB1 hq1 bR1 bRw hBw hq bRa hqa hBa hlit hlitU hbd hszW hz2
  go_wp2
  go_region_with (first
   | (go_at_call 22; refine (made_at Hlit.out rfl).mono ?_; rintro e w3 ⟨rfl, hc3⟩; obtain ⟨g0, g1, _, _, _⟩ := HbQ.out.below hc3)
   | (go_at_call 124; refine (Hsum.out _ _ _ _ _ (HZq.out _ _ _ _ (Hqa.out.below hc3)) (Hone.out _ _ _ _ (HlitU.out.below hc3))).mono ?_; rintro e w4 ⟨As, cs, rfl, hs, hc4⟩; obtain ⟨h0, h1, h2, h3, _⟩ := (HbQ.out.below hc3).below hc4))
  all_goals
   have hB4 := from_ (from_ HB.out hc3) hc4
   have hPQ := ((HbQ.out.below hc3).below hc4).put hB4 (by omega) (.bool ss) (.slice As sl.length cs)
   have bR5 := ((HbR.out.below hc3).below hc4).other (h := w1.heap.size) (x := .bool ss) (y := .slice As sl.length cs) (by omega)
   have hP := bR5.put hPQ.bel (by omega) (.bool ss) (.slice As sl.length cs)
   have hsz := hc3.size
   have hszW := HszW.out
   have hu2 := IsU.keep (w' := (((w4.setCell ⟨w1.heap.size, 0, none⟩ (.bool ss)).setCell ⟨w1.heap.size, 1, none⟩ (.slice As sl.length cs)).setCell ⟨w.heap.size + 2, 0, none⟩ (.bool ss)).setCell ⟨w.heap.size + 2, 1, none⟩ (.slice As sl.length cs)) hs (fun b hb _ => by
    have hb1 : w3.heap.size ≤ b := hb
    rw [Below.heap_setCell _ _ _ _ (show b ≠ w.heap.size + 2 by omega), Below.heap_setCell _ _ _ _ (show b ≠ w.heap.size + 2 by omega), Below.heap_setCell _ _ _ _ (show b ≠ w1.heap.size by omega), Below.heap_setCell _ _ _ _ (show b ≠ w1.heap.size by omega)])
   have hu3 := hu2.mono (Y := new w.heap.size) (new_le (by have := hB4.size; have := HB.out.size; omega))
   obtain ⟨Hu, HP⟩ := hid2 hu3 hP
   obtain ⟨k0, k1, _, _, _⟩ := hPQ.box
   obtain ⟨q0, q1, f0, f1, _⟩ := bR5
   clear hP hu2 hu3 hs hPQ hB4 hsz hszW
   go_wp2
   refine bodyPost_ret (res_int2 rfl _ (w.heap.size + 2) rfl HP.out.c0 HP.out.c1) rfl ?_
   exact ⟨_, rfl, HZs.out _ _ _ _ Hu.out, HP.out.bel⟩
end Go.Proofs.YtcheajjjdbllfaaGreat
