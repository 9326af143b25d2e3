/-
  Fractions: the document's Of where the second number is below nought. No conditions but bounds on lengths.
-/
import Derived.Test.YtjnjlgknmocdlaaJRatD
import Derived.Test.YtjnjlgknmocdlaaJW5E
namespace Go.Proofs.Ytjnjlgknmocdlaa
open Go.RowKit
set_option linter.unusedVariables false
set_option linter.unusedSimpArgs false

theorem st3 {w : World} {g i b : Nat} {v : Value} (h : w.cell? ⟨g, i, none⟩ = some v) (hn : b ≠ g) (x y z : Value) : (((w.setCell ⟨b, 0, none⟩ x).setCell ⟨b, 1, none⟩ y).setCell ⟨b, 2, none⟩ z).cell? ⟨g, i, none⟩ = some v := by
  rw [World.cell?_setCell_other _ _ _ _ (fun e => hn (by injection e)), World.cell?_setCell_other _ _ _ _ (fun e => hn (by injection e)), World.cell?_setCell_other _ _ _ _ (fun e => hn (by injection e))]
  exact h

set_option maxRecDepth 100000 in
set_option maxHeartbeats 2000000 in
theorem r6of_neg {w : World} {Z Y : Zone} {s sg : Bool} {l k : List Nat} {A B : Option Addr} {c d : Nat} (u1 : U64s w Z A c l) (u2 : U64s w Y B d k) (o1 : okI s l = true) (o2 : okI true k = true) (hk : 0 < k.length) (hl : l.length ≤ 1000) (hl2 : k.length ≤ 1000) (hsg : (!s && decide (0 < l.length)) = sg) :
    Calls Try.prog 14 #[.agg #[.bool s, .slice A l.length c], .agg #[.bool true, .slice B k.length d]] w fun e w' => ∃ An cn Ad cd, e = .returned (.tuple #[.agg #[.bool sg, .slice An (ratA l k).length cn, .slice Ad (ratD l k).length cd], .int .i64 0]) ∧ U64s w' (new w.heap.size) An cn (ratA l k) ∧ U64s w' (new w.heap.size) Ad cd (ratD l k) ∧ Below w.heap.size w w' := by
  obtain ⟨bA, bB, bR, hB0⟩ := boxes_rat w (.bool s) (.slice A l.length c) (.bool true) (.slice B k.length d)
  have hma := fun (w1 : World) (h : Below w.heap.size w w1) => r5may_any (a := .agg #[.bool s, .slice A l.length c]) ⟨_, rfl, A, c, rfl, u1.below h⟩
  have hmb := fun (w1 : World) (h : Below w.heap.size w w1) => r5may_any (a := .agg #[.bool true, .slice B k.length d]) ⟨_, rfl, B, d, rfl, u2.below h⟩
  have ga : good l = true := by unfold okI at o1; rw [Bool.and_eq_true] at o1; exact o1.1
  have gb : good k = true := by unfold okI at o2; rw [Bool.and_eq_true] at o2; exact o2.1
  have hlow := fun (w1 : World) (Av : Option Addr) (cv : Nat) (Zv : Zone) (h : Below w.heap.size w w1) (hv : U64s w1 Zv Av cv l) => low_good (s := sg) hv (u2.below h) ga gb hk hl hl2
  have htu := fun (w1 : World) (h : Below w.heap.size w w1) => r5turned_any (a := .agg #[.bool s, .slice A l.length c]) ⟨_, rfl, A, c, rfl, u1.below h⟩ (by omega) hsg
  rw [o1] at hma
  rw [o2] at hmb
  have Hma := Lib.hid hma
  have Hmb := Lib.hid hmb
  have Hlow := Lib.hid hlow
  have Htu := Lib.hid htu
  have Hal := Lib.hid hB0
  obtain ⟨a0, a1, _, _, _⟩ := bA
  obtain ⟨b0, b1, _, _, _⟩ := bB
  have z1 : ((k.length : Int) == 0) = false := beq_eq_false_iff_ne.2 (by omega)
  clear hma hmb hlow htu hsg ga gb o1 o2 u1 u2 hB0
  generalize ratA l k = ra at *
  generalize ratD l k = rd at *
  generalize l.length = L at *
  generalize k.length = K at *
  go_enter Try.func14, Try.ntmps14
  go_wp2_with fail
  refine (Hma.out _ Hal.out).mono ?_
  rintro e w1 ⟨rfl, hc1⟩
  have HB1 := Lib.hid (from_ Hal.out hc1)
  have bR1 := bR.below hc1
  replace b0 := keepC hc1 b0
  replace b1 := keepC hc1 b1
  replace a0 := keepC hc1 a0
  replace a1 := keepC hc1 a1
  go_wp2_with fail
  refine (Hmb.out _ HB1.out).mono ?_
  rintro e w2 ⟨rfl, hc2⟩
  have HB2 := Lib.hid (from_ HB1.out hc2)
  have bR2 := bR1.below hc2
  replace b0 := keepC hc2 b0
  replace b1 := keepC hc2 b1
  replace a0 := keepC hc2 a0
  replace a1 := keepC hc2 a1
  have hdr : Below w2.heap.size w2 w2.drew := (Below.refl _ _).drew
  have HBd := Lib.hid (from_ HB2.out hdr)
  have s0 := (show w2.drew.cell? ⟨w.heap.size, 0, none⟩ = _ from a0)
  have s1 := (show w2.drew.cell? ⟨w.heap.size, 1, none⟩ = _ from a1)
  have s2 := (show w2.drew.cell? ⟨w.heap.size + 1, 1, none⟩ = _ from b1)
  have bRd := bR2.below hdr
  have hz2 := bR2.lt
  clear hdr hc1 hc2 bR bR1
  go_wp2
  go_region_held3 (fun w' => w'.cell? ⟨w.heap.size, 0, none⟩ = some (.bool s) ∧ w'.cell? ⟨w.heap.size, 1, none⟩ = some (.slice A L c) ∧ w'.cell? ⟨w.heap.size + 1, 1, none⟩ = some (.slice B K d))
    (first
      | (go_keep; done)
      | exact ⟨t0, t1, t2⟩
      | exact ⟨t3, t4, t5⟩
      | exact ⟨t6, t7, t8⟩)
    (first
      | (go_at_call 63; with_reducible refine (Htu.out _ HBd.out).mono ?_; rintro e w3 ⟨Av, cv, rfl, hv3, hc3⟩; have t0 := keepC hc3 s0; have t1 := keepC hc3 s1; have t2 := keepC hc3 s2; have bR3 := bRd.below hc3)
      | (go_at_call 62; obtain ⟨Av', cv', ev, hu3⟩ := hv3; injection ev with e1 e2 e3; subst e1 e3; refine (Hlow.out _ _ _ _ (from_ HBd.out hc3) hu3).mono ?_; rintro e w4 ⟨An, cn, Ad, cd, rfl, hun, hud, hc4⟩; have t3 := keepC hc4 t0; have t4 := keepC hc4 t1; have t5 := keepC hc4 t2; obtain ⟨q0, q1, q2, f0, f1, f2, _⟩ := (show Box3 w4 (w.heap.size + 1 + 1) _ _ _ from bR3.below hc4); have t6 := st3 t3 (show w.heap.size + 1 + 1 ≠ w.heap.size by omega) (.bool sg) (.slice An ra.length cn) (.slice Ad rd.length cd); have t7 := st3 t4 (show w.heap.size + 1 + 1 ≠ w.heap.size by omega) (.bool sg) (.slice An ra.length cn) (.slice Ad rd.length cd); have t8 := st3 t5 (show w.heap.size + 1 + 1 ≠ w.heap.size + 1 by omega) (.bool sg) (.slice An ra.length cn) (.slice Ad rd.length cd)))
  all_goals
    have hB3 := from_ HBd.out hc3
    have hB4 := from_ hB3 hc4
    have hP := (bR3.below hc4).put hB4 (by omega) (.bool sg) (.slice An ra.length cn) (.slice Ad rd.length cd)
    have hs3 := hc3.size
    have hs2 : w2.heap.size ≤ w2.drew.heap.size := Nat.le_refl _
    have hn5 := hP.keep (fun (h : w3.heap.size ≤ w.heap.size + 2) => by omega) hun
    have hd5 := hP.keep (fun (h : w3.heap.size ≤ w.heap.size + 2) => by omega) hud
    have HN := Lib.hid (hn5.mono (Y := new w.heap.size) (new_le hB3.size))
    have HD := Lib.hid (hd5.mono (Y := new w.heap.size) (new_le hB3.size))
    have HP := Lib.hid hP
    clear hP hn5 hd5 hun hud
    go_wp2
    refine bodyPost_ret (res_rat2 rfl _ (w.heap.size + 2) rfl HP.out.c0 HP.out.c1 HP.out.c2) rfl ?_
    exact ⟨_, _, _, _, rfl, HN.out, HD.out, HP.out.bel⟩

end Go.Proofs.Ytjnjlgknmocdlaa
