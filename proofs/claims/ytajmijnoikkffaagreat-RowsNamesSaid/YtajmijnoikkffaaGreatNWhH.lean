/-
  Whole numbers: Sub, at any signs and words. No conditions but bounds on lengths.
  Whole numbers: Sign, Cmp, Neg, at any signs and words. No conditions but bounds on lengths.
  Whole numbers: Neg, at any sign and words. No conditions but bounds on lengths.
-/
import Derived.Deep.RegionWith
import Derived.Test.YtajmijnoikkffaaGreatNWhF
import Derived.Test.YtajmijnoikkffaaGreatNClone
namespace Go.Proofs.YtajmijnoikkffaaGreat
open Go.RowKit
set_option linter.unusedVariables false
set_option linter.unusedSimpArgs false

end Go.Proofs.YtajmijnoikkffaaGreat

namespace Go.Proofs.YtajmijnoikkffaaGreat
open Go.RowKit
set_option linter.unusedVariables false
set_option linter.unusedSimpArgs false

def cmpO (s : Bool) (l : List Nat) (t : Bool) (k : List Nat) : Int := if okI s l = true ∧ okI t k = true then sgn (zof s l - zof t k) else 0

end Go.Proofs.YtajmijnoikkffaaGreat

namespace Go.Proofs.YtajmijnoikkffaaGreat
open Go.RowKit
set_option linter.unusedVariables false
set_option linter.unusedSimpArgs false

/-- The number the other way round: a sign and words; nothing, where it may not be. -/
def negP (s : Bool) (l : List Nat) : Bool × List Nat := if okI s l = true then (decide (-zof s l < 0), l) else (false, [])

set_option maxRecDepth 100000 in
set_option maxHeartbeats 2000000 in
theorem wneg_all {w : World} {Z : Zone} {a : Value} {s : Bool} {l : List Nat} (ha : IsI w Z a s l) (hl : l.length ≤ 90000000000) :
    Calls Tryz.prog 44 #[a] w fun e w' => ∃ v, e = .returned (.tuple #[v, .int .i64 (errC s l)]) ∧ IsI w' (new w.heap.size) v (negP s l).1 (negP s l).2 ∧ Below w.heap.size w w' := by
  obtain ⟨_, rfl, A, c, rfl, hu⟩ := ha
  obtain ⟨bA, bR, hB0⟩ : Box ((w.alloc (.cells #[.bool s, .slice A l.length c] 42)).alloc (.cells #[.bool false, .slice none 0 0] 42)) w.heap.size (.bool s) (.slice A l.length c) ∧ Box ((w.alloc (.cells #[.bool s, .slice A l.length c] 42)).alloc (.cells #[.bool false, .slice none 0 0] 42)) (w.heap.size + 1) (.bool false) (.slice none 0 0) ∧ Below w.heap.size w ((w.alloc (.cells #[.bool s, .slice A l.length c] 42)).alloc (.cells #[.bool false, .slice none 0 0] 42)) := by
    have h2 := Box.new (w.alloc (.cells #[.bool s, .slice A l.length c] 42)) (.bool false) (.slice none 0 0) 42
    rw [show (w.alloc (.cells #[.bool s, .slice A l.length c] 42)).heap.size = w.heap.size + 1 by simp] at h2
    exact ⟨(Box.new w _ _ _).alloc _, h2, ((Below.refl _ w).alloc (Nat.le_refl _) _).alloc (by simp) _⟩
  have hI : IsI w Z (.agg #[.bool s, .slice A l.length c]) s l := ⟨_, rfl, A, c, rfl, hu⟩
  have hck := wcheck_any (hI.below hB0)
  have hsm := hu.small
  obtain ⟨a0, a1, _, _, _⟩ := bA
  cases hok : okI s l with
  | true =>
    have e1 : errC s l = 0 := by simp [errC, hok]
    have e2 : negP s l = (decide (-zof s l < 0), l) := by simp [negP, hok]
    rw [e1] at hck ⊢
    rw [e2]
    obtain ⟨n1, _⟩ := neg_enc hok hsm
    obtain ⟨sy, hsy⟩ : ∃ sy, sy = decide (-zof s l < 0) := ⟨_, rfl⟩
    rw [← hsy] at n1 ⊢
    have Hn1 := Lib.hid n1
    have Hck := Lib.hid hck
    clear hck e1 e2 hok n1 hsy
    go_enter Tryz.func44, Tryz.ntmps44
    go_wp2_with fail
    refine Hck.out.mono ?_
    rintro e w1 ⟨rfl, hb1⟩
    have a0 := keepC hb1 a0
    have a1 := keepC hb1 a1
    have a0 := (show w1.drew.cell? ⟨w.heap.size, 0, none⟩ = _ from a0)
    have a1 := (show w1.drew.cell? ⟨w.heap.size, 1, none⟩ = _ from a1)
    have hB1 : Below w.heap.size w w1.drew := (from_ hB0 hb1).drew
    have bRd := (bR.below hb1).below (W' := w1.drew) ((Below.refl _ w1).drew)
    have hcl := clone_any (n := l.length) (w := w1.drew) rfl (hu.below hB1) (by omega)
    have hS : Calls Tryz.prog 32 #[.slice A l.length c] w1.drew (fun e w' => ∃ Av cv, e = .returned (.slice Av l.length cv) ∧ IsU w' (new w1.drew.heap.size) (.slice Av l.length cv) l ∧ Below w1.drew.heap.size w1.drew w') := by
      refine hcl.mono ?_
      rintro e w2 ⟨v, rfl, hown, hb2⟩
      obtain ⟨Av, cv, rfl⟩ := own_shape hown
      exact ⟨Av, cv, rfl, ⟨Av, cv, rfl, isU_after hsm rfl hown (Nat.le_refl _)⟩, hb2⟩
    have HS := Lib.hid hS
    have hz2 : w.heap.size + 1 < w1.drew.heap.size := bRd.lt
    clear hS hcl bR hB0 Hck hu hI
    go_wp2
    go_region_with (first
      | (go_at_call 32; refine HS.out.mono ?_; rintro e w2 ⟨Av, cv, rfl, hv, hc2⟩; have A0 := keepC hc2 a0; have A1 := keepC hc2 a1)
      | (go_at_call 27; refine (made_at hv Hn1.out).mono ?_; rintro e w3 ⟨rfl, hc3⟩; obtain ⟨q0, q1, f0, f1, _⟩ := (bRd.below hc2).below hc3))
    all_goals
      have bR3 := (bRd.below hc2).below hc3
      have hP := bR3.put (from_ (from_ hB1 hc2) hc3) (by omega) (.bool sy) (.slice Av l.length cv)
      have hu2 := hP.keep hz2 (hv.below hc3)
      have Hu := Lib.hid hu2
      have HP := Lib.hid hP
      clear hv hu2 hP bR3 a0 a1
      go_wp2
      refine bodyPost_ret (res_int2 rfl _ (w.heap.size + 1) rfl HP.out.c0 HP.out.c1) rfl ?_
      exact ⟨_, rfl, ⟨_, rfl, Hu.out⟩, HP.out.bel⟩
  | false =>
    have e1 : errC s l = 8 := by simp [errC, hok]
    have e2 : negP s l = (false, []) := by simp [negP, hok]
    rw [e1] at hck ⊢
    rw [e2]
    have Hck := Lib.hid hck
    clear hck e1 e2 hok
    go_enter Tryz.func44, Tryz.ntmps44
    go_wp2_with fail
    refine Hck.out.mono ?_
    rintro e w1 ⟨rfl, hb1⟩
    have bR1 := bR.below hb1
    have hP := bR1.put (from_ hB0 hb1) (by omega) (.bool false) (.slice none 0 0)
    have HP := Lib.hid hP
    obtain ⟨q0, q1, f0, f1, _⟩ := bR1
    clear hP bR hB0 Hck
    go_wp2
    refine bodyPost_ret (res_int2 rfl _ (w.heap.size + 1) rfl HP.out.c0 HP.out.c1) rfl ?_
    exact ⟨_, rfl, ⟨_, rfl, IsU.nil _ _⟩, HP.out.bel⟩

end Go.Proofs.YtajmijnoikkffaaGreat
