/-
  Whole numbers: Sub, at any signs and words. No conditions but bounds on lengths.
  Whole numbers: Sign, Cmp, Neg, at any signs and words. No conditions but bounds on lengths.
  Whole numbers: Neg, at any sign and words. No conditions but bounds on lengths.
-/
import Derived.Deep.RegionWith
import Derived.Test.YtceenaegchlbcaaGreatDoorEWhF
import Derived.Test.YtceenaegchlbcaaGreatDoorEClone
namespace Go.Proofs.YtceenaegchlbcaaGreatDoor
open Go.RowKit
set_option linter.unusedVariables false
set_option linter.unusedSimpArgs false

end Go.Proofs.YtceenaegchlbcaaGreatDoor

namespace Go.Proofs.YtceenaegchlbcaaGreatDoor
open Go.RowKit
set_option linter.unusedVariables false
set_option linter.unusedSimpArgs false

set_option maxRecDepth 100000 in
set_option maxHeartbeats 1000000 in
theorem wSign_all {w : World} {Z : Zone} {a : Value} {s : Bool} {l : List Nat} (ha : IsI w Z a s l) :
    Calls Tryz.prog 93 #[a] w fun e w' => e = .returned (.tuple #[.int .i64 (sgX s l), .int .i64 (errC s l)]) ∧ Below w.heap.size w w' := by
  obtain ⟨_, rfl, A, c, rfl, hu⟩ := ha
  have hb0 : Below w.heap.size w (w.alloc (.cells #[.bool s, .slice A l.length c] 36)) := (Below.refl _ w).alloc (Nat.le_refl _) _
  obtain ⟨q0, q1, _, _, _⟩ := Box.new w (.bool s) (.slice A l.length c) 36
  have hI : IsI w Z (.agg #[.bool s, .slice A l.length c]) s l := ⟨_, rfl, A, c, rfl, hu⟩
  have hck := wcheck_any (hI.below hb0)
  have hsm := hu.small
  clear hu
  cases hok : okI s l with
  | true =>
    have e1 : errC s l = 0 := by simp [errC, hok]
    have e2 : sgX s l = sgn (zof s l) := by simp [sgX, hok]
    rw [e1] at hck ⊢
    rw [e2]
    have hz := hI.num hok
    have Hck := Lib.hid hck
    clear hck e1 e2 hok
    go_enter Tryz.func93, Tryz.ntmps93
    go_wp2_with fail
    refine Hck.out.mono ?_
    rintro e w1 ⟨rfl, hb1⟩
    have q0 := keepC hb1 q0
    have q1 := keepC hb1 q1
    have hB := from_ hb0 hb1
    go_wp2_with fail
    refine (wsign_good (hz.below hB)).mono ?_
    rintro e w2 ⟨rfl, hb2⟩
    have hB2 := from_ hB hb2
    go_wp2
    go_ret2
    exact ⟨rfl, hB2⟩
  | false =>
    have e1 : errC s l = 8 := by simp [errC, hok]
    have e2 : sgX s l = 0 := by simp [sgX, hok]
    rw [e1] at hck ⊢
    rw [e2]
    have Hck := Lib.hid hck
    clear hck e1 e2 hok
    go_enter Tryz.func93, Tryz.ntmps93
    go_wp2_with fail
    refine Hck.out.mono ?_
    rintro e w1 ⟨rfl, hb1⟩
    have hB := from_ hb0 hb1
    go_wp2
    go_ret2
    exact ⟨rfl, hB⟩

def cmpO (s : Bool) (l : List Nat) (t : Bool) (k : List Nat) : Int := if okI s l = true ∧ okI t k = true then sgn (zof s l - zof t k) else 0

end Go.Proofs.YtceenaegchlbcaaGreatDoor

namespace Go.Proofs.YtceenaegchlbcaaGreatDoor
open Go.RowKit
set_option linter.unusedVariables false
set_option linter.unusedSimpArgs false

/-- The number the other way round: a sign and words; nothing, where it may not be. -/
def negP (s : Bool) (l : List Nat) : Bool × List Nat := if okI s l = true then (decide (-zof s l < 0), l) else (false, [])

end Go.Proofs.YtceenaegchlbcaaGreatDoor
