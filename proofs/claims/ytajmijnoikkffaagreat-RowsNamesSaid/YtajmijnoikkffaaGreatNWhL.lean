/-
  Whole numbers: rounded, Floor, Ceil (the second number not 0). No conditions but bounds on lengths.
-/
import Derived.Deep.RegionWith
import Derived.Test.YtajmijnoikkffaaGreatNWhK
namespace Go.Proofs.YtajmijnoikkffaaGreat
open Go.RowKit
set_option linter.unusedVariables false
set_option linter.unusedSimpArgs false

def rq (x y : Int) (d : Bool) : Int := if (decide (0 < (limbs (x.natAbs % y.natAbs)).length) && ((decide (x < 0) != decide (y < 0)) == d)) = true then tq x y + (if d = true then -1 else 1) else tq x y

theorem Box.other {W : World} {g h : Nat} {a b x y : Value} (hb : Box W g a b) (hn : h ≠ g) : Box ((W.setCell ⟨h, 0, none⟩ x).setCell ⟨h, 1, none⟩ y) g a b :=
  ⟨by rw [World.cell?_setCell_other _ _ _ _ (fun e => hn (by injection e)), World.cell?_setCell_other _ _ _ _ (fun e => hn (by injection e))]; exact hb.c0,
   by rw [World.cell?_setCell_other _ _ _ _ (fun e => hn (by injection e)), World.cell?_setCell_other _ _ _ _ (fun e => hn (by injection e))]; exact hb.c1,
   (World.frozen?_setCell _ _ _ _).trans ((World.frozen?_setCell _ _ _ _).trans hb.f0), (World.frozen?_setCell _ _ _ _).trans ((World.frozen?_setCell _ _ _ _).trans hb.f1), by have := hb.lt; simpa [World.setCell] using this⟩

theorem one_enc (d : Bool) : decide ((if d = true then (-1 : Int) else 1) < 0) = d ∧ limbs (if d = true then (-1 : Int) else 1).natAbs = [1] := by
  cases d
  · exact ⟨by simp, by simp [limbs_one (x := 1) (by omega) (by omega)]⟩
  · exact ⟨by simp, by simp [limbs_one (x := 1) (by omega) (by omega)]⟩

end Go.Proofs.YtajmijnoikkffaaGreat
