/- Arguments of the statements, opened: rows of whole numbers. No conditions. -/
import Derived.Deep.RegionHeld3
import Derived.Test.YtdncgncijbnjpaaGreatRWhU
import Derived.Test.YtdncgncijbnjpaaGreatRWhJ
import Derived.Test.YtdncgncijbnjpaaGreatRFrameB
set_option linter.unusedVariables false
set_option linter.unusedSimpArgs false
set_option maxRecDepth 100000
set_option maxHeartbeats 40000000
namespace Go.Proofs.YtdncgncijbnjpaaGreat
open Go.RowKit
open Go.ChangeShapes Go.WideShapes Go.ChangeAt Go.RowKit
structure WholeT (P : Program) (t : TypeId) (fs : Array Field) (f0 f1 : Field) (e : TypeId) : Prop where
 ht : P.underlying t = some (.struct fs)
 hn : P.cellsOf t = 2
 h0 : fs[0]? = some f0
 h1 : fs[1]? = some f1
 o0 : f0.offset = 0
 o1 : f1.offset = 1
 c0 : P.cellsOf f0.type = 1
 c1 : P.cellsOf f1.type = 1
 hb : P.underlying f0.type = some .bool
 hs : P.underlying f1.type = some (.slice e)
 he : P.underlying e = some (.int .u64)
 hc : P.cellsOf e = 1
theorem open_wholeC {H : Type} {enc : TypeId × Value → H} {P : Program} {W : World} {base : Nat} {held : Bool} {t e : TypeId} {fs : Array Field} {f0 f1 : Field} {fuel : Nat} {cs : List Value} {x : DataW H × List MemPlace}
  (T : WholeT P t fs f0 f1 e) (hf : DataW.trod enc P W base (fun _ => true) held fuel t cs = some x) :
  ∃ s v l, cs = [.bool s, v] ∧ IsU W old v l := by
 obtain ⟨B, n, _, _, C, _, K⟩ := DataW.trod_struct T.ht hf
 rw [T.hn] at C
 have D := K 0 f0 T.h0
 have E := K 1 f1 T.h1
 obtain ⟨a, b, rfl⟩ : ∃ a b, cs = [a, b] := by
  match cs, C with
  | [a, b], _ => exact ⟨a, b, rfl⟩
 rw [T.o0, T.c0] at D
 rw [T.o1, T.c1] at E
 simp at D E
 have F : ∃ y, DataW.trod enc P W base (fun _ => true) held n f0.type [a] = some y := by
  cases hx : B[0]? with
  | some y => exact ⟨y, by simpa [hx] using D⟩
  | none =>
    have : B.length = fs.size := by assumption
    have L : 0 < fs.size := by
     rcases Nat.eq_zero_or_pos fs.size with h | h
     · have A := T.h0; rw [Array.getElem?_eq_none (by omega)] at A; cases A
     · exact h
    rw [List.getElem?_eq_none_iff] at hx
    omega
 have G : ∃ y, DataW.trod enc P W base (fun _ => true) held n f1.type [b] = some y := by
  cases hx : B[1]? with
  | some y => exact ⟨y, by simpa [hx] using E⟩
  | none =>
    have : B.length = fs.size := by assumption
    have L : 1 < fs.size := by
     rcases Nat.lt_or_ge 1 fs.size with h | h
     · exact h
     · have A := T.h1; rw [Array.getElem?_eq_none (by omega)] at A; cases A
    rw [List.getElem?_eq_none_iff] at hx
    omega
 obtain ⟨M, F⟩ := F
 obtain ⟨N, G⟩ := G
 obtain ⟨s, I, _⟩ := DataW.trod_bool T.hb F
 obtain ⟨u, l, J, C⟩ := open_wordsC T.hs T.he T.hc G
 injection I with I _
 injection J with J _
 subst I J
 exact ⟨s, _, l, rfl, C⟩
theorem list_of_each {α : Type} {R : Nat → α → Prop} : ∀ (n : Nat), (∀ j, j < n → ∃ a, R j a) → ∃ l : List α, l.length = n ∧ ∀ j (hj : j < l.length), R j l[j] := by
 intro n
 induction n with
 | zero => exact fun _ => ⟨[], rfl, fun j hj => absurd hj (by simp)⟩
 | succ n ih =>
   intro h
   obtain ⟨l, A, B⟩ := ih fun j hj => h j (by omega)
   obtain ⟨a, C⟩ := h n (by omega)
   refine ⟨l ++ [a], by simp [A], fun j hj => ?_⟩
   rw [List.length_append, List.length_singleton] at hj
   by_cases hjl : j < l.length
   · rw [List.getElem_append_left hjl]
     exact B j hjl
   · obtain rfl : j = n := by omega
     rw [List.getElem_append_right (by omega)]
     simpa [A] using C
theorem wholeT_ : ∃ fs f0 f1, WholeT Tryz.prog 35 fs f0 f1 143 :=
 ⟨_, _, _, ⟨Tryz.underlying35, by kernel_rfl, rfl, rfl, rfl, rfl, by kernel_rfl, by kernel_rfl, Tryz.underlying4, Tryz.underlying33, Tryz.underlying143, by kernel_rfl⟩⟩
end Go.Proofs.YtdncgncijbnjpaaGreat
