/- Arguments of the statements, opened: slices of words. No conditions. -/
import Derived.Test.YtdncgncijbnjpaaGreatRows
import Derived.ProofKit
import Derived.OpenShut
import Derived.ShutString
import Derived.ChangeOld
import Derived.Test.YtdncgncijbnjpaaGreatRMem
set_option linter.unusedVariables false
set_option linter.unusedSimpArgs false
set_option maxRecDepth 100000
set_option maxHeartbeats 40000000
namespace Go.Proofs.YtdncgncijbnjpaaGreat
open Go.ChangeShapes Go.WideShapes Go.ChangeAt Go.RowKit
variable {Z : Zone} {s : Bool} {v : Value}
theorem ownKnob_ : ownKnob Tryz.prog.godebug = none := by kernel_rfl
theorem laidOut_ : laidOutB Tryz.prog = true := by kernel_rfl
theorem list_of_ints (zs : List Int) (h : ∀ n ∈ zs, (Lit.int .u64 n).wf = true) : ∃ l : List Nat, Small l ∧ zs = l.map fun x : Nat => (x : Int) := by
 induction zs with
 | nil => exact ⟨[], Small.nil, rfl⟩
 | cons z zs ih =>
   obtain ⟨l, A, rfl⟩ := ih fun n hn => h n (List.mem_cons_of_mem _ hn)
   have B := bounds_u64 (h z List.mem_cons_self)
   exact ⟨z.toNat :: l, Small.cons (by omega) A, by simp; omega⟩
def IsI (w : World) (Z : Zone) (v : Value) (s : Bool) (l : List Nat) : Prop := ∃ u, v = .agg #[.bool s, u] ∧ IsU w Z u l
theorem IsI.mono {w : World} {Y : Zone} {l : List Nat} (h : IsI w Z v s l) (hz : Z.le Y) : IsI w Y v s l := by obtain ⟨u, e, h⟩ := h; exact ⟨u, e, h.mono hz⟩
theorem IsI.below {w w' : World} {l : List Nat} (h : IsI w Z v s l) (hb : Below w.heap.size w w') : IsI w' Z v s l := by obtain ⟨u, e, h⟩ := h; exact ⟨u, e, h.below hb⟩
theorem open_wordsC {H : Type} {enc : TypeId × Value → H} {P : Program} {W : World} {base : Nat} {held : Bool} {t e : TypeId} {fuel : Nat} {cs : List Value} {x : DataW H × List MemPlace}
  (ht : P.underlying t = some (.slice e)) (he : P.underlying e = some (.int .u64)) (hc : P.cellsOf e = 1) (hf : DataW.trod enc P W base (fun _ => true) held fuel t cs = some x) :
  ∃ v l, cs = [v] ∧ IsU W old v l := by
 rcases open_ints ht he hc hf with ⟨hcs, _⟩ | ⟨x, l, c, zs, hcs, _, hl, hm, hz, _, hcell, hwz⟩
 · exact ⟨_, [], hcs, IsU.nil _ _⟩
 · simp only [if_true] at hz
   obtain ⟨A, G, rfl⟩ := list_of_ints zs hwz
   have I : A.length = c := by simpa using hz
   refine ⟨_, A.take l, hcs, some x, c, ?_, G.take _, by rw [List.length_take]; omega, by simpa [maxLen] using hm, (fun h => by cases h), fun h0 => ?_⟩
   · rw [List.length_take]
     congr 1
     omega
   · have J : 0 < l := by
      rcases Nat.eq_zero_or_pos l with h | h
      · subst h; simp at h0
      · exact h
     have F := hcell 0 (by simp; omega)
     have B : x.spot = none := by simpa [Addr.add] using World.cell?_spot F
     obtain ⟨b, o, spot⟩ := x
     simp only at B
     subst B
     refine ⟨b, o, rfl, trivial, fun h => h.elim, fun j u hu => ?_⟩
     have C : j < (A.take l).length := by have := (List.getElem?_eq_some_iff.1 hu).1; simpa using this
     have D : j < A.length := by rw [List.length_take] at C; omega
     have E := hcell j (by simpa using D)
     rw [Addr.add_lit] at E
     rw [E, ← hu]
     rw [List.length_take] at C
     simp [List.getD, List.getElem?_take, D, show j < l by omega]
end Go.Proofs.YtdncgncijbnjpaaGreat
