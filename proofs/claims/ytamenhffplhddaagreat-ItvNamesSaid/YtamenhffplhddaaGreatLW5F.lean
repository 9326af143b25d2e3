/-
  The document's own answer, layer 5: Turned. No conditions but bounds on lengths.
  The document's own answer, layer 5: Compared, Cmp, Sub, Neg. No conditions but bounds on lengths.
-/
import Derived.Deep.RegionLaw
import Derived.Deep.RegionHeld3
import Derived.Test.YtamenhffplhddaaGreatLW5D
namespace Go.Proofs.YtamenhffplhddaaGreat
open Go.RowKit
set_option linter.unusedVariables false
set_option linter.unusedSimpArgs false

/-- append of a slice of words to nil, as one step of a region that draws its order. -/
theorem step_appU {P : Program} {ops : Array Oper} {o : Oper} {a : Act} {w : World} {K : Act → World → Prop} {Q : Exit → Act → World → Prop} {E : Prop}
    (hg : o.guard = none) (s x : Operand) (t : TypeId) (hop : o.op = Op.call { callee := Callee.builtin Builtin.append, args := #[s, x], argTypes := #[t, t] })
    (base : Nat) (e : TypeId) (i : TypeInfo) (h1 : P.underlying t = some (.slice e)) (h2 : P.info? e = some i) (h3 : i.zero = some (.int .u64 0)) (h4 : i.size = 1) (h5 : i.bytes = 8)
    (hs : a.eval s = .slice none 0 0) {Z : Zone} {A : Option Addr} {m c : Nat} {l : List Nat} (hm : m = l.length) (hx : a.eval x = .slice A m c) (hl : U64s w Z A c l) (hb : m ≤ 1000000000000) (hbase : base ≤ w.heap.size)
    (hK : ∀ v' w', w'.ownsRow base e 1 v' m (l.map fun x : Nat => Value.int .u64 (x : Int)) → w.grownBy w' none → K (a.put o.dst v') w') :
    if Region.wanted o (yielded ops a.tmps) = true then Oper.wp P o a w K Q else E := by
  have hw : Region.wanted o (yielded ops a.tmps) = true := by simp [Region.wanted, hg]
  rw [if_pos hw]
  subst hm
  have hown : w.ownsRow base e 1 (.slice none 0 0) 0 [] := World.ownsRow_nil _ _ _ _
  rcases A with _ | ad
  · have hc := hl.nul rfl
    have hcap := hl.cap
    have h0 : l = [] := List.length_eq_zero_iff.1 (by omega)
    subst h0
    subst hc
    have hrun := run_append_owned_none (P := P) w base t o.type e i 1 h1 h2 _ 0 [] hown
    unfold Oper.wp
    simp only [List.length_nil] at hx
    simp [execOp, hop, resolve, invoke, builtin, hs, hx, hrun, Result.andThen]
    exact hK (.slice none 0 0) w (by simpa using hown) (World.grownBy.refl _ _)
  · obtain ⟨v', w', hrun, r1, r2, _⟩ := run_append_own (P := P) w base t o.type e i (.int .u64 0) 1 8 h1 h2 h3 h4 h5 rfl (by omega) (.slice none 0 0) 0 [] hown ad l.length c (l.map fun x : Nat => Value.int .u64 (x : Int)) (by simp)
      (fun j u hu => by
        have hj : j < l.length := by have := (List.getElem?_eq_some_iff.1 hu).1; simpa using this
        obtain ⟨b, o', e1, _, _, hc⟩ := hl.row (by simp; omega)
        injection e1 with e1
        subst e1
        rw [Addr.add_lit]
        exact hc j u hu)
      (fun u hu => by
        obtain ⟨y, _, rfl⟩ := List.mem_map.1 hu
        rfl) (by simp only [maxLen]; omega) (by omega) hbase
    unfold Oper.wp
    simp [execOp, hop, resolve, invoke, builtin, hs, hx, hrun, Result.andThen]
    exact hK v' w' (by simpa using r1) r2

end Go.Proofs.YtamenhffplhddaaGreat

namespace Go.Proofs.YtamenhffplhddaaGreat
open Go.RowKit
set_option linter.unusedVariables false
set_option linter.unusedSimpArgs false

theorem IsI.old {w : World} {Z : Zone} {v : Value} {s : Bool} {l : List Nat} (h : IsI w Z v s l) : IsI w old v s l := h.mono (le_old _)

/-- The number the other way round, as a sign and words. -/
theorem turned_enc {s : Bool} {l : List Nat} (h : okI s l = true) (hs : Small l) : (!s && decide (0 < l.length)) = decide (-zof s l < 0) ∧ limbs (-zof s l).natAbs = l := by
  obtain ⟨h1, h2⟩ := neg_enc h hs
  exact ⟨h1, by rw [Int.natAbs_neg]; exact (zof_enc h hs).2⟩

end Go.Proofs.YtamenhffplhddaaGreat
