/-
  Arguments of the statements, opened: slices of words. No conditions.
  Arguments of the statements, opened: whole numbers (a sign and words). No conditions.
-/
import Derived.Test.YtennphechbngcaaRows
import Derived.ProofKit
import Derived.OpenShut
import Derived.ShutString
import Derived.ChangeOld
import Derived.Test.YtennphechbngcaaMMem
namespace Go.Proofs.Ytennphechbngcaa
open Go.ChangeShapes Go.WideShapes Go.ChangeAt Go.RowKit
set_option linter.unusedVariables false
set_option linter.unusedSimpArgs false

theorem ownKnob_ : ownKnob Try.prog.godebug = none := by kernel_rfl
theorem laidOut_ : laidOutB Try.prog = true := by kernel_rfl

theorem list_of_ints (zs : List Int) (h : ∀ n ∈ zs, (Lit.int .u64 n).wf = true) : ∃ l : List Nat, Small l ∧ zs = l.map fun x : Nat => (x : Int) := by
  induction zs with
  | nil => exact ⟨[], Small.nil, rfl⟩
  | cons z zs ih =>
    obtain ⟨l, hs, rfl⟩ := ih fun n hn => h n (List.mem_cons_of_mem _ hn)
    have hz := bounds_u64 (h z List.mem_cons_self)
    exact ⟨z.toNat :: l, Small.cons (by omega) hs, by simp; omega⟩

end Go.Proofs.Ytennphechbngcaa

namespace Go.Proofs.Ytennphechbngcaa
open Go.ChangeShapes Go.WideShapes Go.ChangeAt Go.RowKit
set_option linter.unusedVariables false
set_option linter.unusedSimpArgs false

/-- A whole number in memory: a sign, and words. -/
def IsI (w : World) (Z : Zone) (v : Value) (s : Bool) (l : List Nat) : Prop := ∃ u, v = .agg #[.bool s, u] ∧ IsU w Z u l
theorem IsI.mono {w : World} {Z Y : Zone} {v : Value} {s : Bool} {l : List Nat} (h : IsI w Z v s l) (hz : Z.le Y) : IsI w Y v s l := by obtain ⟨u, e, h⟩ := h; exact ⟨u, e, h.mono hz⟩
theorem IsI.below {w w' : World} {Z : Zone} {v : Value} {s : Bool} {l : List Nat} (h : IsI w Z v s l) (hb : Below w.heap.size w w') : IsI w' Z v s l := by obtain ⟨u, e, h⟩ := h; exact ⟨u, e, h.below hb⟩

theorem open_wordsC {H : Type} {enc : TypeId × Value → H} {P : Program} {W : World} {base : Nat} {held : Bool} {t e : TypeId} {fuel : Nat} {cs : List Value} {x : DataW H × List MemPlace}
    (ht : P.underlying t = some (.slice e)) (he : P.underlying e = some (.int .u64)) (hc : P.cellsOf e = 1) (hf : DataW.trod enc P W base (fun _ => true) held fuel t cs = some x) :
    ∃ v l, cs = [v] ∧ IsU W old v l := by
  rcases open_ints ht he hc hf with ⟨hcs, _⟩ | ⟨x, l, c, zs, hcs, _, hl, hm, hz, _, hcell, hwz⟩
  · exact ⟨_, [], hcs, IsU.nil _ _⟩
  · simp only [if_true] at hz
    obtain ⟨ws, hs, rfl⟩ := list_of_ints zs hwz
    have hwl : ws.length = c := by simpa using hz
    refine ⟨_, ws.take l, hcs, some x, c, ?_, hs.take _, by rw [List.length_take]; omega, by simpa [maxLen] using hm, (fun h => by cases h), fun h0 => ?_⟩
    · rw [List.length_take]
      congr 1
      omega
    · have hlen : 0 < l := by
        rcases Nat.eq_zero_or_pos l with h | h
        · subst h; simp at h0
        · exact h
      have hc0 := hcell 0 (by simp; omega)
      have hspot : x.spot = none := by simpa [Addr.add] using World.cell?_spot hc0
      obtain ⟨b, o, spot⟩ := x
      simp only at hspot
      subst hspot
      refine ⟨b, o, rfl, trivial, fun h => h.elim, fun j u hu => ?_⟩
      have hj : j < (ws.take l).length := by have := (List.getElem?_eq_some_iff.1 hu).1; simpa using this
      have hj' : j < ws.length := by rw [List.length_take] at hj; omega
      have hcj := hcell j (by simpa using hj')
      rw [Addr.add_lit] at hcj
      rw [hcj, ← hu]
      rw [List.length_take] at hj
      simp [List.getD, List.getElem?_take, hj', show j < l by omega]

theorem open_whole {H : Type} {enc : TypeId × Value → H} {P : Program} {W : World} {base b0 : Nat} {held : Bool} {r : Reach} {t e : TypeId} {fs : Array Field} {f0 f1 : Field} {v : Value} {d : DataW H} {p : List MemPlace}
    (ht : P.underlying t = some (.struct fs)) (hn : P.cellsOf t = 2) (h0 : fs[0]? = some f0) (h1 : fs[1]? = some f1) (o0 : f0.offset = 0) (o1 : f1.offset = 1) (c0 : P.cellsOf f0.type = 1) (c1 : P.cellsOf f1.type = 1)
    (hb : P.underlying f0.type = some .bool) (hs : P.underlying f1.type = some (.slice e)) (he : P.underlying e = some (.int .u64)) (hc : P.cellsOf e = 1) (hv : Value.okWide P W r b0 t v) (h : DataW.Trod enc P W base (fun _ => true) held t v d p) :
    ∃ s l, IsI W old v s l := by
  obtain ⟨cs, rfl, hsz⟩ := okWide_struct ht hv
  rw [hn] at hsz
  obtain ⟨fuel, hf⟩ := h
  obtain ⟨xs, n, _, _, _, _, hfs⟩ := DataW.trod_struct ht hf
  have e0 := hfs 0 f0 h0
  have e1 := hfs 1 f1 h1
  have hcs : ∃ a b, cs = #[a, b] := by
    obtain ⟨l⟩ := cs
    match l, hsz with
    | [a, b], _ => exact ⟨a, b, rfl⟩
  obtain ⟨a, b, rfl⟩ := hcs
  rw [o0, c0] at e0
  rw [o1, c1] at e1
  simp [Value.cells] at e0 e1
  have g0 : ∃ y, DataW.trod enc P W base (fun _ => true) held n f0.type [a] = some y := by
    cases hx : xs[0]? with
    | some y => exact ⟨y, by simpa [hx] using e0⟩
    | none =>
      have : xs.length = fs.size := by assumption
      have h2 : 0 < fs.size := by
        rcases Nat.eq_zero_or_pos fs.size with h | h
        · rw [Array.getElem?_eq_none (by omega)] at h0; cases h0
        · exact h
      rw [List.getElem?_eq_none_iff] at hx
      omega
  have g1 : ∃ y, DataW.trod enc P W base (fun _ => true) held n f1.type [b] = some y := by
    cases hx : xs[1]? with
    | some y => exact ⟨y, by simpa [hx] using e1⟩
    | none =>
      have : xs.length = fs.size := by assumption
      have h2 : 1 < fs.size := by
        rcases Nat.lt_or_ge 1 fs.size with h | h
        · exact h
        · rw [Array.getElem?_eq_none (by omega)] at h1; cases h1
      rw [List.getElem?_eq_none_iff] at hx
      omega
  obtain ⟨y0, g0⟩ := g0
  obtain ⟨y1, g1⟩ := g1
  obtain ⟨s, hs0, _⟩ := DataW.trod_bool hb g0
  obtain ⟨u, l, hu, hl⟩ := open_wordsC hs he hc g1
  injection hs0 with hs0 _
  injection hu with hu _
  subst hs0 hu
  exact ⟨s, l, _, rfl, hl⟩

end Go.Proofs.Ytennphechbngcaa
