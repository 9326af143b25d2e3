/-
  Rows of whole numbers at any words: what a row is in memory, vec.Check, vec.checked of one and two rows. No conditions but bounds on lengths.
  Arguments of the statements, opened: rows of whole numbers. No conditions.
-/
import Derived.Deep.RegionHeld3
import Derived.Test.YtennphechbngcaaMWhU
import Derived.Test.YtennphechbngcaaMWhJ
import Derived.Test.YtennphechbngcaaMFrameB
namespace Go.Proofs.Ytennphechbngcaa
open Go.RowKit
set_option linter.unusedVariables false
set_option linter.unusedSimpArgs false

/-- A row of signs and words in memory. -/
structure VecAt (w : World) (Z : Zone) (A : Option Addr) (c : Nat) (ps : List (Bool × List Nat)) : Prop where
  cap : ps.length ≤ c
  max : c ≤ 9223372036854775807
  row : 0 < ps.length → ∃ b o, A = some ⟨b, o, none⟩ ∧ Z.blk b ∧ b < w.heap.size ∧ (Z.soft → ∀ j, w.frozen? ⟨b, o + j, none⟩ = false) ∧
    ∀ j (hj : j < ps.length), ∃ B d, w.cell? ⟨b, o + j * 2, none⟩ = some (.bool ps[j].1) ∧ w.cell? ⟨b, o + j * 2 + 1, none⟩ = some (.slice B ps[j].2.length d) ∧ U64s w Z B d ps[j].2

def IsVec (w : World) (Z : Zone) (v : Value) (ps : List (Bool × List Nat)) : Prop := ∃ A c, v = .slice A ps.length c ∧ VecAt w Z A c ps

theorem VecAt.nil (w : World) (Z : Zone) : VecAt w Z none 0 [] := ⟨by simp, by omega, fun h => absurd h (by simp)⟩
theorem VecAt.below {w w' : World} {Z : Zone} {A : Option Addr} {c : Nat} {ps : List (Bool × List Nat)} (h : VecAt w Z A c ps) (hb : Below w.heap.size w w') : VecAt w' Z A c ps := by
  refine ⟨h.cap, h.max, fun h0 => ?_⟩
  obtain ⟨b, o, e, h1, h2, h3, h4⟩ := h.row h0
  refine ⟨b, o, e, h1, Nat.lt_of_lt_of_le h2 hb.size, fun hs j => ((bcell hb).2 b (o + j) h2).trans (h3 hs j), fun j hj => ?_⟩
  obtain ⟨B, d, c0, c1, hu⟩ := h4 j hj
  exact ⟨B, d, keepC hb c0, keepC hb c1, hu.below hb⟩
theorem VecAt.mono {w : World} {Z Y : Zone} {A : Option Addr} {c : Nat} {ps : List (Bool × List Nat)} (h : VecAt w Z A c ps) (hz : Z.le Y) : VecAt w Y A c ps := by
  refine ⟨h.cap, h.max, fun h0 => ?_⟩
  obtain ⟨b, o, e, h1, h2, h3, h4⟩ := h.row h0
  refine ⟨b, o, e, hz.1 b h1, h2, fun hs => h3 (hz.2 hs), fun j hj => ?_⟩
  obtain ⟨B, d, c0, c1, hu⟩ := h4 j hj
  exact ⟨B, d, c0, c1, hu.mono hz⟩
theorem VecAt.keep {w w' : World} {Z : Zone} {A : Option Addr} {c : Nat} {ps : List (Bool × List Nat)} (h : VecAt w Z A c ps) (hs : w.heap.size ≤ w'.heap.size) (hk : ∀ b, Z.blk b → b < w.heap.size → w'.heap[b]? = w.heap[b]?) : VecAt w' Z A c ps := by
  refine ⟨h.cap, h.max, fun h0 => ?_⟩
  obtain ⟨b, o, e, h1, h2, h3, h4⟩ := h.row h0
  have hb := hk b h1 h2
  refine ⟨b, o, e, h1, by omega, fun hs j => (World.frozen?_of_block (a := ⟨b, o + j, none⟩) hb).trans (h3 hs j), fun j hj => ?_⟩
  obtain ⟨B, d, c0, c1, hu⟩ := h4 j hj
  exact ⟨B, d, (World.cell?_of_block (a := ⟨b, o + j * 2, none⟩) hb).trans c0, (World.cell?_of_block (a := ⟨b, o + j * 2 + 1, none⟩) hb).trans c1, hu.keep hk⟩
theorem VecAt.len {w : World} {Z : Zone} {A : Option Addr} {c : Nat} {ps : List (Bool × List Nat)} (h : VecAt w Z A c ps) : ps.length ≤ 9223372036854775807 := Nat.le_trans h.cap h.max
theorem VecAt.small {w : World} {Z : Zone} {A : Option Addr} {c : Nat} {ps : List (Bool × List Nat)} (h : VecAt w Z A c ps) : ∀ p ∈ ps, Small p.2 := fun p hp => by
  obtain ⟨j, hj, rfl⟩ := List.getElem_of_mem hp
  obtain ⟨b, o, _, _, _, _, h4⟩ := h.row (by omega)
  obtain ⟨B, d, _, _, hu⟩ := h4 j hj
  exact hu.small
/-- The place of the j-th number, and it. -/
theorem VecAt.at {w : World} {Z : Zone} {A : Option Addr} {c : Nat} {ps : List (Bool × List Nat)} (h : VecAt w Z A c ps) {j : Nat} (hj : j < ps.length) :
    ∃ b o B d, A = some ⟨b, o, none⟩ ∧ b < w.heap.size ∧ w.cell? ⟨b, o + j * 2, none⟩ = some (.bool ps[j].1) ∧ w.cell? ⟨b, o + j * 2 + 1, none⟩ = some (.slice B ps[j].2.length d) ∧ U64s w Z B d ps[j].2 := by
  obtain ⟨b, o, e, _, h2, _, h4⟩ := h.row (by omega)
  obtain ⟨B, d, c0, c1, hu⟩ := h4 j hj
  exact ⟨b, o, B, d, e, h2, c0, c1, hu⟩

end Go.Proofs.Ytennphechbngcaa

namespace Go.Proofs.Ytennphechbngcaa
open Go.ChangeShapes Go.WideShapes Go.ChangeAt Go.RowKit
set_option linter.unusedVariables false
set_option linter.unusedSimpArgs false

/-- What is known of the type of whole numbers. -/
structure WholeT (P : Program) (t : TypeId) (fs : Array Field) (f0 f1 : Field) (e : TypeId) : Prop where
  ht : P.underlying t = some (.struct fs)
  hn : P.cellsOf t = 2
  h0 : fs[0]? = some f0
  h1 : fs[1]? = some f1
  o0 : f0.offset = 0
  o1 : f1.offset = 1
  c0 : P.cellsOf f0.type = 1
  c1 : P.cellsOf f1.type = 1
  hb : P.underlying f0.type = some .bool
  hs : P.underlying f1.type = some (.slice e)
  he : P.underlying e = some (.int .u64)
  hc : P.cellsOf e = 1

theorem open_wholeC {H : Type} {enc : TypeId × Value → H} {P : Program} {W : World} {base : Nat} {held : Bool} {t e : TypeId} {fs : Array Field} {f0 f1 : Field} {fuel : Nat} {cs : List Value} {x : DataW H × List MemPlace}
    (T : WholeT P t fs f0 f1 e) (hf : DataW.trod enc P W base (fun _ => true) held fuel t cs = some x) :
    ∃ s v l, cs = [.bool s, v] ∧ IsU W old v l := by
  obtain ⟨xs, n, _, _, hl, _, hfs⟩ := DataW.trod_struct T.ht hf
  rw [T.hn] at hl
  have e0 := hfs 0 f0 T.h0
  have e1 := hfs 1 f1 T.h1
  obtain ⟨a, b, rfl⟩ : ∃ a b, cs = [a, b] := by
    match cs, hl with
    | [a, b], _ => exact ⟨a, b, rfl⟩
  rw [T.o0, T.c0] at e0
  rw [T.o1, T.c1] at e1
  simp at e0 e1
  have g0 : ∃ y, DataW.trod enc P W base (fun _ => true) held n f0.type [a] = some y := by
    cases hx : xs[0]? with
    | some y => exact ⟨y, by simpa [hx] using e0⟩
    | none =>
      have : xs.length = fs.size := by assumption
      have h2 : 0 < fs.size := by
        rcases Nat.eq_zero_or_pos fs.size with h | h
        · have h3 := T.h0; rw [Array.getElem?_eq_none (by omega)] at h3; cases h3
        · exact h
      rw [List.getElem?_eq_none_iff] at hx
      omega
  have g1 : ∃ y, DataW.trod enc P W base (fun _ => true) held n f1.type [b] = some y := by
    cases hx : xs[1]? with
    | some y => exact ⟨y, by simpa [hx] using e1⟩
    | none =>
      have : xs.length = fs.size := by assumption
      have h2 : 1 < fs.size := by
        rcases Nat.lt_or_ge 1 fs.size with h | h
        · exact h
        · have h3 := T.h1; rw [Array.getElem?_eq_none (by omega)] at h3; cases h3
      rw [List.getElem?_eq_none_iff] at hx
      omega
  obtain ⟨y0, g0⟩ := g0
  obtain ⟨y1, g1⟩ := g1
  obtain ⟨s, hs0, _⟩ := DataW.trod_bool T.hb g0
  obtain ⟨u, l, hu, hl⟩ := open_wordsC T.hs T.he T.hc g1
  injection hs0 with hs0 _
  injection hu with hu _
  subst hs0 hu
  exact ⟨s, _, l, rfl, hl⟩

theorem wholeT_ : ∃ fs f0 f1, WholeT Try.prog 25 fs f0 f1 99 :=
  ⟨_, _, _, ⟨Try.underlying25, by kernel_rfl, rfl, rfl, rfl, rfl, by kernel_rfl, by kernel_rfl, Try.underlying4, Try.underlying23, Try.underlying99, by kernel_rfl⟩⟩

end Go.Proofs.Ytennphechbngcaa
