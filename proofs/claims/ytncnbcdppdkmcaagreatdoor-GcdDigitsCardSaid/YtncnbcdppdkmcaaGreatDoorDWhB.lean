/-
  Whole numbers made: a sign and a size; those of ints. No conditions.
  Whole numbers: whether one may be, two of them may be. No conditions.
-/
import Derived.Laws.ResultCell
import Derived.Test.YtncnbcdppdkmcaaGreatDoorDFrameB
import Derived.Test.YtncnbcdppdkmcaaGreatDoorDNatE
namespace Go.Proofs.YtncnbcdppdkmcaaGreatDoor
open Go.RowKit
set_option linter.unusedVariables false
set_option linter.unusedSimpArgs false

theorem keepC {W w1 : World} {g i : Nat} {v : Value} (hb : Below W.heap.size W w1) (h : W.cell? ⟨g, i, none⟩ = some v) : w1.cell? ⟨g, i, none⟩ = some v := (hb.cell (p := ⟨g, i, none⟩) (lt_of_cell h)).trans h
theorem keepF {W w1 : World} {g i : Nat} (hb : Below W.heap.size W w1) (hg : g < W.heap.size) (h : W.frozen? ⟨g, i, none⟩ = false) : w1.frozen? ⟨g, i, none⟩ = false := ((bcell hb).2 g i hg).trans h

/-- A whole number that may be. -/
def IsZ (w : World) (Z : Zone) (v : Value) (x : Int) : Prop := IsI w Z v (decide (x < 0)) (limbs x.natAbs)
theorem IsZ.mono {w : World} {Z Y : Zone} {v : Value} {x : Int} (h : IsZ w Z v x) (hz : Z.le Y) : IsZ w Y v x := IsI.mono h hz
theorem IsZ.below {w w' : World} {Z : Zone} {v : Value} {x : Int} (h : IsZ w Z v x) (hb : Below w.heap.size w w') : IsZ w' Z v x := IsI.below h hb

theorem len_pos {m : Nat} : (0 < (limbs m).length) ↔ m ≠ 0 := by
  rw [List.length_pos_iff]
  exact not_congr limbs_eq_nil

/-- Two cells of the call's own: a whole number's. -/
structure Box (W : World) (g : Nat) (a b : Value) : Prop where
  c0 : W.cell? ⟨g, 0, none⟩ = some a
  c1 : W.cell? ⟨g, 1, none⟩ = some b
  f0 : W.frozen? ⟨g, 0, none⟩ = false
  f1 : W.frozen? ⟨g, 1, none⟩ = false
  lt : g < W.heap.size

theorem Box.new (w : World) (a b : Value) (t : TypeId) : Box (w.alloc (.cells #[a, b] t)) w.heap.size a b := ⟨cell_newest rfl rfl, cell_newest rfl rfl, by simp, by simp, by simp⟩
theorem Box.below {W W' : World} {g : Nat} {a b : Value} (h : Box W g a b) (hb : Below W.heap.size W W') : Box W' g a b :=
  ⟨keepC hb h.c0, keepC hb h.c1, keepF hb h.lt h.f0, keepF hb h.lt h.f1, Nat.lt_of_lt_of_le h.lt hb.size⟩
theorem Box.alloc {W : World} {g : Nat} {a b : Value} (h : Box W g a b) (o : Obj) : Box (W.alloc o) g a b := h.below ((Below.refl _ W).alloc (Nat.le_refl _) _)

/-- The number that is put into such cells last. -/
structure Put (w W' : World) (g : Nat) (x y : Value) (W : World) : Prop where
  c0 : W'.cell? ⟨g, 0, none⟩ = some x
  c1 : W'.cell? ⟨g, 1, none⟩ = some y
  bel : Below w.heap.size w W'
  keep : ∀ {B : Nat} {u : Value} {l : List Nat}, g < B → IsU W (Go.Proofs.YtncnbcdppdkmcaaGreatDoor.new B) u l → IsU W' (Go.Proofs.YtncnbcdppdkmcaaGreatDoor.new w.heap.size) u l
  box : Box W' g x y

theorem Box.put {w W : World} {g : Nat} {a b : Value} (h : Box W g a b) (hB : Below w.heap.size w W) (hg : w.heap.size ≤ g) (x y : Value) :
    Put w ((W.setCell ⟨g, 0, none⟩ x).setCell ⟨g, 1, none⟩ y) g x y W := by
  have e0 : ((W.setCell ⟨g, 0, none⟩ x).setCell ⟨g, 1, none⟩ y).cell? ⟨g, 0, none⟩ = some x := by
    rw [World.cell?_setCell_other _ _ _ _ (by simp)]
    exact World.cell?_setCell_same _ _ _ h.c0
  have e1 : ((W.setCell ⟨g, 0, none⟩ x).setCell ⟨g, 1, none⟩ y).cell? ⟨g, 1, none⟩ = some y := by
    refine World.cell?_setCell_same _ _ _ (u := b) ?_
    rw [World.cell?_setCell_other _ _ _ _ (by simp)]
    exact h.c1
  refine ⟨e0, e1, (hB.setCell (p := ⟨g, 0, none⟩) hg _).setCell (p := ⟨g, 1, none⟩) hg _, fun {B u l} hgB hu => (hu.keep fun b' hb' _ => ?_).mono (new_le (by omega)), ⟨e0, e1, ?_, ?_, ?_⟩⟩
  · have hne : b' ≠ g := by have : B ≤ b' := hb'; omega
    rw [Below.heap_setCell _ _ _ _ hne, Below.heap_setCell _ _ _ _ hne]
  · exact (World.frozen?_setCell _ _ _ _).trans ((World.frozen?_setCell _ _ _ _).trans h.f0)
  · exact (World.frozen?_setCell _ _ _ _).trans ((World.frozen?_setCell _ _ _ _).trans h.f1)
  · have := h.lt
    simpa [World.setCell] using this

end Go.Proofs.YtncnbcdppdkmcaaGreatDoor

namespace Go.Proofs.YtncnbcdppdkmcaaGreatDoor
open Go.RowKit
set_option linter.unusedVariables false
set_option linter.unusedSimpArgs false

/-- May a sign and words be a whole number? -/
def okI (s : Bool) (l : List Nat) : Bool := good l && !(s && l.length == 0)
def errC (s : Bool) (l : List Nat) : Int := if okI s l = true then 0 else 8
/-- What they are. -/
def zof (s : Bool) (l : List Nat) : Int := if s = true then -(val l : Int) else (val l : Int)

theorem val_zero {l : List Nat} (h : good l = true) (hs : Small l) (h0 : val l = 0) : l = [] := by
  rw [← limbs_val l hs h, h0]
  rfl

theorem zof_enc {s : Bool} {l : List Nat} (h : okI s l = true) (hs : Small l) : decide (zof s l < 0) = s ∧ limbs (zof s l).natAbs = l := by
  unfold okI at h
  rw [Bool.and_eq_true] at h
  obtain ⟨hg, h2⟩ := h
  have hl := limbs_val l hs hg
  cases s with
  | false =>
    simp only [zof, Bool.false_eq_true, if_false]
    exact ⟨decide_eq_false (by omega), by rw [Int.natAbs_natCast]; exact hl⟩
  | true =>
    simp only [zof, if_true]
    have h3 : val l ≠ 0 := fun h0 => by
      rw [val_zero hg hs h0] at h2
      simp at h2
    exact ⟨decide_eq_true (by omega), by rw [Int.natAbs_neg, Int.natAbs_natCast]; exact hl⟩

theorem IsI.num {w : World} {Z : Zone} {v : Value} {s : Bool} {l : List Nat} (h : IsI w Z v s l) (hk : okI s l = true) : IsZ w Z v (zof s l) := by
  obtain ⟨u, e, hu⟩ := h
  obtain ⟨h1, h2⟩ := zof_enc hk hu.small
  unfold IsZ
  rw [h1, h2]
  exact ⟨u, e, hu⟩

theorem IsZ.ok (x : Int) : okI (decide (x < 0)) (limbs x.natAbs) = true := by
  unfold okI
  rw [good_limbs, Bool.true_and]
  by_cases h : x < 0
  · have : (limbs x.natAbs).length ≠ 0 := fun e => by
      have := limbs_eq_nil.1 (List.length_eq_zero_iff.1 e)
      omega
    simp [h, this]
  · simp [h]

/-- Whole numbers in a row of memory. -/
def GivenI (w : World) (g : Nat) (ps : List (Bool × List Nat)) : Prop :=
  ∀ j (h : j < ps.length), ∃ u, w.cell? ⟨g, j * 2, none⟩ = some (.bool ps[j].1) ∧ w.cell? ⟨g, j * 2 + 1, none⟩ = some u ∧ IsU w old u ps[j].2
theorem GivenI.below {w w' : World} {g : Nat} {ps : List (Bool × List Nat)} (h : GivenI w g ps) (hb : Below w.heap.size w w') : GivenI w' g ps := fun j hj => by
  obtain ⟨u, h0, h1, h2⟩ := h j hj
  exact ⟨u, keepC hb h0, keepC hb h1, h2.below hb⟩

def errCs (ps : List (Bool × List Nat)) : Int := if ps.all (fun p => okI p.1 p.2) = true then 0 else 8

end Go.Proofs.YtncnbcdppdkmcaaGreatDoor
