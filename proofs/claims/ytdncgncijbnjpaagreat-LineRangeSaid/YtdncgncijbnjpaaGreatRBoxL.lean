/- Common divisors: gcd.Gcd and gcd.Lcm at any words. No conditions but bounds on lengths. -/
import Derived.Test.YtdncgncijbnjpaaGreatRWhK
import Derived.Test.YtdncgncijbnjpaaGreatRRefP
import Derived.Test.YtdncgncijbnjpaaGreatRClone
import Derived.Test.YtdncgncijbnjpaaGreatRWhF
set_option linter.unusedVariables false
set_option linter.unusedSimpArgs false
set_option maxRecDepth 100000
set_option maxHeartbeats 40000000
namespace Go.Proofs.YtdncgncijbnjpaaGreat
open Go.RowKit
variable {W W' : World} {a b c : Value} {g : Nat} {vs : List Value}
structure Box3 (W : World) (g : Nat) (a b c : Value) : Prop where
 c0 : W.cell? ⟨g, 0, none⟩ = some a
 c1 : W.cell? ⟨g, 1, none⟩ = some b
 c2 : W.cell? ⟨g, 2, none⟩ = some c
 f0 : W.frozen? ⟨g, 0, none⟩ = false
 f1 : W.frozen? ⟨g, 1, none⟩ = false
 f2 : W.frozen? ⟨g, 2, none⟩ = false
 lt : g < W.heap.size
theorem Box3.new (w : World) (a b c : Value) (t : TypeId) : Box3 (w.alloc (.cells #[a, b, c] t)) w.heap.size a b c := ⟨cell_newest rfl rfl, cell_newest rfl rfl, cell_newest rfl rfl, by simp, by simp, by simp, by simp⟩
theorem Box3.below (h : Box3 W g a b c) (hb : Below W.heap.size W W') : Box3 W' g a b c :=
 ⟨keepC hb h.c0, keepC hb h.c1, keepC hb h.c2, keepF hb h.lt h.f0, keepF hb h.lt h.f1, keepF hb h.lt h.f2, Nat.lt_of_lt_of_le h.lt hb.size⟩
theorem Box3.alloc (h : Box3 W g a b c) (o : Obj) : Box3 (W.alloc o) g a b c := h.below ((Below.refl _ W).alloc (Nat.le_refl _) _)
structure Put3 (w W' : World) (g : Nat) (x y z : Value) (W : World) : Prop where
 c0 : W'.cell? ⟨g, 0, none⟩ = some x
 c1 : W'.cell? ⟨g, 1, none⟩ = some y
 c2 : W'.cell? ⟨g, 2, none⟩ = some z
 bel : Below w.heap.size w W'
 keep : ∀ {Z : Zone} {A : Option Addr} {c : Nat} {l : List Nat}, ¬ Z.blk g → U64s W Z A c l → U64s W' Z A c l
theorem Box3.put {w : World} (h : Box3 W g a b c) (hB : Below w.heap.size w W) (hg : w.heap.size ≤ g) (x y z : Value) :
  Put3 w (((W.setCell ⟨g, 0, none⟩ x).setCell ⟨g, 1, none⟩ y).setCell ⟨g, 2, none⟩ z) g x y z W := by
 have C : (((W.setCell ⟨g, 0, none⟩ x).setCell ⟨g, 1, none⟩ y).setCell ⟨g, 2, none⟩ z).cell? ⟨g, 0, none⟩ = some x := by
  rw [World.cell?_setCell_other _ _ _ _ (by simp), World.cell?_setCell_other _ _ _ _ (by simp)]
  exact World.cell?_setCell_same _ _ _ h.c0
 have D : (((W.setCell ⟨g, 0, none⟩ x).setCell ⟨g, 1, none⟩ y).setCell ⟨g, 2, none⟩ z).cell? ⟨g, 1, none⟩ = some y := by
  rw [World.cell?_setCell_other _ _ _ _ (by simp)]
  refine World.cell?_setCell_same _ _ _ (u := b) ?_
  rw [World.cell?_setCell_other _ _ _ _ (by simp)]
  exact h.c1
 have E : (((W.setCell ⟨g, 0, none⟩ x).setCell ⟨g, 1, none⟩ y).setCell ⟨g, 2, none⟩ z).cell? ⟨g, 2, none⟩ = some z := by
  refine World.cell?_setCell_same _ _ _ (u := c) ?_
  rw [World.cell?_setCell_other _ _ _ _ (by simp), World.cell?_setCell_other _ _ _ _ (by simp)]
  exact h.c2
 refine ⟨C, D, E, ((hB.setCell (p := ⟨g, 0, none⟩) hg _).setCell (p := ⟨g, 1, none⟩) hg _).setCell (p := ⟨g, 2, none⟩) hg _, fun {Z A c l} hz hu => hu.keep fun b' hb' _ => ?_⟩
 have B : b' ≠ g := fun e => hz (e ▸ hb')
 rw [Below.heap_setCell _ _ _ _ B, Below.heap_setCell _ _ _ _ B, Below.heap_setCell _ _ _ _ B]
structure BoxL (W : World) (g : Nat) (vs : List Value) : Prop where
 c : ∀ (j : Nat) (v : Value), vs[j]? = some v → W.cell? ⟨g, j, none⟩ = some v
 f : ∀ (j : Nat) (v : Value), vs[j]? = some v → W.frozen? ⟨g, j, none⟩ = false
 lt : g < W.heap.size
theorem BoxL.new (w : World) (vs : List Value) (t : TypeId) : BoxL (w.alloc (.cells vs.toArray t)) w.heap.size vs :=
 ⟨fun j v h => cell_newest rfl (by simpa using h), fun j v h => by simp, by simp⟩
theorem BoxL.below (h : BoxL W g vs) (hb : Below W.heap.size W W') : BoxL W' g vs :=
 ⟨fun j v e => keepC hb (h.c j v e), fun j v e => keepF hb h.lt (h.f j v e), Nat.lt_of_lt_of_le h.lt hb.size⟩
theorem BoxL.alloc (h : BoxL W g vs) (o : Obj) : BoxL (W.alloc o) g vs := h.below ((Below.refl _ W).alloc (Nat.le_refl _) _)
theorem BoxL.drew (h : BoxL W g vs) : BoxL W.drew g vs := h.below (Below.refl _ W).drew
theorem BoxL.set (h : BoxL W g vs) (k : Nat) (x : Value) {v : Value} (hk : vs[k]? = some v) : BoxL (W.setCell ⟨g, k, none⟩ x) g (vs.set k x) := by
 have A := h.c k v hk
 refine ⟨fun j u e => ?_, fun j u e => ?_, by simpa [World.setCell] using h.lt⟩
 · by_cases hj : j = k
   · subst hj
     have B : j < vs.length := (List.getElem?_eq_some_iff.1 hk).1
     rw [List.getElem?_set_self B] at e
     injection e with e
     subst e
     exact World.cell?_setCell_same _ _ _ A
   · rw [List.getElem?_set_ne (fun e => hj e.symm)] at e
     rw [World.cell?_setCell_other _ _ _ _ (fun e => hj (by injection e with _ e1; exact e1.symm))]
     exact h.c j u e
 · rw [World.frozen?_setCell]
   by_cases hj : j = k
   · subst hj
     exact h.f j v hk
   · rw [List.getElem?_set_ne (fun e => hj e.symm)] at e
     exact h.f j u e
theorem BoxL.other (h : BoxL W g vs) (b k : Nat) (hn : b ≠ g) (x : Value) : BoxL (W.setCell ⟨b, k, none⟩ x) g vs := by
 refine ⟨fun j u e => ?_, fun j u e => ?_, by simpa [World.setCell] using h.lt⟩
 · rw [World.cell?_setCell_other _ _ _ _ (fun e => hn (by injection e))]
   exact h.c j u e
 · rw [World.frozen?_setCell]
   exact h.f j u e
theorem U64s.set1 {Z : Zone} {A : Option Addr} {c : Nat} {l : List Nat} (h : U64s W Z A c l) (g k : Nat) (hz : ¬ Z.blk g) (x : Value) : U64s (W.setCell ⟨g, k, none⟩ x) Z A c l :=
 h.keep fun b' hb' _ => Below.heap_setCell _ _ _ _ (by intro e; subst e; exact hz hb')
end Go.Proofs.YtdncgncijbnjpaaGreat
