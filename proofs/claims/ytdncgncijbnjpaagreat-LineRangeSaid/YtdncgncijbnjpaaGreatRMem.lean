/- Slices of 64-bit words in memory, read as lists of limbs and as numbers. No conditions. -/
import Derived.WalkKit
import Derived.WalkSpells
import Derived.WalkLawsBesides
import Derived.Handy
import Derived.Maps.AppendAt
import Derived.Test.YtdncgncijbnjpaaGreatRRefM
set_option linter.unusedVariables false
set_option linter.unusedSimpArgs false
set_option maxRecDepth 100000
set_option maxHeartbeats 40000000
namespace Go.Proofs.YtdncgncijbnjpaaGreat
open Go.RowKit
variable {A : Option Addr} {W w' : World} {xs : List Value}
abbrev u64 (x : Nat) : Value := .int .u64 (x : Int)
abbrev i64 (x : Int) : Value := .int .i64 x
structure Zone where
 blk : Nat → Prop
 soft : Prop
variable {Z : Zone}
def old : Zone := ⟨fun _ => True, False⟩
def new (B : Nat) : Zone := ⟨fun b => B ≤ b, True⟩
def Zone.le (Z Y : Zone) : Prop := (∀ b, Z.blk b → Y.blk b) ∧ (Y.soft → Z.soft)
theorem Zone.le_refl (Z : Zone) : Z.le Z := ⟨fun _ h => h, fun h => h⟩
theorem le_old (Z : Zone) : Z.le old := ⟨fun _ _ => trivial, fun h => h.elim⟩
theorem new_le {B C : Nat} (h : C ≤ B) : (new B).le (new C) := ⟨fun _ hb => Nat.le_trans h hb, fun h => h⟩
def Row (w : World) (Z : Zone) (A : Option Addr) (xs : List Value) : Prop :=
 0 < xs.length → ∃ b o, A = some ⟨b, o, none⟩ ∧ Z.blk b ∧ (Z.soft → ∀ j, w.frozen? ⟨b, o + j, none⟩ = false) ∧ ∀ j u, xs[j]? = some u → w.cell? ⟨b, o + j, none⟩ = some u
theorem Row.nil {w : World} : Row w Z A [] := fun h => by simp at h
theorem Row.mono {w : World} {Y : Zone} (h : Row w Z A xs) (hz : Z.le Y) : Row w Y A xs := fun h0 => by
 obtain ⟨b, o, e, B, C, D⟩ := h h0
 exact ⟨b, o, e, hz.1 b B, fun hs => C (hz.2 hs), D⟩
theorem lt_of_cell {w : World} {p : Addr} {u : Value} (h : w.cell? p = some u) : p.block < w.heap.size := World.block_lt_of_cell? w p h
theorem Row.keep {w : World} (h : Row w Z A xs) (hk : ∀ b, Z.blk b → b < w.heap.size → w'.heap[b]? = w.heap[b]?) : Row w' Z A xs := fun h0 => by
 obtain ⟨b, o, e, C, F, D⟩ := h h0
 have E := D 0 _ (List.getElem?_eq_getElem h0)
 have B := hk b C (lt_of_cell E)
 exact ⟨b, o, e, C, fun hs j => (World.frozen?_of_block (a := ⟨b, o + j, none⟩) B).trans (F hs j), fun j u hu => (World.cell?_of_block (a := ⟨b, o + j, none⟩) B).trans (D j u hu)⟩
theorem Row.below {w : World} (h : Row w Z A xs) (hb : Below w.heap.size w w') : Row w' Z A xs :=
 h.keep fun b _ hl => hb.block b hl
theorem Row.take {w : World} (h : Row w Z A xs) (n : Nat) : Row w Z A (xs.take n) := fun h0 => by
 have : 0 < xs.length := by rw [List.length_take] at h0; omega
 obtain ⟨b, o, e, B, C, D⟩ := h this
 refine ⟨b, o, e, B, C, fun j u hu => D j u ?_⟩
 rw [List.getElem?_take] at hu
 by_cases hj : j < n
 · rwa [if_pos hj] at hu
 · rw [if_neg hj] at hu; cases hu
structure U64s (w : World) (Z : Zone) (A : Option Addr) (c : Nat) (l : List Nat) : Prop where
 small : Small l
 cap : l.length ≤ c
 max : c ≤ 9223372036854775807
 nul : A = none → c = 0
 row : Row w Z A (l.map fun x : Nat => Value.int .u64 (x : Int))
section
variable {w w' : World} {Z Y : Zone} {A : Option Addr} {c : Nat} {l : List Nat}
theorem U64s.nil (w : World) (Z : Zone) : U64s w Z none 0 [] := ⟨Small.nil, by simp, by omega, fun _ => rfl, Row.nil⟩
theorem U64s.mono (h : U64s w Z A c l) (hz : Z.le Y) : U64s w Y A c l := ⟨h.small, h.cap, h.max, h.nul, h.row.mono hz⟩
theorem U64s.keep (h : U64s w Z A c l) (hk : ∀ b, Z.blk b → b < w.heap.size → w'.heap[b]? = w.heap[b]?) : U64s w' Z A c l := ⟨h.small, h.cap, h.max, h.nul, h.row.keep hk⟩
theorem U64s.below (h : U64s w Z A c l) (hb : Below w.heap.size w w') : U64s w' Z A c l := ⟨h.small, h.cap, h.max, h.nul, h.row.below hb⟩
theorem U64s.len (h : U64s w Z A c l) : l.length ≤ 9223372036854775807 := Nat.le_trans h.cap h.max
theorem U64s.open (h : U64s w Z A c l) (h0 : 0 < l.length) : ∃ b o, A = some ⟨b, o, none⟩ ∧ Z.blk b ∧ b < w.heap.size ∧ (Z.soft → ∀ j, w.frozen? ⟨b, o + j, none⟩ = false) ∧
  ∀ j (hj : j < l.length), w.cell? ⟨b, o + j, none⟩ = some (.int .u64 (l[j] : Int)) := by
 obtain ⟨b, o, e, C, D, E⟩ := h.row (by simpa using h0)
 have B : ∀ j (hj : j < l.length), w.cell? ⟨b, o + j, none⟩ = some (.int .u64 (l[j] : Int)) := fun j hj => E j _ (by simp [hj])
 exact ⟨b, o, e, C, lt_of_cell (B 0 h0), D, B⟩
theorem U64s.take (h : U64s w Z A c l) (n : Nat) : U64s w Z A c (l.take n) :=
 ⟨h.small.take n, by have := h.cap; rw [List.length_take]; omega, h.max, h.nul, by rw [List.map_take]; exact h.row.take n⟩
theorem U64s.clip (h : U64s w Z A c l) (hn : A = none → l.length = 0) : U64s w Z A l.length l :=
 ⟨h.small, Nat.le_refl _, h.len, hn, h.row⟩
end
def IsU (w : World) (Z : Zone) (v : Value) (l : List Nat) : Prop := ∃ A c, v = .slice A l.length c ∧ U64s w Z A c l
def IsN (w : World) (Z : Zone) (v : Value) (n : Nat) : Prop := IsU w Z v (limbs n)
section
variable {w w' : World} {Z Y : Zone} {v : Value} {l : List Nat} {n : Nat}
theorem IsU.mono (h : IsU w Z v l) (hz : Z.le Y) : IsU w Y v l := by obtain ⟨A, c, e, h⟩ := h; exact ⟨A, c, e, h.mono hz⟩
theorem IsU.old (h : IsU w Z v l) : IsU w old v l := h.mono (le_old _)
theorem IsU.keep (h : IsU w Z v l) (hk : ∀ b, Z.blk b → b < w.heap.size → w'.heap[b]? = w.heap[b]?) : IsU w' Z v l := by obtain ⟨A, c, e, h⟩ := h; exact ⟨A, c, e, h.keep hk⟩
theorem IsU.below (h : IsU w Z v l) (hb : Below w.heap.size w w') : IsU w' Z v l := by obtain ⟨A, c, e, h⟩ := h; exact ⟨A, c, e, h.below hb⟩
theorem IsU.small (h : IsU w Z v l) : Small l := by obtain ⟨A, c, e, h⟩ := h; exact h.small
theorem IsU.nil (w : World) (Z : Zone) : IsU w Z (.slice none 0 0) [] := ⟨none, 0, rfl, U64s.nil w Z⟩
theorem IsN.mono (h : IsN w Z v n) (hz : Z.le Y) : IsN w Y v n := IsU.mono h hz
theorem IsN.old (h : IsN w Z v n) : IsN w old v n := IsU.old h
theorem IsN.below (h : IsN w Z v n) (hb : Below w.heap.size w w') : IsN w' Z v n := IsU.below h hb
theorem IsN.zero (w : World) (Z : Zone) : IsN w Z (.slice none 0 0) 0 := IsU.nil w Z
theorem IsU.num (h : IsU w Z v l) (hg : good l = true) : IsN w Z v (val l) := by unfold IsN; rw [limbs_val l h.small hg]; exact h
end
theorem U64s.of_own {w : World} {base : Nat} {e : TypeId} {n c : Nat} {l : List Nat} (hs : Small l) (h : w.ownsRow base e 1 (.slice A n c) n (l.map fun x : Nat => Value.int .u64 (x : Int))) : n = l.length ∧ U64s w (new base) A c l := by
 have B : l.length = n := by simpa using h.1
 refine ⟨B.symm, ?_⟩
 rcases h.2 with ⟨e1, rfl⟩ | ⟨g, cap, cur, e1, hb, hg, hn, hm, hcs, ht⟩
 · injection e1 with e1 e2 e3
   subst e1; subst e3
   obtain rfl : l = [] := List.length_eq_zero_iff.1 B
   exact U64s.nil _ _
 · injection e1 with e1 e2 e3
   subst e1; subst e3
   refine ⟨hs, by omega, by simpa [maxLen] using hm, (fun h => by cases h), fun _ => ⟨g, 0, rfl, hb, fun _ j => by simpa using frozen_of_row w g j cur _ hg, fun j u hu => ?_⟩⟩
   rw [Nat.zero_add, cell_of_row w g j cur _ _ hg]
   rw [← ht, List.getElem?_take] at hu
   by_cases hj : j < n * 1
   · rw [if_pos hj] at hu; simpa using hu
   · rw [if_neg hj] at hu; cases hu
theorem bcell {w1 : World} (hb : Below W.heap.size W w1) : (∀ b o, b < W.heap.size → w1.cell? ⟨b, o, none⟩ = W.cell? ⟨b, o, none⟩) ∧ (∀ b o, b < W.heap.size → w1.frozen? ⟨b, o, none⟩ = W.frozen? ⟨b, o, none⟩) :=
 ⟨fun b o h => hb.cell (p := ⟨b, o, none⟩) h, fun b o h => hb.frozen (p := ⟨b, o, none⟩) h⟩
theorem step {w : World} (h0 : Below w.heap.size w W) (hb : Below W.heap.size W w') : Below w.heap.size w w' := h0.trans (hb.mono h0.size)
theorem from_ {u w : World} (h0 : Below u.heap.size u w) (hb : Below w.heap.size w w') : Below u.heap.size u w' := h0.trans (hb.mono h0.size)
end Go.Proofs.YtdncgncijbnjpaaGreat
