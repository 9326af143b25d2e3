/- Rows of whole numbers by name; vec.Dot. No conditions but bounds on lengths. -/
import Derived.Deep.RegionHeld3
import Derived.Test.YtcheajjjdbllfaaGreatNWhU
import Derived.Test.YtcheajjjdbllfaaGreatNWhJ
set_option linter.unusedVariables false
set_option linter.unusedSimpArgs false
set_option maxRecDepth 100000
set_option maxHeartbeats 40000000
namespace Go.Proofs.YtcheajjjdbllfaaGreat
open Go.RowKit
variable {A : Option Addr} {Z : Zone} {c g : Nat} {w w' : World} {xs : List Value}
structure VecAt (w : World) (Z : Zone) (A : Option Addr) (c : Nat) (ps : List (Bool × List Nat)) : Prop where
 cap : ps.length ≤ c
 max : c ≤ 9223372036854775807
 row : 0 < ps.length → ∃ b o, A = some ⟨b, o, none⟩ ∧ Z.blk b ∧ b < w.heap.size ∧ (Z.soft → ∀ j, w.frozen? ⟨b, o + j, none⟩ = false) ∧
  ∀ j (hj : j < ps.length), ∃ B d, w.cell? ⟨b, o + j * 2, none⟩ = some (.bool ps[j].1) ∧ w.cell? ⟨b, o + j * 2 + 1, none⟩ = some (.slice B ps[j].2.length d) ∧ U64s w Z B d ps[j].2
def IsVec (w : World) (Z : Zone) (v : Value) (ps : List (Bool × List Nat)) : Prop := ∃ A c, v = .slice A ps.length c ∧ VecAt w Z A c ps
theorem VecAt.nil (w : World) (Z : Zone) : VecAt w Z none 0 [] := ⟨by simp, by omega, fun h => absurd h (by simp)⟩
theorem VecAt.below {ps : List (Bool × List Nat)} (h : VecAt w Z A c ps) (hb : Below w.heap.size w w') : VecAt w' Z A c ps := by
 refine ⟨h.cap, h.max, fun h0 => ?_⟩
 obtain ⟨b, o, e, h1, h2, h3, h4⟩ := h.row h0
 refine ⟨b, o, e, h1, Nat.lt_of_lt_of_le h2 hb.size, fun hs j => ((bcell hb).2 b (o + j) h2).trans (h3 hs j), fun j hj => ?_⟩
 obtain ⟨B, d, c0, c1, hu⟩ := h4 j hj
 exact ⟨B, d, keepC hb c0, keepC hb c1, hu.below hb⟩
theorem VecAt.mono {Y : Zone} {ps : List (Bool × List Nat)} (h : VecAt w Z A c ps) (hz : Z.le Y) : VecAt w Y A c ps := by
 refine ⟨h.cap, h.max, fun h0 => ?_⟩
 obtain ⟨b, o, e, h1, h2, h3, h4⟩ := h.row h0
 refine ⟨b, o, e, hz.1 b h1, h2, fun hs => h3 (hz.2 hs), fun j hj => ?_⟩
 obtain ⟨B, d, c0, c1, hu⟩ := h4 j hj
 exact ⟨B, d, c0, c1, hu.mono hz⟩
theorem VecAt.keep {ps : List (Bool × List Nat)} (h : VecAt w Z A c ps) (hs : w.heap.size ≤ w'.heap.size) (hk : ∀ b, Z.blk b → b < w.heap.size → w'.heap[b]? = w.heap[b]?) : VecAt w' Z A c ps := by
 refine ⟨h.cap, h.max, fun h0 => ?_⟩
 obtain ⟨b, o, e, h1, h2, h3, h4⟩ := h.row h0
 have hb := hk b h1 h2
 refine ⟨b, o, e, h1, by omega, fun hs j => (World.frozen?_of_block (a := ⟨b, o + j, none⟩) hb).trans (h3 hs j), fun j hj => ?_⟩
 obtain ⟨B, d, c0, c1, hu⟩ := h4 j hj
 exact ⟨B, d, (World.cell?_of_block (a := ⟨b, o + j * 2, none⟩) hb).trans c0, (World.cell?_of_block (a := ⟨b, o + j * 2 + 1, none⟩) hb).trans c1, hu.keep hk⟩
theorem VecAt.len {ps : List (Bool × List Nat)} (h : VecAt w Z A c ps) : ps.length ≤ 9223372036854775807 := Nat.le_trans h.cap h.max
theorem VecAt.small {ps : List (Bool × List Nat)} (h : VecAt w Z A c ps) : ∀ p ∈ ps, Small p.2 := fun p hp => by
 obtain ⟨j, hj, rfl⟩ := List.getElem_of_mem hp
 obtain ⟨b, o, _, _, _, _, h4⟩ := h.row (by omega)
 obtain ⟨B, d, _, _, hu⟩ := h4 j hj
 exact hu.small
theorem VecAt.at {ps : List (Bool × List Nat)} (h : VecAt w Z A c ps) {j : Nat} (hj : j < ps.length) :
  ∃ b o B d, A = some ⟨b, o, none⟩ ∧ b < w.heap.size ∧ w.cell? ⟨b, o + j * 2, none⟩ = some (.bool ps[j].1) ∧ w.cell? ⟨b, o + j * 2 + 1, none⟩ = some (.slice B ps[j].2.length d) ∧ U64s w Z B d ps[j].2 := by
 obtain ⟨b, o, e, _, h2, _, h4⟩ := h.row (by omega)
 obtain ⟨B, d, c0, c1, hu⟩ := h4 j hj
 exact ⟨b, o, B, d, e, h2, c0, c1, hu⟩
def okV (ps : List (Bool × List Nat)) : Bool := decide (ps.length ≤ 64) && ps.all fun p => okI p.1 p.2
def GivenV (w : World) (g : Nat) (pss : List (List (Bool × List Nat))) : Prop :=
 ∀ j (h : j < pss.length), ∃ A c, w.cell? ⟨g, j, none⟩ = some (.slice A pss[j].length c) ∧ VecAt w old A c pss[j]
theorem GivenV.below {pss : List (List (Bool × List Nat))} (h : GivenV w g pss) (hb : Below w.heap.size w w') : GivenV w' g pss := fun j hj => by
 obtain ⟨A, c, h0, h1⟩ := h j hj
 exact ⟨A, c, keepC hb h0, h1.below hb⟩
def CellsQ (w : World) (g : Nat) (xs : List Value) (k : Nat) (qs : List (Bool × List Nat)) : Prop :=
 ∀ j (hj : j < qs.length), j < k → ∃ A c, xs[j * 2]? = some (.bool qs[j].1) ∧ xs[j * 2 + 1]? = some (.slice A qs[j].2.length c) ∧ U64s w (new (g + 1)) A c qs[j].2
theorem CellsQ.keep {k : Nat} {qs : List (Bool × List Nat)} (h : CellsQ w g xs k qs) (hk : ∀ b, b ≠ g → b < w.heap.size → w'.heap[b]? = w.heap[b]?) : CellsQ w' g xs k qs := fun j hj hjk => by
 obtain ⟨A, c, c0, c1, hu⟩ := h j hj hjk
 exact ⟨A, c, c0, c1, hu.keep fun b hb hl => hk b (by have : g + 1 ≤ b := hb; omega) hl⟩
theorem CellsQ.put {k : Nat} {qs : List (Bool × List Nat)} (h : CellsQ w g xs k qs) (hl : xs.length = qs.length * 2) (hk : k < qs.length)
  (hu : U64s w (new (g + 1)) A c (qs[k]).2) (hw : ∀ b, b ≠ g → b < w.heap.size → w'.heap[b]? = w.heap[b]?) :
  CellsQ w' g ((xs.set (k * 2) (.bool (qs[k]).1)).set (k * 2 + 1) (.slice A (qs[k]).2.length c)) (k + 1) qs := fun j hj hjk => by
 rcases Nat.lt_or_ge j k with h1 | h1
 · obtain ⟨A', c', c0, c1, hu'⟩ := h j hj h1
   refine ⟨A', c', ?_, ?_, hu'.keep fun b hb hl => hw b (by have : g + 1 ≤ b := hb; omega) hl⟩
   · rw [List.getElem?_set_ne (by omega), List.getElem?_set_ne (by omega)]
     exact c0
   · rw [List.getElem?_set_ne (by omega), List.getElem?_set_ne (by omega)]
     exact c1
 · obtain rfl : j = k := by omega
   refine ⟨A, c, ?_, ?_, hu.keep fun b hb hl => hw b (by have : g + 1 ≤ b := hb; omega) hl⟩
   · rw [List.getElem?_set_ne (by omega), List.getElem?_set_self (by omega)]
   · rw [List.getElem?_set_self (by rw [List.length_set]; omega)]
theorem CellsQ.fin {qs : List (Bool × List Nat)} {B : Nat} {e : TypeId} (h : CellsQ w g xs qs.length qs) (hown : w.ownsRow B e 2 (.slice (some ⟨g, 0, none⟩) qs.length qs.length) qs.length xs) (hg : g < w.heap.size) (hB : B ≤ g) (hm : qs.length ≤ 1000000000000) : VecAt w (new B) (some ⟨g, 0, none⟩) qs.length qs := by
 refine ⟨Nat.le_refl _, by omega, fun h0 => ⟨g, 0, rfl, hB, hg, fun _ j => by rw [Nat.zero_add]; exact hown.frozenAt j, fun j hj => ?_⟩⟩
 obtain ⟨A, c, c0, c1, hu⟩ := h j hj hj
 exact ⟨A, c, by rw [Nat.zero_add, hown.cellAt (j * 2) (by omega)]; exact c0, by rw [Nat.zero_add, hown.cellAt (j * 2 + 1) (by omega)]; exact c1, hu.mono (new_le (by omega))⟩
def NmV (xs : List Int) (ps : List (Bool × List Nat)) : Prop := ps = xs.map fun x => (decide (x < 0), limbs x.natAbs)
theorem NmV.mk' (xs : List Int) : NmV xs (xs.map fun x => (decide (x < 0), limbs x.natAbs)) := rfl
theorem NmV.len {xs : List Int} {ps : List (Bool × List Nat)} (h : NmV xs ps) : xs.length = ps.length := by subst h; simp
theorem NmV.at {xs : List Int} {ps : List (Bool × List Nat)} (h : NmV xs ps) (j : Nat) (h1 : j < xs.length) (h2 : j < ps.length) : Nm xs[j] ps[j].1 ps[j].2 := by
 subst h
 simp only [List.getElem_map]
 exact Nm.mk' _
theorem NmV.ok {ps : List (Bool × List Nat)} (h : okV ps = true) (hs : ∀ p ∈ ps, Small p.2) : NmV (ps.map fun p => zof p.1 p.2) ps := by
 unfold NmV
 unfold okV at h
 rw [Bool.and_eq_true] at h
 have h2 := List.all_eq_true.1 h.2
 rw [List.map_map]
 refine (List.map_id _).symm.trans (List.map_congr_left fun p hp => ?_)
 have h3 := Nm.ok (h2 p hp) (hs p hp)
 show p = (decide (zof p.1 p.2 < 0), limbs (zof p.1 p.2).natAbs)
 rw [← h3.1, ← h3.2]
theorem NmV.okV {xs : List Int} {ps : List (Bool × List Nat)} (h : NmV xs ps) (hl : ps.length ≤ 64) : okV ps = true := by
 unfold Go.Proofs.YtcheajjjdbllfaaGreat.okV
 rw [Bool.and_eq_true]
 refine ⟨decide_eq_true hl, List.all_eq_true.2 fun p hp => ?_⟩
 subst h
 obtain ⟨x, _, rfl⟩ := List.mem_map.1 hp
 exact IsZ.ok x
theorem NmV.of {xs : List Int} {ps : List (Bool × List Nat)} (h : xs.length = ps.length) (hj : ∀ j (h1 : j < xs.length) (h2 : j < ps.length), Nm xs[j] ps[j].1 ps[j].2) : NmV xs ps := by
 unfold NmV
 refine List.ext_getElem (by simp [h]) fun j h1 h2 => ?_
 rw [List.getElem_map]
 have h3 := hj j (by omega) h1
 rw [← h3.1, ← h3.2]
end Go.Proofs.YtcheajjjdbllfaaGreat
