/-
  Rows of whole numbers that come of ints, the program's and the document's, and whether two are the same. No conditions but bounds on lengths.
  Rows of whole numbers that come of ints, the program's and the document's, and whether two are the same. No conditions but bounds on lengths.
  The document's own answer, layer 5: May, Check, two, Signed, Sign. No conditions.
  slices.Equal of words, whole.Same. No conditions.
  Whole numbers: Int, at any sign and words. No conditions.
-/
import Derived.Test.YtamenhffplhddaaGreatLWhC
import Derived.Test.YtamenhffplhddaaGreatLRefI
import Derived.Test.YtamenhffplhddaaGreatLRefE
import Derived.Test.YtamenhffplhddaaGreatLWhF
import Derived.Test.YtamenhffplhddaaGreatLRefA
namespace Go.Proofs.YtamenhffplhddaaGreat
open Go.RowKit
set_option linter.unusedVariables false
set_option linter.unusedSimpArgs false

theorem boxes2 (w : World) (a0 a1 b0 b1 : Value) (t : TypeId) :
    Box ((w.alloc (.cells #[a0, a1] t)).alloc (.cells #[b0, b1] t)) w.heap.size a0 a1 ∧
    Box ((w.alloc (.cells #[a0, a1] t)).alloc (.cells #[b0, b1] t)) (w.heap.size + 1) b0 b1 ∧
    Below w.heap.size w ((w.alloc (.cells #[a0, a1] t)).alloc (.cells #[b0, b1] t)) := by
  have h1 := (Box.new w a0 a1 t).alloc (.cells #[b0, b1] t)
  have h2 := Box.new (w.alloc (.cells #[a0, a1] t)) b0 b1 t
  rw [show (w.alloc (.cells #[a0, a1] t)).heap.size = w.heap.size + 1 by simp] at h2
  exact ⟨h1, h2, ((Below.refl _ w).alloc (Nat.le_refl _) _).alloc (by simp) _⟩

set_option maxHeartbeats 1000000 in
theorem same5_any {w : World} {Z Y : Zone} {a b : Value} {s t : Bool} {l k : List Nat} (ha : IsI w Z a s l) (hb : IsI w Y b t k) :
    Calls Tryz.prog 109 #[a, b] w fun e w' => e = .returned (.bool (decide (s = t ∧ l = k))) ∧ Below w.heap.size w w' := by
  obtain ⟨_, rfl, A, ca, rfl, hu⟩ := ha
  obtain ⟨_, rfl, B, cb, rfl, hv⟩ := hb
  have ua : IsU w Z (.slice A l.length ca) l := ⟨A, ca, rfl, hu⟩
  have ub : IsU w Y (.slice B k.length cb) k := ⟨B, cb, rfl, hv⟩
  obtain ⟨bA, bB, hB0⟩ := boxes2 w (.bool s) (.slice A l.length ca) (.bool t) (.slice B k.length cb) 25
  obtain ⟨a0, a1, _, _, _⟩ := bA
  obtain ⟨b0, b1, _, _, _⟩ := bB
  have HB := Lib.hid hB0
  clear hu hv
  by_cases hst : s = t
  · subst hst
    have hsame := same_dec (ua.below hB0) (ub.below hB0)
    have e : decide (s = s ∧ l = k) = decide (l = k) := by simp
    rw [e]
    have Hs := Lib.hid hsame
    clear hsame ua ub hB0
    cases s
    all_goals
      go_enter Tryz.func109, Tryz.ntmps109
      go_wp2_with fail
      refine Hs.out.mono ?_
      rintro e w1 ⟨rfl, hb1⟩
      go_wp2
      go_ret
      exact ⟨rfl, from_ HB.out hb1⟩
  · have e : decide (s = t ∧ l = k) = false := by simp [hst]
    rw [e]
    clear ua ub hB0
    rcases (show (s = true ∧ t = false) ∨ (s = false ∧ t = true) by cases s <;> cases t <;> simp_all) with ⟨rfl, rfl⟩ | ⟨rfl, rfl⟩
    all_goals
      go_enter Tryz.func109, Tryz.ntmps109
      go_wp2
      go_ret
      exact ⟨rfl, HB.out⟩

end Go.Proofs.YtamenhffplhddaaGreat

namespace Go.Proofs.YtamenhffplhddaaGreat
open Go.RowKit
set_option linter.unusedVariables false
set_option linter.unusedSimpArgs false

theorem own_below {w w' : World} {base : Nat} {e : TypeId} {size : Nat} {v : Value} {n : Nat} {xs : List Value} (h : w.ownsRow base e size v n xs) (hb : Below w.heap.size w w') : w'.ownsRow base e size v n xs := by
  refine ⟨h.1, ?_⟩
  rcases h.2 with h1 | ⟨g, cap, cur, e1, hg, hh, hr⟩
  · exact .inl h1
  · refine .inr ⟨g, cap, cur, e1, hg, ?_, hr⟩
    rw [hb.block g]
    · exact hh
    · by_cases hlt : g < w.heap.size
      · exact hlt
      · rw [Array.getElem?_eq_none (by omega)] at hh
        cases hh

/-- A row of ints in memory. -/
def IsInts (w : World) (Z : Zone) (v : Value) (zs : List Int) : Prop := ∃ A c, v = .slice A zs.length c ∧ zs.length ≤ c ∧ c ≤ 9223372036854775807 ∧ (∀ z ∈ zs, -9223372036854775808 ≤ z ∧ z ≤ 9223372036854775807) ∧
  (0 < zs.length → ∃ b o, A = some ⟨b, o, none⟩ ∧ b < w.heap.size ∧ ∀ j (hj : j < zs.length), w.cell? ⟨b, o + j, none⟩ = some (.int .i64 zs[j]))

/-- A row of whole numbers that come of ints. -/
def IsVs (w : World) (v : Value) (zs : List Int) : Prop := ∃ A c, v = .slice A zs.length c ∧ zs.length ≤ c ∧ c ≤ 9223372036854775807 ∧
  (0 < zs.length → ∃ g, A = some ⟨g, 0, none⟩ ∧ g < w.heap.size ∧ ∀ j (hj : j < zs.length), ∃ u, w.cell? ⟨g, j * 2, none⟩ = some (.bool (decide (zs[j] < 0))) ∧ w.cell? ⟨g, j * 2 + 1, none⟩ = some u ∧ IsU w old u (limbs zs[j].natAbs))

theorem IsVs.below {w w' : World} {v : Value} {zs : List Int} (h : IsVs w v zs) (hb : Below w.heap.size w w') : IsVs w' v zs := by
  obtain ⟨A, c, e, h1, h2, h3⟩ := h
  refine ⟨A, c, e, h1, h2, fun h0 => ?_⟩
  obtain ⟨g, e1, hg, hc⟩ := h3 h0
  refine ⟨g, e1, Nat.lt_of_lt_of_le hg hb.size, fun j hj => ?_⟩
  obtain ⟨u, c0, c1, hu⟩ := hc j hj
  exact ⟨u, keepC hb c0, keepC hb c1, hu.below hb⟩

/-- All blocks but one. -/
def but (g : Nat) : Zone := ⟨fun b => b ≠ g, False⟩
theorem new_le_but {B g : Nat} (h : g < B) : (new B).le (but g) := ⟨fun b hb => by have : B ≤ b := hb; show b ≠ g; omega, fun h => h.elim⟩

/-- The cells of a row in which the first k numbers stand. -/
def CellsI (w : World) (g : Nat) (xs : List Value) (k : Nat) (zs : List Int) : Prop :=
  ∀ j (hj : j < zs.length), j < k → ∃ u, xs[j * 2]? = some (.bool (decide (zs[j] < 0))) ∧ xs[j * 2 + 1]? = some u ∧ IsU w (but g) u (limbs zs[j].natAbs)

theorem CellsI.keep {w w' : World} {g : Nat} {xs : List Value} {k : Nat} {zs : List Int} (h : CellsI w g xs k zs) (hk : ∀ b, b ≠ g → b < w.heap.size → w'.heap[b]? = w.heap[b]?) : CellsI w' g xs k zs := fun j hj hjk => by
  obtain ⟨u, c0, c1, hu⟩ := h j hj hjk
  exact ⟨u, c0, c1, hu.keep fun b hb hl => hk b hb hl⟩

theorem CellsI.put {w w' : World} {g : Nat} {xs : List Value} {k : Nat} {zs : List Int} {u : Value} (h : CellsI w g xs k zs) (hl : xs.length = zs.length * 2) (hk : k < zs.length)
    (hu : IsU w (but g) u (limbs (zs[k]).natAbs)) (hw : ∀ b, b ≠ g → b < w.heap.size → w'.heap[b]? = w.heap[b]?) :
    CellsI w' g ((xs.set (k * 2) (.bool (decide (zs[k] < 0)))).set (k * 2 + 1) u) (k + 1) zs := fun j hj hjk => by
  rcases Nat.lt_or_ge j k with h1 | h1
  · obtain ⟨u', c0, c1, hu'⟩ := h j hj h1
    refine ⟨u', ?_, ?_, hu'.keep fun b hb hl => hw b hb hl⟩
    · rw [List.getElem?_set_ne (by omega), List.getElem?_set_ne (by omega)]
      exact c0
    · rw [List.getElem?_set_ne (by omega), List.getElem?_set_ne (by omega)]
      exact c1
  · obtain rfl : j = k := by omega
    refine ⟨u, ?_, ?_, hu.keep fun b hb hl => hw b hb hl⟩
    · rw [List.getElem?_set_ne (by omega), List.getElem?_set_self (by omega)]
    · rw [List.getElem?_set_self (by rw [List.length_set]; omega)]

theorem infoI : (Tryz.prog.info? 25).map (fun i => (i.zero, i.size, i.bytes)) = some (some (.agg #[.bool false, .slice none 0 0]), 2, 32) := by kernel_rfl

set_option maxRecDepth 100000 in
set_option maxHeartbeats 2000000 in
theorem vof_any {w : World} {Z : Zone} {a : Value} {zs : List Int} (ha : IsInts w Z a zs) (hl : zs.length ≤ 1000) :
    Calls Tryz.prog 79 #[a] w fun e w' => ∃ v, e = .returned v ∧ IsVs w' v zs ∧ Below w.heap.size w w' := by
  obtain ⟨A, c, rfl, hc1, hc2, hz, ha⟩ := ha
  obtain ⟨i0, hi, hz0, hz1, hz2⟩ := info_parts infoI
  go_enter Tryz.func79, Tryz.ntmps79
  go_wp2_with (at_make; go_loud (refine wpList_make_full _ rfl _ _ 66 rfl w.heap.size 25 i0 (.agg #[.bool false, .slice none 0 0]) 2 Tryz.underlying66 hi hz0 hz1 .i64 .i64 _ _ zs.length rfl rfl rfl rfl (by rw [hz2]; omega) (by simp only [maxLen]; omega) (Nat.le_refl _) ?_); intro w1 hown hgrow)
  have hb1 : Below w.heap.size w w1 := (Below.refl _ w).grown hgrow (Nat.le_refl _) (fun k h => by cases h)
  generalize (madeCells (Value.agg #[.bool false, .slice none 0 0]).cells (zs.length * 2)).toList = xs0 at hown
  clear hgrow
  go_wp2
  go_loopw [11] (fun i wr => ∃ (k : Nat) (xs : List Value), k ≤ zs.length ∧ i = .int .i64 (k : Int) ∧ wr.ownsRow w.heap.size 25 2 (.slice (some ⟨w.heap.size, 0, none⟩) zs.length zs.length) zs.length xs ∧ Hid (CellsI wr w.heap.size xs k zs) ∧ Below w.heap.size w wr ∧ w.heap.size < wr.heap.size) (fun i _ => zs.length - (intOf i).toNat)
  case atStart => exact ⟨0, xs0, Nat.zero_le _, rfl, hown, fun j hj h => absurd h (by omega), hb1, (hown.lt _ rfl).2⟩
  case round =>
    obtain ⟨k, xs, hk, rfl, hown, hcells, hbel, hgt⟩ := hrel
    by_cases hlt : k < zs.length
    · obtain ⟨b, o, rfl, hbb, hc⟩ := ha (by omega)
      have hx := (hbel.cell (p := ⟨b, o + k, none⟩) hbb).trans (hc k hlt)
      have hzk := hz zs[k] (List.getElem_mem hlt)
      have hxl := hown.1
      clear hc hz
      have hput := fun (w2 w' : World) (u : Value) (h1 : CellsI w2 w.heap.size xs k zs) h2 h3 => h1.put (w' := w') (u := u) hxl hlt h2 h3
      have Hput := Lib.hid hput
      clear hput
      generalize zs[k] = n at *
      go_wp2_with fail
      refine (wof_any hzk).mono ?_
      rintro e w2 ⟨_, rfl, ⟨_, rfl, Au, cu, rfl, hu'⟩, hb2⟩
      have hu : IsU w2 _ (.slice Au (limbs n.natAbs).length cu) (limbs n.natAbs) := ⟨Au, cu, rfl, hu'⟩
      have hub := hu.mono (new_le_but hgt)
      have hown2 := own_below hown hb2
      have hcells2 := hcells.out.keep (w' := w2) fun b _ hl => hb2.block b hl
      have hP := Hput.out w2 ((w2.setCell ⟨w.heap.size, k * 2, none⟩ (.bool (decide (n < 0)))).setCell ⟨w.heap.size, k * 2 + 1, none⟩ (.slice Au (limbs n.natAbs).length cu)) (.slice Au (limbs n.natAbs).length cu) hcells2 hub (fun b hb _ => by
        rw [Below.heap_setCell _ _ _ _ hb, Below.heap_setCell _ _ _ _ hb])
      have c0 := hown2.cellAt (k * 2) (by omega)
      have c1 := hown2.cellAt (k * 2 + 1) (by omega)
      rw [List.getElem?_eq_getElem (by omega)] at c0 c1
      have f0 := hown2.frozenAt (k * 2)
      have f1 := hown2.frozenAt (k * 2 + 1)
      have o1 := (hown2.stored (k * 2) (.bool (decide (n < 0)))).1
      have o2 := (o1.stored (k * 2 + 1) (.slice Au (limbs n.natAbs).length cu)).1
      have hB2 := from_ hbel hb2
      have hB3 := (hB2.setCell (p := ⟨w.heap.size, k * 2, none⟩) (Nat.le_refl _) (.bool (decide (n < 0)))).setCell (p := ⟨w.heap.size, k * 2 + 1, none⟩) (Nat.le_refl _) (.slice Au (limbs n.natAbs).length cu)
      have hgt3 : w.heap.size < ((w2.setCell ⟨w.heap.size, k * 2, none⟩ (.bool (decide (n < 0)))).setCell ⟨w.heap.size, k * 2 + 1, none⟩ (.slice Au (limbs n.natAbs).length cu)).heap.size := by
        have := hb2.size
        simp [World.setCell]
        omega
      have HP := Lib.hid hP
      have HO := Lib.hid o2
      have HB := Lib.hid hB3
      clear hP o1 o2 hu hu' hub hown2 hcells2 hcells hown hB2 hB3
      generalize xs[k * 2] = x0 at *
      generalize xs[k * 2 + 1] = x1 at *
      go_wp2
      go_roundw
      case rel => exact ⟨k + 1, _, by omega, by go_num, HO.out, HP, HB.out, hgt3⟩
      case measure => simp [intOf]; omega
    · obtain rfl : k = zs.length := by omega
      have hfin : IsVs wr (.slice (some ⟨w.heap.size, 0, none⟩) zs.length zs.length) zs := by
        refine ⟨_, _, rfl, Nat.le_refl _, by omega, fun _ => ⟨_, rfl, hgt, fun j hj => ?_⟩⟩
        obtain ⟨u, c0, c1, hu⟩ := hcells.out j hj hj
        exact ⟨u, by rw [hown.cellAt (j * 2) (by omega)]; exact c0, by rw [hown.cellAt (j * 2 + 1) (by omega)]; exact c1, hu.old⟩
      have Hfin := Lib.hid hfin
      clear hfin hcells hown
      go_wp2
      go_ret
      exact ⟨_, rfl, Hfin.out, hbel⟩

/-- The words' block is one of words. -/
def Typ (w : World) (B : Nat) (u : Value) : Prop := ∀ a n c, u = .slice (some a) n c → B ≤ a.block ∧ ∃ cs fr, w.heap[a.block]? = some (.cells cs 88 fr)
theorem Typ.keep {w w' : World} {B g : Nat} {u : Value} (h : Typ w B u) (hg : ∃ cs fr, w.heap[g]? = some (.cells cs 25 fr)) (hk : ∀ b, b ≠ g → b < w.heap.size → w'.heap[b]? = w.heap[b]?) : Typ w' B u := fun a n c e => by
  obtain ⟨h0, cs, fr, h1⟩ := h a n c e
  refine ⟨h0, cs, fr, ?_⟩
  rw [hk]
  · exact h1
  · intro e2
    obtain ⟨cs2, fr2, h2⟩ := hg
    rw [← e2, h1] at h2
    injection h2 with h2
    injection h2 with _ h3
    exact absurd h3 (by decide)
  · by_cases hlt : a.block < w.heap.size
    · exact hlt
    · rw [Array.getElem?_eq_none (by omega)] at h1
      cases h1
theorem Typ.below {w w' : World} {B : Nat} {u : Value} (h : Typ w B u) (hb : Below w.heap.size w w') : Typ w' B u := fun a n c e => by
  obtain ⟨h0, cs, fr, h1⟩ := h a n c e
  refine ⟨h0, cs, fr, ?_⟩
  rw [hb.block]
  · exact h1
  · by_cases hlt : a.block < w.heap.size
    · exact hlt
    · rw [Array.getElem?_eq_none (by omega)] at h1
      cases h1
theorem Typ.apart {w : World} {B g : Nat} {Z : Zone} {u : Value} {l : List Nat} (h : Typ w B u) (hg : ∃ cs fr, w.heap[g]? = some (.cells cs 25 fr)) (hu : IsU w Z u l) : IsU w (but g) u l := by
  obtain ⟨A, c, rfl, hs, hcap, hmax, hnul, hrow⟩ := hu
  refine ⟨A, c, rfl, hs, hcap, hmax, hnul, fun h0 => ?_⟩
  obtain ⟨b, o, e, _, _, hc⟩ := hrow h0
  refine ⟨b, o, e, fun e2 => ?_, fun h => h.elim, hc⟩
  obtain ⟨_, cs, fr, h1⟩ := h ⟨b, o, none⟩ _ _ (by rw [e])
  obtain ⟨cs2, fr2, h2⟩ := hg
  subst e2
  rw [h2] at h1
  injection h1 with h1
  injection h1 with _ h3
  exact absurd h3 (by decide)

theorem box_obj {w w1 : World} {a b : Value} (hb : Below (w.alloc (.cells #[a, b] 25)).heap.size (w.alloc (.cells #[a, b] 25)) w1) : ∃ cs fr, w1.heap[w.heap.size]? = some (.cells cs 25 fr) := by
  refine ⟨#[a, b], (0, 0), ?_⟩
  rw [hb.block _ (by simp)]
  show (w.heap.push _)[w.heap.size]? = _
  simp

end Go.Proofs.YtamenhffplhddaaGreat

namespace Go.Proofs.YtamenhffplhddaaGreat
open Go.RowKit
set_option linter.unusedVariables false
set_option linter.unusedSimpArgs false

end Go.Proofs.YtamenhffplhddaaGreat

namespace Go.Proofs.YtamenhffplhddaaGreat
open Go.RowKit
set_option linter.unusedVariables false
set_option linter.unusedSimpArgs false

end Go.Proofs.YtamenhffplhddaaGreat

namespace Go.Proofs.YtamenhffplhddaaGreat
open Go.RowKit
set_option linter.unusedVariables false
set_option linter.unusedSimpArgs false

def intE (s : Bool) (l : List Nat) : Int := if okI s l = true then (if l.length ≤ 1 ∧ (val l < 9223372036854775808 ∨ (s = true ∧ val l = 9223372036854775808)) then 0 else 4) else 8
def intX (s : Bool) (l : List Nat) : Int := if intE s l = 0 then zof s l else 0

theorem int_bad {s : Bool} {l : List Nat} (h : okI s l = false) : intE s l = 8 ∧ intX s l = 0 := by
  have e : intE s l = 8 := by simp [intE, h]
  exact ⟨e, by unfold intX; rw [e]; rfl⟩
theorem int_many {s : Bool} {l : List Nat} (h : okI s l = true) (h2 : ¬ (l.length ≤ 1 ∧ (val l < 9223372036854775808 ∨ (s = true ∧ val l = 9223372036854775808)))) : intE s l = 4 ∧ intX s l = 0 := by
  have e : intE s l = 4 := by unfold intE; rw [if_pos h, if_neg h2]
  exact ⟨e, by unfold intX; rw [e]; rfl⟩
theorem int_fits {s : Bool} {l : List Nat} (h : okI s l = true) (h2 : l.length ≤ 1 ∧ (val l < 9223372036854775808 ∨ (s = true ∧ val l = 9223372036854775808))) : intE s l = 0 ∧ intX s l = zof s l := by
  have e : intE s l = 0 := by unfold intE; rw [if_pos h, if_pos h2]
  exact ⟨e, by unfold intX; rw [e]; rfl⟩

theorem val_few {l : List Nat} (h : l.length ≤ 1) : l[0]?.getD 0 = val l := by
  match l, h with
  | [], _ => rfl
  | [x], _ => simp [val]

theorem okI_good {s : Bool} {l : List Nat} (h : okI s l = true) : good l = true := by
  unfold okI at h
  rw [Bool.and_eq_true] at h
  exact h.1

set_option maxRecDepth 100000 in
set_option maxHeartbeats 1000000 in
theorem wint_all {w : World} {Z : Zone} {a : Value} {s : Bool} {l : List Nat} (ha : IsI w Z a s l) :
    Calls Tryz.prog 60 #[a] w fun e w' => e = .returned (.tuple #[.int .i64 (intX s l), .int .i64 (intE s l)]) ∧ Below w.heap.size w w' := by
  obtain ⟨_, rfl, A, c, rfl, hu⟩ := ha
  have hb0 : Below w.heap.size w (w.alloc (.cells #[.bool s, .slice A l.length c] 25)) := (Below.refl _ w).alloc (Nat.le_refl _) _
  obtain ⟨q0, q1, _, _, _⟩ := Box.new w (.bool s) (.slice A l.length c) 25
  have hI : IsI w Z (.agg #[.bool s, .slice A l.length c]) s l := ⟨_, rfl, A, c, rfl, hu⟩
  have hck := wcheck_any (hI.below hb0)
  have hU : IsU w Z (.slice A l.length c) l := ⟨A, c, rfl, hu⟩
  have hsm := hu.small
  cases hok : okI s l with
  | false =>
    obtain ⟨e1, e2⟩ := int_bad hok
    have e3 : errC s l = 8 := by simp [errC, hok]
    rw [e3] at hck
    rw [e1, e2]
    have Hck := Lib.hid hck
    clear hck e1 e2 e3 hok hI hU hu
    go_enter Tryz.func60, Tryz.ntmps60
    go_wp2_with fail
    refine Hck.out.mono ?_
    rintro e w1 ⟨rfl, hb1⟩
    have hB := from_ hb0 hb1
    go_wp2
    go_ret2
    exact ⟨rfl, hB⟩
  | true =>
    have e3 : errC s l = 0 := by simp [errC, hok]
    rw [e3] at hck
    have Hck := Lib.hid hck
    have hg := okI_good hok
    by_cases hlen : l.length ≤ 1
    · have hw := fun (w1 : World) (h : Below w.heap.size w w1) => word_few (hU.below h) hg hlen
      rw [val_few hlen] at hw
      have hxW : val l < 18446744073709551616 := by
        have := val_lt hsm
        refine Nat.lt_of_lt_of_le this ?_
        exact Nat.le_trans (Nat.pow_le_pow_right (by omega) hlen) (by omega)
      have hm := fun h => int_many hok h
      have hf := fun h => int_fits hok h
      have hpos : s = true → 0 < val l := fun h => by
        rcases (okI_cases hok hsm).2 with h2 | h2
        · rw [h2] at h; cases h
        · exact h2.2
      have hz : zof s l = if s = true then -(val l : Int) else (val l : Int) := rfl
      rw [hz] at hf
      generalize val l = x at *
      generalize intX s l = X at *
      generalize intE s l = E at *
      have Hw := Lib.hid hw
      clear hw hck e3 hok hI hU hu hz hg
      rcases (show 9223372036854775808 < x ∨ x = 9223372036854775808 ∨ x < 9223372036854775808 by omega) with hx | hx | hx
      · obtain ⟨rfl, rfl⟩ := hm (by omega)
        have d1 : decide ((9223372036854775808 : Int) < (x : Int)) = true := decide_eq_true (by omega)
        clear hm hf hpos hsm
        go_enter Tryz.func60, Tryz.ntmps60
        go_wp2_with fail
        refine Hck.out.mono ?_
        rintro e w1 ⟨rfl, hb1⟩
        have q0 := keepC hb1 q0
        have q1 := keepC hb1 q1
        have hB := from_ hb0 hb1
        go_wp2_with fail
        refine (Hw.out _ hB).mono ?_
        rintro e w2 ⟨rfl, rfl⟩
        go_wp2
        go_ret2
        exact ⟨rfl, hB⟩
      · subst hx
        cases s
        · obtain ⟨rfl, rfl⟩ := hm (by simp)
          clear hm hf hpos hsm
          go_enter Tryz.func60, Tryz.ntmps60
          go_wp2_with fail
          refine Hck.out.mono ?_
          rintro e w1 ⟨rfl, hb1⟩
          have q0 := keepC hb1 q0
          have q1 := keepC hb1 q1
          have hB := from_ hb0 hb1
          go_wp2_with fail
          refine (Hw.out _ hB).mono ?_
          rintro e w2 ⟨rfl, rfl⟩
          go_wp2
          go_ret2
          exact ⟨rfl, hB⟩
        · obtain ⟨rfl, rfl⟩ := hf (by simp; omega)
          simp only [if_true]
          have f1 : IntKind.u64.wrap (-9223372036854775808) = 9223372036854775808 := by rw [IntKind.wrap_u64]; omega
          have f2 : IntKind.i64.wrap 9223372036854775808 = -9223372036854775808 := by rw [IntKind.wrap_i64]; omega
          clear hm hf hpos hsm
          go_enter Tryz.func60, Tryz.ntmps60
          go_wp2_with fail
          refine Hck.out.mono ?_
          rintro e w1 ⟨rfl, hb1⟩
          have q0 := keepC hb1 q0
          have q1 := keepC hb1 q1
          have hB := from_ hb0 hb1
          go_wp2_with fail
          refine (Hw.out _ hB).mono ?_
          rintro e w2 ⟨rfl, rfl⟩
          go_wp2
          go_ret2
          exact ⟨rfl, hB⟩
      · cases s
        · obtain ⟨rfl, rfl⟩ := hf ⟨hlen, .inl hx⟩
          simp only [Bool.false_eq_true, if_false]
          have d1 : decide ((9223372036854775808 : Int) < (x : Int)) = false := decide_eq_false (by omega)
          have d2 : ((x : Int) == 9223372036854775808) = false := beq_eq_false_iff_ne.2 (by omega)
          clear hm hf hpos hsm
          go_enter Tryz.func60, Tryz.ntmps60
          go_wp2_with fail
          refine Hck.out.mono ?_
          rintro e w1 ⟨rfl, hb1⟩
          have q0 := keepC hb1 q0
          have q1 := keepC hb1 q1
          have hB := from_ hb0 hb1
          go_wp2_with fail
          refine (Hw.out _ hB).mono ?_
          rintro e w2 ⟨rfl, rfl⟩
          go_wp2
          go_ret2
          exact ⟨rfl, hB⟩
        · obtain ⟨rfl, rfl⟩ := hf ⟨hlen, .inl hx⟩
          simp only [if_true]
          have hx0 := hpos rfl
          obtain ⟨y, hy⟩ : ∃ y, y = 18446744073709551616 - x := ⟨_, rfl⟩
          have d1 : decide ((9223372036854775808 : Int) < (x : Int)) = false := decide_eq_false (by omega)
          have d2 : ((x : Int) == 9223372036854775808) = false := beq_eq_false_iff_ne.2 (by omega)
          have f1 : IntKind.u64.wrap (-(x : Int)) = (y : Int) := by rw [IntKind.wrap_u64]; omega
          have f2 : IntKind.i64.wrap (y : Int) = -(x : Int) := by rw [IntKind.wrap_i64]; omega
          clear hm hf hpos hsm hy
          go_enter Tryz.func60, Tryz.ntmps60
          go_wp2_with fail
          refine Hck.out.mono ?_
          rintro e w1 ⟨rfl, hb1⟩
          have q0 := keepC hb1 q0
          have q1 := keepC hb1 q1
          have hB := from_ hb0 hb1
          go_wp2_with fail
          refine (Hw.out _ hB).mono ?_
          rintro e w2 ⟨rfl, rfl⟩
          go_wp2
          go_ret2
          exact ⟨rfl, hB⟩
    · have hw := fun (w1 : World) (h : Below w.heap.size w w1) => word_many (hU.below h) hg (by omega)
      obtain ⟨e1, e2⟩ := int_many hok (fun h => hlen h.1)
      rw [e1, e2]
      have Hw := Lib.hid hw
      clear hw hck e1 e2 e3 hok hI hU hu hg hsm
      go_enter Tryz.func60, Tryz.ntmps60
      go_wp2_with fail
      refine Hck.out.mono ?_
      rintro e w1 ⟨rfl, hb1⟩
      have q0 := keepC hb1 q0
      have q1 := keepC hb1 q1
      have hB := from_ hb0 hb1
      go_wp2_with fail
      refine (Hw.out _ hB).mono ?_
      rintro e w2 ⟨rfl, rfl⟩
      go_wp2
      go_ret2
      exact ⟨rfl, hB⟩

theorem size_64 {n : Nat} (h1 : 9223372036854775808 ≤ n) (h2 : n < 18446744073709551616) : size n = 64 := size_eq (s := 63) (by omega) (by omega) (by omega)
theorem size_big {n : Nat} (h1 : 18446744073709551616 ≤ n) : 64 < size n := by
  rcases Nat.lt_or_ge 64 (size n) with h | h
  · exact h
  · have h3 := lt_size n
    have h4 : 2 ^ size n ≤ 2 ^ 64 := Nat.pow_le_pow_right (by omega) h
    have h5 : (2 : Nat) ^ 64 = 18446744073709551616 := rfl
    omega
theorem size_small {n : Nat} (h1 : n < 9223372036854775808) : size n < 64 := by
  have : size n ≤ 63 := size_le_of (by have h5 : (2 : Nat) ^ 63 = 9223372036854775808 := rfl; omega)
  omega

end Go.Proofs.YtamenhffplhddaaGreat
