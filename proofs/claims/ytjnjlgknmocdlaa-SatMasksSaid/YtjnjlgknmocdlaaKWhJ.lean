/-
  Rows of whole numbers that come of ints, the program's and the document's, and whether two are the same. No conditions but bounds on lengths.
  Rows of whole numbers that come of ints, the program's and the document's, and whether two are the same. No conditions but bounds on lengths.
  Lists of masks and of ints: the document's Words and Ints. No conditions.
  Masks: whether one is in another one, the program's and the document's. No conditions but that masks are words.
  Masks, plain: those near, those that have the most, and masks turned. No conditions.
  Masks: whether two are near, the program's and the document's. No conditions.
  Masks: whether two are near, the document's. No conditions.
  The bits of a mask, one behind the other: sat.bits and its function value. No conditions.
  The document's own answer, layer 5: May, Check, two, Signed, Sign. No conditions.
  slices.Equal of words, whole.Same. No conditions.
  Whole numbers: Int, at any sign and words. No conditions.
-/
import Derived.Deep.QuietTactic
import Derived.BigQuiet
import Derived.RangeFuncNested
import Derived.RangeFuncBound
import Derived.RangeFuncCalls
import Derived.RangeFuncLeaves
import Derived.RangeFuncBox
import Derived.Shelf.Abstract
import Derived.Shelf.RegionOpen
import Derived.WalkKit
import Derived.OwnWalkIn
import Derived.TacticsInMore
import Derived.LoopNIn
import Derived.LoopIn
import Derived.Maps.AppendAt
import Derived.Test.YtjnjlgknmocdlaaKWhC
import Derived.Test.YtjnjlgknmocdlaaKRefI
import Derived.Test.YtjnjlgknmocdlaaKRefE
import Derived.Test.YtjnjlgknmocdlaaKSame
import Derived.Test.YtjnjlgknmocdlaaKRefA
import Derived.Test.YtjnjlgknmocdlaaKRangeM
import Derived.Test.YtjnjlgknmocdlaaKWhF
namespace Go.Proofs.Ytjnjlgknmocdlaa
open Go.RowKit
set_option linter.unusedVariables false
set_option linter.unusedSimpArgs false

set_option maxHeartbeats 1000000 in
theorem r05of_any {w : World} {n : Int} (hn : -9223372036854775808 ≤ n ∧ n ≤ 9223372036854775807) :
    Calls Try.prog 100 #[.int .i64 n] w fun e w' => ∃ v, e = .returned v ∧ IsZ w' (new w.heap.size) v n ∧ Below w.heap.size w w' := by
  obtain ⟨m, hm⟩ : ∃ m, m = n.natAbs := ⟨_, rfl⟩
  have hmW : m < 18446744073709551616 := by omega
  have hb0 : Below w.heap.size w (w.alloc (.cells #[.bool false, .slice none 0 0] 25)) := (Below.refl _ w).alloc (Nat.le_refl _) _
  have box0 := Box.new w (.bool false) (.slice none 0 0) 25
  unfold IsZ
  rw [← hm]
  by_cases hneg : n < 0
  · obtain ⟨k, hk⟩ : ∃ k : Nat, (k : Int) = n + 18446744073709551616 := ⟨(n + 18446744073709551616).toNat, by omega⟩
    have e1 : IntKind.u64.wrap n = (k : Int) := by rw [IntKind.wrap_u64]; omega
    have e2 : IntKind.u64.wrap (-(k : Int)) = (m : Int) := by rw [IntKind.wrap_u64]; omega
    have e3 : IntKind.u64.wrap (0 - (k : Int)) = (m : Int) := by rw [IntKind.wrap_u64]; omega
    rw [decide_eq_true (p := n < 0) hneg]
    clear hm hk
    go_enter Try.func100, Try.ntmps100
    go_wp2_with fail
    refine (rof_any hmW).mono ?_
    rintro e w1 ⟨u, rfl, ⟨Au, cu, rfl, hu'⟩, hb1⟩
    have hu : IsU w1 (new (w.alloc (.cells #[.bool false, .slice none 0 0] 25)).heap.size) (.slice Au (limbs m).length cu) (limbs m) := ⟨Au, cu, rfl, hu'⟩
    have box1 := box0.below hb1
    have hB := from_ hb0 hb1
    have hP := box1.put hB (Nat.le_refl _) (.bool true) (.slice Au (limbs m).length cu)
    have hu2 := hP.keep (by simp) hu
    have Hu := Lib.hid hu2
    have HP := Lib.hid hP
    obtain ⟨q0, q1, f0, f1, _⟩ := box1
    clear hu hu' hu2 hP hb0 e1 e2 e3
    go_wp2
    refine bodyPost_ret (res_int rfl _ w.heap.size rfl HP.out.c0 HP.out.c1) rfl ?_
    exact ⟨_, rfl, ⟨_, rfl, Hu.out⟩, HP.out.bel⟩
  · have e1 : IntKind.u64.wrap n = (m : Int) := by rw [IntKind.wrap_u64]; omega
    have hd : decide (n < 0) = false := decide_eq_false hneg
    rw [hd]
    clear hm hneg
    go_enter Try.func100, Try.ntmps100
    go_wp2_with fail
    refine (rof_any hmW).mono ?_
    rintro e w1 ⟨u, rfl, ⟨Au, cu, rfl, hu'⟩, hb1⟩
    have hu : IsU w1 (new (w.alloc (.cells #[.bool false, .slice none 0 0] 25)).heap.size) (.slice Au (limbs m).length cu) (limbs m) := ⟨Au, cu, rfl, hu'⟩
    have box1 := box0.below hb1
    have hB := from_ hb0 hb1
    have hP := box1.put hB (Nat.le_refl _) (.bool false) (.slice Au (limbs m).length cu)
    have hu2 := hP.keep (by simp) hu
    have Hu := Lib.hid hu2
    have HP := Lib.hid hP
    obtain ⟨q0, q1, f0, f1, _⟩ := box1
    clear hu hu' hu2 hP hb0 e1
    go_wp2
    refine bodyPost_ret (res_int rfl _ w.heap.size rfl HP.out.c0 HP.out.c1) rfl ?_
    exact ⟨_, rfl, ⟨_, rfl, Hu.out⟩, HP.out.bel⟩

theorem boxes2 (w : World) (a0 a1 b0 b1 : Value) (t : TypeId) :
    Box ((w.alloc (.cells #[a0, a1] t)).alloc (.cells #[b0, b1] t)) w.heap.size a0 a1 ∧
    Box ((w.alloc (.cells #[a0, a1] t)).alloc (.cells #[b0, b1] t)) (w.heap.size + 1) b0 b1 ∧
    Below w.heap.size w ((w.alloc (.cells #[a0, a1] t)).alloc (.cells #[b0, b1] t)) := by
  have h1 := (Box.new w a0 a1 t).alloc (.cells #[b0, b1] t)
  have h2 := Box.new (w.alloc (.cells #[a0, a1] t)) b0 b1 t
  rw [show (w.alloc (.cells #[a0, a1] t)).heap.size = w.heap.size + 1 by simp] at h2
  exact ⟨h1, h2, ((Below.refl _ w).alloc (Nat.le_refl _) _).alloc (by simp) _⟩

set_option maxHeartbeats 1000000 in
theorem same5_any {w : World} {Z Y : Zone} {a b : Value} {s t : Bool} {l k : List Nat} (ha : IsI w Z a s l) (hb : IsI w Y b t k) :
    Calls Try.prog 16 #[a, b] w fun e w' => e = .returned (.bool (decide (s = t ∧ l = k))) ∧ Below w.heap.size w w' := by
  obtain ⟨_, rfl, A, ca, rfl, hu⟩ := ha
  obtain ⟨_, rfl, B, cb, rfl, hv⟩ := hb
  have ua : IsU w Z (.slice A l.length ca) l := ⟨A, ca, rfl, hu⟩
  have ub : IsU w Y (.slice B k.length cb) k := ⟨B, cb, rfl, hv⟩
  obtain ⟨bA, bB, hB0⟩ := boxes2 w (.bool s) (.slice A l.length ca) (.bool t) (.slice B k.length cb) 25
  obtain ⟨a0, a1, _, _, _⟩ := bA
  obtain ⟨b0, b1, _, _, _⟩ := bB
  have HB := Lib.hid hB0
  clear hu hv
  by_cases hst : s = t
  · subst hst
    have hsame := same_dec (ua.below hB0) (ub.below hB0)
    have e : decide (s = s ∧ l = k) = decide (l = k) := by simp
    rw [e]
    have Hs := Lib.hid hsame
    clear hsame ua ub hB0
    cases s
    all_goals
      go_enter Try.func16, Try.ntmps16
      go_wp2_with fail
      refine Hs.out.mono ?_
      rintro e w1 ⟨rfl, hb1⟩
      go_wp2
      go_ret
      exact ⟨rfl, from_ HB.out hb1⟩
  · have e : decide (s = t ∧ l = k) = false := by simp [hst]
    rw [e]
    clear ua ub hB0
    rcases (show (s = true ∧ t = false) ∨ (s = false ∧ t = true) by cases s <;> cases t <;> simp_all) with ⟨rfl, rfl⟩ | ⟨rfl, rfl⟩
    all_goals
      go_enter Try.func16, Try.ntmps16
      go_wp2
      go_ret
      exact ⟨rfl, HB.out⟩

end Go.Proofs.Ytjnjlgknmocdlaa

namespace Go.Proofs.Ytjnjlgknmocdlaa
open Go.RowKit
set_option linter.unusedVariables false
set_option linter.unusedSimpArgs false

theorem own_below {w w' : World} {base : Nat} {e : TypeId} {size : Nat} {v : Value} {n : Nat} {xs : List Value} (h : w.ownsRow base e size v n xs) (hb : Below w.heap.size w w') : w'.ownsRow base e size v n xs := by
  refine ⟨h.1, ?_⟩
  rcases h.2 with h1 | ⟨g, cap, cur, e1, hg, hh, hr⟩
  · exact .inl h1
  · refine .inr ⟨g, cap, cur, e1, hg, ?_, hr⟩
    rw [hb.block g]
    · exact hh
    · by_cases hlt : g < w.heap.size
      · exact hlt
      · rw [Array.getElem?_eq_none (by omega)] at hh
        cases hh

/-- A row of ints in memory. -/
def IsInts (w : World) (Z : Zone) (v : Value) (zs : List Int) : Prop := ∃ A c, v = .slice A zs.length c ∧ zs.length ≤ c ∧ c ≤ 9223372036854775807 ∧ (∀ z ∈ zs, -9223372036854775808 ≤ z ∧ z ≤ 9223372036854775807) ∧
  (0 < zs.length → ∃ b o, A = some ⟨b, o, none⟩ ∧ b < w.heap.size ∧ ∀ j (hj : j < zs.length), w.cell? ⟨b, o + j, none⟩ = some (.int .i64 zs[j]))

/-- A row of whole numbers that come of ints. -/
def IsVs (w : World) (v : Value) (zs : List Int) : Prop := ∃ A c, v = .slice A zs.length c ∧ zs.length ≤ c ∧ c ≤ 9223372036854775807 ∧
  (0 < zs.length → ∃ g, A = some ⟨g, 0, none⟩ ∧ g < w.heap.size ∧ ∀ j (hj : j < zs.length), ∃ u, w.cell? ⟨g, j * 2, none⟩ = some (.bool (decide (zs[j] < 0))) ∧ w.cell? ⟨g, j * 2 + 1, none⟩ = some u ∧ IsU w old u (limbs zs[j].natAbs))

theorem IsVs.below {w w' : World} {v : Value} {zs : List Int} (h : IsVs w v zs) (hb : Below w.heap.size w w') : IsVs w' v zs := by
  obtain ⟨A, c, e, h1, h2, h3⟩ := h
  refine ⟨A, c, e, h1, h2, fun h0 => ?_⟩
  obtain ⟨g, e1, hg, hc⟩ := h3 h0
  refine ⟨g, e1, Nat.lt_of_lt_of_le hg hb.size, fun j hj => ?_⟩
  obtain ⟨u, c0, c1, hu⟩ := hc j hj
  exact ⟨u, keepC hb c0, keepC hb c1, hu.below hb⟩

/-- All blocks but one. -/
def but (g : Nat) : Zone := ⟨fun b => b ≠ g, False⟩
theorem new_le_but {B g : Nat} (h : g < B) : (new B).le (but g) := ⟨fun b hb => by have : B ≤ b := hb; show b ≠ g; omega, fun h => h.elim⟩

/-- The cells of a row in which the first k numbers stand. -/
def CellsI (w : World) (g : Nat) (xs : List Value) (k : Nat) (zs : List Int) : Prop :=
  ∀ j (hj : j < zs.length), j < k → ∃ u, xs[j * 2]? = some (.bool (decide (zs[j] < 0))) ∧ xs[j * 2 + 1]? = some u ∧ IsU w (but g) u (limbs zs[j].natAbs)

theorem CellsI.keep {w w' : World} {g : Nat} {xs : List Value} {k : Nat} {zs : List Int} (h : CellsI w g xs k zs) (hk : ∀ b, b ≠ g → b < w.heap.size → w'.heap[b]? = w.heap[b]?) : CellsI w' g xs k zs := fun j hj hjk => by
  obtain ⟨u, c0, c1, hu⟩ := h j hj hjk
  exact ⟨u, c0, c1, hu.keep fun b hb hl => hk b hb hl⟩

theorem CellsI.put {w w' : World} {g : Nat} {xs : List Value} {k : Nat} {zs : List Int} {u : Value} (h : CellsI w g xs k zs) (hl : xs.length = zs.length * 2) (hk : k < zs.length)
    (hu : IsU w (but g) u (limbs (zs[k]).natAbs)) (hw : ∀ b, b ≠ g → b < w.heap.size → w'.heap[b]? = w.heap[b]?) :
    CellsI w' g ((xs.set (k * 2) (.bool (decide (zs[k] < 0)))).set (k * 2 + 1) u) (k + 1) zs := fun j hj hjk => by
  rcases Nat.lt_or_ge j k with h1 | h1
  · obtain ⟨u', c0, c1, hu'⟩ := h j hj h1
    refine ⟨u', ?_, ?_, hu'.keep fun b hb hl => hw b hb hl⟩
    · rw [List.getElem?_set_ne (by omega), List.getElem?_set_ne (by omega)]
      exact c0
    · rw [List.getElem?_set_ne (by omega), List.getElem?_set_ne (by omega)]
      exact c1
  · obtain rfl : j = k := by omega
    refine ⟨u, ?_, ?_, hu.keep fun b hb hl => hw b hb hl⟩
    · rw [List.getElem?_set_ne (by omega), List.getElem?_set_self (by omega)]
    · rw [List.getElem?_set_self (by rw [List.length_set]; omega)]

theorem infoI : (Try.prog.info? 25).map (fun i => (i.zero, i.size, i.bytes)) = some (some (.agg #[.bool false, .slice none 0 0]), 2, 32) := by kernel_rfl

set_option maxRecDepth 100000 in
set_option maxHeartbeats 2000000 in
theorem vof_any {w : World} {Z : Zone} {a : Value} {zs : List Int} (ha : IsInts w Z a zs) (hl : zs.length ≤ 1000) :
    Calls Try.prog 77 #[a] w fun e w' => ∃ v, e = .returned v ∧ IsVs w' v zs ∧ Below w.heap.size w w' := by
  obtain ⟨A, c, rfl, hc1, hc2, hz, ha⟩ := ha
  obtain ⟨i0, hi, hz0, hz1, hz2⟩ := info_parts infoI
  go_enter Try.func77, Try.ntmps77
  go_wp2_with (at_make; go_loud (refine wpList_make_full _ rfl _ _ 53 rfl w.heap.size 25 i0 (.agg #[.bool false, .slice none 0 0]) 2 Try.underlying53 hi hz0 hz1 .i64 .i64 _ _ zs.length rfl rfl rfl rfl (by rw [hz2]; omega) (by simp only [maxLen]; omega) (Nat.le_refl _) ?_); intro w1 hown hgrow)
  have hb1 : Below w.heap.size w w1 := (Below.refl _ w).grown hgrow (Nat.le_refl _) (fun k h => by cases h)
  generalize (madeCells (Value.agg #[.bool false, .slice none 0 0]).cells (zs.length * 2)).toList = xs0 at hown
  clear hgrow
  go_wp2
  go_loopw [11] (fun i wr => ∃ (k : Nat) (xs : List Value), k ≤ zs.length ∧ i = .int .i64 (k : Int) ∧ wr.ownsRow w.heap.size 25 2 (.slice (some ⟨w.heap.size, 0, none⟩) zs.length zs.length) zs.length xs ∧ Hid (CellsI wr w.heap.size xs k zs) ∧ Below w.heap.size w wr ∧ w.heap.size < wr.heap.size) (fun i _ => zs.length - (intOf i).toNat)
  case atStart => exact ⟨0, xs0, Nat.zero_le _, rfl, hown, fun j hj h => absurd h (by omega), hb1, (hown.lt _ rfl).2⟩
  case round =>
    obtain ⟨k, xs, hk, rfl, hown, hcells, hbel, hgt⟩ := hrel
    by_cases hlt : k < zs.length
    · obtain ⟨b, o, rfl, hbb, hc⟩ := ha (by omega)
      have hx := (hbel.cell (p := ⟨b, o + k, none⟩) hbb).trans (hc k hlt)
      have hzk := hz zs[k] (List.getElem_mem hlt)
      have hxl := hown.1
      clear hc hz
      have hput := fun (w2 w' : World) (u : Value) (h1 : CellsI w2 w.heap.size xs k zs) h2 h3 => h1.put (w' := w') (u := u) hxl hlt h2 h3
      have Hput := Lib.hid hput
      clear hput
      generalize zs[k] = n at *
      go_wp2_with fail
      refine (wof_any hzk).mono ?_
      rintro e w2 ⟨_, rfl, ⟨_, rfl, Au, cu, rfl, hu'⟩, hb2⟩
      have hu : IsU w2 _ (.slice Au (limbs n.natAbs).length cu) (limbs n.natAbs) := ⟨Au, cu, rfl, hu'⟩
      have hub := hu.mono (new_le_but hgt)
      have hown2 := own_below hown hb2
      have hcells2 := hcells.out.keep (w' := w2) fun b _ hl => hb2.block b hl
      have hP := Hput.out w2 ((w2.setCell ⟨w.heap.size, k * 2, none⟩ (.bool (decide (n < 0)))).setCell ⟨w.heap.size, k * 2 + 1, none⟩ (.slice Au (limbs n.natAbs).length cu)) (.slice Au (limbs n.natAbs).length cu) hcells2 hub (fun b hb _ => by
        rw [Below.heap_setCell _ _ _ _ hb, Below.heap_setCell _ _ _ _ hb])
      have c0 := hown2.cellAt (k * 2) (by omega)
      have c1 := hown2.cellAt (k * 2 + 1) (by omega)
      rw [List.getElem?_eq_getElem (by omega)] at c0 c1
      have f0 := hown2.frozenAt (k * 2)
      have f1 := hown2.frozenAt (k * 2 + 1)
      have o1 := (hown2.stored (k * 2) (.bool (decide (n < 0)))).1
      have o2 := (o1.stored (k * 2 + 1) (.slice Au (limbs n.natAbs).length cu)).1
      have hB2 := from_ hbel hb2
      have hB3 := (hB2.setCell (p := ⟨w.heap.size, k * 2, none⟩) (Nat.le_refl _) (.bool (decide (n < 0)))).setCell (p := ⟨w.heap.size, k * 2 + 1, none⟩) (Nat.le_refl _) (.slice Au (limbs n.natAbs).length cu)
      have hgt3 : w.heap.size < ((w2.setCell ⟨w.heap.size, k * 2, none⟩ (.bool (decide (n < 0)))).setCell ⟨w.heap.size, k * 2 + 1, none⟩ (.slice Au (limbs n.natAbs).length cu)).heap.size := by
        have := hb2.size
        simp [World.setCell]
        omega
      have HP := Lib.hid hP
      have HO := Lib.hid o2
      have HB := Lib.hid hB3
      clear hP o1 o2 hu hu' hub hown2 hcells2 hcells hown hB2 hB3
      generalize xs[k * 2] = x0 at *
      generalize xs[k * 2 + 1] = x1 at *
      go_wp2
      go_roundw
      case rel => exact ⟨k + 1, _, by omega, by go_num, HO.out, HP, HB.out, hgt3⟩
      case measure => simp [intOf]; omega
    · obtain rfl : k = zs.length := by omega
      have hfin : IsVs wr (.slice (some ⟨w.heap.size, 0, none⟩) zs.length zs.length) zs := by
        refine ⟨_, _, rfl, Nat.le_refl _, by omega, fun _ => ⟨_, rfl, hgt, fun j hj => ?_⟩⟩
        obtain ⟨u, c0, c1, hu⟩ := hcells.out j hj hj
        exact ⟨u, by rw [hown.cellAt (j * 2) (by omega)]; exact c0, by rw [hown.cellAt (j * 2 + 1) (by omega)]; exact c1, hu.old⟩
      have Hfin := Lib.hid hfin
      clear hfin hcells hown
      go_wp2
      go_ret
      exact ⟨_, rfl, Hfin.out, hbel⟩

/-- The words' block is one of words. -/
def Typ (w : World) (B : Nat) (u : Value) : Prop := ∀ a n c, u = .slice (some a) n c → B ≤ a.block ∧ ∃ cs fr, w.heap[a.block]? = some (.cells cs 34 fr)
theorem Typ.keep {w w' : World} {B g : Nat} {u : Value} (h : Typ w B u) (hg : ∃ cs fr, w.heap[g]? = some (.cells cs 25 fr)) (hk : ∀ b, b ≠ g → b < w.heap.size → w'.heap[b]? = w.heap[b]?) : Typ w' B u := fun a n c e => by
  obtain ⟨h0, cs, fr, h1⟩ := h a n c e
  refine ⟨h0, cs, fr, ?_⟩
  rw [hk]
  · exact h1
  · intro e2
    obtain ⟨cs2, fr2, h2⟩ := hg
    rw [← e2, h1] at h2
    injection h2 with h2
    injection h2 with _ h3
    exact absurd h3 (by decide)
  · by_cases hlt : a.block < w.heap.size
    · exact hlt
    · rw [Array.getElem?_eq_none (by omega)] at h1
      cases h1
theorem Typ.below {w w' : World} {B : Nat} {u : Value} (h : Typ w B u) (hb : Below w.heap.size w w') : Typ w' B u := fun a n c e => by
  obtain ⟨h0, cs, fr, h1⟩ := h a n c e
  refine ⟨h0, cs, fr, ?_⟩
  rw [hb.block]
  · exact h1
  · by_cases hlt : a.block < w.heap.size
    · exact hlt
    · rw [Array.getElem?_eq_none (by omega)] at h1
      cases h1
theorem Typ.apart {w : World} {B g : Nat} {Z : Zone} {u : Value} {l : List Nat} (h : Typ w B u) (hg : ∃ cs fr, w.heap[g]? = some (.cells cs 25 fr)) (hu : IsU w Z u l) : IsU w (but g) u l := by
  obtain ⟨A, c, rfl, hs, hcap, hmax, hnul, hrow⟩ := hu
  refine ⟨A, c, rfl, hs, hcap, hmax, hnul, fun h0 => ?_⟩
  obtain ⟨b, o, e, _, _, hc⟩ := hrow h0
  refine ⟨b, o, e, fun e2 => ?_, fun h => h.elim, hc⟩
  obtain ⟨_, cs, fr, h1⟩ := h ⟨b, o, none⟩ _ _ (by rw [e])
  obtain ⟨cs2, fr2, h2⟩ := hg
  subst e2
  rw [h2] at h1
  injection h1 with h1
  injection h1 with _ h3
  exact absurd h3 (by decide)

set_option maxHeartbeats 800000 in
theorem rof_typ {w : World} {x : Nat} (hx : x < 18446744073709551616) :
    Calls Try.prog 137 #[.int .u64 (x : Int)] w fun e w' => ∃ v, e = .returned v ∧ IsN w' (new w.heap.size) v x ∧ Typ w' w.heap.size v ∧ Below w.heap.size w w' := by
  by_cases h0 : x = 0
  · subst h0
    go_enter Try.func137, Try.ntmps137
    go_wp2
    go_ret
    exact ⟨_, rfl, IsN.zero _ _, (fun a n c e => by cases e), Below.refl _ _⟩
  · have hb0 : Below w.heap.size w (w.alloc (.cells #[.int .u64 (x : Int)] 34)) := (Below.refl _ w).alloc (Nat.le_refl _) _
    have hu : U64s (w.alloc (.cells #[.int .u64 (x : Int)] 34)) (new w.heap.size) (some ⟨w.heap.size, 0, none⟩) 1 [x] :=
      ⟨Small.cons hx Small.nil, by simp, by omega, (fun h => by cases h), fun _ => ⟨w.heap.size, 0, rfl, Nat.le_refl _, fun _ j => by simp, fun j u hu => by
        match j, hu with
        | 0, hu => simp at hu; subst hu; simp⟩⟩
    have ht : Typ (w.alloc (.cells #[.int .u64 (x : Int)] 34)) w.heap.size (.slice (some ⟨w.heap.size, 0, none⟩) 1 1) := fun a n c e => by
      injection e with e _ _
      injection e with e
      subst e
      refine ⟨Nat.le_refl _, #[.int .u64 (x : Int)], (0, 0), ?_⟩
      show (w.heap.push _)[w.heap.size]? = _
      simp
    have hd : ((x : Int) == 0) = false := beq_eq_false_iff_ne.2 (by omega)
    have Hu := Lib.hid hu
    have Ht := Lib.hid ht
    have Hlim := Lib.hid (limbs_one (by omega) hx)
    have Hb0 := Lib.hid hb0
    clear hu hb0 h0 ht
    go_enter Try.func137, Try.ntmps137
    go_wp2
    go_ret
    exact ⟨_, rfl, by unfold IsN; rw [Hlim.out]; exact ⟨_, _, rfl, Hu.out⟩, Ht.out, Hb0.out⟩

theorem box_obj {w w1 : World} {a b : Value} (hb : Below (w.alloc (.cells #[a, b] 25)).heap.size (w.alloc (.cells #[a, b] 25)) w1) : ∃ cs fr, w1.heap[w.heap.size]? = some (.cells cs 25 fr) := by
  refine ⟨#[a, b], (0, 0), ?_⟩
  rw [hb.block _ (by simp)]
  show (w.heap.push _)[w.heap.size]? = _
  simp

set_option maxHeartbeats 1000000 in
theorem r05of_typ {w : World} {n : Int} (hn : -9223372036854775808 ≤ n ∧ n ≤ 9223372036854775807) :
    Calls Try.prog 100 #[.int .i64 n] w fun e w' => ∃ s u, e = .returned (.agg #[.bool s, u]) ∧ s = decide (n < 0) ∧ IsU w' (new w.heap.size) u (limbs n.natAbs) ∧ Typ w' (w.heap.size + 1) u ∧ Below w.heap.size w w' := by
  obtain ⟨m, hm⟩ : ∃ m, m = n.natAbs := ⟨_, rfl⟩
  have hmW : m < 18446744073709551616 := by omega
  have hb0 : Below w.heap.size w (w.alloc (.cells #[.bool false, .slice none 0 0] 25)) := (Below.refl _ w).alloc (Nat.le_refl _) _
  have box0 := Box.new w (.bool false) (.slice none 0 0) 25
  rw [← hm]
  by_cases hneg : n < 0
  · obtain ⟨k, hk⟩ : ∃ k : Nat, (k : Int) = n + 18446744073709551616 := ⟨(n + 18446744073709551616).toNat, by omega⟩
    have e1 : IntKind.u64.wrap n = (k : Int) := by rw [IntKind.wrap_u64]; omega
    have e2 : IntKind.u64.wrap (-(k : Int)) = (m : Int) := by rw [IntKind.wrap_u64]; omega
    have e3 : IntKind.u64.wrap (0 - (k : Int)) = (m : Int) := by rw [IntKind.wrap_u64]; omega
    rw [decide_eq_true (p := n < 0) hneg]
    clear hm hk
    go_enter Try.func100, Try.ntmps100
    go_wp2_with fail
    refine (rof_typ hmW).mono ?_
    rintro e w1 ⟨u, rfl, ⟨Au, cu, rfl, hu'⟩, ht, hb1⟩
    have hu : IsU w1 (new (w.alloc (.cells #[.bool false, .slice none 0 0] 25)).heap.size) (.slice Au (limbs m).length cu) (limbs m) := ⟨Au, cu, rfl, hu'⟩
    have box1 := box0.below hb1
    have hB := from_ hb0 hb1
    have hP := box1.put hB (Nat.le_refl _) (.bool true) (.slice Au (limbs m).length cu)
    have hu2 := hP.keep (by simp) hu
    have Hu := Lib.hid hu2
    have ht2 := ht.keep (w' := (w1.setCell ⟨w.heap.size, 0, none⟩ (.bool true)).setCell ⟨w.heap.size, 1, none⟩ (.slice Au (limbs m).length cu)) (box_obj hb1) (fun b hb _ => by rw [Below.heap_setCell _ _ _ _ hb, Below.heap_setCell _ _ _ _ hb])
    have Ht := Lib.hid ht2
    clear ht ht2
    have HP := Lib.hid hP
    obtain ⟨q0, q1, f0, f1, _⟩ := box1
    clear hu hu' hu2 hP hb0 e1 e2 e3
    go_wp2
    refine bodyPost_ret (res_int rfl _ w.heap.size rfl HP.out.c0 HP.out.c1) rfl ?_
    exact ⟨_, _, rfl, rfl, Hu.out, by have := Ht.out; simpa using this, HP.out.bel⟩
  · have e1 : IntKind.u64.wrap n = (m : Int) := by rw [IntKind.wrap_u64]; omega
    have hd : decide (n < 0) = false := decide_eq_false hneg
    rw [hd]
    clear hm hneg
    go_enter Try.func100, Try.ntmps100
    go_wp2_with fail
    refine (rof_typ hmW).mono ?_
    rintro e w1 ⟨u, rfl, ⟨Au, cu, rfl, hu'⟩, ht, hb1⟩
    have hu : IsU w1 (new (w.alloc (.cells #[.bool false, .slice none 0 0] 25)).heap.size) (.slice Au (limbs m).length cu) (limbs m) := ⟨Au, cu, rfl, hu'⟩
    have box1 := box0.below hb1
    have hB := from_ hb0 hb1
    have hP := box1.put hB (Nat.le_refl _) (.bool false) (.slice Au (limbs m).length cu)
    have hu2 := hP.keep (by simp) hu
    have Hu := Lib.hid hu2
    have ht2 := ht.keep (w' := (w1.setCell ⟨w.heap.size, 0, none⟩ (.bool false)).setCell ⟨w.heap.size, 1, none⟩ (.slice Au (limbs m).length cu)) (box_obj hb1) (fun b hb _ => by rw [Below.heap_setCell _ _ _ _ hb, Below.heap_setCell _ _ _ _ hb])
    have Ht := Lib.hid ht2
    clear ht ht2
    have HP := Lib.hid hP
    obtain ⟨q0, q1, f0, f1, _⟩ := box1
    clear hu hu' hu2 hP hb0 e1
    go_wp2
    refine bodyPost_ret (res_int rfl _ w.heap.size rfl HP.out.c0 HP.out.c1) rfl ?_
    exact ⟨_, _, rfl, rfl, Hu.out, by have := Ht.out; simpa using this, HP.out.bel⟩

end Go.Proofs.Ytjnjlgknmocdlaa

namespace Go.Proofs.Ytjnjlgknmocdlaa
open Go.RowKit
set_option linter.unusedVariables false
set_option linter.unusedSimpArgs false

set_option maxHeartbeats 800000 in
theorem words_dec {w : World} {Z Y : Zone} {a b : Value} {la lb : List Nat} (ha : IsU w Z a la) (hb : IsU w Y b lb) :
    Calls Try.prog 23 #[a, b] w fun e w' => e = .returned (.bool (decide (la = lb))) ∧ Below w.heap.size w w' := by
  obtain ⟨A, ca, rfl, ha⟩ := ha
  obtain ⟨A', cb, rfl, hb⟩ := hb
  have h1 := ha.len
  have h2 := hb.len
  by_cases hl : la.length = lb.length
  · have hne : ((la.length : Int) != (lb.length : Int)) = false := by simp [hl]
    have Hl := Lib.hid hl
    have hl1 : la.length ≤ lb.length := by omega
    have hl2 : lb.length ≤ la.length := by omega
    clear hl
    go_enter Try.func23, Try.ntmps23
    go_wp2
    go_loopw [5] (fun i wr => ∃ k : Nat, k ≤ la.length ∧ i = .int .i64 k ∧ la.take k = lb.take k ∧ Below w.heap.size w wr) (fun i _ => la.length - (intOf i).toNat)
    case atStart => exact ⟨0, Nat.zero_le _, rfl, by simp, Below.refl _ _⟩
    case round =>
      obtain ⟨k, hk, rfl, htk, hbel⟩ := hrel
      have Htk := Lib.hid htk
      clear htk
      by_cases hlt : k < la.length
      · have hlt' : k < lb.length := by omega
        obtain ⟨b1, o1, rfl, _, hb1, _, hc1⟩ := ha.open (by omega)
        obtain ⟨b2, o2, rfl, _, hb2, _, hc2⟩ := hb.open (by omega)
        have x1 := (hbel.cell (p := ⟨b1, o1 + k, none⟩) hb1).trans (hc1 k hlt)
        have x2 := (hbel.cell (p := ⟨b2, o2 + k, none⟩) hb2).trans (hc2 k hlt')
        have hs1 : la.take (k + 1) = la.take k ++ [la[k]] := by rw [List.take_succ_eq_append_getElem hlt]
        have hs2 : lb.take (k + 1) = lb.take k ++ [lb[k]] := by rw [List.take_succ_eq_append_getElem hlt']
        have Hs1 := Lib.hid hs1
        have Hs2 := Lib.hid hs2
        clear hs1 hs2 hc1 hc2
        by_cases he : la[k] = lb[k]
        · have hx : ((la[k] : Int) != (lb[k] : Int)) = false := by simp [he]
          have He := Lib.hid he
          clear he
          go_wp2
          go_quiet (fail)
          go_wp2
          go_roundw
          case rel => exact ⟨k + 1, by omega, by go_num, by rw [Hs1.out, Hs2.out, Htk.out, He.out], below_drewN' hbel _⟩
          case measure => simp [intOf]; omega
        · have hx : ((la[k] : Int) != (lb[k] : Int)) = true := by simp; omega
          have hn : la ≠ lb := fun e => he (by subst e; rfl)
          have Hn := Lib.hid (decide_eq_false hn)
          clear he hn
          go_wp2
          go_quiet (fail)
          go_wp2
          go_ret
          rw [Hn.out]
          exact ⟨rfl, below_drewN' hbel _⟩
      · obtain rfl : k = la.length := by omega
        go_wp2
        go_ret
        have e := Htk.out
        rw [List.take_length, Hl.out, List.take_length] at e
        rw [decide_eq_true e]
        exact ⟨rfl, hbel⟩
  · have hne : ((la.length : Int) != (lb.length : Int)) = true := by simp; omega
    have hn : la ≠ lb := fun e => hl (by rw [e])
    have Hn := Lib.hid (decide_eq_false hn)
    clear hl hn
    go_enter Try.func23, Try.ntmps23
    go_wp2
    go_ret
    rw [Hn.out]
    exact ⟨rfl, Below.refl _ _⟩

set_option maxHeartbeats 800000 in
theorem ints_dec {w : World} {Z Y : Zone} {a b : Value} {la lb : List Int} (ha : IsInts w Z a la) (hb : IsInts w Y b lb) :
    Calls Try.prog 24 #[a, b] w fun e w' => e = .returned (.bool (decide (la = lb))) ∧ Below w.heap.size w w' := by
  obtain ⟨A, ca, rfl, q1, q2, _, ha⟩ := ha
  obtain ⟨A', cb, rfl, q3, q4, _, hb⟩ := hb
  have h1 : la.length ≤ 9223372036854775807 := by omega
  have h2 : lb.length ≤ 9223372036854775807 := by omega
  by_cases hl : la.length = lb.length
  · have hne : ((la.length : Int) != (lb.length : Int)) = false := by simp [hl]
    have Hl := Lib.hid hl
    have hl1 : la.length ≤ lb.length := by omega
    have hl2 : lb.length ≤ la.length := by omega
    clear hl
    go_enter Try.func24, Try.ntmps24
    go_wp2
    go_loopw [5] (fun i wr => ∃ k : Nat, k ≤ la.length ∧ i = .int .i64 k ∧ la.take k = lb.take k ∧ Below w.heap.size w wr) (fun i _ => la.length - (intOf i).toNat)
    case atStart => exact ⟨0, Nat.zero_le _, rfl, by simp, Below.refl _ _⟩
    case round =>
      obtain ⟨k, hk, rfl, htk, hbel⟩ := hrel
      have Htk := Lib.hid htk
      clear htk
      by_cases hlt : k < la.length
      · have hlt' : k < lb.length := by omega
        obtain ⟨b1, o1, rfl, hb1, hc1⟩ := ha (by omega)
        obtain ⟨b2, o2, rfl, hb2, hc2⟩ := hb (by omega)
        have x1 := (hbel.cell (p := ⟨b1, o1 + k, none⟩) hb1).trans (hc1 k hlt)
        have x2 := (hbel.cell (p := ⟨b2, o2 + k, none⟩) hb2).trans (hc2 k hlt')
        have hs1 : la.take (k + 1) = la.take k ++ [la[k]] := by rw [List.take_succ_eq_append_getElem hlt]
        have hs2 : lb.take (k + 1) = lb.take k ++ [lb[k]] := by rw [List.take_succ_eq_append_getElem hlt']
        have Hs1 := Lib.hid hs1
        have Hs2 := Lib.hid hs2
        clear hs1 hs2 hc1 hc2
        by_cases he : la[k] = lb[k]
        · have hx : (la[k] != lb[k]) = false := by simp [he]
          have He := Lib.hid he
          clear he
          go_wp2
          go_quiet (fail)
          go_wp2
          go_roundw
          case rel => exact ⟨k + 1, by omega, by go_num, by rw [Hs1.out, Hs2.out, Htk.out, He.out], below_drewN' hbel _⟩
          case measure => simp [intOf]; omega
        · have hx : (la[k] != lb[k]) = true := by simp; omega
          have hn : la ≠ lb := fun e => he (by subst e; rfl)
          have Hn := Lib.hid (decide_eq_false hn)
          clear he hn
          go_wp2
          go_quiet (fail)
          go_wp2
          go_ret
          rw [Hn.out]
          exact ⟨rfl, below_drewN' hbel _⟩
      · obtain rfl : k = la.length := by omega
        go_wp2
        go_ret
        have e := Htk.out
        rw [List.take_length, Hl.out, List.take_length] at e
        rw [decide_eq_true e]
        exact ⟨rfl, hbel⟩
  · have hne : ((la.length : Int) != (lb.length : Int)) = true := by simp; omega
    have hn : la ≠ lb := fun e => hl (by rw [e])
    have Hn := Lib.hid (decide_eq_false hn)
    clear hl hn
    go_enter Try.func24, Try.ntmps24
    go_wp2
    go_ret
    rw [Hn.out]
    exact ⟨rfl, Below.refl _ _⟩


theorem ints_own {w : World} {base : Nat} {e : TypeId} {v : Value} {n : Nat} {zs : List Int} (h : w.ownsRow base e 1 v n (zs.map fun x : Int => Value.int .i64 x)) (h1 : ∀ x ∈ zs, -9223372036854775808 ≤ x ∧ x ≤ 9223372036854775807) : IsInts w old v zs := by
  have hl : zs.length = n := by simpa using h.1
  subst hl
  have hlt := h.lt
  rcases h.2 with ⟨e1, e2⟩ | ⟨g, cap, cur, e1, hb, hg, hn, hm, hcs, ht⟩
  · subst e1
    exact ⟨none, 0, by rw [e2], by omega, by omega, h1, fun h => absurd h (by omega)⟩
  · subst e1
    refine ⟨_, _, rfl, hn, by simpa [maxLen] using hm, h1, fun _ => ⟨g, 0, rfl, (hlt g rfl).2, fun j hj => ?_⟩⟩
    have h2 := h.cellAt j (by omega)
    rw [List.getElem?_map, List.getElem?_eq_getElem hj] at h2
    rw [Nat.zero_add]
    exact h2

end Go.Proofs.Ytjnjlgknmocdlaa

namespace Go.Proofs.Ytjnjlgknmocdlaa
open Go.RowKit
set_option linter.unusedVariables false
set_option linter.unusedSimpArgs false

def bitB (m i : Nat) : Bool := decide (m / 2 ^ i % 2 = 1)
def inB (a b : Nat) : Bool := decide (a &&& (18446744073709551615 - b) = 0)

theorem bitB_test (m i : Nat) : bitB m i = m.testBit i := by
  unfold bitB
  rw [Nat.testBit_eq_decide_div_mod_eq]
theorem inB_iff {a b : Nat} (ha : a < 18446744073709551616) (hb : b < 18446744073709551616) : inB a b = true ↔ ∀ i, i < 64 → bitB a i = true → bitB b i = true := by
  have hc : ∀ i, (18446744073709551615 - b).testBit i = (decide (i < 64) && !b.testBit i) := fun i => by
    have h := Nat.testBit_two_pow_sub_succ (x := b) (n := 64) (by simpa using hb) i
    rw [show (2 : Nat) ^ 64 - (b + 1) = 18446744073709551615 - b by omega] at h
    exact h
  unfold inB
  rw [decide_eq_true_iff]
  constructor
  · intro h i hi h1
    rw [bitB_test] at h1 ⊢
    have h2 : (a &&& (18446744073709551615 - b)).testBit i = false := by rw [h]; exact Nat.zero_testBit i
    rw [Nat.testBit_and, hc, h1, decide_eq_true hi] at h2
    simpa using h2
  · intro h
    refine Nat.eq_of_testBit_eq fun i => ?_
    rw [Nat.testBit_and, hc, Nat.zero_testBit]
    by_cases hi : i < 64
    · have h1 := h i hi
      rw [bitB_test, bitB_test] at h1
      cases ha1 : a.testBit i
      · rfl
      · rw [h1 ha1]; simp
    · rw [decide_eq_false hi]; simp

set_option maxRecDepth 100000 in
set_option maxHeartbeats 1000000 in
theorem satin_any {w : World} {a b : Nat} (ha : a < 18446744073709551616) (hb : b < 18446744073709551616) :
    Calls Try.prog 68 #[.int .u64 (a : Int), .int .u64 (b : Int)] w fun e w' => e = .returned (.bool (inB a b)) ∧ w = w' := by
  have hx : (bits .andNot .u64 (a : Int) (b : Int) == 0) = inB a b := by
    rw [u64_andNot_nat a b ha hb]
    unfold inB
    generalize a &&& (18446744073709551615 - b) = z
    by_cases h : z = 0
    · subst h; rfl
    · rw [decide_eq_false h]
      exact beq_eq_false_iff_ne.2 (by omega)
  go_enter Try.func68, Try.ntmps68
  go_wp2
  go_ret
  exact ⟨by first | rfl | trivial, by trivial⟩

set_option maxRecDepth 100000 in
set_option maxHeartbeats 1000000 in
theorem has_any {w : World} {m i : Nat} (hm : m < 18446744073709551616) (hi : i ≤ 64) :
    Calls Try.prog 67 #[.int .u64 (m : Int), .int .i64 (i : Int)] w fun e w' => e = .returned (.bool (bitB m i)) ∧ w = w' := by
  have hx : (bits .and .u64 ((m : Int) / 2 ^ i) 1 == 1) = bitB m i := by
    have e : ((m : Int) / 2 ^ i) = ((m / 2 ^ i : Nat) : Int) := by
      rw [Int.natCast_ediv, Int.natCast_pow]
      rfl
    have h1 := u64_and_nat (m / 2 ^ i) 1 (Nat.lt_of_le_of_lt (Nat.div_le_self _ _) hm) (by omega)
    rw [e, show (1 : Int) = ((1 : Nat) : Int) from rfl, h1, Nat.and_one_is_mod]
    unfold bitB
    generalize m / 2 ^ i % 2 = z
    by_cases h : z = 1
    · subst h; rfl
    · rw [decide_eq_false h]
      exact beq_eq_false_iff_ne.2 (by omega)
  go_enter Try.func67, Try.ntmps67
  go_wp2
  go_ret
  exact ⟨by first | rfl | trivial, by trivial⟩

set_option maxRecDepth 100000 in
set_option maxHeartbeats 1000000 in
theorem refin_any {w : World} {a b : Nat} (ha : a < 18446744073709551616) (hb : b < 18446744073709551616) :
    Calls Try.prog 69 #[.int .u64 (a : Int), .int .u64 (b : Int)] w fun e w' => e = .returned (.bool (inB a b)) ∧ w = w' := by
  have hin := inB_iff ha hb
  have Hin := Lib.hid hin
  clear hin
  go_enter Try.func69, Try.ntmps69
  go_wp2
  go_loopw [5] (fun i wr => ∃ k : Nat, k ≤ 64 ∧ i = .int .i64 (k : Int) ∧ w = wr ∧ Hid (∀ j, j < k → bitB a j = true → bitB b j = true)) (fun i _ => 64 - (intOf i).toNat)
  case atStart => exact ⟨0, by omega, rfl, rfl, fun j h => absurd h (by omega)⟩
  case round =>
    obtain ⟨k, hk, rfl, rfl, hz⟩ := hrel
    by_cases hlt : k < 64
    · have h1 := has_any (w := w) ha (i := k) (by omega)
      have h2 := has_any (w := w) hb (i := k) (by omega)
      have Hall : Hid ((bitB a k = true → bitB b k = true) → ∀ j, j < k + 1 → bitB a j = true → bitB b j = true) := fun hx j hj => by
        rcases Nat.lt_or_ge j k with h3 | h3
        · exact hz.out j h3
        · obtain rfl : j = k := by omega
          exact hx
      have Hno : Hid (bitB a k = true → bitB b k = false → inB a b = false) := fun h3 h4 => by
        cases h5 : inB a b
        · rfl
        · have := Hin.out.1 h5 k hlt h3
          rw [h4] at this
          cases this
      have hca : bitB a k = true ∨ bitB a k = false := by cases bitB a k <;> simp
      have hcb : bitB b k = true ∨ bitB b k = false := by cases bitB b k <;> simp
      clear hz
      generalize bitB a k = x at *
      generalize bitB b k = y at *
      rcases hca with rfl | rfl
      · have H1 := Lib.hid h1
        rcases hcb with rfl | rfl
        · have H2 := Lib.hid h2
          clear h1 h2
          go_wp2_with fail
          refine H1.out.mono ?_
          rintro e _ ⟨rfl, rfl⟩
          go_wp2_with fail
          refine H2.out.mono ?_
          rintro e _ ⟨rfl, rfl⟩
          go_wp2
          go_roundw
          case rel => exact ⟨k + 1, by omega, by go_num, by trivial, Lib.hid (Hall.out (fun _ => by trivial))⟩
          case measure => simp [intOf] <;> omega
        · have H2 := Lib.hid h2
          clear h1 h2
          go_wp2_with fail
          refine H1.out.mono ?_
          rintro e _ ⟨rfl, rfl⟩
          go_wp2_with fail
          refine H2.out.mono ?_
          rintro e _ ⟨rfl, rfl⟩
          go_wp2
          go_ret
          rw [Hno.out (by trivial) (by trivial)]
          exact ⟨rfl, rfl⟩
      · have H1 := Lib.hid h1
        clear h1 h2
        go_wp2_with fail
        refine H1.out.mono ?_
        rintro e _ ⟨rfl, rfl⟩
        go_wp2
        go_roundw
        case rel => exact ⟨k + 1, by omega, by go_num, by trivial, Lib.hid (Hall.out (fun h => by first | (cases h; done) | exact absurd h (by simp)))⟩
        case measure => simp [intOf] <;> omega
    · obtain rfl : k = 64 := by omega
      have he : inB a b = true := Hin.out.2 hz.out
      have He := Lib.hid he
      clear he hz
      go_wp2
      go_ret
      rw [He.out]
      exact ⟨rfl, rfl⟩

end Go.Proofs.Ytjnjlgknmocdlaa

namespace Go.Proofs.Ytjnjlgknmocdlaa
set_option linter.unusedVariables false
set_option linter.unusedSimpArgs false

/-- The error of so many masks. -/
def errK (ms : List Nat) : Int := if ms.length ≤ 4096 then 0 else 4

def nearOk (n : Nat) (i k : Int) : Prop := 0 ≤ i ∧ 0 ≤ k ∧ i < n ∧ k < n ∧ i ≠ k
instance (n : Nat) (i k : Int) : Decidable (nearOk n i k) := by unfold nearOk; infer_instance
def nearE (ms : List Nat) (i k : Int) : Int := if ms.length ≤ 4096 then (if nearOk ms.length i k then 0 else 2) else 4
/-- Whether the j-th mask has all that two have. -/
def nearHit (ms : List Nat) (i k j : Nat) : Bool := decide (j ≠ i) && decide (j ≠ k) && inB (ms.getD i 0 &&& ms.getD k 0) (ms.getD j 0)
def nearB (ms : List Nat) (i k : Nat) : Bool := (List.range ms.length).all fun j => !nearHit ms i k j
def nearA (ms : List Nat) (i k : Int) : Bool := decide (nearE ms i k = 0) && nearB ms i.toNat k.toNat

/-- Whether the k-th mask is ahead of the i-th one: it has all that this has, and more, or as much and stands before it. -/
def ahead (ms : List Nat) (i k : Nat) : Bool := decide (k ≠ i) && inB (ms.getD i 0) (ms.getD k 0) && (decide (ms.getD i 0 ≠ ms.getD k 0) || decide (k < i))
def lone (ms : List Nat) (i : Nat) : Bool := (List.range ms.length).all fun k => !ahead ms i k
def mostTo (ms : List Nat) (n : Nat) : List Nat := (List.range n).filter (lone ms)
def mostL (ms : List Nat) : List Nat := mostTo ms ms.length
theorem mostTo_succ (ms : List Nat) (n : Nat) : mostTo ms (n + 1) = mostTo ms n ++ if lone ms n = true then [n] else [] := by
  unfold mostTo
  rw [List.range_succ, List.filter_append]
  cases h : lone ms n <;> simp [h]
theorem mostTo_len (ms : List Nat) (n : Nat) : (mostTo ms n).length ≤ n := by
  unfold mostTo
  exact Nat.le_trans (List.length_filter_le _ _) (by simp)

theorem inB_self {a : Nat} (ha : a < 18446744073709551616) : inB a a = true := (inB_iff ha ha).2 fun _ _ h => h

/-- Bit i of the first k masks, as a mask. -/
def colK (ms : List Nat) (i : Nat) : Nat → Nat
  | 0 => 0
  | k + 1 => colK ms i k + if bitB (ms.getD k 0) i = true then 2 ^ k else 0
theorem colK_lt (ms : List Nat) (i k : Nat) : colK ms i k < 2 ^ k := by
  induction k with
  | zero => simp [colK]
  | succ k ih =>
    rw [colK, Nat.pow_succ]
    split <;> omega
theorem or_pow {c k : Nat} (h : c < 2 ^ k) : c ||| 2 ^ k = c + 2 ^ k := by
  have := Nat.two_pow_add_eq_or_of_lt h 1
  rw [Nat.mul_one] at this
  rw [Nat.or_comm, ← this, Nat.add_comm]
theorem or_pow2 {c k : Nat} (h : c < 2 ^ k) : (c + 2 ^ k) ||| 2 ^ k = c + 2 ^ k := by
  rw [← or_pow h, Nat.or_assoc, Nat.or_self]

/-- Whether a mask has no bits from n on. -/
def fitB (m n : Nat) : Bool := (List.range 64).all fun i => decide (i < n) || !bitB m i
theorem fitB_iff {m n : Nat} : fitB m n = true ↔ ∀ i, i < 64 → bitB m i = true → i < n := by
  unfold fitB
  rw [List.all_eq_true]
  constructor
  · intro h i hi hb
    have := h i (List.mem_range.2 hi)
    rw [hb] at this
    simpa using this
  · intro h i hi
    have := h i (List.mem_range.1 hi)
    cases hb : bitB m i
    · simp
    · simp [this hb]
/-- The error of masks turned. -/
def turnE (ms : List Nat) (n : Int) : Int :=
  if ms.length ≤ 4096 then (if 0 ≤ n ∧ n ≤ 64 ∧ ms.length ≤ 64 then (if (ms.all fun m => fitB m n.toNat) = true then 0 else 8) else 2) else 4
def colsN (ms : List Nat) (n k : Nat) : List Nat := (List.range n).map fun i => colK ms i k
def turnL (ms : List Nat) (n : Int) : List Nat := if turnE ms n = 0 then colsN ms n.toNat ms.length else []
theorem colsN_len (ms : List Nat) (n k : Nat) : (colsN ms n k).length = n := by simp [colsN]
/-- With those of the k-th mask's bits that are told. -/
def turnO (ms : List Nat) (n k : Nat) (pre : List Nat) : List Nat := (List.range n).map fun i => colK ms i k + if i ∈ pre then 2 ^ k else 0
theorem turnO_len (ms : List Nat) (n k : Nat) (pre : List Nat) : (turnO ms n k pre).length = n := by simp [turnO]
theorem turnO_nil (ms : List Nat) (n k : Nat) : turnO ms n k [] = colsN ms n k := by simp [turnO, colsN]
theorem turnO_get {ms : List Nat} {n k i : Nat} {pre : List Nat} (hi : i < n) : (turnO ms n k pre)[i]'(by rw [turnO_len]; exact hi) = colK ms i k + if i ∈ pre then 2 ^ k else 0 := by simp [turnO]
theorem turnO_or {ms : List Nat} {n k i : Nat} {pre : List Nat} (hi : i < n) : (turnO ms n k pre)[i]'(by rw [turnO_len]; exact hi) ||| 2 ^ k = colK ms i k + 2 ^ k := by
  rw [turnO_get hi]
  split
  · exact or_pow2 (colK_lt ms i k)
  · exact or_pow (colK_lt ms i k)
theorem turnO_set {ms : List Nat} {n k i : Nat} {pre : List Nat} (hi : i < n) : (turnO ms n k pre).set i (colK ms i k + 2 ^ k) = turnO ms n k (pre ++ [i]) := by
  apply List.ext_getElem (by simp [turnO])
  intro j h1 h2
  have hj : j < n := by rw [List.length_set, turnO_len] at h1; exact h1
  rw [List.getElem_set, turnO_get hj]
  by_cases h : i = j
  · subst h
    rw [if_pos rfl, turnO_get hj, if_pos (by simp)]
  · rw [if_neg h, turnO_get hj]
    have : (j ∈ pre ++ [i]) ↔ j ∈ pre := by
      rw [List.mem_append, List.mem_singleton]
      exact ⟨fun h3 => h3.elim id (fun e => absurd e.symm h), .inl⟩
    simp only [this]
theorem turnO_done {ms : List Nat} {n k : Nat} {pre : List Nat} (hn : n ≤ 64) (h : ∀ i, i < 64 → (i ∈ pre ↔ bitB (ms.getD k 0) i = true)) : turnO ms n k pre = colsN ms n (k + 1) := by
  unfold turnO colsN
  apply List.map_congr_left
  intro i hi
  rw [List.mem_range] at hi
  rw [colK]
  simp only [h i (by omega)]

/-- The bits of a mask, below k. -/
def bitsTo (m k : Nat) : List Nat := (List.range k).filter fun i => bitB m i
theorem bitsTo_succ (m k : Nat) : bitsTo m (k + 1) = bitsTo m k ++ if bitB m k = true then [k] else [] := by
  unfold bitsTo
  rw [List.range_succ, List.filter_append]
  cases h : bitB m k <;> simp [h]
theorem bitsTo_mem {m k i : Nat} : i ∈ bitsTo m k ↔ i < k ∧ bitB m i = true := by simp [bitsTo]
theorem bitsTo_len (m k : Nat) : (bitsTo m k).length ≤ k := by
  unfold bitsTo
  exact Nat.le_trans (List.length_filter_le _ _) (by simp)
theorem bitB_over {m i : Nat} (hm : m < 18446744073709551616) (hi : 64 ≤ i) : bitB m i = false := by
  rw [bitB_test]
  refine Nat.testBit_lt_two_pow (Nat.lt_of_lt_of_le hm ?_)
  rw [show (18446744073709551616 : Nat) = 2 ^ 64 by decide]
  exact Nat.pow_le_pow_right (by omega) hi
/-- No bits behind those where the rest is 0. -/
theorem bitsTo_end {m k : Nat} (hm : m < 18446744073709551616) (hk : k ≤ 64) (h : m / 2 ^ k = 0) : bitsTo m k = bitsTo m 64 := by
  have hz : ∀ j, bitsTo m (k + j) = bitsTo m k := by
    intro j
    induction j with
    | zero => rfl
    | succ j ih =>
      rw [← Nat.add_assoc, bitsTo_succ, ih]
      have : bitB m (k + j) = false := by
        unfold bitB
        rw [Nat.pow_add, ← Nat.div_div_eq_div_mul, h, Nat.zero_div]
        rfl
      rw [this]
      simp
  have := hz (64 - k)
  rw [show k + (64 - k) = 64 by omega] at this
  exact this.symm

end Go.Proofs.Ytjnjlgknmocdlaa

namespace Go.Proofs.Ytjnjlgknmocdlaa
open Go.RowKit
set_option linter.unusedVariables false
set_option linter.unusedSimpArgs false

/-- The j-th mask in memory. -/
theorem U64s.getD {w : World} {Z : Zone} {A : Option Addr} {c : Nat} {ms : List Nat} (h : U64s w Z A c ms) {j : Nat} (hj : j < ms.length) :
    ∃ b o, A = some ⟨b, o, none⟩ ∧ b < w.heap.size ∧ w.cell? ⟨b, o + j, none⟩ = some (.int .u64 (ms.getD j 0 : Int)) ∧ ms.getD j 0 < 18446744073709551616 := by
  obtain ⟨b, o, e, _, hb, _, hc⟩ := h.open (by omega)
  have e1 : ms.getD j 0 = ms[j] := by simp [List.getD, hj]
  rw [e1]
  exact ⟨b, o, e, hb, hc j hj, h.small.get hj⟩

set_option maxRecDepth 100000 in
set_option maxHeartbeats 1000000 in
theorem satchecked_any {w : World} {A : Option Addr} {c : Nat} {ms : List Nat} (hl : ms.length ≤ 9223372036854775807) :
    Calls Try.prog 65 #[.slice A ms.length c] w fun e w' => e = .returned (.int .i64 (errK ms)) ∧ w = w' := by
  unfold errK
  by_cases h : ms.length ≤ 4096
  · have hd : decide ((4096 : Int) < (ms.length : Int)) = false := decide_eq_false (by omega)
    rw [if_pos h]
    generalize ms.length = L at *
    go_enter Try.func65, Try.ntmps65
    go_wp2
    go_ret
    exact ⟨by first | rfl | trivial, by trivial⟩
  · have hd : decide ((4096 : Int) < (ms.length : Int)) = true := decide_eq_true (by omega)
    rw [if_neg h]
    generalize ms.length = L at *
    go_enter Try.func65, Try.ntmps65
    go_wp2
    go_ret
    exact ⟨by first | rfl | trivial, by trivial⟩

theorem nearB_no {ms : List Nat} {i k j : Nat} (hj : j < ms.length) (h : nearHit ms i k j = true) : nearB ms i k = false := by
  unfold nearB
  rw [← Bool.not_eq_true]
  intro h2
  have := List.all_eq_true.1 h2 j (List.mem_range.2 hj)
  rw [h] at this
  cases this
theorem nearB_yes {ms : List Nat} {i k : Nat} (h : ∀ j, j < ms.length → nearHit ms i k j = false) : nearB ms i k = true := by
  unfold nearB
  rw [List.all_eq_true]
  intro j hj
  rw [h j (List.mem_range.1 hj)]
  rfl
theorem nearHit_at {ms : List Nat} {i k j : Nat} (h : j = i ∨ j = k) : nearHit ms i k j = false := by
  unfold nearHit
  rcases h with rfl | rfl <;> simp
theorem nearHit_else {ms : List Nat} {i k j : Nat} (h : j ≠ i) (h2 : j ≠ k) : nearHit ms i k j = inB (ms.getD i 0 &&& ms.getD k 0) (ms.getD j 0) := by
  unfold nearHit
  rw [decide_eq_true h, decide_eq_true h2]
  rfl

set_option maxRecDepth 100000 in
set_option maxHeartbeats 2000000 in
theorem satnear_any {w : World} {Z : Zone} {v : Value} {ms : List Nat} {i k : Int} (h : IsU w Z v ms) (hi : -9223372036854775808 ≤ i ∧ i ≤ 9223372036854775807) (hk : -9223372036854775808 ≤ k ∧ k ≤ 9223372036854775807) :
    Calls Try.prog 19 #[v, .int .i64 i, .int .i64 k] w fun e w' => e = .returned (.tuple #[.bool (nearA ms i k), .int .i64 (nearE ms i k)]) ∧ Below w.heap.size w w' := by
  obtain ⟨A, c, rfl, hu⟩ := h
  have hlen := hu.len
  have hck := satchecked_any (w := w) (A := A) (c := c) hlen
  unfold errK at hck
  by_cases h0 : ms.length ≤ 4096
  · rw [if_pos h0] at hck
    have Hck := Lib.hid hck
    by_cases h1 : nearOk ms.length i k
    · have hE : nearE ms i k = 0 := by unfold nearE; rw [if_pos h0, if_pos h1]
      have hA : nearA ms i k = nearB ms i.toNat k.toNat := by unfold nearA; rw [hE]; rfl
      rw [hE, hA]
      obtain ⟨g1, g2, g3, g4, g5⟩ := h1
      clear hE hA hck
      obtain ⟨a, rfl⟩ : ∃ a : Nat, i = (a : Int) := ⟨i.toNat, by omega⟩
      obtain ⟨b, rfl⟩ : ∃ b : Nat, k = (b : Int) := ⟨k.toNat, by omega⟩
      have ga : a < ms.length := by omega
      have gb : b < ms.length := by omega
      have gab : ¬ a = b := by omega
      obtain ⟨bl, o, rfl, hbl, x1, y1⟩ := hu.getD ga
      obtain ⟨_, _, e, _, x2, y2⟩ := hu.getD gb
      cases e
      have m1 : decide (min (a : Int) (b : Int) < 0) = false := decide_eq_false (by omega)
      have m2 : decide ((ms.length : Int) ≤ max (a : Int) (b : Int)) = false := decide_eq_false (by omega)
      have m3 : ((a : Int) == (b : Int)) = false := beq_eq_false_iff_ne.2 (by omega)
      have he := u64_and_nat (ms.getD a 0) (ms.getD b 0) y1 y2
      have hz := Nat.lt_of_le_of_lt (Nat.and_le_left (n := ms.getD a 0) (m := ms.getD b 0)) y1
      have Hat : Hid (∀ j, j ≠ a → j ≠ b → nearHit ms a b j = inB (ms.getD a 0 &&& ms.getD b 0) (ms.getD j 0)) := fun j h1 h2 => nearHit_else h1 h2
      rw [Int.toNat_natCast, Int.toNat_natCast]
      generalize ms.getD a 0 &&& ms.getD b 0 = z at *
      generalize ms.getD a 0 = xa at *
      generalize ms.getD b 0 = xb at *
      clear g1 g2 g3 g4 g5 h0
      go_enter Try.func19, Try.ntmps19
      go_wp2_with fail
      refine Hck.out.mono ?_
      rintro e _ ⟨rfl, rfl⟩
      go_wp2
      go_quiet (fail)
      go_wp2
      go_loopw [45] (fun jv wr => ∃ j : Nat, j ≤ ms.length ∧ jv = .int .i64 (j : Int) ∧ Below w.heap.size w wr ∧ Hid (∀ q, q < j → nearHit ms a b q = false)) (fun jv _ => ms.length - (intOf jv).toNat)
      case atStart => exact ⟨0, Nat.zero_le _, rfl, below_drewN' (Below.refl _ _) _, Lib.hid (fun q h => absurd h (by omega))⟩
      case round =>
        obtain ⟨j, hj, rfl, hbel, hall⟩ := hrel
        by_cases hlt : j < ms.length
        · obtain ⟨_, _, e, _, x3, y3⟩ := hu.getD hlt
          cases e
          replace x3 := keepC hbel x3
          have hin := satin_any (w := wr) hz y3
          have Hat2 := Hat.out j
          have Hnext : Hid (nearHit ms a b j = false → ∀ q, q < j + 1 → nearHit ms a b q = false) := fun hx q hq => by
            rcases Nat.lt_or_ge q j with h3 | h3
            · exact hall.out q h3
            · obtain rfl : q = j := by omega
              exact hx
          have Hno : Hid (nearHit ms a b j = true → nearB ms a b = false) := fun hx => nearB_no hlt hx
          have Hsame : Hid (j = a ∨ j = b → nearHit ms a b j = false) := fun hx => nearHit_at hx
          generalize ms.getD j 0 = xj at *
          by_cases ea : j = a
          · have t1 : ((j : Int) != (a : Int)) = false := by simp [ea]
            have Ea := Lib.hid ea
            clear ea hin Hat2 x1 x2
            go_wp2
            go_roundw
            case rel => exact ⟨j + 1, by omega, by go_num, hbel, Lib.hid (Hnext.out (Hsame.out (.inl Ea.out)))⟩
            case measure => simp [intOf]; omega
          · have t1 : ((j : Int) != (a : Int)) = true := by simp; omega
            by_cases eb : j = b
            · have t2 : ((j : Int) != (b : Int)) = false := by simp [eb]
              have Eb := Lib.hid eb
              clear ea eb hin Hat2 x1 x2
              go_wp2
              go_roundw
              case rel => exact ⟨j + 1, by omega, by go_num, hbel, Lib.hid (Hnext.out (Hsame.out (.inr Eb.out)))⟩
              case measure => simp [intOf]; omega
            · have t2 : ((j : Int) != (b : Int)) = true := by simp; omega
              have h4 := Hat2 ea eb
              have hv : inB z xj = true ∨ inB z xj = false := by cases inB z xj <;> simp
              rcases hv with hv | hv
              · rw [hv] at hin h4
                have Hin := Lib.hid hin
                have H4 := Lib.hid h4
                clear hin h4 hv ea eb Hat2 x1 x2
                go_wp2_with fail
                refine Hin.out.mono ?_
                rintro e _ ⟨rfl, rfl⟩
                go_wp2
                go_ret2
                rw [Hno.out H4.out]
                exact ⟨rfl, hbel⟩
              · rw [hv] at hin h4
                have Hin := Lib.hid hin
                have H4 := Lib.hid h4
                clear hin h4 hv ea eb Hat2 x1 x2
                go_wp2_with fail
                refine Hin.out.mono ?_
                rintro e _ ⟨rfl, rfl⟩
                go_wp2
                go_roundw
                case rel => exact ⟨j + 1, by omega, by go_num, hbel, Lib.hid (Hnext.out H4.out)⟩
                case measure => simp [intOf]; omega
        · obtain rfl : j = ms.length := by omega
          have hB : nearB ms a b = true := nearB_yes hall.out
          have HB := Lib.hid hB
          clear hB x1 x2
          go_wp2
          go_ret2
          rw [HB.out]
          exact ⟨rfl, hbel⟩
    · have hE : nearE ms i k = 2 := by unfold nearE; rw [if_pos h0, if_neg h1]
      have hA : nearA ms i k = false := by unfold nearA; rw [hE]; rfl
      rw [hE, hA]
      have hcase : (min i k < 0) ∨ (¬ min i k < 0 ∧ (ms.length : Int) ≤ max i k) ∨ (¬ min i k < 0 ∧ ¬ (ms.length : Int) ≤ max i k ∧ i = k) := by
        unfold nearOk at h1
        omega
      clear hE hA hck h1 hu h0
      generalize ms.length = L at *
      rcases hcase with h2 | ⟨h2, h3⟩ | ⟨h2, h3, h4⟩
      · have m1 : decide (min i k < 0) = true := decide_eq_true h2
        clear h2
        go_enter Try.func19, Try.ntmps19
        go_wp2_with fail
        refine Hck.out.mono ?_
        rintro e _ ⟨rfl, rfl⟩
        go_wp2
        go_ret2
        exact ⟨rfl, Below.refl _ _⟩
      · have m1 : decide (min i k < 0) = false := decide_eq_false h2
        have m2 : decide ((L : Int) ≤ max i k) = true := decide_eq_true h3
        clear h2 h3
        go_enter Try.func19, Try.ntmps19
        go_wp2_with fail
        refine Hck.out.mono ?_
        rintro e _ ⟨rfl, rfl⟩
        go_wp2
        go_ret2
        exact ⟨rfl, Below.refl _ _⟩
      · have m1 : decide (min i k < 0) = false := decide_eq_false h2
        have m2 : decide ((L : Int) ≤ max i k) = false := decide_eq_false h3
        have m3 : (i == k) = true := beq_iff_eq.2 h4
        clear h2 h3 h4
        go_enter Try.func19, Try.ntmps19
        go_wp2_with fail
        refine Hck.out.mono ?_
        rintro e _ ⟨rfl, rfl⟩
        go_wp2
        go_ret2
        exact ⟨rfl, Below.refl _ _⟩
  · rw [if_neg h0] at hck
    have Hck := Lib.hid hck
    have hE : nearE ms i k = 4 := by unfold nearE; rw [if_neg h0]
    have hA : nearA ms i k = false := by unfold nearA; rw [hE]; rfl
    rw [hE, hA]
    clear hE hA hck hu h0
    generalize ms.length = L at *
    go_enter Try.func19, Try.ntmps19
    go_wp2_with fail
    refine Hck.out.mono ?_
    rintro e _ ⟨rfl, rfl⟩
    go_wp2
    go_ret2
    exact ⟨rfl, Below.refl _ _⟩

end Go.Proofs.Ytjnjlgknmocdlaa

namespace Go.Proofs.Ytjnjlgknmocdlaa
open Go.RowKit
set_option linter.unusedVariables false
set_option linter.unusedSimpArgs false

set_option maxRecDepth 100000 in
set_option maxHeartbeats 2000000 in
theorem refnear_any {w : World} {Z : Zone} {v : Value} {ms : List Nat} {i k : Int} (h : IsU w Z v ms) (hi : -9223372036854775808 ≤ i ∧ i ≤ 9223372036854775807) (hk : -9223372036854775808 ≤ k ∧ k ≤ 9223372036854775807) :
    Calls Try.prog 20 #[v, .int .i64 i, .int .i64 k] w fun e w' => e = .returned (.tuple #[.bool (nearA ms i k), .int .i64 (nearE ms i k)]) ∧ Below w.heap.size w w' := by
  obtain ⟨A, c, rfl, hu⟩ := h
  have hlen := hu.len
  by_cases h0 : ms.length ≤ 4096
  · have m0 : decide ((4096 : Int) < (ms.length : Int)) = false := decide_eq_false (by omega)
    by_cases h1 : nearOk ms.length i k
    · have hE : nearE ms i k = 0 := by unfold nearE; rw [if_pos h0, if_pos h1]
      have hA : nearA ms i k = nearB ms i.toNat k.toNat := by unfold nearA; rw [hE]; rfl
      rw [hE, hA]
      obtain ⟨g1, g2, g3, g4, g5⟩ := h1
      clear hE hA
      obtain ⟨a, rfl⟩ : ∃ a : Nat, i = (a : Int) := ⟨i.toNat, by omega⟩
      obtain ⟨b, rfl⟩ : ∃ b : Nat, k = (b : Int) := ⟨k.toNat, by omega⟩
      have ga : a < ms.length := by omega
      have gb : b < ms.length := by omega
      have gab : ¬ a = b := by omega
      obtain ⟨bl, o, rfl, hbl, x1, y1⟩ := hu.getD ga
      obtain ⟨_, _, e, _, x2, y2⟩ := hu.getD gb
      cases e
      have m3 : ((a : Int) == (b : Int)) = false := beq_eq_false_iff_ne.2 (by omega)
      have he := u64_and_nat (ms.getD a 0) (ms.getD b 0) y1 y2
      have hz := Nat.lt_of_le_of_lt (Nat.and_le_left (n := ms.getD a 0) (m := ms.getD b 0)) y1
      have Hat : Hid (∀ j, j ≠ a → j ≠ b → nearHit ms a b j = inB (ms.getD a 0 &&& ms.getD b 0) (ms.getD j 0)) := fun j h1 h2 => nearHit_else h1 h2
      rw [Int.toNat_natCast, Int.toNat_natCast]
      generalize ms.getD a 0 &&& ms.getD b 0 = z at *
      generalize ms.getD a 0 = xa at *
      generalize ms.getD b 0 = xb at *
      clear g1 g2 g3 g4 g5 h0
      go_enter Try.func20, Try.ntmps20
      go_wp2
      go_loopw [8] (fun jv wr => ∃ j : Nat, j ≤ ms.length ∧ jv = .int .i64 (j : Int) ∧ Below w.heap.size w wr ∧ Hid (∀ q, q < j → nearHit ms a b q = false)) (fun jv _ => ms.length - (intOf jv).toNat)
      case atStart => exact ⟨0, Nat.zero_le _, rfl, Below.refl _ _, Lib.hid (fun q h => absurd h (by omega))⟩
      case round =>
        obtain ⟨j, hj, rfl, hbel, hall⟩ := hrel
        by_cases hlt : j < ms.length
        · obtain ⟨_, _, e, _, x3, y3⟩ := hu.getD hlt
          cases e
          replace x1 := keepC hbel x1
          replace x2 := keepC hbel x2
          replace x3 := keepC hbel x3
          have hin := fun (w1 : World) => refin_any (w := w1) hz y3
          have Hat2 := Hat.out j
          have Hnext : Hid (nearHit ms a b j = false → ∀ q, q < j + 1 → nearHit ms a b q = false) := fun hx q hq => by
            rcases Nat.lt_or_ge q j with h3 | h3
            · exact hall.out q h3
            · obtain rfl : q = j := by omega
              exact hx
          have Hno : Hid (nearHit ms a b j = true → nearB ms a b = false) := fun hx => nearB_no hlt hx
          have Hsame : Hid (j = a ∨ j = b → nearHit ms a b j = false) := fun hx => nearHit_at hx
          generalize ms.getD j 0 = xj at *
          by_cases ea : j = a
          · have t1 : ((j : Int) != (a : Int)) = false := by simp [ea]
            have Ea := Lib.hid ea
            clear ea hin Hat2
            go_wp2
            go_quiet (fail)
            go_wp2
            go_roundw
            case rel => exact ⟨j + 1, by omega, by go_num, below_drewN' hbel _, Lib.hid (Hnext.out (Hsame.out (.inl Ea.out)))⟩
            case measure => simp [intOf]; omega
          · have t1 : ((j : Int) != (a : Int)) = true := by simp; omega
            by_cases eb : j = b
            · have t2 : ((j : Int) != (b : Int)) = false := by simp [eb]
              have Eb := Lib.hid eb
              clear ea eb hin Hat2
              go_wp2
              go_quiet (fail)
              go_wp2
              go_roundw
              case rel => exact ⟨j + 1, by omega, by go_num, below_drewN' hbel _, Lib.hid (Hnext.out (Hsame.out (.inr Eb.out)))⟩
              case measure => simp [intOf]; omega
            · have t2 : ((j : Int) != (b : Int)) = true := by simp; omega
              have h4 := Hat2 ea eb
              have hv : inB z xj = true ∨ inB z xj = false := by cases inB z xj <;> simp
              rcases hv with hv | hv
              · rw [hv] at hin h4
                have Hin := Lib.hid hin
                have H4 := Lib.hid h4
                clear hin h4 hv ea eb Hat2
                go_wp2
                go_quiet ((go_at_call 69; exact Calls.quiet_of_same ((Hin.out _).mono fun e w' h => ⟨h.1, h.2.symm⟩)))
                go_wp2
                go_ret2
                rw [Hno.out H4.out]
                exact ⟨rfl, below_drewN' hbel _⟩
              · rw [hv] at hin h4
                have Hin := Lib.hid hin
                have H4 := Lib.hid h4
                clear hin h4 hv ea eb Hat2
                go_wp2
                go_quiet ((go_at_call 69; exact Calls.quiet_of_same ((Hin.out _).mono fun e w' h => ⟨h.1, h.2.symm⟩)))
                go_wp2
                go_roundw
                case rel => exact ⟨j + 1, by omega, by go_num, below_drewN' hbel _, Lib.hid (Hnext.out H4.out)⟩
                case measure => simp [intOf]; omega
        · obtain rfl : j = ms.length := by omega
          have hB : nearB ms a b = true := nearB_yes hall.out
          have HB := Lib.hid hB
          clear hB x1 x2
          go_wp2
          go_ret2
          rw [HB.out]
          exact ⟨rfl, hbel⟩
    · have hE : nearE ms i k = 2 := by unfold nearE; rw [if_pos h0, if_neg h1]
      have hA : nearA ms i k = false := by unfold nearA; rw [hE]; rfl
      rw [hE, hA]
      have hcase : (i < 0) ∨ (¬ i < 0 ∧ k < 0) ∨ (¬ i < 0 ∧ ¬ k < 0 ∧ (ms.length : Int) ≤ i) ∨ (¬ i < 0 ∧ ¬ k < 0 ∧ ¬ (ms.length : Int) ≤ i ∧ (ms.length : Int) ≤ k) ∨ (¬ i < 0 ∧ ¬ k < 0 ∧ ¬ (ms.length : Int) ≤ i ∧ ¬ (ms.length : Int) ≤ k ∧ i = k) := by
        unfold nearOk at h1
        omega
      clear hE hA h1 hu h0
      generalize ms.length = L at *
      rcases hcase with h2 | ⟨h2, h3⟩ | ⟨h2, h3, h4⟩ | ⟨h2, h3, h4, h5⟩ | ⟨h2, h3, h4, h5, h6⟩
      · have m1 : decide (i < 0) = true := decide_eq_true h2
        clear h2
        go_enter Try.func20, Try.ntmps20
        go_wp2
        go_ret2
        exact ⟨rfl, Below.refl _ _⟩
      · have m1 : decide (i < 0) = false := decide_eq_false h2
        have m2 : decide (k < 0) = true := decide_eq_true h3
        clear h2 h3
        go_enter Try.func20, Try.ntmps20
        go_wp2
        go_ret2
        exact ⟨rfl, Below.refl _ _⟩
      · have m1 : decide (i < 0) = false := decide_eq_false h2
        have m2 : decide (k < 0) = false := decide_eq_false h3
        have m3 : decide ((L : Int) ≤ i) = true := decide_eq_true h4
        clear h2 h3 h4
        go_enter Try.func20, Try.ntmps20
        go_wp2
        go_ret2
        exact ⟨rfl, Below.refl _ _⟩
      · have m1 : decide (i < 0) = false := decide_eq_false h2
        have m2 : decide (k < 0) = false := decide_eq_false h3
        have m3 : decide ((L : Int) ≤ i) = false := decide_eq_false h4
        have m4 : decide ((L : Int) ≤ k) = true := decide_eq_true h5
        clear h2 h3 h4 h5
        go_enter Try.func20, Try.ntmps20
        go_wp2
        go_ret2
        exact ⟨rfl, Below.refl _ _⟩
      · have m1 : decide (i < 0) = false := decide_eq_false h2
        have m2 : decide (k < 0) = false := decide_eq_false h3
        have m3 : decide ((L : Int) ≤ i) = false := decide_eq_false h4
        have m4 : decide ((L : Int) ≤ k) = false := decide_eq_false h5
        have m5 : (i == k) = true := beq_iff_eq.2 h6
        clear h2 h3 h4 h5 h6
        go_enter Try.func20, Try.ntmps20
        go_wp2
        go_ret2
        exact ⟨rfl, Below.refl _ _⟩
  · have hE : nearE ms i k = 4 := by unfold nearE; rw [if_neg h0]
    have hA : nearA ms i k = false := by unfold nearA; rw [hE]; rfl
    rw [hE, hA]
    have m0 : decide ((4096 : Int) < (ms.length : Int)) = true := decide_eq_true (by omega)
    clear hE hA hu h0
    generalize ms.length = L at *
    go_enter Try.func20, Try.ntmps20
    go_wp2
    go_ret2
    exact ⟨rfl, Below.refl _ _⟩

end Go.Proofs.Ytjnjlgknmocdlaa

namespace Go.Proofs.Ytjnjlgknmocdlaa
open Go.RowKit Go.Shelf
set_option linter.unusedVariables false
set_option linter.unusedSimpArgs false
attribute [local go_sem] Oper.semAt_some

/-- A bit that a mask has. -/
abbrev BitOf (m : Nat) := { i : Nat // i < 64 ∧ bitB m i = true }
abbrev encBit (m : Nat) (x : BitOf m) : Array Value := #[.int .i64 (x.1 : Int)]
/-- Nothing but block b has turned. -/
def Only (b : Nat) (X Y : World) : Prop := Y.heap.size = X.heap.size ∧ (∀ k, k ≠ b → Y.heap[k]? = X.heap[k]?) ∧ Y.os = X.os ∧ Y.tape = X.tape ∧ Y.output = X.output
theorem Only.below {b B : Nat} {w X Y : World} (h : Only b X Y) (hb : Below B w X) (hB : B ≤ b) : Below B w Y :=
  ⟨h.2.2.1.trans hb.os, h.2.2.2.1.trans hb.tape, h.2.2.2.2.trans hb.output, by rw [h.1]; exact hb.size, fun k hk => (h.2.1 k (by omega)).trans (hb.block k hk)⟩
/-- Block b lies as it lay. -/
def SameAt (b : Nat) (X Y : World) : Prop := Y.heap[b]? = X.heap[b]?

theorem div_pow_succ (m k : Nat) : m / 2 ^ k / 2 = m / 2 ^ (k + 1) := by rw [Nat.div_div_eq_div_mul, Nat.pow_succ]

set_option maxRecDepth 100000 in
set_option maxHeartbeats 2000000 in
theorem bits_any (m : Nat) (w : World) : Calls Try.prog 66 #[.int .u64 (m : Int)] w fun e w' => e = .returned (.func (.func 117) #[] #[.pointer (some ⟨w.heap.size, 0, none⟩)]) ∧ w' = w.alloc (.cells #[.int .u64 (m : Int)] 34) := by
  go_enter Try.func66, Try.ntmps66
  go_wp2
  go_ret
  exact ⟨rfl, rfl⟩

set_option maxRecDepth 100000 in
set_option maxHeartbeats 4000000 in
theorem bits1_in (n : Nat) (hn : 1 ≤ n) (l Ba m : Nat) (hm : m < 18446744073709551616) (J Jx : List (BitOf m) → World → Prop) (W : World)
    (hJ : ∀ pre X Y, J pre X → Only Ba X Y → J pre Y)
    (hY : ∀ pre x W1, J pre W1 → YieldAt Fence.wide (n - 1) Try.prog l (encBit m x) W1 fun e W' => (e = .returned (.bool true) ∧ J (pre ++ [x]) W' ∧ SameAt Ba W1 W') ∨ (e = .returned (.bool false) ∧ Jx (pre ++ [x]) W'))
    (hb : Boxed W Ba 34 (.int .u64 (m : Int))) (h0 : J [] W) :
    CallsIn Fence.wide n Try.prog 117 #[.func (.yield l) #[] #[], .pointer (some ⟨Ba, 0, none⟩)] W fun e W' => (∃ v, e = .returned v) ∧
      ((∃ ys : List (BitOf m), ys.map (·.1) = bitsTo m 64 ∧ J ys W') ∨ (∃ pre : List (BitOf m), Jx pre W')) := by
  refine callsIn_of_wp Try.func117 rfl trivial ?_ rfl
  simp only [Try.ntmps117, List.size_toArray, List.length_cons, List.length_nil, Nat.reduceAdd, Nat.reduceSub, Array.replicate_succ, Array.replicate_zero, List.push_toArray, List.append_toArray, List.nil_append, List.cons_append]
  gi_wp2
  gi_loopw [3] (fun i wr => ∃ (k : Nat) (pre : List (BitOf m)), k ≤ 64 ∧ i = .int .i64 (k : Int) ∧ Hid (pre.map (·.1) = bitsTo m k) ∧ J pre wr ∧ Boxed wr Ba 34 (.int .u64 ((m / 2 ^ k : Nat) : Int))) (fun i _ => 64 - (intOf i).toNat)
  case atStart => exact ⟨0, [], by omega, rfl, Lib.hid rfl, h0, by simpa using hb⟩
  case round =>
    obtain ⟨k, pre, hk, rfl, hpre, hJs, hbx⟩ := hrel
    have hc := hbx.cell
    have hf := hbx.frozen
    have hz := div_pow_succ m k
    have hend : Hid (m / 2 ^ k = 0 → pre.map (·.1) = bitsTo m 64) := fun h => by rw [hpre.out]; exact bitsTo_end hm hk h
    have hk64 : Hid (m / 2 ^ k ≠ 0 → k < 64) := fun h => by
      refine Classical.byContradiction fun hn => h ?_
      obtain rfl : k = 64 := by omega
      exact Nat.div_eq_of_lt (by rw [show (2 : Nat) ^ 64 = 18446744073709551616 by decide]; exact hm)
    have hlt : m / 2 ^ k < 18446744073709551616 := Nat.lt_of_le_of_lt (Nat.div_le_self _ _) hm
    have hbit : (bits .and .u64 ((m / 2 ^ k : Nat) : Int) 1 == 1) = bitB m k := by
      have h1 := u64_and_nat (m / 2 ^ k) 1 hlt (by omega)
      rw [show (1 : Int) = ((1 : Nat) : Int) from rfl, h1, Nat.and_one_is_mod]
      unfold bitB
      generalize m / 2 ^ k % 2 = z
      by_cases h : z = 1
      · subst h; rfl
      · rw [decide_eq_false h]
        exact beq_eq_false_iff_ne.2 (by omega)
    have hsucc := bitsTo_succ m k
    have hdiv : ((m / 2 ^ k : Nat) : Int) / 2 = ((m / 2 ^ (k + 1) : Nat) : Int) := by rw [← hz]; omega
    obtain ⟨z2, hz2⟩ : ∃ z2, z2 = m / 2 ^ (k + 1) := ⟨_, rfl⟩
    rw [← hz2] at hdiv
    have HZ2 := Lib.hid hz2
    clear hz h0 hb hz2
    obtain ⟨z, hz⟩ : ∃ z, z = m / 2 ^ k := ⟨_, rfl⟩
    rw [← hz] at hc hend hk64 hlt hbit hdiv hbx
    by_cases h : z = 0
    · have t0 : ((z : Int) != 0) = false := by simp [h]
      have he := hend.out h
      have HE := Lib.hid he
      clear he h hz hbit hdiv hend hk64 hsucc
      gi_wp2
      go_end0
      exact ⟨⟨_, rfl⟩, .inl ⟨_, HE.out, hJs⟩⟩
    · have t0 : ((z : Int) != 0) = true := by simp; omega
      have hk2 := hk64.out h
      have hcase : bitB m k = true ∨ bitB m k = false := by cases bitB m k <;> simp
      rcases hcase with hcs | hcs
      · rw [hcs] at hbit hsucc
        obtain ⟨x, hx⟩ : ∃ x : BitOf m, x.1 = k := ⟨⟨k, hk2, hcs⟩, rfl⟩
        obtain ⟨fn, tmps, assign, body, hy, hR⟩ := hY pre x wr hJs
        unfold encBit at hy
        rw [hx] at hy
        have Hs := Lib.hid (show (pre ++ [x]).map (·.1) = bitsTo m (k + 1) by rw [List.map_append, hpre.out, hsucc, List.map_singleton, hx]; rfl)
        clear hx
        clear hsucc hend hk64 h hcs hz hJs hY
        gi_wp2
        refine hR.mono ?_
        rintro e W3 (⟨rfl, hJ3, hk3⟩ | ⟨rfl, hJx3⟩)
        · have hb3 : Boxed W3 Ba 34 (.int .u64 (z : Int)) := hk3.trans hbx
          have hc3 := hb3.cell
          have hf3 := hb3.frozen
          clear hbx hc hf hk3
          have hdr := (show W3.drew.cell? ⟨Ba, 0, none⟩ = _ from hc3)
          have hfr := (show W3.drew.frozen? ⟨Ba, 0, none⟩ = _ from hf3)
          have hfin : Boxed (W3.setCell ⟨Ba, 0, none⟩ (.int .u64 (z2 : Int))).drew Ba 34 (.int .u64 (z2 : Int)) := (show Boxed W3 Ba 34 (.int .u64 (z : Int)) from hb3).set _
          have HF := Lib.hid hfin
          have hon : Only Ba W3 (W3.setCell ⟨Ba, 0, none⟩ (.int .u64 (z2 : Int))).drew := ⟨by simp [World.setCell], fun q hq => Below.heap_setCell _ _ _ _ hq, rfl, rfl, rfl⟩
          have hjf := hJ _ _ _ hJ3 hon
          have HJF := Lib.hid hjf
          clear hfin hon hjf hb3 hJ3
          skip
          gi_wp2
          refine wpIn_wide.2 ?_
          go_region
          go_wp2
          go_roundw
          case rel => exact ⟨k + 1, _, by omega, by go_num, Hs, HJF.out, by rw [← HZ2.out]; exact HF.out⟩
          case measure => simp [intOf]; omega
        · gi_wp2
          refine bodyPost_ret (results_none rfl _ _ _) rfl ?_
          exact ⟨⟨_, rfl⟩, .inr ⟨_, hJx3⟩⟩
      · rw [hcs] at hbit hsucc
        have Hs := Lib.hid (show pre.map (·.1) = bitsTo m (k + 1) by rw [hpre.out, hsucc]; simp)
        clear hsucc hend hk64 h hcs hz hY
        have hdr := (show wr.drew.cell? ⟨Ba, 0, none⟩ = _ from hc)
        have hfr := (show wr.drew.frozen? ⟨Ba, 0, none⟩ = _ from hf)
        have hfin : Boxed (wr.setCell ⟨Ba, 0, none⟩ (.int .u64 (z2 : Int))).drew Ba 34 (.int .u64 (z2 : Int)) := (show Boxed wr Ba 34 (.int .u64 (z : Int)) from hbx).set _
        have HF := Lib.hid hfin
        have hon : Only Ba wr (wr.setCell ⟨Ba, 0, none⟩ (.int .u64 (z2 : Int))).drew := ⟨by simp [World.setCell], fun q hq => Below.heap_setCell _ _ _ _ hq, rfl, rfl, rfl⟩
        have hjf := hJ _ _ _ hJs hon
        have HJF := Lib.hid hjf
        clear hfin hon hjf hbx hJs
        skip
        gi_wp2
        refine ⟨fun _ h => (by cases h), ?_⟩
        gi_wp2
        refine wpIn_wide.2 ?_
        go_region
        go_wp2
        go_roundw
        case rel => exact ⟨k + 1, _, by omega, by go_num, Hs, HJF.out, by rw [← HZ2.out]; exact HF.out⟩
        case measure => simp [intOf]; omega

end Go.Proofs.Ytjnjlgknmocdlaa

namespace Go.Proofs.Ytjnjlgknmocdlaa
open Go.RowKit
set_option linter.unusedVariables false
set_option linter.unusedSimpArgs false

set_option maxHeartbeats 1000000 in
theorem r5may_any {w : World} {Z : Zone} {a : Value} {s : Bool} {l : List Nat} (ha : IsI w Z a s l) :
    Calls Try.prog 61 #[a] w fun e w' => e = .returned (.bool (okI s l)) ∧ Below w.heap.size w w' := by
  obtain ⟨_, rfl, A, c, rfl, hu⟩ := ha
  have hlen := hu.len
  have hb0 : Below w.heap.size w (w.alloc (.cells #[.bool s, .slice A l.length c] 25)) := (Below.refl _ w).alloc (Nat.le_refl _) _
  obtain ⟨q0, q1, _, _, _⟩ := Box.new w (.bool s) (.slice A l.length c) 25
  have hm := may_any (a := .slice A l.length c) ⟨A, c, rfl, hu.below hb0⟩
  have Hb0 := Lib.hid hb0
  cases hg : good l with
  | false =>
    have e1 : okI s l = false := by simp [okI, hg]
    rw [hg] at hm
    rw [e1]
    have Hm := Lib.hid hm
    clear hm hu hg e1 hb0
    go_enter Try.func61, Try.ntmps61
    go_wp2_with fail
    refine Hm.out.mono ?_
    rintro e w1 ⟨rfl, rfl⟩
    go_wp2
    go_ret
    exact ⟨rfl, Hb0.out⟩
  | true =>
    rw [hg] at hm
    have Hm := Lib.hid hm
    cases s with
    | false =>
      have e1 : okI false l = true := by simp [okI, hg]
      rw [e1]
      clear hm hu hg e1 hb0
      go_enter Try.func61, Try.ntmps61
      go_wp2_with fail
      refine Hm.out.mono ?_
      rintro e w1 ⟨rfl, rfl⟩
      go_wp2
      go_ret
      exact ⟨rfl, Hb0.out⟩
    | true =>
      by_cases h0 : l.length = 0
      · have e1 : okI true l = false := by simp [okI, h0]
        rw [e1]
        rw [h0] at Hm Hb0 q0 q1 ⊢
        clear hm hu hg e1 hb0
        go_enter Try.func61, Try.ntmps61
        go_wp2_with fail
        refine Hm.out.mono ?_
        rintro e w1 ⟨rfl, rfl⟩
        go_wp2
        go_ret
        exact ⟨rfl, Hb0.out⟩
      · have e1 : okI true l = true := by simp [okI, hg, h0]
        rw [e1]
        have hd : decide ((0 : Int) < (l.length : Int)) = true := decide_eq_true (by omega)
        have hd2 : 0 < l.length := by omega
        clear hm hu hg e1 hb0
        go_enter Try.func61, Try.ntmps61
        go_wp2_with fail
        refine Hm.out.mono ?_
        rintro e w1 ⟨rfl, rfl⟩
        go_wp2
        go_ret
        exact ⟨rfl, Hb0.out⟩

set_option maxHeartbeats 1000000 in
theorem r5signed_good {w : World} {Z : Zone} {a : Value} {x : Int} (ha : IsZ w Z a x) :
    Calls Try.prog 74 #[a] w fun e w' => e = .returned (.int .i64 (sgn x)) ∧ Below w.heap.size w w' := by
  obtain ⟨_, rfl, A, c, rfl, hu⟩ := ha
  have hlen := hu.len
  have hb0 : Below w.heap.size w (w.alloc (.cells #[.bool (decide (x < 0)), .slice A (limbs x.natAbs).length c] 25)) := (Below.refl _ w).alloc (Nat.le_refl _) _
  obtain ⟨q0, q1, _, _, _⟩ := Box.new w (.bool (decide (x < 0))) (.slice A (limbs x.natAbs).length c) 25
  have hpos : (0 < (limbs x.natAbs).length) ↔ x ≠ 0 := by rw [len_pos]; omega
  clear hu
  rcases (show x = 0 ∨ x < 0 ∨ 0 < x by omega) with h | h | h
  · have e1 : sgn x = 0 := by simp [sgn, h]
    have hl0 : (limbs x.natAbs).length = 0 := by omega
    rw [e1, hl0] at *
    have hd : decide (x < 0) = false := decide_eq_false (by omega)
    rw [hd] at *
    clear hpos h e1 hl0 hd hlen
    go_enter Try.func74, Try.ntmps74
    go_wp2
    go_ret
    exact ⟨rfl, by go_grown⟩
  · have e1 : sgn x = -1 := by simp [sgn]; omega
    have hl0 : (((limbs x.natAbs).length : Int) == 0) = false := beq_eq_false_iff_ne.2 (by omega)
    have hd : decide (x < 0) = true := decide_eq_true h
    rw [e1]
    rw [hd] at *
    clear hpos h e1 hd hlen
    generalize (limbs x.natAbs).length = L at *
    go_enter Try.func74, Try.ntmps74
    go_wp2
    go_ret
    exact ⟨rfl, by go_grown⟩
  · have e1 : sgn x = 1 := by simp [sgn]; omega
    have hl0 : (((limbs x.natAbs).length : Int) == 0) = false := beq_eq_false_iff_ne.2 (by omega)
    have hd : decide (x < 0) = false := decide_eq_false (by omega)
    rw [e1]
    rw [hd] at *
    clear hpos h e1 hd hlen
    generalize (limbs x.natAbs).length = L at *
    go_enter Try.func74, Try.ntmps74
    go_wp2
    go_ret
    exact ⟨rfl, by go_grown⟩

end Go.Proofs.Ytjnjlgknmocdlaa

namespace Go.Proofs.Ytjnjlgknmocdlaa
open Go.RowKit
set_option linter.unusedVariables false
set_option linter.unusedSimpArgs false

set_option maxHeartbeats 800000 in
theorem equal_dec {w : World} {Z Y : Zone} {a b : Value} {la lb : List Nat} (ha : IsU w Z a la) (hb : IsU w Y b lb) :
    Calls Try.prog 139 #[a, b] w fun e w' => e = .returned (.bool (decide (la = lb))) ∧ Below w.heap.size w w' := by
  obtain ⟨A, ca, rfl, ha⟩ := ha
  obtain ⟨A', cb, rfl, hb⟩ := hb
  have h1 := ha.len
  have h2 := hb.len
  by_cases hl : la.length = lb.length
  · have hne : ((la.length : Int) != (lb.length : Int)) = false := by simp [hl]
    have Hl := Lib.hid hl
    have hl1 : la.length ≤ lb.length := by omega
    have hl2 : lb.length ≤ la.length := by omega
    clear hl
    go_enter Try.func139, Try.ntmps139
    go_wp2
    go_loopw [13] (fun i wr => ∃ k : Nat, k ≤ la.length ∧ i = .int .i64 k ∧ la.take k = lb.take k ∧ Below w.heap.size w wr) (fun i _ => la.length - (intOf i).toNat)
    case atStart => exact ⟨0, Nat.zero_le _, rfl, by simp, Below.refl _ _⟩
    case round =>
      obtain ⟨k, hk, rfl, htk, hbel⟩ := hrel
      have Htk := Lib.hid htk
      clear htk
      by_cases hlt : k < la.length
      · have hlt' : k < lb.length := by omega
        obtain ⟨b1, o1, rfl, _, hb1, _, hc1⟩ := ha.open (by omega)
        obtain ⟨b2, o2, rfl, _, hb2, _, hc2⟩ := hb.open (by omega)
        have x1 := (hbel.cell (p := ⟨b1, o1 + k, none⟩) hb1).trans (hc1 k hlt)
        have x2 := (hbel.cell (p := ⟨b2, o2 + k, none⟩) hb2).trans (hc2 k hlt')
        have hs1 : la.take (k + 1) = la.take k ++ [la[k]] := by rw [List.take_succ_eq_append_getElem hlt]
        have hs2 : lb.take (k + 1) = lb.take k ++ [lb[k]] := by rw [List.take_succ_eq_append_getElem hlt']
        have Hs1 := Lib.hid hs1
        have Hs2 := Lib.hid hs2
        clear hs1 hs2 hc1 hc2
        by_cases he : la[k] = lb[k]
        · have hx : ((la[k] : Int) != (lb[k] : Int)) = false := by simp [he]
          have He := Lib.hid he
          clear he
          go_wp2
          go_quiet (fail)
          go_wp2
          go_roundw
          case rel => exact ⟨k + 1, by omega, by go_num, by rw [Hs1.out, Hs2.out, Htk.out, He.out], below_drewN' hbel _⟩
          case measure => simp [intOf]; omega
        · have hx : ((la[k] : Int) != (lb[k] : Int)) = true := by simp; omega
          have hn : la ≠ lb := fun e => he (by subst e; rfl)
          have Hn := Lib.hid (decide_eq_false hn)
          clear he hn
          go_wp2
          go_quiet (fail)
          go_wp2
          go_ret
          rw [Hn.out]
          exact ⟨rfl, below_drewN' hbel _⟩
      · obtain rfl : k = la.length := by omega
        go_wp2
        go_ret
        have e := Htk.out
        rw [List.take_length, Hl.out, List.take_length] at e
        rw [decide_eq_true e]
        exact ⟨rfl, hbel⟩
  · have hne : ((la.length : Int) != (lb.length : Int)) = true := by simp; omega
    have hn : la ≠ lb := fun e => hl (by rw [e])
    have Hn := Lib.hid (decide_eq_false hn)
    clear hl hn
    go_enter Try.func139, Try.ntmps139
    go_wp2
    go_ret
    rw [Hn.out]
    exact ⟨rfl, Below.refl _ _⟩

set_option maxHeartbeats 1000000 in
theorem wsame_any {w : World} {Z Y : Zone} {a b : Value} {s t : Bool} {l k : List Nat} (ha : IsI w Z a s l) (hb : IsI w Y b t k) :
    Calls Try.prog 104 #[a, b] w fun e w' => e = .returned (.bool (decide (s = t ∧ l = k))) ∧ Below w.heap.size w w' := by
  obtain ⟨_, rfl, A, ca, rfl, hu⟩ := ha
  obtain ⟨_, rfl, B, cb, rfl, hv⟩ := hb
  have ua : IsU w Z (.slice A l.length ca) l := ⟨A, ca, rfl, hu⟩
  have ub : IsU w Y (.slice B k.length cb) k := ⟨B, cb, rfl, hv⟩
  obtain ⟨bA, bB, hB0⟩ := boxes2 w (.bool s) (.slice A l.length ca) (.bool t) (.slice B k.length cb) 25
  obtain ⟨a0, a1, _, _, _⟩ := bA
  obtain ⟨b0, b1, _, _, _⟩ := bB
  have HB := Lib.hid hB0
  clear hu hv
  by_cases hst : s = t
  · subst hst
    have hsame := equal_dec (ua.below hB0) (ub.below hB0)
    have e : decide (s = s ∧ l = k) = decide (l = k) := by simp
    rw [e]
    have Hs := Lib.hid hsame
    clear hsame ua ub hB0
    cases s
    all_goals
      go_enter Try.func104, Try.ntmps104
      go_wp2_with fail
      refine Hs.out.mono ?_
      rintro e w1 ⟨rfl, hb1⟩
      go_wp2
      go_ret
      exact ⟨rfl, from_ HB.out hb1⟩
  · have e : decide (s = t ∧ l = k) = false := by simp [hst]
    rw [e]
    clear ua ub hB0
    rcases (show (s = true ∧ t = false) ∨ (s = false ∧ t = true) by cases s <;> cases t <;> simp_all) with ⟨rfl, rfl⟩ | ⟨rfl, rfl⟩
    all_goals
      go_enter Try.func104, Try.ntmps104
      go_wp2
      go_ret
      exact ⟨rfl, HB.out⟩

end Go.Proofs.Ytjnjlgknmocdlaa

namespace Go.Proofs.Ytjnjlgknmocdlaa
open Go.RowKit
set_option linter.unusedVariables false
set_option linter.unusedSimpArgs false

def intE (s : Bool) (l : List Nat) : Int := if okI s l = true then (if l.length ≤ 1 ∧ (val l < 9223372036854775808 ∨ (s = true ∧ val l = 9223372036854775808)) then 0 else 4) else 8
def intX (s : Bool) (l : List Nat) : Int := if intE s l = 0 then zof s l else 0

theorem int_bad {s : Bool} {l : List Nat} (h : okI s l = false) : intE s l = 8 ∧ intX s l = 0 := by
  have e : intE s l = 8 := by simp [intE, h]
  exact ⟨e, by unfold intX; rw [e]; rfl⟩
theorem int_many {s : Bool} {l : List Nat} (h : okI s l = true) (h2 : ¬ (l.length ≤ 1 ∧ (val l < 9223372036854775808 ∨ (s = true ∧ val l = 9223372036854775808)))) : intE s l = 4 ∧ intX s l = 0 := by
  have e : intE s l = 4 := by unfold intE; rw [if_pos h, if_neg h2]
  exact ⟨e, by unfold intX; rw [e]; rfl⟩
theorem int_fits {s : Bool} {l : List Nat} (h : okI s l = true) (h2 : l.length ≤ 1 ∧ (val l < 9223372036854775808 ∨ (s = true ∧ val l = 9223372036854775808))) : intE s l = 0 ∧ intX s l = zof s l := by
  have e : intE s l = 0 := by unfold intE; rw [if_pos h, if_pos h2]
  exact ⟨e, by unfold intX; rw [e]; rfl⟩

theorem val_few {l : List Nat} (h : l.length ≤ 1) : l[0]?.getD 0 = val l := by
  match l, h with
  | [], _ => rfl
  | [x], _ => simp [val]

theorem okI_good {s : Bool} {l : List Nat} (h : okI s l = true) : good l = true := by
  unfold okI at h
  rw [Bool.and_eq_true] at h
  exact h.1

theorem size_64 {n : Nat} (h1 : 9223372036854775808 ≤ n) (h2 : n < 18446744073709551616) : size n = 64 := size_eq (s := 63) (by omega) (by omega) (by omega)
theorem size_big {n : Nat} (h1 : 18446744073709551616 ≤ n) : 64 < size n := by
  rcases Nat.lt_or_ge 64 (size n) with h | h
  · exact h
  · have h3 := lt_size n
    have h4 : 2 ^ size n ≤ 2 ^ 64 := Nat.pow_le_pow_right (by omega) h
    have h5 : (2 : Nat) ^ 64 = 18446744073709551616 := rfl
    omega
theorem size_small {n : Nat} (h1 : n < 9223372036854775808) : size n < 64 := by
  have : size n ≤ 63 := size_le_of (by have h5 : (2 : Nat) ^ 63 = 9223372036854775808 := rfl; omega)
  omega

end Go.Proofs.Ytjnjlgknmocdlaa
