/-
  Rows of whole numbers that come of ints, the program's and the document's, and whether two are the same. No conditions but bounds on lengths.
  Rows of whole numbers that come of ints, the program's and the document's, and whether two are the same. No conditions but bounds on lengths.
  The document's own answer, layer 5: May, Check, two, Signed, Sign. No conditions.
-/
import Derived.Test.YtjnjlgknmocdlaaJWhC
import Derived.Test.YtjnjlgknmocdlaaJRefI
import Derived.Test.YtjnjlgknmocdlaaJRefE
import Derived.Test.YtjnjlgknmocdlaaJWhF
import Derived.Test.YtjnjlgknmocdlaaJRefA
namespace Go.Proofs.Ytjnjlgknmocdlaa
open Go.RowKit
set_option linter.unusedVariables false
set_option linter.unusedSimpArgs false

set_option maxHeartbeats 1000000 in
theorem r05of_any {w : World} {n : Int} (hn : -9223372036854775808 ≤ n ∧ n ≤ 9223372036854775807) :
    Calls Try.prog 100 #[.int .i64 n] w fun e w' => ∃ v, e = .returned v ∧ IsZ w' (new w.heap.size) v n ∧ Below w.heap.size w w' := by
  obtain ⟨m, hm⟩ : ∃ m, m = n.natAbs := ⟨_, rfl⟩
  have hmW : m < 18446744073709551616 := by omega
  have hb0 : Below w.heap.size w (w.alloc (.cells #[.bool false, .slice none 0 0] 25)) := (Below.refl _ w).alloc (Nat.le_refl _) _
  have box0 := Box.new w (.bool false) (.slice none 0 0) 25
  unfold IsZ
  rw [← hm]
  by_cases hneg : n < 0
  · obtain ⟨k, hk⟩ : ∃ k : Nat, (k : Int) = n + 18446744073709551616 := ⟨(n + 18446744073709551616).toNat, by omega⟩
    have e1 : IntKind.u64.wrap n = (k : Int) := by rw [IntKind.wrap_u64]; omega
    have e2 : IntKind.u64.wrap (-(k : Int)) = (m : Int) := by rw [IntKind.wrap_u64]; omega
    have e3 : IntKind.u64.wrap (0 - (k : Int)) = (m : Int) := by rw [IntKind.wrap_u64]; omega
    rw [decide_eq_true (p := n < 0) hneg]
    clear hm hk
    go_enter Try.func100, Try.ntmps100
    go_wp2_with fail
    refine (rof_any hmW).mono ?_
    rintro e w1 ⟨u, rfl, ⟨Au, cu, rfl, hu'⟩, hb1⟩
    have hu : IsU w1 (new (w.alloc (.cells #[.bool false, .slice none 0 0] 25)).heap.size) (.slice Au (limbs m).length cu) (limbs m) := ⟨Au, cu, rfl, hu'⟩
    have box1 := box0.below hb1
    have hB := from_ hb0 hb1
    have hP := box1.put hB (Nat.le_refl _) (.bool true) (.slice Au (limbs m).length cu)
    have hu2 := hP.keep (by simp) hu
    have Hu := Lib.hid hu2
    have HP := Lib.hid hP
    obtain ⟨q0, q1, f0, f1, _⟩ := box1
    clear hu hu' hu2 hP hb0 e1 e2 e3
    go_wp2
    refine bodyPost_ret (res_int rfl _ w.heap.size rfl HP.out.c0 HP.out.c1) rfl ?_
    exact ⟨_, rfl, ⟨_, rfl, Hu.out⟩, HP.out.bel⟩
  · have e1 : IntKind.u64.wrap n = (m : Int) := by rw [IntKind.wrap_u64]; omega
    have hd : decide (n < 0) = false := decide_eq_false hneg
    rw [hd]
    clear hm hneg
    go_enter Try.func100, Try.ntmps100
    go_wp2_with fail
    refine (rof_any hmW).mono ?_
    rintro e w1 ⟨u, rfl, ⟨Au, cu, rfl, hu'⟩, hb1⟩
    have hu : IsU w1 (new (w.alloc (.cells #[.bool false, .slice none 0 0] 25)).heap.size) (.slice Au (limbs m).length cu) (limbs m) := ⟨Au, cu, rfl, hu'⟩
    have box1 := box0.below hb1
    have hB := from_ hb0 hb1
    have hP := box1.put hB (Nat.le_refl _) (.bool false) (.slice Au (limbs m).length cu)
    have hu2 := hP.keep (by simp) hu
    have Hu := Lib.hid hu2
    have HP := Lib.hid hP
    obtain ⟨q0, q1, f0, f1, _⟩ := box1
    clear hu hu' hu2 hP hb0 e1
    go_wp2
    refine bodyPost_ret (res_int rfl _ w.heap.size rfl HP.out.c0 HP.out.c1) rfl ?_
    exact ⟨_, rfl, ⟨_, rfl, Hu.out⟩, HP.out.bel⟩

theorem boxes2 (w : World) (a0 a1 b0 b1 : Value) (t : TypeId) :
    Box ((w.alloc (.cells #[a0, a1] t)).alloc (.cells #[b0, b1] t)) w.heap.size a0 a1 ∧
    Box ((w.alloc (.cells #[a0, a1] t)).alloc (.cells #[b0, b1] t)) (w.heap.size + 1) b0 b1 ∧
    Below w.heap.size w ((w.alloc (.cells #[a0, a1] t)).alloc (.cells #[b0, b1] t)) := by
  have h1 := (Box.new w a0 a1 t).alloc (.cells #[b0, b1] t)
  have h2 := Box.new (w.alloc (.cells #[a0, a1] t)) b0 b1 t
  rw [show (w.alloc (.cells #[a0, a1] t)).heap.size = w.heap.size + 1 by simp] at h2
  exact ⟨h1, h2, ((Below.refl _ w).alloc (Nat.le_refl _) _).alloc (by simp) _⟩

set_option maxHeartbeats 1000000 in
theorem same5_any {w : World} {Z Y : Zone} {a b : Value} {s t : Bool} {l k : List Nat} (ha : IsI w Z a s l) (hb : IsI w Y b t k) :
    Calls Try.prog 16 #[a, b] w fun e w' => e = .returned (.bool (decide (s = t ∧ l = k))) ∧ Below w.heap.size w w' := by
  obtain ⟨_, rfl, A, ca, rfl, hu⟩ := ha
  obtain ⟨_, rfl, B, cb, rfl, hv⟩ := hb
  have ua : IsU w Z (.slice A l.length ca) l := ⟨A, ca, rfl, hu⟩
  have ub : IsU w Y (.slice B k.length cb) k := ⟨B, cb, rfl, hv⟩
  obtain ⟨bA, bB, hB0⟩ := boxes2 w (.bool s) (.slice A l.length ca) (.bool t) (.slice B k.length cb) 25
  obtain ⟨a0, a1, _, _, _⟩ := bA
  obtain ⟨b0, b1, _, _, _⟩ := bB
  have HB := Lib.hid hB0
  clear hu hv
  by_cases hst : s = t
  · subst hst
    have hsame := same_dec (ua.below hB0) (ub.below hB0)
    have e : decide (s = s ∧ l = k) = decide (l = k) := by simp
    rw [e]
    have Hs := Lib.hid hsame
    clear hsame ua ub hB0
    cases s
    all_goals
      go_enter Try.func16, Try.ntmps16
      go_wp2_with fail
      refine Hs.out.mono ?_
      rintro e w1 ⟨rfl, hb1⟩
      go_wp2
      go_ret
      exact ⟨rfl, from_ HB.out hb1⟩
  · have e : decide (s = t ∧ l = k) = false := by simp [hst]
    rw [e]
    clear ua ub hB0
    rcases (show (s = true ∧ t = false) ∨ (s = false ∧ t = true) by cases s <;> cases t <;> simp_all) with ⟨rfl, rfl⟩ | ⟨rfl, rfl⟩
    all_goals
      go_enter Try.func16, Try.ntmps16
      go_wp2
      go_ret
      exact ⟨rfl, HB.out⟩

end Go.Proofs.Ytjnjlgknmocdlaa

namespace Go.Proofs.Ytjnjlgknmocdlaa
open Go.RowKit
set_option linter.unusedVariables false
set_option linter.unusedSimpArgs false

theorem own_below {w w' : World} {base : Nat} {e : TypeId} {size : Nat} {v : Value} {n : Nat} {xs : List Value} (h : w.ownsRow base e size v n xs) (hb : Below w.heap.size w w') : w'.ownsRow base e size v n xs := by
  refine ⟨h.1, ?_⟩
  rcases h.2 with h1 | ⟨g, cap, cur, e1, hg, hh, hr⟩
  · exact .inl h1
  · refine .inr ⟨g, cap, cur, e1, hg, ?_, hr⟩
    rw [hb.block g]
    · exact hh
    · by_cases hlt : g < w.heap.size
      · exact hlt
      · rw [Array.getElem?_eq_none (by omega)] at hh
        cases hh

/-- A row of ints in memory. -/
def IsInts (w : World) (Z : Zone) (v : Value) (zs : List Int) : Prop := ∃ A c, v = .slice A zs.length c ∧ zs.length ≤ c ∧ c ≤ 9223372036854775807 ∧ (∀ z ∈ zs, -9223372036854775808 ≤ z ∧ z ≤ 9223372036854775807) ∧
  (0 < zs.length → ∃ b o, A = some ⟨b, o, none⟩ ∧ b < w.heap.size ∧ ∀ j (hj : j < zs.length), w.cell? ⟨b, o + j, none⟩ = some (.int .i64 zs[j]))

/-- A row of whole numbers that come of ints. -/
def IsVs (w : World) (v : Value) (zs : List Int) : Prop := ∃ A c, v = .slice A zs.length c ∧ zs.length ≤ c ∧ c ≤ 9223372036854775807 ∧
  (0 < zs.length → ∃ g, A = some ⟨g, 0, none⟩ ∧ g < w.heap.size ∧ ∀ j (hj : j < zs.length), ∃ u, w.cell? ⟨g, j * 2, none⟩ = some (.bool (decide (zs[j] < 0))) ∧ w.cell? ⟨g, j * 2 + 1, none⟩ = some u ∧ IsU w old u (limbs zs[j].natAbs))

theorem IsVs.below {w w' : World} {v : Value} {zs : List Int} (h : IsVs w v zs) (hb : Below w.heap.size w w') : IsVs w' v zs := by
  obtain ⟨A, c, e, h1, h2, h3⟩ := h
  refine ⟨A, c, e, h1, h2, fun h0 => ?_⟩
  obtain ⟨g, e1, hg, hc⟩ := h3 h0
  refine ⟨g, e1, Nat.lt_of_lt_of_le hg hb.size, fun j hj => ?_⟩
  obtain ⟨u, c0, c1, hu⟩ := hc j hj
  exact ⟨u, keepC hb c0, keepC hb c1, hu.below hb⟩

/-- All blocks but one. -/
def but (g : Nat) : Zone := ⟨fun b => b ≠ g, False⟩
theorem new_le_but {B g : Nat} (h : g < B) : (new B).le (but g) := ⟨fun b hb => by have : B ≤ b := hb; show b ≠ g; omega, fun h => h.elim⟩

/-- The cells of a row in which the first k numbers stand. -/
def CellsI (w : World) (g : Nat) (xs : List Value) (k : Nat) (zs : List Int) : Prop :=
  ∀ j (hj : j < zs.length), j < k → ∃ u, xs[j * 2]? = some (.bool (decide (zs[j] < 0))) ∧ xs[j * 2 + 1]? = some u ∧ IsU w (but g) u (limbs zs[j].natAbs)

theorem CellsI.keep {w w' : World} {g : Nat} {xs : List Value} {k : Nat} {zs : List Int} (h : CellsI w g xs k zs) (hk : ∀ b, b ≠ g → b < w.heap.size → w'.heap[b]? = w.heap[b]?) : CellsI w' g xs k zs := fun j hj hjk => by
  obtain ⟨u, c0, c1, hu⟩ := h j hj hjk
  exact ⟨u, c0, c1, hu.keep fun b hb hl => hk b hb hl⟩

theorem CellsI.put {w w' : World} {g : Nat} {xs : List Value} {k : Nat} {zs : List Int} {u : Value} (h : CellsI w g xs k zs) (hl : xs.length = zs.length * 2) (hk : k < zs.length)
    (hu : IsU w (but g) u (limbs (zs[k]).natAbs)) (hw : ∀ b, b ≠ g → b < w.heap.size → w'.heap[b]? = w.heap[b]?) :
    CellsI w' g ((xs.set (k * 2) (.bool (decide (zs[k] < 0)))).set (k * 2 + 1) u) (k + 1) zs := fun j hj hjk => by
  rcases Nat.lt_or_ge j k with h1 | h1
  · obtain ⟨u', c0, c1, hu'⟩ := h j hj h1
    refine ⟨u', ?_, ?_, hu'.keep fun b hb hl => hw b hb hl⟩
    · rw [List.getElem?_set_ne (by omega), List.getElem?_set_ne (by omega)]
      exact c0
    · rw [List.getElem?_set_ne (by omega), List.getElem?_set_ne (by omega)]
      exact c1
  · obtain rfl : j = k := by omega
    refine ⟨u, ?_, ?_, hu.keep fun b hb hl => hw b hb hl⟩
    · rw [List.getElem?_set_ne (by omega), List.getElem?_set_self (by omega)]
    · rw [List.getElem?_set_self (by rw [List.length_set]; omega)]

theorem infoI : (Try.prog.info? 25).map (fun i => (i.zero, i.size, i.bytes)) = some (some (.agg #[.bool false, .slice none 0 0]), 2, 32) := by kernel_rfl

set_option maxRecDepth 100000 in
set_option maxHeartbeats 2000000 in
theorem vof_any {w : World} {Z : Zone} {a : Value} {zs : List Int} (ha : IsInts w Z a zs) (hl : zs.length ≤ 1000) :
    Calls Try.prog 77 #[a] w fun e w' => ∃ v, e = .returned v ∧ IsVs w' v zs ∧ Below w.heap.size w w' := by
  obtain ⟨A, c, rfl, hc1, hc2, hz, ha⟩ := ha
  obtain ⟨i0, hi, hz0, hz1, hz2⟩ := info_parts infoI
  go_enter Try.func77, Try.ntmps77
  go_wp2_with (at_make; go_loud (refine wpList_make_full _ rfl _ _ 53 rfl w.heap.size 25 i0 (.agg #[.bool false, .slice none 0 0]) 2 Try.underlying53 hi hz0 hz1 .i64 .i64 _ _ zs.length rfl rfl rfl rfl (by rw [hz2]; omega) (by simp only [maxLen]; omega) (Nat.le_refl _) ?_); intro w1 hown hgrow)
  have hb1 : Below w.heap.size w w1 := (Below.refl _ w).grown hgrow (Nat.le_refl _) (fun k h => by cases h)
  generalize (madeCells (Value.agg #[.bool false, .slice none 0 0]).cells (zs.length * 2)).toList = xs0 at hown
  clear hgrow
  go_wp2
  go_loopw [11] (fun i wr => ∃ (k : Nat) (xs : List Value), k ≤ zs.length ∧ i = .int .i64 (k : Int) ∧ wr.ownsRow w.heap.size 25 2 (.slice (some ⟨w.heap.size, 0, none⟩) zs.length zs.length) zs.length xs ∧ Hid (CellsI wr w.heap.size xs k zs) ∧ Below w.heap.size w wr ∧ w.heap.size < wr.heap.size) (fun i _ => zs.length - (intOf i).toNat)
  case atStart => exact ⟨0, xs0, Nat.zero_le _, rfl, hown, fun j hj h => absurd h (by omega), hb1, (hown.lt _ rfl).2⟩
  case round =>
    obtain ⟨k, xs, hk, rfl, hown, hcells, hbel, hgt⟩ := hrel
    by_cases hlt : k < zs.length
    · obtain ⟨b, o, rfl, hbb, hc⟩ := ha (by omega)
      have hx := (hbel.cell (p := ⟨b, o + k, none⟩) hbb).trans (hc k hlt)
      have hzk := hz zs[k] (List.getElem_mem hlt)
      have hxl := hown.1
      clear hc hz
      have hput := fun (w2 w' : World) (u : Value) (h1 : CellsI w2 w.heap.size xs k zs) h2 h3 => h1.put (w' := w') (u := u) hxl hlt h2 h3
      have Hput := Lib.hid hput
      clear hput
      generalize zs[k] = n at *
      go_wp2_with fail
      refine (wof_any hzk).mono ?_
      rintro e w2 ⟨_, rfl, ⟨_, rfl, Au, cu, rfl, hu'⟩, hb2⟩
      have hu : IsU w2 _ (.slice Au (limbs n.natAbs).length cu) (limbs n.natAbs) := ⟨Au, cu, rfl, hu'⟩
      have hub := hu.mono (new_le_but hgt)
      have hown2 := own_below hown hb2
      have hcells2 := hcells.out.keep (w' := w2) fun b _ hl => hb2.block b hl
      have hP := Hput.out w2 ((w2.setCell ⟨w.heap.size, k * 2, none⟩ (.bool (decide (n < 0)))).setCell ⟨w.heap.size, k * 2 + 1, none⟩ (.slice Au (limbs n.natAbs).length cu)) (.slice Au (limbs n.natAbs).length cu) hcells2 hub (fun b hb _ => by
        rw [Below.heap_setCell _ _ _ _ hb, Below.heap_setCell _ _ _ _ hb])
      have c0 := hown2.cellAt (k * 2) (by omega)
      have c1 := hown2.cellAt (k * 2 + 1) (by omega)
      rw [List.getElem?_eq_getElem (by omega)] at c0 c1
      have f0 := hown2.frozenAt (k * 2)
      have f1 := hown2.frozenAt (k * 2 + 1)
      have o1 := (hown2.stored (k * 2) (.bool (decide (n < 0)))).1
      have o2 := (o1.stored (k * 2 + 1) (.slice Au (limbs n.natAbs).length cu)).1
      have hB2 := from_ hbel hb2
      have hB3 := (hB2.setCell (p := ⟨w.heap.size, k * 2, none⟩) (Nat.le_refl _) (.bool (decide (n < 0)))).setCell (p := ⟨w.heap.size, k * 2 + 1, none⟩) (Nat.le_refl _) (.slice Au (limbs n.natAbs).length cu)
      have hgt3 : w.heap.size < ((w2.setCell ⟨w.heap.size, k * 2, none⟩ (.bool (decide (n < 0)))).setCell ⟨w.heap.size, k * 2 + 1, none⟩ (.slice Au (limbs n.natAbs).length cu)).heap.size := by
        have := hb2.size
        simp [World.setCell]
        omega
      have HP := Lib.hid hP
      have HO := Lib.hid o2
      have HB := Lib.hid hB3
      clear hP o1 o2 hu hu' hub hown2 hcells2 hcells hown hB2 hB3
      generalize xs[k * 2] = x0 at *
      generalize xs[k * 2 + 1] = x1 at *
      go_wp2
      go_roundw
      case rel => exact ⟨k + 1, _, by omega, by go_num, HO.out, HP, HB.out, hgt3⟩
      case measure => simp [intOf]; omega
    · obtain rfl : k = zs.length := by omega
      have hfin : IsVs wr (.slice (some ⟨w.heap.size, 0, none⟩) zs.length zs.length) zs := by
        refine ⟨_, _, rfl, Nat.le_refl _, by omega, fun _ => ⟨_, rfl, hgt, fun j hj => ?_⟩⟩
        obtain ⟨u, c0, c1, hu⟩ := hcells.out j hj hj
        exact ⟨u, by rw [hown.cellAt (j * 2) (by omega)]; exact c0, by rw [hown.cellAt (j * 2 + 1) (by omega)]; exact c1, hu.old⟩
      have Hfin := Lib.hid hfin
      clear hfin hcells hown
      go_wp2
      go_ret
      exact ⟨_, rfl, Hfin.out, hbel⟩

/-- The words' block is one of words. -/
def Typ (w : World) (B : Nat) (u : Value) : Prop := ∀ a n c, u = .slice (some a) n c → B ≤ a.block ∧ ∃ cs fr, w.heap[a.block]? = some (.cells cs 34 fr)
theorem Typ.keep {w w' : World} {B g : Nat} {u : Value} (h : Typ w B u) (hg : ∃ cs fr, w.heap[g]? = some (.cells cs 25 fr)) (hk : ∀ b, b ≠ g → b < w.heap.size → w'.heap[b]? = w.heap[b]?) : Typ w' B u := fun a n c e => by
  obtain ⟨h0, cs, fr, h1⟩ := h a n c e
  refine ⟨h0, cs, fr, ?_⟩
  rw [hk]
  · exact h1
  · intro e2
    obtain ⟨cs2, fr2, h2⟩ := hg
    rw [← e2, h1] at h2
    injection h2 with h2
    injection h2 with _ h3
    exact absurd h3 (by decide)
  · by_cases hlt : a.block < w.heap.size
    · exact hlt
    · rw [Array.getElem?_eq_none (by omega)] at h1
      cases h1
theorem Typ.below {w w' : World} {B : Nat} {u : Value} (h : Typ w B u) (hb : Below w.heap.size w w') : Typ w' B u := fun a n c e => by
  obtain ⟨h0, cs, fr, h1⟩ := h a n c e
  refine ⟨h0, cs, fr, ?_⟩
  rw [hb.block]
  · exact h1
  · by_cases hlt : a.block < w.heap.size
    · exact hlt
    · rw [Array.getElem?_eq_none (by omega)] at h1
      cases h1
theorem Typ.apart {w : World} {B g : Nat} {Z : Zone} {u : Value} {l : List Nat} (h : Typ w B u) (hg : ∃ cs fr, w.heap[g]? = some (.cells cs 25 fr)) (hu : IsU w Z u l) : IsU w (but g) u l := by
  obtain ⟨A, c, rfl, hs, hcap, hmax, hnul, hrow⟩ := hu
  refine ⟨A, c, rfl, hs, hcap, hmax, hnul, fun h0 => ?_⟩
  obtain ⟨b, o, e, _, _, hc⟩ := hrow h0
  refine ⟨b, o, e, fun e2 => ?_, fun h => h.elim, hc⟩
  obtain ⟨_, cs, fr, h1⟩ := h ⟨b, o, none⟩ _ _ (by rw [e])
  obtain ⟨cs2, fr2, h2⟩ := hg
  subst e2
  rw [h2] at h1
  injection h1 with h1
  injection h1 with _ h3
  exact absurd h3 (by decide)

set_option maxHeartbeats 800000 in
theorem rof_typ {w : World} {x : Nat} (hx : x < 18446744073709551616) :
    Calls Try.prog 137 #[.int .u64 (x : Int)] w fun e w' => ∃ v, e = .returned v ∧ IsN w' (new w.heap.size) v x ∧ Typ w' w.heap.size v ∧ Below w.heap.size w w' := by
  by_cases h0 : x = 0
  · subst h0
    go_enter Try.func137, Try.ntmps137
    go_wp2
    go_ret
    exact ⟨_, rfl, IsN.zero _ _, (fun a n c e => by cases e), Below.refl _ _⟩
  · have hb0 : Below w.heap.size w (w.alloc (.cells #[.int .u64 (x : Int)] 34)) := (Below.refl _ w).alloc (Nat.le_refl _) _
    have hu : U64s (w.alloc (.cells #[.int .u64 (x : Int)] 34)) (new w.heap.size) (some ⟨w.heap.size, 0, none⟩) 1 [x] :=
      ⟨Small.cons hx Small.nil, by simp, by omega, (fun h => by cases h), fun _ => ⟨w.heap.size, 0, rfl, Nat.le_refl _, fun _ j => by simp, fun j u hu => by
        match j, hu with
        | 0, hu => simp at hu; subst hu; simp⟩⟩
    have ht : Typ (w.alloc (.cells #[.int .u64 (x : Int)] 34)) w.heap.size (.slice (some ⟨w.heap.size, 0, none⟩) 1 1) := fun a n c e => by
      injection e with e _ _
      injection e with e
      subst e
      refine ⟨Nat.le_refl _, #[.int .u64 (x : Int)], (0, 0), ?_⟩
      show (w.heap.push _)[w.heap.size]? = _
      simp
    have hd : ((x : Int) == 0) = false := beq_eq_false_iff_ne.2 (by omega)
    have Hu := Lib.hid hu
    have Ht := Lib.hid ht
    have Hlim := Lib.hid (limbs_one (by omega) hx)
    have Hb0 := Lib.hid hb0
    clear hu hb0 h0 ht
    go_enter Try.func137, Try.ntmps137
    go_wp2
    go_ret
    exact ⟨_, rfl, by unfold IsN; rw [Hlim.out]; exact ⟨_, _, rfl, Hu.out⟩, Ht.out, Hb0.out⟩

theorem box_obj {w w1 : World} {a b : Value} (hb : Below (w.alloc (.cells #[a, b] 25)).heap.size (w.alloc (.cells #[a, b] 25)) w1) : ∃ cs fr, w1.heap[w.heap.size]? = some (.cells cs 25 fr) := by
  refine ⟨#[a, b], (0, 0), ?_⟩
  rw [hb.block _ (by simp)]
  show (w.heap.push _)[w.heap.size]? = _
  simp

set_option maxHeartbeats 1000000 in
theorem r05of_typ {w : World} {n : Int} (hn : -9223372036854775808 ≤ n ∧ n ≤ 9223372036854775807) :
    Calls Try.prog 100 #[.int .i64 n] w fun e w' => ∃ s u, e = .returned (.agg #[.bool s, u]) ∧ s = decide (n < 0) ∧ IsU w' (new w.heap.size) u (limbs n.natAbs) ∧ Typ w' (w.heap.size + 1) u ∧ Below w.heap.size w w' := by
  obtain ⟨m, hm⟩ : ∃ m, m = n.natAbs := ⟨_, rfl⟩
  have hmW : m < 18446744073709551616 := by omega
  have hb0 : Below w.heap.size w (w.alloc (.cells #[.bool false, .slice none 0 0] 25)) := (Below.refl _ w).alloc (Nat.le_refl _) _
  have box0 := Box.new w (.bool false) (.slice none 0 0) 25
  rw [← hm]
  by_cases hneg : n < 0
  · obtain ⟨k, hk⟩ : ∃ k : Nat, (k : Int) = n + 18446744073709551616 := ⟨(n + 18446744073709551616).toNat, by omega⟩
    have e1 : IntKind.u64.wrap n = (k : Int) := by rw [IntKind.wrap_u64]; omega
    have e2 : IntKind.u64.wrap (-(k : Int)) = (m : Int) := by rw [IntKind.wrap_u64]; omega
    have e3 : IntKind.u64.wrap (0 - (k : Int)) = (m : Int) := by rw [IntKind.wrap_u64]; omega
    rw [decide_eq_true (p := n < 0) hneg]
    clear hm hk
    go_enter Try.func100, Try.ntmps100
    go_wp2_with fail
    refine (rof_typ hmW).mono ?_
    rintro e w1 ⟨u, rfl, ⟨Au, cu, rfl, hu'⟩, ht, hb1⟩
    have hu : IsU w1 (new (w.alloc (.cells #[.bool false, .slice none 0 0] 25)).heap.size) (.slice Au (limbs m).length cu) (limbs m) := ⟨Au, cu, rfl, hu'⟩
    have box1 := box0.below hb1
    have hB := from_ hb0 hb1
    have hP := box1.put hB (Nat.le_refl _) (.bool true) (.slice Au (limbs m).length cu)
    have hu2 := hP.keep (by simp) hu
    have Hu := Lib.hid hu2
    have ht2 := ht.keep (w' := (w1.setCell ⟨w.heap.size, 0, none⟩ (.bool true)).setCell ⟨w.heap.size, 1, none⟩ (.slice Au (limbs m).length cu)) (box_obj hb1) (fun b hb _ => by rw [Below.heap_setCell _ _ _ _ hb, Below.heap_setCell _ _ _ _ hb])
    have Ht := Lib.hid ht2
    clear ht ht2
    have HP := Lib.hid hP
    obtain ⟨q0, q1, f0, f1, _⟩ := box1
    clear hu hu' hu2 hP hb0 e1 e2 e3
    go_wp2
    refine bodyPost_ret (res_int rfl _ w.heap.size rfl HP.out.c0 HP.out.c1) rfl ?_
    exact ⟨_, _, rfl, rfl, Hu.out, by have := Ht.out; simpa using this, HP.out.bel⟩
  · have e1 : IntKind.u64.wrap n = (m : Int) := by rw [IntKind.wrap_u64]; omega
    have hd : decide (n < 0) = false := decide_eq_false hneg
    rw [hd]
    clear hm hneg
    go_enter Try.func100, Try.ntmps100
    go_wp2_with fail
    refine (rof_typ hmW).mono ?_
    rintro e w1 ⟨u, rfl, ⟨Au, cu, rfl, hu'⟩, ht, hb1⟩
    have hu : IsU w1 (new (w.alloc (.cells #[.bool false, .slice none 0 0] 25)).heap.size) (.slice Au (limbs m).length cu) (limbs m) := ⟨Au, cu, rfl, hu'⟩
    have box1 := box0.below hb1
    have hB := from_ hb0 hb1
    have hP := box1.put hB (Nat.le_refl _) (.bool false) (.slice Au (limbs m).length cu)
    have hu2 := hP.keep (by simp) hu
    have Hu := Lib.hid hu2
    have ht2 := ht.keep (w' := (w1.setCell ⟨w.heap.size, 0, none⟩ (.bool false)).setCell ⟨w.heap.size, 1, none⟩ (.slice Au (limbs m).length cu)) (box_obj hb1) (fun b hb _ => by rw [Below.heap_setCell _ _ _ _ hb, Below.heap_setCell _ _ _ _ hb])
    have Ht := Lib.hid ht2
    clear ht ht2
    have HP := Lib.hid hP
    obtain ⟨q0, q1, f0, f1, _⟩ := box1
    clear hu hu' hu2 hP hb0 e1
    go_wp2
    refine bodyPost_ret (res_int rfl _ w.heap.size rfl HP.out.c0 HP.out.c1) rfl ?_
    exact ⟨_, _, rfl, rfl, Hu.out, by have := Ht.out; simpa using this, HP.out.bel⟩

end Go.Proofs.Ytjnjlgknmocdlaa

namespace Go.Proofs.Ytjnjlgknmocdlaa
open Go.RowKit
set_option linter.unusedVariables false
set_option linter.unusedSimpArgs false

set_option maxHeartbeats 1000000 in
theorem r5may_any {w : World} {Z : Zone} {a : Value} {s : Bool} {l : List Nat} (ha : IsI w Z a s l) :
    Calls Try.prog 61 #[a] w fun e w' => e = .returned (.bool (okI s l)) ∧ Below w.heap.size w w' := by
  obtain ⟨_, rfl, A, c, rfl, hu⟩ := ha
  have hlen := hu.len
  have hb0 : Below w.heap.size w (w.alloc (.cells #[.bool s, .slice A l.length c] 25)) := (Below.refl _ w).alloc (Nat.le_refl _) _
  obtain ⟨q0, q1, _, _, _⟩ := Box.new w (.bool s) (.slice A l.length c) 25
  have hm := may_any (a := .slice A l.length c) ⟨A, c, rfl, hu.below hb0⟩
  have Hb0 := Lib.hid hb0
  cases hg : good l with
  | false =>
    have e1 : okI s l = false := by simp [okI, hg]
    rw [hg] at hm
    rw [e1]
    have Hm := Lib.hid hm
    clear hm hu hg e1 hb0
    go_enter Try.func61, Try.ntmps61
    go_wp2_with fail
    refine Hm.out.mono ?_
    rintro e w1 ⟨rfl, rfl⟩
    go_wp2
    go_ret
    exact ⟨rfl, Hb0.out⟩
  | true =>
    rw [hg] at hm
    have Hm := Lib.hid hm
    cases s with
    | false =>
      have e1 : okI false l = true := by simp [okI, hg]
      rw [e1]
      clear hm hu hg e1 hb0
      go_enter Try.func61, Try.ntmps61
      go_wp2_with fail
      refine Hm.out.mono ?_
      rintro e w1 ⟨rfl, rfl⟩
      go_wp2
      go_ret
      exact ⟨rfl, Hb0.out⟩
    | true =>
      by_cases h0 : l.length = 0
      · have e1 : okI true l = false := by simp [okI, h0]
        rw [e1]
        rw [h0] at Hm Hb0 q0 q1 ⊢
        clear hm hu hg e1 hb0
        go_enter Try.func61, Try.ntmps61
        go_wp2_with fail
        refine Hm.out.mono ?_
        rintro e w1 ⟨rfl, rfl⟩
        go_wp2
        go_ret
        exact ⟨rfl, Hb0.out⟩
      · have e1 : okI true l = true := by simp [okI, hg, h0]
        rw [e1]
        have hd : decide ((0 : Int) < (l.length : Int)) = true := decide_eq_true (by omega)
        have hd2 : 0 < l.length := by omega
        clear hm hu hg e1 hb0
        go_enter Try.func61, Try.ntmps61
        go_wp2_with fail
        refine Hm.out.mono ?_
        rintro e w1 ⟨rfl, rfl⟩
        go_wp2
        go_ret
        exact ⟨rfl, Hb0.out⟩

set_option maxHeartbeats 1000000 in
theorem r5signed_good {w : World} {Z : Zone} {a : Value} {x : Int} (ha : IsZ w Z a x) :
    Calls Try.prog 74 #[a] w fun e w' => e = .returned (.int .i64 (sgn x)) ∧ Below w.heap.size w w' := by
  obtain ⟨_, rfl, A, c, rfl, hu⟩ := ha
  have hlen := hu.len
  have hb0 : Below w.heap.size w (w.alloc (.cells #[.bool (decide (x < 0)), .slice A (limbs x.natAbs).length c] 25)) := (Below.refl _ w).alloc (Nat.le_refl _) _
  obtain ⟨q0, q1, _, _, _⟩ := Box.new w (.bool (decide (x < 0))) (.slice A (limbs x.natAbs).length c) 25
  have hpos : (0 < (limbs x.natAbs).length) ↔ x ≠ 0 := by rw [len_pos]; omega
  clear hu
  rcases (show x = 0 ∨ x < 0 ∨ 0 < x by omega) with h | h | h
  · have e1 : sgn x = 0 := by simp [sgn, h]
    have hl0 : (limbs x.natAbs).length = 0 := by omega
    rw [e1, hl0] at *
    have hd : decide (x < 0) = false := decide_eq_false (by omega)
    rw [hd] at *
    clear hpos h e1 hl0 hd hlen
    go_enter Try.func74, Try.ntmps74
    go_wp2
    go_ret
    exact ⟨rfl, by go_grown⟩
  · have e1 : sgn x = -1 := by simp [sgn]; omega
    have hl0 : (((limbs x.natAbs).length : Int) == 0) = false := beq_eq_false_iff_ne.2 (by omega)
    have hd : decide (x < 0) = true := decide_eq_true h
    rw [e1]
    rw [hd] at *
    clear hpos h e1 hd hlen
    generalize (limbs x.natAbs).length = L at *
    go_enter Try.func74, Try.ntmps74
    go_wp2
    go_ret
    exact ⟨rfl, by go_grown⟩
  · have e1 : sgn x = 1 := by simp [sgn]; omega
    have hl0 : (((limbs x.natAbs).length : Int) == 0) = false := beq_eq_false_iff_ne.2 (by omega)
    have hd : decide (x < 0) = false := decide_eq_false (by omega)
    rw [e1]
    rw [hd] at *
    clear hpos h e1 hd hlen
    generalize (limbs x.natAbs).length = L at *
    go_enter Try.func74, Try.ntmps74
    go_wp2
    go_ret
    exact ⟨rfl, by go_grown⟩

end Go.Proofs.Ytjnjlgknmocdlaa
