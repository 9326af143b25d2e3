/-
  Rows of whole numbers that come of ints, the program's and the document's, and whether two are the same. No conditions but bounds on lengths.
  Rows of whole numbers that come of ints, the program's and the document's, and whether two are the same. No conditions but bounds on lengths.
  The document's own answer, layer 5: May, Check, two, Signed, Sign. No conditions.
  slices.Equal of words, whole.Same. No conditions.
  Whole numbers: Int, at any sign and words. No conditions.
-/
import Derived.Test.YtennphechbngcaaMWhC
import Derived.Test.YtennphechbngcaaMRefI
import Derived.Test.YtennphechbngcaaMRefE
import Derived.Test.YtennphechbngcaaMWhF
import Derived.Test.YtennphechbngcaaMRefA
namespace Go.Proofs.Ytennphechbngcaa
open Go.RowKit
set_option linter.unusedVariables false
set_option linter.unusedSimpArgs false

set_option maxHeartbeats 1000000 in
theorem r05of_any {w : World} {n : Int} (hn : -9223372036854775808 ≤ n ∧ n ≤ 9223372036854775807) :
    Calls Try.prog 54 #[.int .i64 n] w fun e w' => ∃ v, e = .returned v ∧ IsZ w' (new w.heap.size) v n ∧ Below w.heap.size w w' := by
  obtain ⟨m, hm⟩ : ∃ m, m = n.natAbs := ⟨_, rfl⟩
  have hmW : m < 18446744073709551616 := by omega
  have hb0 : Below w.heap.size w (w.alloc (.cells #[.bool false, .slice none 0 0] 25)) := (Below.refl _ w).alloc (Nat.le_refl _) _
  have box0 := Box.new w (.bool false) (.slice none 0 0) 25
  unfold IsZ
  rw [← hm]
  by_cases hneg : n < 0
  · obtain ⟨k, hk⟩ : ∃ k : Nat, (k : Int) = n + 18446744073709551616 := ⟨(n + 18446744073709551616).toNat, by omega⟩
    have e1 : IntKind.u64.wrap n = (k : Int) := by rw [IntKind.wrap_u64]; omega
    have e2 : IntKind.u64.wrap (-(k : Int)) = (m : Int) := by rw [IntKind.wrap_u64]; omega
    have e3 : IntKind.u64.wrap (0 - (k : Int)) = (m : Int) := by rw [IntKind.wrap_u64]; omega
    rw [decide_eq_true (p := n < 0) hneg]
    clear hm hk
    go_enter Try.func54, Try.ntmps54
    go_wp2_with fail
    refine (rof_any hmW).mono ?_
    rintro e w1 ⟨u, rfl, ⟨Au, cu, rfl, hu'⟩, hb1⟩
    have hu : IsU w1 (new (w.alloc (.cells #[.bool false, .slice none 0 0] 25)).heap.size) (.slice Au (limbs m).length cu) (limbs m) := ⟨Au, cu, rfl, hu'⟩
    have box1 := box0.below hb1
    have hB := from_ hb0 hb1
    have hP := box1.put hB (Nat.le_refl _) (.bool true) (.slice Au (limbs m).length cu)
    have hu2 := hP.keep (by simp) hu
    have Hu := Lib.hid hu2
    have HP := Lib.hid hP
    obtain ⟨q0, q1, f0, f1, _⟩ := box1
    clear hu hu' hu2 hP hb0 e1 e2 e3
    go_wp2
    refine bodyPost_ret (res_int rfl _ w.heap.size rfl HP.out.c0 HP.out.c1) rfl ?_
    exact ⟨_, rfl, ⟨_, rfl, Hu.out⟩, HP.out.bel⟩
  · have e1 : IntKind.u64.wrap n = (m : Int) := by rw [IntKind.wrap_u64]; omega
    have hd : decide (n < 0) = false := decide_eq_false hneg
    rw [hd]
    clear hm hneg
    go_enter Try.func54, Try.ntmps54
    go_wp2_with fail
    refine (rof_any hmW).mono ?_
    rintro e w1 ⟨u, rfl, ⟨Au, cu, rfl, hu'⟩, hb1⟩
    have hu : IsU w1 (new (w.alloc (.cells #[.bool false, .slice none 0 0] 25)).heap.size) (.slice Au (limbs m).length cu) (limbs m) := ⟨Au, cu, rfl, hu'⟩
    have box1 := box0.below hb1
    have hB := from_ hb0 hb1
    have hP := box1.put hB (Nat.le_refl _) (.bool false) (.slice Au (limbs m).length cu)
    have hu2 := hP.keep (by simp) hu
    have Hu := Lib.hid hu2
    have HP := Lib.hid hP
    obtain ⟨q0, q1, f0, f1, _⟩ := box1
    clear hu hu' hu2 hP hb0 e1
    go_wp2
    refine bodyPost_ret (res_int rfl _ w.heap.size rfl HP.out.c0 HP.out.c1) rfl ?_
    exact ⟨_, rfl, ⟨_, rfl, Hu.out⟩, HP.out.bel⟩

theorem boxes2 (w : World) (a0 a1 b0 b1 : Value) (t : TypeId) :
    Box ((w.alloc (.cells #[a0, a1] t)).alloc (.cells #[b0, b1] t)) w.heap.size a0 a1 ∧
    Box ((w.alloc (.cells #[a0, a1] t)).alloc (.cells #[b0, b1] t)) (w.heap.size + 1) b0 b1 ∧
    Below w.heap.size w ((w.alloc (.cells #[a0, a1] t)).alloc (.cells #[b0, b1] t)) := by
  have h1 := (Box.new w a0 a1 t).alloc (.cells #[b0, b1] t)
  have h2 := Box.new (w.alloc (.cells #[a0, a1] t)) b0 b1 t
  rw [show (w.alloc (.cells #[a0, a1] t)).heap.size = w.heap.size + 1 by simp] at h2
  exact ⟨h1, h2, ((Below.refl _ w).alloc (Nat.le_refl _) _).alloc (by simp) _⟩

set_option maxHeartbeats 1000000 in
theorem same5_any {w : World} {Z Y : Zone} {a b : Value} {s t : Bool} {l k : List Nat} (ha : IsI w Z a s l) (hb : IsI w Y b t k) :
    Calls Try.prog 55 #[a, b] w fun e w' => e = .returned (.bool (decide (s = t ∧ l = k))) ∧ Below w.heap.size w w' := by
  obtain ⟨_, rfl, A, ca, rfl, hu⟩ := ha
  obtain ⟨_, rfl, B, cb, rfl, hv⟩ := hb
  have ua : IsU w Z (.slice A l.length ca) l := ⟨A, ca, rfl, hu⟩
  have ub : IsU w Y (.slice B k.length cb) k := ⟨B, cb, rfl, hv⟩
  obtain ⟨bA, bB, hB0⟩ := boxes2 w (.bool s) (.slice A l.length ca) (.bool t) (.slice B k.length cb) 25
  obtain ⟨a0, a1, _, _, _⟩ := bA
  obtain ⟨b0, b1, _, _, _⟩ := bB
  have HB := Lib.hid hB0
  clear hu hv
  by_cases hst : s = t
  · subst hst
    have hsame := same_dec (ua.below hB0) (ub.below hB0)
    have e : decide (s = s ∧ l = k) = decide (l = k) := by simp
    rw [e]
    have Hs := Lib.hid hsame
    clear hsame ua ub hB0
    cases s
    all_goals
      go_enter Try.func55, Try.ntmps55
      go_wp2_with fail
      refine Hs.out.mono ?_
      rintro e w1 ⟨rfl, hb1⟩
      go_wp2
      go_ret
      exact ⟨rfl, from_ HB.out hb1⟩
  · have e : decide (s = t ∧ l = k) = false := by simp [hst]
    rw [e]
    clear ua ub hB0
    rcases (show (s = true ∧ t = false) ∨ (s = false ∧ t = true) by cases s <;> cases t <;> simp_all) with ⟨rfl, rfl⟩ | ⟨rfl, rfl⟩
    all_goals
      go_enter Try.func55, Try.ntmps55
      go_wp2
      go_ret
      exact ⟨rfl, HB.out⟩

end Go.Proofs.Ytennphechbngcaa

namespace Go.Proofs.Ytennphechbngcaa
open Go.RowKit
set_option linter.unusedVariables false
set_option linter.unusedSimpArgs false

theorem own_below {w w' : World} {base : Nat} {e : TypeId} {size : Nat} {v : Value} {n : Nat} {xs : List Value} (h : w.ownsRow base e size v n xs) (hb : Below w.heap.size w w') : w'.ownsRow base e size v n xs := by
  refine ⟨h.1, ?_⟩
  rcases h.2 with h1 | ⟨g, cap, cur, e1, hg, hh, hr⟩
  · exact .inl h1
  · refine .inr ⟨g, cap, cur, e1, hg, ?_, hr⟩
    rw [hb.block g]
    · exact hh
    · by_cases hlt : g < w.heap.size
      · exact hlt
      · rw [Array.getElem?_eq_none (by omega)] at hh
        cases hh

/-- A row of whole numbers that come of ints. -/
def IsVs (w : World) (v : Value) (zs : List Int) : Prop := ∃ A c, v = .slice A zs.length c ∧ zs.length ≤ c ∧ c ≤ 9223372036854775807 ∧
  (0 < zs.length → ∃ g, A = some ⟨g, 0, none⟩ ∧ g < w.heap.size ∧ ∀ j (hj : j < zs.length), ∃ u, w.cell? ⟨g, j * 2, none⟩ = some (.bool (decide (zs[j] < 0))) ∧ w.cell? ⟨g, j * 2 + 1, none⟩ = some u ∧ IsU w old u (limbs zs[j].natAbs))

theorem IsVs.below {w w' : World} {v : Value} {zs : List Int} (h : IsVs w v zs) (hb : Below w.heap.size w w') : IsVs w' v zs := by
  obtain ⟨A, c, e, h1, h2, h3⟩ := h
  refine ⟨A, c, e, h1, h2, fun h0 => ?_⟩
  obtain ⟨g, e1, hg, hc⟩ := h3 h0
  refine ⟨g, e1, Nat.lt_of_lt_of_le hg hb.size, fun j hj => ?_⟩
  obtain ⟨u, c0, c1, hu⟩ := hc j hj
  exact ⟨u, keepC hb c0, keepC hb c1, hu.below hb⟩

/-- All blocks but one. -/
def but (g : Nat) : Zone := ⟨fun b => b ≠ g, False⟩
/-- The cells of a row in which the first k numbers stand. -/
def CellsI (w : World) (g : Nat) (xs : List Value) (k : Nat) (zs : List Int) : Prop :=
  ∀ j (hj : j < zs.length), j < k → ∃ u, xs[j * 2]? = some (.bool (decide (zs[j] < 0))) ∧ xs[j * 2 + 1]? = some u ∧ IsU w (but g) u (limbs zs[j].natAbs)

theorem CellsI.keep {w w' : World} {g : Nat} {xs : List Value} {k : Nat} {zs : List Int} (h : CellsI w g xs k zs) (hk : ∀ b, b ≠ g → b < w.heap.size → w'.heap[b]? = w.heap[b]?) : CellsI w' g xs k zs := fun j hj hjk => by
  obtain ⟨u, c0, c1, hu⟩ := h j hj hjk
  exact ⟨u, c0, c1, hu.keep fun b hb hl => hk b hb hl⟩

theorem CellsI.put {w w' : World} {g : Nat} {xs : List Value} {k : Nat} {zs : List Int} {u : Value} (h : CellsI w g xs k zs) (hl : xs.length = zs.length * 2) (hk : k < zs.length)
    (hu : IsU w (but g) u (limbs (zs[k]).natAbs)) (hw : ∀ b, b ≠ g → b < w.heap.size → w'.heap[b]? = w.heap[b]?) :
    CellsI w' g ((xs.set (k * 2) (.bool (decide (zs[k] < 0)))).set (k * 2 + 1) u) (k + 1) zs := fun j hj hjk => by
  rcases Nat.lt_or_ge j k with h1 | h1
  · obtain ⟨u', c0, c1, hu'⟩ := h j hj h1
    refine ⟨u', ?_, ?_, hu'.keep fun b hb hl => hw b hb hl⟩
    · rw [List.getElem?_set_ne (by omega), List.getElem?_set_ne (by omega)]
      exact c0
    · rw [List.getElem?_set_ne (by omega), List.getElem?_set_ne (by omega)]
      exact c1
  · obtain rfl : j = k := by omega
    refine ⟨u, ?_, ?_, hu.keep fun b hb hl => hw b hb hl⟩
    · rw [List.getElem?_set_ne (by omega), List.getElem?_set_self (by omega)]
    · rw [List.getElem?_set_self (by rw [List.length_set]; omega)]

/-- The words' block is one of words. -/
def Typ (w : World) (B : Nat) (u : Value) : Prop := ∀ a n c, u = .slice (some a) n c → B ≤ a.block ∧ ∃ cs fr, w.heap[a.block]? = some (.cells cs 99 fr)
theorem Typ.keep {w w' : World} {B g : Nat} {u : Value} (h : Typ w B u) (hg : ∃ cs fr, w.heap[g]? = some (.cells cs 25 fr)) (hk : ∀ b, b ≠ g → b < w.heap.size → w'.heap[b]? = w.heap[b]?) : Typ w' B u := fun a n c e => by
  obtain ⟨h0, cs, fr, h1⟩ := h a n c e
  refine ⟨h0, cs, fr, ?_⟩
  rw [hk]
  · exact h1
  · intro e2
    obtain ⟨cs2, fr2, h2⟩ := hg
    rw [← e2, h1] at h2
    injection h2 with h2
    injection h2 with _ h3
    exact absurd h3 (by decide)
  · by_cases hlt : a.block < w.heap.size
    · exact hlt
    · rw [Array.getElem?_eq_none (by omega)] at h1
      cases h1
theorem Typ.below {w w' : World} {B : Nat} {u : Value} (h : Typ w B u) (hb : Below w.heap.size w w') : Typ w' B u := fun a n c e => by
  obtain ⟨h0, cs, fr, h1⟩ := h a n c e
  refine ⟨h0, cs, fr, ?_⟩
  rw [hb.block]
  · exact h1
  · by_cases hlt : a.block < w.heap.size
    · exact hlt
    · rw [Array.getElem?_eq_none (by omega)] at h1
      cases h1
theorem Typ.apart {w : World} {B g : Nat} {Z : Zone} {u : Value} {l : List Nat} (h : Typ w B u) (hg : ∃ cs fr, w.heap[g]? = some (.cells cs 25 fr)) (hu : IsU w Z u l) : IsU w (but g) u l := by
  obtain ⟨A, c, rfl, hs, hcap, hmax, hnul, hrow⟩ := hu
  refine ⟨A, c, rfl, hs, hcap, hmax, hnul, fun h0 => ?_⟩
  obtain ⟨b, o, e, _, _, hc⟩ := hrow h0
  refine ⟨b, o, e, fun e2 => ?_, fun h => h.elim, hc⟩
  obtain ⟨_, cs, fr, h1⟩ := h ⟨b, o, none⟩ _ _ (by rw [e])
  obtain ⟨cs2, fr2, h2⟩ := hg
  subst e2
  rw [h2] at h1
  injection h1 with h1
  injection h1 with _ h3
  exact absurd h3 (by decide)

end Go.Proofs.Ytennphechbngcaa

namespace Go.Proofs.Ytennphechbngcaa
open Go.RowKit
set_option linter.unusedVariables false
set_option linter.unusedSimpArgs false

set_option maxHeartbeats 1000000 in
theorem r5may_any {w : World} {Z : Zone} {a : Value} {s : Bool} {l : List Nat} (ha : IsI w Z a s l) :
    Calls Try.prog 46 #[a] w fun e w' => e = .returned (.bool (okI s l)) ∧ Below w.heap.size w w' := by
  obtain ⟨_, rfl, A, c, rfl, hu⟩ := ha
  have hlen := hu.len
  have hb0 : Below w.heap.size w (w.alloc (.cells #[.bool s, .slice A l.length c] 25)) := (Below.refl _ w).alloc (Nat.le_refl _) _
  obtain ⟨q0, q1, _, _, _⟩ := Box.new w (.bool s) (.slice A l.length c) 25
  have hm := may_any (a := .slice A l.length c) ⟨A, c, rfl, hu.below hb0⟩
  have Hb0 := Lib.hid hb0
  cases hg : good l with
  | false =>
    have e1 : okI s l = false := by simp [okI, hg]
    rw [hg] at hm
    rw [e1]
    have Hm := Lib.hid hm
    clear hm hu hg e1 hb0
    go_enter Try.func46, Try.ntmps46
    go_wp2_with fail
    refine Hm.out.mono ?_
    rintro e w1 ⟨rfl, rfl⟩
    go_wp2
    go_ret
    exact ⟨rfl, Hb0.out⟩
  | true =>
    rw [hg] at hm
    have Hm := Lib.hid hm
    cases s with
    | false =>
      have e1 : okI false l = true := by simp [okI, hg]
      rw [e1]
      clear hm hu hg e1 hb0
      go_enter Try.func46, Try.ntmps46
      go_wp2_with fail
      refine Hm.out.mono ?_
      rintro e w1 ⟨rfl, rfl⟩
      go_wp2
      go_ret
      exact ⟨rfl, Hb0.out⟩
    | true =>
      by_cases h0 : l.length = 0
      · have e1 : okI true l = false := by simp [okI, h0]
        rw [e1]
        rw [h0] at Hm Hb0 q0 q1 ⊢
        clear hm hu hg e1 hb0
        go_enter Try.func46, Try.ntmps46
        go_wp2_with fail
        refine Hm.out.mono ?_
        rintro e w1 ⟨rfl, rfl⟩
        go_wp2
        go_ret
        exact ⟨rfl, Hb0.out⟩
      · have e1 : okI true l = true := by simp [okI, hg, h0]
        rw [e1]
        have hd : decide ((0 : Int) < (l.length : Int)) = true := decide_eq_true (by omega)
        have hd2 : 0 < l.length := by omega
        clear hm hu hg e1 hb0
        go_enter Try.func46, Try.ntmps46
        go_wp2_with fail
        refine Hm.out.mono ?_
        rintro e w1 ⟨rfl, rfl⟩
        go_wp2
        go_ret
        exact ⟨rfl, Hb0.out⟩

set_option maxHeartbeats 1000000 in
theorem r5signed_good {w : World} {Z : Zone} {a : Value} {x : Int} (ha : IsZ w Z a x) :
    Calls Try.prog 92 #[a] w fun e w' => e = .returned (.int .i64 (sgn x)) ∧ Below w.heap.size w w' := by
  obtain ⟨_, rfl, A, c, rfl, hu⟩ := ha
  have hlen := hu.len
  have hb0 : Below w.heap.size w (w.alloc (.cells #[.bool (decide (x < 0)), .slice A (limbs x.natAbs).length c] 25)) := (Below.refl _ w).alloc (Nat.le_refl _) _
  obtain ⟨q0, q1, _, _, _⟩ := Box.new w (.bool (decide (x < 0))) (.slice A (limbs x.natAbs).length c) 25
  have hpos : (0 < (limbs x.natAbs).length) ↔ x ≠ 0 := by rw [len_pos]; omega
  clear hu
  rcases (show x = 0 ∨ x < 0 ∨ 0 < x by omega) with h | h | h
  · have e1 : sgn x = 0 := by simp [sgn, h]
    have hl0 : (limbs x.natAbs).length = 0 := by omega
    rw [e1, hl0] at *
    have hd : decide (x < 0) = false := decide_eq_false (by omega)
    rw [hd] at *
    clear hpos h e1 hl0 hd hlen
    go_enter Try.func92, Try.ntmps92
    go_wp2
    go_ret
    exact ⟨rfl, by go_grown⟩
  · have e1 : sgn x = -1 := by simp [sgn]; omega
    have hl0 : (((limbs x.natAbs).length : Int) == 0) = false := beq_eq_false_iff_ne.2 (by omega)
    have hd : decide (x < 0) = true := decide_eq_true h
    rw [e1]
    rw [hd] at *
    clear hpos h e1 hd hlen
    generalize (limbs x.natAbs).length = L at *
    go_enter Try.func92, Try.ntmps92
    go_wp2
    go_ret
    exact ⟨rfl, by go_grown⟩
  · have e1 : sgn x = 1 := by simp [sgn]; omega
    have hl0 : (((limbs x.natAbs).length : Int) == 0) = false := beq_eq_false_iff_ne.2 (by omega)
    have hd : decide (x < 0) = false := decide_eq_false (by omega)
    rw [e1]
    rw [hd] at *
    clear hpos h e1 hd hlen
    generalize (limbs x.natAbs).length = L at *
    go_enter Try.func92, Try.ntmps92
    go_wp2
    go_ret
    exact ⟨rfl, by go_grown⟩

end Go.Proofs.Ytennphechbngcaa

namespace Go.Proofs.Ytennphechbngcaa
open Go.RowKit
set_option linter.unusedVariables false
set_option linter.unusedSimpArgs false

set_option maxHeartbeats 800000 in
theorem equal_dec {w : World} {Z Y : Zone} {a b : Value} {la lb : List Nat} (ha : IsU w Z a la) (hb : IsU w Y b lb) :
    Calls Try.prog 84 #[a, b] w fun e w' => e = .returned (.bool (decide (la = lb))) ∧ Below w.heap.size w w' := by
  obtain ⟨A, ca, rfl, ha⟩ := ha
  obtain ⟨A', cb, rfl, hb⟩ := hb
  have h1 := ha.len
  have h2 := hb.len
  by_cases hl : la.length = lb.length
  · have hne : ((la.length : Int) != (lb.length : Int)) = false := by simp [hl]
    have Hl := Lib.hid hl
    have hl1 : la.length ≤ lb.length := by omega
    have hl2 : lb.length ≤ la.length := by omega
    clear hl
    go_enter Try.func84, Try.ntmps84
    go_wp2
    go_loopw [13] (fun i wr => ∃ k : Nat, k ≤ la.length ∧ i = .int .i64 k ∧ la.take k = lb.take k ∧ Below w.heap.size w wr) (fun i _ => la.length - (intOf i).toNat)
    case atStart => exact ⟨0, Nat.zero_le _, rfl, by simp, Below.refl _ _⟩
    case round =>
      obtain ⟨k, hk, rfl, htk, hbel⟩ := hrel
      have Htk := Lib.hid htk
      clear htk
      by_cases hlt : k < la.length
      · have hlt' : k < lb.length := by omega
        obtain ⟨b1, o1, rfl, _, hb1, _, hc1⟩ := ha.open (by omega)
        obtain ⟨b2, o2, rfl, _, hb2, _, hc2⟩ := hb.open (by omega)
        have x1 := (hbel.cell (p := ⟨b1, o1 + k, none⟩) hb1).trans (hc1 k hlt)
        have x2 := (hbel.cell (p := ⟨b2, o2 + k, none⟩) hb2).trans (hc2 k hlt')
        have hs1 : la.take (k + 1) = la.take k ++ [la[k]] := by rw [List.take_succ_eq_append_getElem hlt]
        have hs2 : lb.take (k + 1) = lb.take k ++ [lb[k]] := by rw [List.take_succ_eq_append_getElem hlt']
        have Hs1 := Lib.hid hs1
        have Hs2 := Lib.hid hs2
        clear hs1 hs2 hc1 hc2
        by_cases he : la[k] = lb[k]
        · have hx : ((la[k] : Int) != (lb[k] : Int)) = false := by simp [he]
          have He := Lib.hid he
          clear he
          go_wp2
          go_quiet (fail)
          go_wp2
          go_roundw
          case rel => exact ⟨k + 1, by omega, by go_num, by rw [Hs1.out, Hs2.out, Htk.out, He.out], below_drewN' hbel _⟩
          case measure => simp [intOf]; omega
        · have hx : ((la[k] : Int) != (lb[k] : Int)) = true := by simp; omega
          have hn : la ≠ lb := fun e => he (by subst e; rfl)
          have Hn := Lib.hid (decide_eq_false hn)
          clear he hn
          go_wp2
          go_quiet (fail)
          go_wp2
          go_ret
          rw [Hn.out]
          exact ⟨rfl, below_drewN' hbel _⟩
      · obtain rfl : k = la.length := by omega
        go_wp2
        go_ret
        have e := Htk.out
        rw [List.take_length, Hl.out, List.take_length] at e
        rw [decide_eq_true e]
        exact ⟨rfl, hbel⟩
  · have hne : ((la.length : Int) != (lb.length : Int)) = true := by simp; omega
    have hn : la ≠ lb := fun e => hl (by rw [e])
    have Hn := Lib.hid (decide_eq_false hn)
    clear hl hn
    go_enter Try.func84, Try.ntmps84
    go_wp2
    go_ret
    rw [Hn.out]
    exact ⟨rfl, Below.refl _ _⟩

set_option maxHeartbeats 1000000 in
theorem wsame_any {w : World} {Z Y : Zone} {a b : Value} {s t : Bool} {l k : List Nat} (ha : IsI w Z a s l) (hb : IsI w Y b t k) :
    Calls Try.prog 57 #[a, b] w fun e w' => e = .returned (.bool (decide (s = t ∧ l = k))) ∧ Below w.heap.size w w' := by
  obtain ⟨_, rfl, A, ca, rfl, hu⟩ := ha
  obtain ⟨_, rfl, B, cb, rfl, hv⟩ := hb
  have ua : IsU w Z (.slice A l.length ca) l := ⟨A, ca, rfl, hu⟩
  have ub : IsU w Y (.slice B k.length cb) k := ⟨B, cb, rfl, hv⟩
  obtain ⟨bA, bB, hB0⟩ := boxes2 w (.bool s) (.slice A l.length ca) (.bool t) (.slice B k.length cb) 25
  obtain ⟨a0, a1, _, _, _⟩ := bA
  obtain ⟨b0, b1, _, _, _⟩ := bB
  have HB := Lib.hid hB0
  clear hu hv
  by_cases hst : s = t
  · subst hst
    have hsame := equal_dec (ua.below hB0) (ub.below hB0)
    have e : decide (s = s ∧ l = k) = decide (l = k) := by simp
    rw [e]
    have Hs := Lib.hid hsame
    clear hsame ua ub hB0
    cases s
    all_goals
      go_enter Try.func57, Try.ntmps57
      go_wp2_with fail
      refine Hs.out.mono ?_
      rintro e w1 ⟨rfl, hb1⟩
      go_wp2
      go_ret
      exact ⟨rfl, from_ HB.out hb1⟩
  · have e : decide (s = t ∧ l = k) = false := by simp [hst]
    rw [e]
    clear ua ub hB0
    rcases (show (s = true ∧ t = false) ∨ (s = false ∧ t = true) by cases s <;> cases t <;> simp_all) with ⟨rfl, rfl⟩ | ⟨rfl, rfl⟩
    all_goals
      go_enter Try.func57, Try.ntmps57
      go_wp2
      go_ret
      exact ⟨rfl, HB.out⟩

end Go.Proofs.Ytennphechbngcaa

namespace Go.Proofs.Ytennphechbngcaa
open Go.RowKit
set_option linter.unusedVariables false
set_option linter.unusedSimpArgs false

end Go.Proofs.Ytennphechbngcaa
