/-
  Rows of whole numbers that come of ints, the program's and the document's, and whether two are the same. No conditions but bounds on lengths.
  Rows of whole numbers that come of ints, the program's and the document's, and whether two are the same. No conditions but bounds on lengths.
  The document's own answer, layer 5: May, Check, two, Signed, Sign. No conditions.
  slices.Equal of words, whole.Same. No conditions.
  Whole numbers: Int, at any sign and words. No conditions.
-/
import Derived.Test.YtennphechbngcaaGreatLWhC
import Derived.Test.YtennphechbngcaaGreatLRefI
import Derived.Test.YtennphechbngcaaGreatLRefE
import Derived.Test.YtennphechbngcaaGreatLWhF
import Derived.Test.YtennphechbngcaaGreatLRefA
namespace Go.Proofs.YtennphechbngcaaGreat
open Go.RowKit
set_option linter.unusedVariables false
set_option linter.unusedSimpArgs false

theorem boxes2 (w : World) (a0 a1 b0 b1 : Value) (t : TypeId) :
    Box ((w.alloc (.cells #[a0, a1] t)).alloc (.cells #[b0, b1] t)) w.heap.size a0 a1 ∧
    Box ((w.alloc (.cells #[a0, a1] t)).alloc (.cells #[b0, b1] t)) (w.heap.size + 1) b0 b1 ∧
    Below w.heap.size w ((w.alloc (.cells #[a0, a1] t)).alloc (.cells #[b0, b1] t)) := by
  have h1 := (Box.new w a0 a1 t).alloc (.cells #[b0, b1] t)
  have h2 := Box.new (w.alloc (.cells #[a0, a1] t)) b0 b1 t
  rw [show (w.alloc (.cells #[a0, a1] t)).heap.size = w.heap.size + 1 by simp] at h2
  exact ⟨h1, h2, ((Below.refl _ w).alloc (Nat.le_refl _) _).alloc (by simp) _⟩

set_option maxHeartbeats 1000000 in
theorem same5_any {w : World} {Z Y : Zone} {a b : Value} {s t : Bool} {l k : List Nat} (ha : IsI w Z a s l) (hb : IsI w Y b t k) :
    Calls Tryz.prog 78 #[a, b] w fun e w' => e = .returned (.bool (decide (s = t ∧ l = k))) ∧ Below w.heap.size w w' := by
  obtain ⟨_, rfl, A, ca, rfl, hu⟩ := ha
  obtain ⟨_, rfl, B, cb, rfl, hv⟩ := hb
  have ua : IsU w Z (.slice A l.length ca) l := ⟨A, ca, rfl, hu⟩
  have ub : IsU w Y (.slice B k.length cb) k := ⟨B, cb, rfl, hv⟩
  obtain ⟨bA, bB, hB0⟩ := boxes2 w (.bool s) (.slice A l.length ca) (.bool t) (.slice B k.length cb) 25
  obtain ⟨a0, a1, _, _, _⟩ := bA
  obtain ⟨b0, b1, _, _, _⟩ := bB
  have HB := Lib.hid hB0
  clear hu hv
  by_cases hst : s = t
  · subst hst
    have hsame := same_dec (ua.below hB0) (ub.below hB0)
    have e : decide (s = s ∧ l = k) = decide (l = k) := by simp
    rw [e]
    have Hs := Lib.hid hsame
    clear hsame ua ub hB0
    cases s
    all_goals
      go_enter Tryz.func78, Tryz.ntmps78
      go_wp2_with fail
      refine Hs.out.mono ?_
      rintro e w1 ⟨rfl, hb1⟩
      go_wp2
      go_ret
      exact ⟨rfl, from_ HB.out hb1⟩
  · have e : decide (s = t ∧ l = k) = false := by simp [hst]
    rw [e]
    clear ua ub hB0
    rcases (show (s = true ∧ t = false) ∨ (s = false ∧ t = true) by cases s <;> cases t <;> simp_all) with ⟨rfl, rfl⟩ | ⟨rfl, rfl⟩
    all_goals
      go_enter Tryz.func78, Tryz.ntmps78
      go_wp2
      go_ret
      exact ⟨rfl, HB.out⟩

end Go.Proofs.YtennphechbngcaaGreat

namespace Go.Proofs.YtennphechbngcaaGreat
open Go.RowKit
set_option linter.unusedVariables false
set_option linter.unusedSimpArgs false

theorem own_below {w w' : World} {base : Nat} {e : TypeId} {size : Nat} {v : Value} {n : Nat} {xs : List Value} (h : w.ownsRow base e size v n xs) (hb : Below w.heap.size w w') : w'.ownsRow base e size v n xs := by
  refine ⟨h.1, ?_⟩
  rcases h.2 with h1 | ⟨g, cap, cur, e1, hg, hh, hr⟩
  · exact .inl h1
  · refine .inr ⟨g, cap, cur, e1, hg, ?_, hr⟩
    rw [hb.block g]
    · exact hh
    · by_cases hlt : g < w.heap.size
      · exact hlt
      · rw [Array.getElem?_eq_none (by omega)] at hh
        cases hh

/-- A row of whole numbers that come of ints. -/
def IsVs (w : World) (v : Value) (zs : List Int) : Prop := ∃ A c, v = .slice A zs.length c ∧ zs.length ≤ c ∧ c ≤ 9223372036854775807 ∧
  (0 < zs.length → ∃ g, A = some ⟨g, 0, none⟩ ∧ g < w.heap.size ∧ ∀ j (hj : j < zs.length), ∃ u, w.cell? ⟨g, j * 2, none⟩ = some (.bool (decide (zs[j] < 0))) ∧ w.cell? ⟨g, j * 2 + 1, none⟩ = some u ∧ IsU w old u (limbs zs[j].natAbs))

theorem IsVs.below {w w' : World} {v : Value} {zs : List Int} (h : IsVs w v zs) (hb : Below w.heap.size w w') : IsVs w' v zs := by
  obtain ⟨A, c, e, h1, h2, h3⟩ := h
  refine ⟨A, c, e, h1, h2, fun h0 => ?_⟩
  obtain ⟨g, e1, hg, hc⟩ := h3 h0
  refine ⟨g, e1, Nat.lt_of_lt_of_le hg hb.size, fun j hj => ?_⟩
  obtain ⟨u, c0, c1, hu⟩ := hc j hj
  exact ⟨u, keepC hb c0, keepC hb c1, hu.below hb⟩

/-- All blocks but one. -/
def but (g : Nat) : Zone := ⟨fun b => b ≠ g, False⟩
/-- The cells of a row in which the first k numbers stand. -/
def CellsI (w : World) (g : Nat) (xs : List Value) (k : Nat) (zs : List Int) : Prop :=
  ∀ j (hj : j < zs.length), j < k → ∃ u, xs[j * 2]? = some (.bool (decide (zs[j] < 0))) ∧ xs[j * 2 + 1]? = some u ∧ IsU w (but g) u (limbs zs[j].natAbs)

theorem CellsI.keep {w w' : World} {g : Nat} {xs : List Value} {k : Nat} {zs : List Int} (h : CellsI w g xs k zs) (hk : ∀ b, b ≠ g → b < w.heap.size → w'.heap[b]? = w.heap[b]?) : CellsI w' g xs k zs := fun j hj hjk => by
  obtain ⟨u, c0, c1, hu⟩ := h j hj hjk
  exact ⟨u, c0, c1, hu.keep fun b hb hl => hk b hb hl⟩

theorem CellsI.put {w w' : World} {g : Nat} {xs : List Value} {k : Nat} {zs : List Int} {u : Value} (h : CellsI w g xs k zs) (hl : xs.length = zs.length * 2) (hk : k < zs.length)
    (hu : IsU w (but g) u (limbs (zs[k]).natAbs)) (hw : ∀ b, b ≠ g → b < w.heap.size → w'.heap[b]? = w.heap[b]?) :
    CellsI w' g ((xs.set (k * 2) (.bool (decide (zs[k] < 0)))).set (k * 2 + 1) u) (k + 1) zs := fun j hj hjk => by
  rcases Nat.lt_or_ge j k with h1 | h1
  · obtain ⟨u', c0, c1, hu'⟩ := h j hj h1
    refine ⟨u', ?_, ?_, hu'.keep fun b hb hl => hw b hb hl⟩
    · rw [List.getElem?_set_ne (by omega), List.getElem?_set_ne (by omega)]
      exact c0
    · rw [List.getElem?_set_ne (by omega), List.getElem?_set_ne (by omega)]
      exact c1
  · obtain rfl : j = k := by omega
    refine ⟨u, ?_, ?_, hu.keep fun b hb hl => hw b hb hl⟩
    · rw [List.getElem?_set_ne (by omega), List.getElem?_set_self (by omega)]
    · rw [List.getElem?_set_self (by rw [List.length_set]; omega)]

/-- The words' block is one of words. -/
def Typ (w : World) (B : Nat) (u : Value) : Prop := ∀ a n c, u = .slice (some a) n c → B ≤ a.block ∧ ∃ cs fr, w.heap[a.block]? = some (.cells cs 71 fr)
theorem Typ.keep {w w' : World} {B g : Nat} {u : Value} (h : Typ w B u) (hg : ∃ cs fr, w.heap[g]? = some (.cells cs 25 fr)) (hk : ∀ b, b ≠ g → b < w.heap.size → w'.heap[b]? = w.heap[b]?) : Typ w' B u := fun a n c e => by
  obtain ⟨h0, cs, fr, h1⟩ := h a n c e
  refine ⟨h0, cs, fr, ?_⟩
  rw [hk]
  · exact h1
  · intro e2
    obtain ⟨cs2, fr2, h2⟩ := hg
    rw [← e2, h1] at h2
    injection h2 with h2
    injection h2 with _ h3
    exact absurd h3 (by decide)
  · by_cases hlt : a.block < w.heap.size
    · exact hlt
    · rw [Array.getElem?_eq_none (by omega)] at h1
      cases h1
theorem Typ.below {w w' : World} {B : Nat} {u : Value} (h : Typ w B u) (hb : Below w.heap.size w w') : Typ w' B u := fun a n c e => by
  obtain ⟨h0, cs, fr, h1⟩ := h a n c e
  refine ⟨h0, cs, fr, ?_⟩
  rw [hb.block]
  · exact h1
  · by_cases hlt : a.block < w.heap.size
    · exact hlt
    · rw [Array.getElem?_eq_none (by omega)] at h1
      cases h1
theorem Typ.apart {w : World} {B g : Nat} {Z : Zone} {u : Value} {l : List Nat} (h : Typ w B u) (hg : ∃ cs fr, w.heap[g]? = some (.cells cs 25 fr)) (hu : IsU w Z u l) : IsU w (but g) u l := by
  obtain ⟨A, c, rfl, hs, hcap, hmax, hnul, hrow⟩ := hu
  refine ⟨A, c, rfl, hs, hcap, hmax, hnul, fun h0 => ?_⟩
  obtain ⟨b, o, e, _, _, hc⟩ := hrow h0
  refine ⟨b, o, e, fun e2 => ?_, fun h => h.elim, hc⟩
  obtain ⟨_, cs, fr, h1⟩ := h ⟨b, o, none⟩ _ _ (by rw [e])
  obtain ⟨cs2, fr2, h2⟩ := hg
  subst e2
  rw [h2] at h1
  injection h1 with h1
  injection h1 with _ h3
  exact absurd h3 (by decide)

end Go.Proofs.YtennphechbngcaaGreat

namespace Go.Proofs.YtennphechbngcaaGreat
open Go.RowKit
set_option linter.unusedVariables false
set_option linter.unusedSimpArgs false

end Go.Proofs.YtennphechbngcaaGreat

namespace Go.Proofs.YtennphechbngcaaGreat
open Go.RowKit
set_option linter.unusedVariables false
set_option linter.unusedSimpArgs false

end Go.Proofs.YtennphechbngcaaGreat

namespace Go.Proofs.YtennphechbngcaaGreat
open Go.RowKit
set_option linter.unusedVariables false
set_option linter.unusedSimpArgs false

def intE (s : Bool) (l : List Nat) : Int := if okI s l = true then (if l.length ≤ 1 ∧ (val l < 9223372036854775808 ∨ (s = true ∧ val l = 9223372036854775808)) then 0 else 4) else 8
def intX (s : Bool) (l : List Nat) : Int := if intE s l = 0 then zof s l else 0

theorem int_bad {s : Bool} {l : List Nat} (h : okI s l = false) : intE s l = 8 ∧ intX s l = 0 := by
  have e : intE s l = 8 := by simp [intE, h]
  exact ⟨e, by unfold intX; rw [e]; rfl⟩
theorem int_many {s : Bool} {l : List Nat} (h : okI s l = true) (h2 : ¬ (l.length ≤ 1 ∧ (val l < 9223372036854775808 ∨ (s = true ∧ val l = 9223372036854775808)))) : intE s l = 4 ∧ intX s l = 0 := by
  have e : intE s l = 4 := by unfold intE; rw [if_pos h, if_neg h2]
  exact ⟨e, by unfold intX; rw [e]; rfl⟩
theorem int_fits {s : Bool} {l : List Nat} (h : okI s l = true) (h2 : l.length ≤ 1 ∧ (val l < 9223372036854775808 ∨ (s = true ∧ val l = 9223372036854775808))) : intE s l = 0 ∧ intX s l = zof s l := by
  have e : intE s l = 0 := by unfold intE; rw [if_pos h, if_pos h2]
  exact ⟨e, by unfold intX; rw [e]; rfl⟩

theorem val_few {l : List Nat} (h : l.length ≤ 1) : l[0]?.getD 0 = val l := by
  match l, h with
  | [], _ => rfl
  | [x], _ => simp [val]

theorem okI_good {s : Bool} {l : List Nat} (h : okI s l = true) : good l = true := by
  unfold okI at h
  rw [Bool.and_eq_true] at h
  exact h.1

set_option maxRecDepth 100000 in
set_option maxHeartbeats 1000000 in
theorem wint_all {w : World} {Z : Zone} {a : Value} {s : Bool} {l : List Nat} (ha : IsI w Z a s l) :
    Calls Tryz.prog 53 #[a] w fun e w' => e = .returned (.tuple #[.int .i64 (intX s l), .int .i64 (intE s l)]) ∧ Below w.heap.size w w' := by
  obtain ⟨_, rfl, A, c, rfl, hu⟩ := ha
  have hb0 : Below w.heap.size w (w.alloc (.cells #[.bool s, .slice A l.length c] 25)) := (Below.refl _ w).alloc (Nat.le_refl _) _
  obtain ⟨q0, q1, _, _, _⟩ := Box.new w (.bool s) (.slice A l.length c) 25
  have hI : IsI w Z (.agg #[.bool s, .slice A l.length c]) s l := ⟨_, rfl, A, c, rfl, hu⟩
  have hck := wcheck_any (hI.below hb0)
  have hU : IsU w Z (.slice A l.length c) l := ⟨A, c, rfl, hu⟩
  have hsm := hu.small
  cases hok : okI s l with
  | false =>
    obtain ⟨e1, e2⟩ := int_bad hok
    have e3 : errC s l = 8 := by simp [errC, hok]
    rw [e3] at hck
    rw [e1, e2]
    have Hck := Lib.hid hck
    clear hck e1 e2 e3 hok hI hU hu
    go_enter Tryz.func53, Tryz.ntmps53
    go_wp2_with fail
    refine Hck.out.mono ?_
    rintro e w1 ⟨rfl, hb1⟩
    have hB := from_ hb0 hb1
    go_wp2
    go_ret2
    exact ⟨rfl, hB⟩
  | true =>
    have e3 : errC s l = 0 := by simp [errC, hok]
    rw [e3] at hck
    have Hck := Lib.hid hck
    have hg := okI_good hok
    by_cases hlen : l.length ≤ 1
    · have hw := fun (w1 : World) (h : Below w.heap.size w w1) => word_few (hU.below h) hg hlen
      rw [val_few hlen] at hw
      have hxW : val l < 18446744073709551616 := by
        have := val_lt hsm
        refine Nat.lt_of_lt_of_le this ?_
        exact Nat.le_trans (Nat.pow_le_pow_right (by omega) hlen) (by omega)
      have hm := fun h => int_many hok h
      have hf := fun h => int_fits hok h
      have hpos : s = true → 0 < val l := fun h => by
        rcases (okI_cases hok hsm).2 with h2 | h2
        · rw [h2] at h; cases h
        · exact h2.2
      have hz : zof s l = if s = true then -(val l : Int) else (val l : Int) := rfl
      rw [hz] at hf
      generalize val l = x at *
      generalize intX s l = X at *
      generalize intE s l = E at *
      have Hw := Lib.hid hw
      clear hw hck e3 hok hI hU hu hz hg
      rcases (show 9223372036854775808 < x ∨ x = 9223372036854775808 ∨ x < 9223372036854775808 by omega) with hx | hx | hx
      · obtain ⟨rfl, rfl⟩ := hm (by omega)
        have d1 : decide ((9223372036854775808 : Int) < (x : Int)) = true := decide_eq_true (by omega)
        clear hm hf hpos hsm
        go_enter Tryz.func53, Tryz.ntmps53
        go_wp2_with fail
        refine Hck.out.mono ?_
        rintro e w1 ⟨rfl, hb1⟩
        have q0 := keepC hb1 q0
        have q1 := keepC hb1 q1
        have hB := from_ hb0 hb1
        go_wp2_with fail
        refine (Hw.out _ hB).mono ?_
        rintro e w2 ⟨rfl, rfl⟩
        go_wp2
        go_ret2
        exact ⟨rfl, hB⟩
      · subst hx
        cases s
        · obtain ⟨rfl, rfl⟩ := hm (by simp)
          clear hm hf hpos hsm
          go_enter Tryz.func53, Tryz.ntmps53
          go_wp2_with fail
          refine Hck.out.mono ?_
          rintro e w1 ⟨rfl, hb1⟩
          have q0 := keepC hb1 q0
          have q1 := keepC hb1 q1
          have hB := from_ hb0 hb1
          go_wp2_with fail
          refine (Hw.out _ hB).mono ?_
          rintro e w2 ⟨rfl, rfl⟩
          go_wp2
          go_ret2
          exact ⟨rfl, hB⟩
        · obtain ⟨rfl, rfl⟩ := hf (by simp; omega)
          simp only [if_true]
          have f1 : IntKind.u64.wrap (-9223372036854775808) = 9223372036854775808 := by rw [IntKind.wrap_u64]; omega
          have f2 : IntKind.i64.wrap 9223372036854775808 = -9223372036854775808 := by rw [IntKind.wrap_i64]; omega
          clear hm hf hpos hsm
          go_enter Tryz.func53, Tryz.ntmps53
          go_wp2_with fail
          refine Hck.out.mono ?_
          rintro e w1 ⟨rfl, hb1⟩
          have q0 := keepC hb1 q0
          have q1 := keepC hb1 q1
          have hB := from_ hb0 hb1
          go_wp2_with fail
          refine (Hw.out _ hB).mono ?_
          rintro e w2 ⟨rfl, rfl⟩
          go_wp2
          go_ret2
          exact ⟨rfl, hB⟩
      · cases s
        · obtain ⟨rfl, rfl⟩ := hf ⟨hlen, .inl hx⟩
          simp only [Bool.false_eq_true, if_false]
          have d1 : decide ((9223372036854775808 : Int) < (x : Int)) = false := decide_eq_false (by omega)
          have d2 : ((x : Int) == 9223372036854775808) = false := beq_eq_false_iff_ne.2 (by omega)
          clear hm hf hpos hsm
          go_enter Tryz.func53, Tryz.ntmps53
          go_wp2_with fail
          refine Hck.out.mono ?_
          rintro e w1 ⟨rfl, hb1⟩
          have q0 := keepC hb1 q0
          have q1 := keepC hb1 q1
          have hB := from_ hb0 hb1
          go_wp2_with fail
          refine (Hw.out _ hB).mono ?_
          rintro e w2 ⟨rfl, rfl⟩
          go_wp2
          go_ret2
          exact ⟨rfl, hB⟩
        · obtain ⟨rfl, rfl⟩ := hf ⟨hlen, .inl hx⟩
          simp only [if_true]
          have hx0 := hpos rfl
          obtain ⟨y, hy⟩ : ∃ y, y = 18446744073709551616 - x := ⟨_, rfl⟩
          have d1 : decide ((9223372036854775808 : Int) < (x : Int)) = false := decide_eq_false (by omega)
          have d2 : ((x : Int) == 9223372036854775808) = false := beq_eq_false_iff_ne.2 (by omega)
          have f1 : IntKind.u64.wrap (-(x : Int)) = (y : Int) := by rw [IntKind.wrap_u64]; omega
          have f2 : IntKind.i64.wrap (y : Int) = -(x : Int) := by rw [IntKind.wrap_i64]; omega
          clear hm hf hpos hsm hy
          go_enter Tryz.func53, Tryz.ntmps53
          go_wp2_with fail
          refine Hck.out.mono ?_
          rintro e w1 ⟨rfl, hb1⟩
          have q0 := keepC hb1 q0
          have q1 := keepC hb1 q1
          have hB := from_ hb0 hb1
          go_wp2_with fail
          refine (Hw.out _ hB).mono ?_
          rintro e w2 ⟨rfl, rfl⟩
          go_wp2
          go_ret2
          exact ⟨rfl, hB⟩
    · have hw := fun (w1 : World) (h : Below w.heap.size w w1) => word_many (hU.below h) hg (by omega)
      obtain ⟨e1, e2⟩ := int_many hok (fun h => hlen h.1)
      rw [e1, e2]
      have Hw := Lib.hid hw
      clear hw hck e1 e2 e3 hok hI hU hu hg hsm
      go_enter Tryz.func53, Tryz.ntmps53
      go_wp2_with fail
      refine Hck.out.mono ?_
      rintro e w1 ⟨rfl, hb1⟩
      have q0 := keepC hb1 q0
      have q1 := keepC hb1 q1
      have hB := from_ hb0 hb1
      go_wp2_with fail
      refine (Hw.out _ hB).mono ?_
      rintro e w2 ⟨rfl, rfl⟩
      go_wp2
      go_ret2
      exact ⟨rfl, hB⟩

end Go.Proofs.YtennphechbngcaaGreat
