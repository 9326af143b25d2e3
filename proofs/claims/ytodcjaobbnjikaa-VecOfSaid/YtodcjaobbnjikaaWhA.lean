/-
  Whole numbers made: a sign and a size; those of ints. No conditions.
-/
import Derived.Test.YtodcjaobbnjikaaFrameB
import Derived.Test.YtodcjaobbnjikaaNatE
import Derived.Laws.ResultCell
namespace Go.Proofs.Ytodcjaobbnjikaa
open Go.RowKit
set_option linter.unusedVariables false
set_option linter.unusedSimpArgs false

theorem loadVar_int {w : World} {g : Nat} {v0 v1 : Value} (h0 : w.cell? ⟨g, 0, none⟩ = some v0) (h1 : w.cell? ⟨g, 1, none⟩ = some v1) :
    (loadVar 77 ⟨g, 0, none⟩).run Try.prog w = .ok (.agg #[v0, v1]) w := by
  unfold loadVar
  go_simp

theorem res_int {fn : Func} {p : Tmp} (h : fn.results = #[.cell p 77]) (tmps : Array Value) {w : World} (g : Nat) {v0 v1 : Value} (hp : tmps.getD p undef = .pointer (some ⟨g, 0, none⟩)) (h0 : w.cell? ⟨g, 0, none⟩ = some v0) (h1 : w.cell? ⟨g, 1, none⟩ = some v1) :
    (results fn tmps).run Try.prog w = .ok (.agg #[v0, v1]) w := by
  have hp' : tmps[p]?.getD undef = .pointer (some ⟨g, 0, none⟩) := by simpa using hp
  simp [results, h, hp', asAddr, loadVar_int h0 h1]

theorem res_int2 {fn : Func} {p u : Tmp} (h : fn.results = #[.cell p 77, .tmp u]) (tmps : Array Value) {w : World} (g : Nat) {v0 v1 : Value} (hp : tmps.getD p undef = .pointer (some ⟨g, 0, none⟩)) (h0 : w.cell? ⟨g, 0, none⟩ = some v0) (h1 : w.cell? ⟨g, 1, none⟩ = some v1) :
    (results fn tmps).run Try.prog w = .ok (.tuple #[.agg #[v0, v1], tmps.getD u undef]) w := by
  rw [results_cell_tmp h, hp]
  simp [asAddr, Result.andThen, loadVar_int h0 h1]

theorem keepC {W w1 : World} {g i : Nat} {v : Value} (hb : Below W.heap.size W w1) (h : W.cell? ⟨g, i, none⟩ = some v) : w1.cell? ⟨g, i, none⟩ = some v := (hb.cell (p := ⟨g, i, none⟩) (lt_of_cell h)).trans h
theorem keepF {W w1 : World} {g i : Nat} (hb : Below W.heap.size W w1) (hg : g < W.heap.size) (h : W.frozen? ⟨g, i, none⟩ = false) : w1.frozen? ⟨g, i, none⟩ = false := ((bcell hb).2 g i hg).trans h

/-- A whole number that may be. -/
def IsZ (w : World) (Z : Zone) (v : Value) (x : Int) : Prop := IsI w Z v (decide (x < 0)) (limbs x.natAbs)
theorem IsZ.mono {w : World} {Z Y : Zone} {v : Value} {x : Int} (h : IsZ w Z v x) (hz : Z.le Y) : IsZ w Y v x := IsI.mono h hz
theorem IsZ.below {w w' : World} {Z : Zone} {v : Value} {x : Int} (h : IsZ w Z v x) (hb : Below w.heap.size w w') : IsZ w' Z v x := IsI.below h hb

set_option maxHeartbeats 800000 in
theorem made_any {w : World} {Z : Zone} {u : Value} {s : Bool} {l : List Nat} (hu : IsU w Z u l) :
    Calls Try.prog 86 #[.bool s, u] w fun e w' => e = .returned (.agg #[.bool (s && decide (0 < l.length)), u]) ∧ Below w.heap.size w w' := by
  obtain ⟨A, c, rfl, hu⟩ := hu
  have hb0 : ∀ x, Below w.heap.size w (w.alloc (.cells x 77)) := fun x => (Below.refl _ w).alloc (Nat.le_refl _) _
  have Hb0 := Lib.hid hb0
  clear hu hb0
  cases s
  · go_enter Try.func86, Try.ntmps86
    go_wp2
    refine bodyPost_ret (res_int rfl _ w.heap.size rfl (cell_newest rfl rfl) (cell_newest rfl rfl)) rfl ?_
    exact ⟨rfl, Hb0.out _⟩
  · by_cases h0 : 0 < l.length
    · have hd : decide (0 < l.length) = true := decide_eq_true h0
      rw [hd]
      go_enter Try.func86, Try.ntmps86
      go_wp2
      refine bodyPost_ret (res_int rfl _ w.heap.size rfl (cell_newest rfl rfl) (cell_newest rfl rfl)) rfl ?_
      exact ⟨rfl, Hb0.out _⟩
    · have hd : decide (0 < l.length) = false := decide_eq_false h0
      rw [hd]
      have hd0 : decide ((0 : Int) < (l.length : Int)) = false := decide_eq_false (by omega)
      go_enter Try.func86, Try.ntmps86
      go_wp2
      refine bodyPost_ret (res_int rfl _ w.heap.size rfl (cell_newest rfl rfl) (cell_newest rfl rfl)) rfl ?_
      exact ⟨rfl, Hb0.out _⟩

theorem made_at {w : World} {Z : Zone} {u : Value} {s s' : Bool} {l : List Nat} (hu : IsU w Z u l) (hs : (s && decide (0 < l.length)) = s') :
    Calls Try.prog 86 #[.bool s, u] w fun e w' => e = .returned (.agg #[.bool s', u]) ∧ Below w.heap.size w w' := by
  subst hs
  exact made_any hu

theorem len_pos {m : Nat} : (0 < (limbs m).length) ↔ m ≠ 0 := by
  rw [List.length_pos_iff]
  exact not_congr limbs_eq_nil

/-- Two cells of the call's own: a whole number's. -/
structure Box (W : World) (g : Nat) (a b : Value) : Prop where
  c0 : W.cell? ⟨g, 0, none⟩ = some a
  c1 : W.cell? ⟨g, 1, none⟩ = some b
  f0 : W.frozen? ⟨g, 0, none⟩ = false
  f1 : W.frozen? ⟨g, 1, none⟩ = false
  lt : g < W.heap.size

theorem Box.new (w : World) (a b : Value) (t : TypeId) : Box (w.alloc (.cells #[a, b] t)) w.heap.size a b := ⟨cell_newest rfl rfl, cell_newest rfl rfl, by simp, by simp, by simp⟩
theorem Box.below {W W' : World} {g : Nat} {a b : Value} (h : Box W g a b) (hb : Below W.heap.size W W') : Box W' g a b :=
  ⟨keepC hb h.c0, keepC hb h.c1, keepF hb h.lt h.f0, keepF hb h.lt h.f1, Nat.lt_of_lt_of_le h.lt hb.size⟩
theorem Box.alloc {W : World} {g : Nat} {a b : Value} (h : Box W g a b) (o : Obj) : Box (W.alloc o) g a b := h.below ((Below.refl _ W).alloc (Nat.le_refl _) _)

/-- The number that is put into such cells last. -/
structure Put (w W' : World) (g : Nat) (x y : Value) (W : World) : Prop where
  c0 : W'.cell? ⟨g, 0, none⟩ = some x
  c1 : W'.cell? ⟨g, 1, none⟩ = some y
  bel : Below w.heap.size w W'
  keep : ∀ {B : Nat} {u : Value} {l : List Nat}, g < B → IsU W (Go.Proofs.Ytodcjaobbnjikaa.new B) u l → IsU W' (Go.Proofs.Ytodcjaobbnjikaa.new w.heap.size) u l
  box : Box W' g x y

theorem Box.put {w W : World} {g : Nat} {a b : Value} (h : Box W g a b) (hB : Below w.heap.size w W) (hg : w.heap.size ≤ g) (x y : Value) :
    Put w ((W.setCell ⟨g, 0, none⟩ x).setCell ⟨g, 1, none⟩ y) g x y W := by
  have e0 : ((W.setCell ⟨g, 0, none⟩ x).setCell ⟨g, 1, none⟩ y).cell? ⟨g, 0, none⟩ = some x := by
    rw [World.cell?_setCell_other _ _ _ _ (by simp)]
    exact World.cell?_setCell_same _ _ _ h.c0
  have e1 : ((W.setCell ⟨g, 0, none⟩ x).setCell ⟨g, 1, none⟩ y).cell? ⟨g, 1, none⟩ = some y := by
    refine World.cell?_setCell_same _ _ _ (u := b) ?_
    rw [World.cell?_setCell_other _ _ _ _ (by simp)]
    exact h.c1
  refine ⟨e0, e1, (hB.setCell (p := ⟨g, 0, none⟩) hg _).setCell (p := ⟨g, 1, none⟩) hg _, fun {B u l} hgB hu => (hu.keep fun b' hb' _ => ?_).mono (new_le (by omega)), ⟨e0, e1, ?_, ?_, ?_⟩⟩
  · have hne : b' ≠ g := by have : B ≤ b' := hb'; omega
    rw [Below.heap_setCell _ _ _ _ hne, Below.heap_setCell _ _ _ _ hne]
  · exact (World.frozen?_setCell _ _ _ _).trans ((World.frozen?_setCell _ _ _ _).trans h.f0)
  · exact (World.frozen?_setCell _ _ _ _).trans ((World.frozen?_setCell _ _ _ _).trans h.f1)
  · have := h.lt
    simpa [World.setCell] using this

set_option maxHeartbeats 1000000 in
theorem wof_any {w : World} {n : Int} (hn : -9223372036854775808 ≤ n ∧ n ≤ 9223372036854775807) :
    Calls Try.prog 56 #[.int .i64 n] w fun e w' => ∃ v, e = .returned v ∧ IsZ w' (new w.heap.size) v n ∧ Below w.heap.size w w' := by
  obtain ⟨m, hm⟩ : ∃ m, m = n.natAbs := ⟨_, rfl⟩
  have hmW : m < 18446744073709551616 := by omega
  have hb0 : Below w.heap.size w (w.alloc (.cells #[.bool false, .slice none 0 0] 77)) := (Below.refl _ w).alloc (Nat.le_refl _) _
  have box0 := Box.new w (.bool false) (.slice none 0 0) 77
  unfold IsZ
  rw [← hm]
  by_cases hneg : n < 0
  · obtain ⟨k, hk⟩ : ∃ k : Nat, (k : Int) = n + 18446744073709551616 := ⟨(n + 18446744073709551616).toNat, by omega⟩
    have e1 : IntKind.u64.wrap n = (k : Int) := by rw [IntKind.wrap_u64]; omega
    have e2 : IntKind.u64.wrap (-(k : Int)) = (m : Int) := by rw [IntKind.wrap_u64]; omega
    have hfin : (true && decide (0 < (limbs m).length)) = true := by
      rw [Bool.true_and]
      exact decide_eq_true (len_pos.2 (by omega))
    have Hfin := Lib.hid hfin
    rw [decide_eq_true (p := n < 0) hneg]
    clear hm hk hfin
    go_enter Try.func56, Try.ntmps56
    go_wp2_with fail
    refine (of_any hmW).mono ?_
    rintro e w1 ⟨u, rfl, ⟨Au, cu, rfl, hu'⟩, hb1⟩
    have hu : IsU w1 (new (w.alloc (.cells #[.bool false, .slice none 0 0] 77)).heap.size) (.slice Au (limbs m).length cu) (limbs m) := ⟨Au, cu, rfl, hu'⟩
    have box1 := box0.below hb1
    have hB := from_ hb0 hb1
    clear hu' box0 hb0 e1 e2
    go_wp2_with fail
    refine (made_at hu Hfin.out).mono ?_
    rintro e w2 ⟨rfl, hb2⟩
    have box2 := box1.below hb2
    have hB2 := from_ hB hb2
    have hP := box2.put hB2 (Nat.le_refl _) (.bool true) (.slice Au (limbs m).length cu)
    have hu2 := hP.keep (by simp) (hu.below hb2)
    have Hu := Lib.hid hu2
    have HP := Lib.hid hP
    obtain ⟨q0, q1, f0, f1, _⟩ := box2
    clear hu hu2 hP
    go_wp2
    refine bodyPost_ret (res_int rfl _ w.heap.size rfl HP.out.c0 HP.out.c1) rfl ?_
    exact ⟨_, rfl, ⟨_, rfl, Hu.out⟩, HP.out.bel⟩
  · have e1 : IntKind.u64.wrap n = (m : Int) := by rw [IntKind.wrap_u64]; omega
    have hd : decide (n < 0) = false := decide_eq_false hneg
    rw [hd]
    clear hm hneg
    go_enter Try.func56, Try.ntmps56
    go_wp2_with fail
    refine (of_any hmW).mono ?_
    rintro e w1 ⟨u, rfl, ⟨Au, cu, rfl, hu'⟩, hb1⟩
    have hu : IsU w1 (new (w.alloc (.cells #[.bool false, .slice none 0 0] 77)).heap.size) (.slice Au (limbs m).length cu) (limbs m) := ⟨Au, cu, rfl, hu'⟩
    have box1 := box0.below hb1
    have hB := from_ hb0 hb1
    clear hu' box0 hb0 e1
    go_wp2_with fail
    refine (made_at (s' := false) hu rfl).mono ?_
    rintro e w2 ⟨rfl, hb2⟩
    have box2 := box1.below hb2
    have hB2 := from_ hB hb2
    have hP := box2.put hB2 (Nat.le_refl _) (.bool false) (.slice Au (limbs m).length cu)
    have hu2 := hP.keep (by simp) (hu.below hb2)
    have Hu := Lib.hid hu2
    have HP := Lib.hid hP
    obtain ⟨q0, q1, f0, f1, _⟩ := box2
    clear hu hu2 hP
    go_wp2
    refine bodyPost_ret (res_int rfl _ w.heap.size rfl HP.out.c0 HP.out.c1) rfl ?_
    exact ⟨_, rfl, ⟨_, rfl, Hu.out⟩, HP.out.bel⟩

end Go.Proofs.Ytodcjaobbnjikaa
