/-
  A row of numbers of one's own that is put together; stores into elder blocks; the results of Split. No conditions.
-/
import Derived.OneCell
import Derived.Test.YtamenhffplhddaaGreatLVecK
import Derived.Test.YtamenhffplhddaaGreatLFrameJ
namespace Go.Proofs.YtamenhffplhddaaGreat
open Go.RowKit
set_option linter.unusedVariables false
set_option linter.unusedSimpArgs false

/-- All memory from a block on, but for one block. -/
def offS (B g : Nat) : Zone := ⟨fun b => B ≤ b ∧ b ≠ g, True⟩
theorem new_offS {B C g : Nat} (h : B ≤ C) (hg : g < C) : (new C).le (offS B g) := ⟨fun b hb => by have h1 : C ≤ b := hb; exact ⟨by omega, by omega⟩, fun h => h⟩
theorem offS_new (B g : Nat) : (offS B g).le (new B) := ⟨fun b hb => hb.1, fun h => h⟩
theorem U64s.offY {w : World} {B g : Nat} {A : Option Addr} {c : Nat} {l : List Nat} (h : U64s w (offS B g) A c l) {j : Nat} {v : Value} : U64s (w.setCell ⟨g, j, none⟩ v) (offS B g) A c l :=
  h.keep fun b hb _ => Below.heap_setCell _ _ _ _ hb.2

/-- A row of numbers of one's own. -/
structure OutI (w : World) (B g n : Nat) (zs : List Int) (xs : List Value) : Prop where
  own : w.ownsRow B 25 2 (.slice (some ⟨g, 0, none⟩) n n) n xs
  len : zs.length = n
  cells : ∀ j (hj : j < zs.length), ∃ s A l c, xs[j * 2]? = some (.bool s) ∧ xs[j * 2 + 1]? = some (.slice A (l : List Nat).length c) ∧ U64s w (offS B g) A c l ∧ Nm zs[j] s l

theorem made_twoI {n i : Nat} (h : i < n * 2) : (madeCells (Value.agg #[.bool false, .slice none 0 0]).cells (n * 2)).toList[i]? = some (if i % 2 = 0 then .bool false else .slice none 0 0) := by
  have e : (Value.agg #[.bool false, .slice none 0 0]).cells = #[.bool false, .slice none 0 0] := rfl
  rw [e, Array.getElem?_toList]
  unfold madeCells
  rw [Array.getElem?_map, Array.getElem?_eq_getElem (by simpa using h)]
  simp only [Array.getElem_range, Option.map_some]
  rcases Nat.mod_two_eq_zero_or_one i with h | h
  · simp [h]
  · simp [h]
theorem OutI.zero {w : World} {B g n : Nat} {xs : List Value} (h : w.ownsRow B 25 2 (.slice (some ⟨g, 0, none⟩) n n) n xs) (hx : xs = (madeCells (Value.agg #[.bool false, .slice none 0 0]).cells (n * 2)).toList) : OutI w B g n (List.replicate n 0) xs := by
  refine ⟨h, by simp, fun j hj => ?_⟩
  rw [List.length_replicate] at hj
  have e0 : limbs (0 : Int).natAbs = [] := limbs_eq_nil.2 rfl
  refine ⟨false, none, [], 0, ?_, ?_, U64s.nil _ _, ?_⟩
  · rw [hx, made_twoI (by omega), if_pos (by omega)]
  · rw [hx, made_twoI (by omega), if_neg (by omega)]; rfl
  · rw [List.getElem_replicate]; exact ⟨rfl, e0.symm⟩
theorem OutI.below {w w' : World} {B g n : Nat} {zs : List Int} {xs : List Value} (h : OutI w B g n zs xs) (hb : Below w.heap.size w w') : OutI w' B g n zs xs := by
  refine ⟨own_below h.own hb, h.len, fun j hj => ?_⟩
  obtain ⟨s, A, l, c, h0, h1, hu, hn⟩ := h.cells j hj
  exact ⟨s, A, l, c, h0, h1, hu.below hb, hn⟩
/-- Where the j-th number stands. -/
theorem OutI.at {w : World} {B g n : Nat} {zs : List Int} {xs : List Value} (h : OutI w B g n zs xs) {i : Nat} (hi : i < n) : ∃ x0 x1, w.cell? ⟨g, i * 2, none⟩ = some x0 ∧ w.cell? ⟨g, i * 2 + 1, none⟩ = some x1 ∧ w.frozen? ⟨g, i * 2, none⟩ = false ∧ w.frozen? ⟨g, i * 2 + 1, none⟩ = false := by
  have d0 := h.own.cellAt (i * 2) (by omega)
  have d1 := h.own.cellAt (i * 2 + 1) (by omega)
  obtain ⟨s, A, l, c, h0, h1, _, _⟩ := h.cells i (by have := h.len; omega)
  exact ⟨_, _, d0.trans h0, d1.trans h1, h.own.frozenAt _, h.own.frozenAt _⟩
theorem OutI.lt {w : World} {B g n : Nat} {zs : List Int} {xs : List Value} (h : OutI w B g n zs xs) : B ≤ g ∧ g < w.heap.size := h.own.lt g rfl
theorem OutI.set {w : World} {B g n i : Nat} {zs : List Int} {xs : List Value} {s : Bool} {l : List Nat} {A : Option Addr} {c : Nat} {z : Int} (h : OutI w B g n zs xs) (hi : i < n) (hu : U64s w (offS B g) A c l) (hz : Nm z s l) :
    OutI ((w.setCell ⟨g, i * 2, none⟩ (.bool s)).setCell ⟨g, i * 2 + 1, none⟩ (.slice A l.length c)) B g n (zs.set i z) ((xs.set (i * 2) (.bool s)).set (i * 2 + 1) (.slice A l.length c)) := by
  have o1 := (h.own.stored (i * 2) (.bool s)).1
  have o2 := (o1.stored (i * 2 + 1) (.slice A l.length c)).1
  have hxl := h.own.1
  have hzl := h.len
  refine ⟨o2, by rw [List.length_set, hzl], fun j hj => ?_⟩
  rw [List.length_set] at hj
  by_cases hji : j = i
  · subst hji
    refine ⟨s, A, l, c, ?_, ?_, (hu.offY).offY, ?_⟩
    · rw [List.getElem?_set_ne (by omega), List.getElem?_set_self (by omega)]
    · rw [List.getElem?_set_self (by rw [List.length_set]; omega)]
    · rw [List.getElem_set_self]; exact hz
  · obtain ⟨s', A', l', c', h0, h1, hu', hn'⟩ := h.cells j hj
    refine ⟨s', A', l', c', ?_, ?_, (hu'.offY).offY, ?_⟩
    · rw [List.getElem?_set_ne (by omega), List.getElem?_set_ne (by omega)]; exact h0
    · rw [List.getElem?_set_ne (by omega), List.getElem?_set_ne (by omega)]; exact h1
    · rw [List.getElem_set_ne (by omega)]; exact hn'
/-- A store into an elder block. -/
theorem OutI.other {w : World} {B g n : Nat} {zs : List Int} {xs : List Value} (h : OutI w B g n zs xs) {b j : Nat} (hb : b < B) (v : Value) : OutI (w.setCell ⟨b, j, none⟩ v) B g n zs xs := by
  have hl := h.lt
  refine ⟨ownsRow_setCell_other h.own (fun e => ?_) v, h.len, fun i hi => ?_⟩
  · have : g = b := Option.some.inj e
    omega
  · obtain ⟨s, A, l, c, h0, h1, hu, hn⟩ := h.cells i hi
    exact ⟨s, A, l, c, h0, h1, hu.keep fun b' hb' _ => Below.heap_setCell _ _ _ _ (by have := hb'.1; show b' ≠ b; omega), hn⟩
theorem OutI.other6 {w : World} {B g n : Nat} {zs : List Int} {xs : List Value} (h : OutI w B g n zs xs) {b : Nat} (hb : b < B) (x0 x1 x2 x3 x4 x5 : Value) :
    OutI ((((((w.setCell ⟨b, 0, none⟩ x0).setCell ⟨b, 1, none⟩ x1).setCell ⟨b, 2, none⟩ x2).setCell ⟨b, 3, none⟩ x3).setCell ⟨b, 4, none⟩ x4).setCell ⟨b, 5, none⟩ x5) B g n zs xs :=
  (((((h.other hb x0).other hb x1).other hb x2).other hb x3).other hb x4).other hb x5
def encI (zs : List Int) : List (Bool × List Nat) := zs.map fun z => (decide (z < 0), limbs z.natAbs)
theorem encI_len (zs : List Int) : (encI zs).length = zs.length := List.length_map _
theorem encI_get {zs : List Int} {j : Nat} (h : j < (encI zs).length) (h' : j < zs.length) : (encI zs)[j] = (decide (zs[j] < 0), limbs (zs[j]).natAbs) := List.getElem_map _
theorem OutI.vec {w : World} {B B' g n : Nat} {zs : List Int} {xs : List Value} (h : OutI w B g n zs xs) (hB : B' ≤ B) (hn : n ≤ 1000000) : VecAt w (new B') (some ⟨g, 0, none⟩) n (encI zs) := by
  have hzl := h.len
  have hlt := h.lt
  refine ⟨by rw [encI_len]; omega, by omega, fun h0 => ⟨g, 0, rfl, (show B' ≤ g by omega), hlt.2, fun _ j => by rw [Nat.zero_add]; exact h.own.frozenAt j, fun j hj => ?_⟩⟩
  have hj' : j < zs.length := by rw [encI_len] at hj; exact hj
  obtain ⟨s, A, l, c, c0, c1, hu, hnm⟩ := h.cells j hj'
  have e : (encI zs)[j] = (s, l) := by rw [encI_get hj hj', hnm.1, hnm.2]
  rw [e]
  exact ⟨A, c, by rw [Nat.zero_add, h.own.cellAt (j * 2) (by omega)]; exact c0, by rw [Nat.zero_add, h.own.cellAt (j * 2 + 1) (by omega)]; exact c1, hu.mono ((⟨fun b hb => Nat.le_trans hB hb.1, fun h => h⟩ : (offS B g).le (new B')))⟩

/-- A store into another block. -/
theorem Box6.other {W : World} {g : Nat} {a b c d e f : Value} (h : Box6 W g a b c d e f) {k j : Nat} (hn : k ≠ g) (v : Value) : Box6 (W.setCell ⟨k, j, none⟩ v) g a b c d e f := by
  obtain ⟨h0, h1, h2, h3, h4, h5, f0, f1, f2, f3, f4, f5, hl⟩ := h
  refine ⟨?_, ?_, ?_, ?_, ?_, ?_, ?_, ?_, ?_, ?_, ?_, ?_, ?_⟩
  · rw [World.cell?_setCell_other _ _ _ _ (fun e => hn (by injection e))]; exact h0
  · rw [World.cell?_setCell_other _ _ _ _ (fun e => hn (by injection e))]; exact h1
  · rw [World.cell?_setCell_other _ _ _ _ (fun e => hn (by injection e))]; exact h2
  · rw [World.cell?_setCell_other _ _ _ _ (fun e => hn (by injection e))]; exact h3
  · rw [World.cell?_setCell_other _ _ _ _ (fun e => hn (by injection e))]; exact h4
  · rw [World.cell?_setCell_other _ _ _ _ (fun e => hn (by injection e))]; exact h5
  · exact (World.frozen?_setCell _ _ _ _).trans f0
  · exact (World.frozen?_setCell _ _ _ _).trans f1
  · exact (World.frozen?_setCell _ _ _ _).trans f2
  · exact (World.frozen?_setCell _ _ _ _).trans f3
  · exact (World.frozen?_setCell _ _ _ _).trans f4
  · exact (World.frozen?_setCell _ _ _ _).trans f5
  · simpa [World.setCell] using hl

theorem res_split {fn : Func} {p q u : Tmp} (h : fn.results = #[.tmp q, .cell p 29, .tmp u]) (tmps : Array Value) {w : World} (g : Nat) {a b c d e f : Value} (hp : tmps.getD p undef = .pointer (some ⟨g, 0, none⟩)) (hB : Box6 w g a b c d e f) :
    (results fn tmps).run Tryz.prog w = .ok (.tuple #[tmps.getD q undef, .agg #[a, b, c, d, e, f], tmps.getD u undef]) w := by
  have hp' : tmps[p]?.getD undef = .pointer (some ⟨g, 0, none⟩) := by simpa using hp
  simp [results, h, hp', asAddr, loadVar_itv hB, Sem.run_bind, Result.andThen]

theorem six_keep {W W' : World} {b o : Nat} {a0 a1 a2 a3 a4 a5 : Value} (h : W.cell? ⟨b, o, none⟩ = some a0 ∧ W.cell? ⟨b, o + 1, none⟩ = some a1 ∧ W.cell? ⟨b, o + 2, none⟩ = some a2 ∧ W.cell? ⟨b, o + 3, none⟩ = some a3 ∧ W.cell? ⟨b, o + 4, none⟩ = some a4 ∧ W.cell? ⟨b, o + 5, none⟩ = some a5) (hb : Below W.heap.size W W') : W'.cell? ⟨b, o, none⟩ = some a0 ∧ W'.cell? ⟨b, o + 1, none⟩ = some a1 ∧ W'.cell? ⟨b, o + 2, none⟩ = some a2 ∧ W'.cell? ⟨b, o + 3, none⟩ = some a3 ∧ W'.cell? ⟨b, o + 4, none⟩ = some a4 ∧ W'.cell? ⟨b, o + 5, none⟩ = some a5 :=
  ⟨keepC hb h.1, keepC hb h.2.1, keepC hb h.2.2.1, keepC hb h.2.2.2.1, keepC hb h.2.2.2.2.1, keepC hb h.2.2.2.2.2⟩
theorem six_st6 {W : World} {b o r : Nat} {a0 a1 a2 a3 a4 a5 x0 x1 x2 x3 x4 x5 : Value} (hn : r ≠ b) (h : W.cell? ⟨b, o, none⟩ = some a0 ∧ W.cell? ⟨b, o + 1, none⟩ = some a1 ∧ W.cell? ⟨b, o + 2, none⟩ = some a2 ∧ W.cell? ⟨b, o + 3, none⟩ = some a3 ∧ W.cell? ⟨b, o + 4, none⟩ = some a4 ∧ W.cell? ⟨b, o + 5, none⟩ = some a5) :
    let V := ((((((W.setCell ⟨r, 0, none⟩ x0).setCell ⟨r, 1, none⟩ x1).setCell ⟨r, 2, none⟩ x2).setCell ⟨r, 3, none⟩ x3).setCell ⟨r, 4, none⟩ x4).setCell ⟨r, 5, none⟩ x5)
    V.cell? ⟨b, o, none⟩ = some a0 ∧ V.cell? ⟨b, o + 1, none⟩ = some a1 ∧ V.cell? ⟨b, o + 2, none⟩ = some a2 ∧ V.cell? ⟨b, o + 3, none⟩ = some a3 ∧ V.cell? ⟨b, o + 4, none⟩ = some a4 ∧ V.cell? ⟨b, o + 5, none⟩ = some a5 := ⟨st6 h.1 hn, st6 h.2.1 hn, st6 h.2.2.1 hn, st6 h.2.2.2.1 hn, st6 h.2.2.2.2.1 hn, st6 h.2.2.2.2.2 hn⟩
theorem six_keep0 {W W' : World} {b : Nat} {a0 a1 a2 a3 a4 a5 : Value} (h : W.cell? ⟨b, 0, none⟩ = some a0 ∧ W.cell? ⟨b, 1, none⟩ = some a1 ∧ W.cell? ⟨b, 2, none⟩ = some a2 ∧ W.cell? ⟨b, 3, none⟩ = some a3 ∧ W.cell? ⟨b, 4, none⟩ = some a4 ∧ W.cell? ⟨b, 5, none⟩ = some a5) (hb : Below W.heap.size W W') : W'.cell? ⟨b, 0, none⟩ = some a0 ∧ W'.cell? ⟨b, 1, none⟩ = some a1 ∧ W'.cell? ⟨b, 2, none⟩ = some a2 ∧ W'.cell? ⟨b, 3, none⟩ = some a3 ∧ W'.cell? ⟨b, 4, none⟩ = some a4 ∧ W'.cell? ⟨b, 5, none⟩ = some a5 :=
  ⟨keepC hb h.1, keepC hb h.2.1, keepC hb h.2.2.1, keepC hb h.2.2.2.1, keepC hb h.2.2.2.2.1, keepC hb h.2.2.2.2.2⟩

end Go.Proofs.YtamenhffplhddaaGreat
