/-
  The walk of VecOf, and slices of ints among the arguments. No conditions.
-/
import Derived.Test.YtodcjaobbnjikaaVecC
import Derived.Test.YtodcjaobbnjikaaFrame
namespace Go.Proofs.Ytodcjaobbnjikaa
open Go.ChangeShapes Go.WideShapes Go.ChangeAt Go.RowKit
set_option linter.unusedVariables false
set_option linter.unusedSimpArgs false

theorem open_ints_ {H : Type} {enc : TypeId × Value → H} {P : Program} {W : World} {base b0 : Nat} {held : Bool} {r : Reach} {t e : TypeId} {v : Value} {d : DataW H} {p : List MemPlace}
    (ht : P.underlying t = some (.slice e)) (he : P.underlying e = some (.int .i64)) (hc : P.cellsOf e = 1) (hv : Value.okWide P W r b0 t v) (h : DataW.Trod enc P W base (fun _ => true) held t v d p) :
    ∃ l, IsInts W old v l := by
  obtain ⟨a, len, cap, rfl⟩ := okWide_slice ht hv
  obtain ⟨fuel, hf⟩ := h
  rcases open_ints ht he hc hf with ⟨hcs, _⟩ | ⟨x, l, c, zs, hcs, _, hl, hm, hz, _, hcell, hwz⟩
  · simp [Value.cells] at hcs
    obtain ⟨rfl, rfl, rfl⟩ := hcs
    exact ⟨[], none, 0, rfl, Nat.le_refl _, by omega, fun z hz => by simp at hz, fun h => absurd h (by simp)⟩
  · simp [Value.cells] at hcs
    obtain ⟨rfl, rfl, rfl⟩ := hcs
    simp only [if_true] at hz
    have hlen : (zs.take len).length = len := by rw [List.length_take]; omega
    refine ⟨zs.take len, some x, cap, by rw [hlen], by omega, by simpa [maxLen] using hm, fun z hz' => ?_, fun h0 => ?_⟩
    · have := bounds_i64 (hwz z (List.mem_of_mem_take hz'))
      exact this
    · rw [hlen] at h0
      have hc0 := hcell 0 (by omega)
      have hspot : x.spot = none := by simpa [Addr.add] using World.cell?_spot hc0
      obtain ⟨b, o, spot⟩ := x
      simp only at hspot
      subst hspot
      rw [Addr.add_lit] at hc0
      refine ⟨b, o, rfl, World.block_lt_of_cell? W _ hc0, fun j hj => ?_⟩
      have hj' : j < zs.length := by rw [hlen] at hj; omega
      have hcj := hcell j hj'
      rw [Addr.add_lit] at hcj
      rw [hcj]
      simp [List.getD, List.getElem_take, hj']

set_option maxHeartbeats 1000000 in
theorem lawVecOf {w : World} {a : Value} {zs : List Int} (ha : IsInts w old a zs) :
    Calls Try.prog 3 #[a] w fun e w' => e = .returned (.bool true) ∧ Below w.heap.size w w' := by
  have ha0 := ha
  obtain ⟨A, c, rfl, hc1, hc2, hz, ha⟩ := ha
  by_cases hl : zs.length ≤ 1000
  · have hd : decide ((1000 : Int) < (zs.length : Int)) = false := by simp; omega
    have hv := vof_any ha0 hl
    have HV := Lib.hid hv
    clear hv ha hz
    go_enter Try.func3, Try.ntmps3
    go_wp2_with fail
    refine HV.out.mono ?_
    rintro e w1 ⟨v1, rfl, h1, hb1⟩
    have ha1 : IsInts w1 old (.slice A zs.length c) zs := by
      obtain ⟨A', c', e, q1, q2, q3, q4⟩ := ha0
      refine ⟨A', c', e, q1, q2, q3, fun h0 => ?_⟩
      obtain ⟨b, o, e1, hlt, hc⟩ := q4 h0
      exact ⟨b, o, e1, Nat.lt_of_lt_of_le hlt hb1.size, fun j hj => keepC hb1 (hc j hj)⟩
    have h2 := r07of_any ha1 hl
    have H2 := Lib.hid h2
    clear h2 HV ha0 ha1
    go_wp2_with fail
    refine H2.out.mono ?_
    rintro e w2 ⟨v2, rfl, h2, hb2⟩
    have h1 := h1.below hb2
    have hB := from_ hb1 hb2
    go_wp2_with fail
    refine (same7_yes h1 h2).mono ?_
    rintro e w3 ⟨rfl, hb3⟩
    have hB3 := from_ hB hb3
    go_wp2
    go_ret
    exact ⟨rfl, hB3⟩
  · have hd : (1000 : Int) < (zs.length : Int) := by omega
    clear ha hz
    go_enter Try.func3, Try.ntmps3
    go_wp2
    go_ret
    exact ⟨rfl, Below.refl _ _⟩

end Go.Proofs.Ytodcjaobbnjikaa
