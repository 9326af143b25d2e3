/-
  The walk of GcdNames. The one premise: the table of powers of ten reads as it is laid.
-/
import Derived.Test.YtncnbcdppdkmcaaGreatDoorDGcdE
import Derived.Test.YtncnbcdppdkmcaaGreatDoorDDigQ
namespace Go.Proofs.YtncnbcdppdkmcaaGreatDoor
open Go.RowKit
set_option linter.unusedVariables false
set_option linter.unusedSimpArgs false

theorem gparse_lit {w : World} (s : ByteArray) {e0 : Int} {n : Nat} (he : parseE s.data.toList = e0) (hn : parseN s.data.toList = n) (hs : s.size ≤ 9223372036854775807) :
    Calls Tryz.prog 6 #[.string s] w fun e w' => ∃ v, e = .returned (.tuple #[v, .int .i64 e0]) ∧ IsN w' (new w.heap.size) v n ∧ Below w.heap.size w w' := by
  subst he
  subst hn
  exact gparse_any s hs

set_option maxRecDepth 100000 in
set_option maxHeartbeats 2000000 in
theorem lawGcdNames (w : World) (ht : Tab w) :
    Calls Tryz.prog 3 #[] w fun e w' => e = .returned (.bool true) ∧ Below w.heap.size w w' := by
  obtain ⟨i0, hi, hz0, hz1, hz2⟩ := info_parts Tryz.info31
  go_enter Tryz.func3, Tryz.ntmps3
  go_wp2_with fail
  refine (show Calls Tryz.prog 5 #[.slice none 0 0] w fun e w' => e = .returned (.tuple #[.string ⟨#[48]⟩, .int .i64 0]) ∧ Below w.heap.size w w' from gtext_zero (IsN.zero w old)).mono ?_
  rintro e w1 ⟨rfl, hB⟩
  go_wp2_with fail
  refine (gparse_lit (w := w1) ⟨#[49, 56, 52, 52, 54, 55, 52, 52, 48, 55, 51, 55, 48, 57, 53, 53, 49, 54, 49, 54]⟩ (e0 := 0) (n := 18446744073709551616) (by decide +kernel) (by decide +kernel) (by decide)).mono ?_
  rintro e w2 ⟨a, rfl, ha, hb⟩
  replace hB := from_ hB hb
  clear hb
  go_wp2_with fail
  refine (gparse_lit (w := w2) ⟨#[48, 48, 55]⟩ (e0 := 8) (n := 0) (by decide +kernel) (by decide +kernel) (by decide)).mono ?_
  rintro e w3 ⟨b, rfl, -, hb⟩
  replace ha := ha.below hb
  replace hB := from_ hB hb
  clear hb
  go_wp2_with fail
  refine (gparse_lit (w := w3) ⟨#[45, 49]⟩ (e0 := 8) (n := 0) (by decide +kernel) (by decide +kernel) (by decide)).mono ?_
  rintro e w4 ⟨c, rfl, -, hb⟩
  replace ha := ha.below hb
  replace hB := from_ hB hb
  clear hb
  go_wp2_with (at_make; go_loud (refine wpList_make_full _ rfl _ _ 26 rfl w4.heap.size 31 i0 (.int .u64 0) 1 Tryz.underlying26 hi hz0 hz1 .i64 .i64 _ _ 2 rfl rfl rfl rfl (by rw [hz2]; omega) (by simp only [maxLen]; omega) (Nat.le_refl _) ?_); intro w5 hown hgrow)
  have hb5 : Below w4.heap.size w4 w5 := (Below.refl _ w4).grown hgrow (Nat.le_refl _) (fun k h => by cases h)
  have hcells : (madeCells (Value.int .u64 0).cells (2 * 1)).toList = [0, 0].map fun x : Nat => Value.int .u64 (x : Int) := by
    simpa [Value.cells, List.replicate] using toList_madeCells_one (.int .u64 0) 2
  rw [hcells] at hown
  have hz5 : IsU w5 (new w4.heap.size) (.slice (some ⟨w4.heap.size, 0, none⟩) 2 2) [0, 0] := ⟨_, _, rfl, (U64s.of_own (l := [0, 0]) (Small.cons (by omega) (Small.cons (by omega) Small.nil)) hown).2⟩
  replace ha := ha.below hb5
  replace hB := from_ hB hb5
  clear hown hgrow hb5
  go_wp2_with fail
  refine (gtext_bad hz5 rfl).mono ?_
  rintro e w6 ⟨rfl, hb⟩
  replace ha := ha.below hb
  replace hB := from_ hB hb
  clear hb hz5
  have hal := Lib.hid (alive4 (ht.below hB))
  go_wp2_with fail
  refine hal.out.mono ?_
  rintro e w7 ⟨rfl, hb⟩
  replace ha := ha.below hb
  replace hB := from_ hB hb
  clear hb hal
  have ha' : IsU w7 (new w1.heap.size) a [0, 1] := by
    have e : limbs 18446744073709551616 = [0, 1] := limbs_val [0, 1] (Small.cons (by omega) (Small.cons (by omega) Small.nil)) rfl
    unfold IsN at ha
    rwa [e] at ha
  go_wp2_with fail
  refine (same_yes (Y := old) (ha'.below (by first | exact Below.refl _ _ | go_grown)) (isU_two (x := 0) (y := 1) (by omega) (by omega) (by first | (refine cell_newest ?_ rfl; simp; done) | (simp; done) | (refine keepA (cell_newest ?_ rfl); simp; done)) (by first | (refine cell_newest ?_ rfl; simp; done) | (simp; done) | (refine keepA (cell_newest ?_ rfl); simp; done)))).mono ?_
  rintro e w8 ⟨rfl, hb⟩
  have hs : Below w7.heap.size w7 w8 := step (by first | exact Below.refl _ _ | go_grown) hb
  replace hB := from_ hB hs
  clear hb hs
  go_wp2
  go_ret
  exact ⟨rfl, hB⟩
end Go.Proofs.YtncnbcdppdkmcaaGreatDoor
