/-
  facetroomlaw19.SatNames, walked. No conditions.
-/
import Derived.Test.YtjnjlgknmocdlaaKSatS
import Derived.Test.YtjnjlgknmocdlaaKSatR
namespace Go.Proofs.Ytjnjlgknmocdlaa
open Go.RowKit
set_option linter.unusedVariables false
set_option linter.unusedSimpArgs false

/-- Numbers that are written out. -/
theorem ints_lits (w : World) (l : List Int) (t : TypeId) (hs : ∀ x ∈ l, -9223372036854775808 ≤ x ∧ x ≤ 9223372036854775807) (hl : l.length ≤ 1000) : IsInts (w.alloc (.cells (l.map fun x : Int => Value.int .i64 x).toArray t)) old (.slice (some ⟨w.heap.size, 0, none⟩) l.length l.length) l := by
  refine ⟨_, _, rfl, Nat.le_refl _, by omega, hs, fun h0 => ⟨w.heap.size, 0, rfl, by simp, fun j hj => ?_⟩⟩
  rw [Nat.zero_add]
  exact cell_newest (by simp) (by simp [hj])

theorem names_plain : turnE [1, 2, 0, 3] 2 = 0 ∧ turnL [1, 2, 0, 3] 2 = [9, 10] ∧ nearE [1, 2, 0, 3] 0 1 = 0 ∧ nearA [1, 2, 0, 3] 0 1 = false ∧ errK [1, 2, 0, 3] = 0 ∧ mostI [1, 2, 0, 3] = [3] ∧ errK [1, 2, 1] = 0 ∧ mostI [1, 2, 1] = [0, 1] ∧ turnE [1, 2, 0, 3] 1 = 8 ∧ nearE [1, 2, 0, 3] 0 0 = 2 := by
  refine ⟨?_, ?_, ?_, ?_, ?_, ?_, ?_, ?_, ?_, ?_⟩ <;> decide +kernel

set_option maxRecDepth 100000 in
set_option maxHeartbeats 4000000 in
theorem lawSatNames (w : World) :
    Calls Try.prog 10 #[] w fun e w' => e = .returned (.bool true) ∧ Below w.heap.size w w' := by
  obtain ⟨p1, p2, p3, p4, p5, p6, p7, p8, p9, p10⟩ := names_plain
  have hm : IsU (w.alloc (.cells #[.int .u64 1, .int .u64 2, .int .u64 0, .int .u64 3] 34)) old (.slice (some ⟨w.heap.size, 0, none⟩) 4 4) [1, 2, 0, 3] := isU_lits w [1, 2, 0, 3] 34 (fun x hx => by simp only [List.mem_cons, List.not_mem_nil, or_false] at hx; omega) (by simp)
  have hal : Below w.heap.size w (w.alloc (.cells #[.int .u64 1, .int .u64 2, .int .u64 0, .int .u64 3] 34)) := (Below.refl _ _).alloc (Nat.le_refl _) _
  have c1 := satturn_any (n := 2) hm (by omega)
  rw [p1, p2] at c1
  have C1 := Lib.hid c1
  have C2 : Hid (∀ (w1 : World) (v : Value), IsU w1 old v [1, 2, 0, 3] → Calls Try.prog 19 #[v, .int .i64 0, .int .i64 1] w1 fun e w' => e = .returned (.tuple #[.bool false, .int .i64 0]) ∧ Below w1.heap.size w1 w') := fun w1 v h => by
    have := satnear_any (i := 0) (k := 1) h (by omega) (by omega)
    rwa [p3, p4] at this
  have C3 : Hid (∀ (w1 : World) (v : Value), IsU w1 old v [1, 2, 0, 3] → Calls Try.prog 21 #[v] w1 fun e w' => ∃ u, e = .returned (.tuple #[u, .int .i64 0]) ∧ IsInts w' old u [3] ∧ Below w1.heap.size w1 w') := fun w1 v h => by
    have := satmost_any h
    rwa [p5, p6] at this
  have C4 : Hid (∀ (w1 : World), Calls Try.prog 21 #[.slice (some ⟨w1.heap.size, 0, none⟩) 3 3] (w1.alloc (.cells #[.int .u64 1, .int .u64 2, .int .u64 1] 34)) fun e w' => ∃ u, e = .returned (.tuple #[u, .int .i64 0]) ∧ IsInts w' old u [0, 1] ∧ Below w1.heap.size w1 w') := fun w1 => by
    have := satmost_any (isU_lits w1 [1, 2, 1] 34 (fun x hx => by simp only [List.mem_cons, List.not_mem_nil, or_false] at hx; omega) (by simp))
    rw [p7, p8] at this
    refine this.mono ?_
    rintro e w' ⟨u, rfl, hu, hb⟩
    exact ⟨u, rfl, hu, from_ ((Below.refl _ _).alloc (Nat.le_refl _) _) hb⟩
  have C5 : Hid (∀ (w1 : World) (v : Value), IsU w1 old v [1, 2, 0, 3] → Calls Try.prog 17 #[v, .int .i64 1] w1 fun e w' => ∃ u, e = .returned (.tuple #[u, .int .i64 8]) ∧ Below w1.heap.size w1 w') := fun w1 v h => by
    have := satturn_any (n := 1) h (by omega)
    rw [p9] at this
    refine this.mono ?_
    rintro e w' ⟨u, rfl, _, hb⟩
    exact ⟨u, rfl, hb⟩
  have C6 : Hid (∀ (w1 : World) (v : Value), IsU w1 old v [1, 2, 0, 3] → Calls Try.prog 19 #[v, .int .i64 0, .int .i64 0] w1 fun e w' => ∃ b, e = .returned (.tuple #[.bool b, .int .i64 2]) ∧ Below w1.heap.size w1 w') := fun w1 v h => by
    have := satnear_any (i := 0) (k := 0) h (by omega) (by omega)
    rw [p10] at this
    exact this.mono fun e w' q => ⟨_, q.1, q.2⟩
  have D1 : Hid (∀ (w1 : World) (v : Value), IsU w1 old v [9, 10] → Calls Try.prog 23 #[v, .slice (some ⟨w1.heap.size, 0, none⟩) 2 2] (w1.alloc (.cells #[.int .u64 9, .int .u64 10] 34)) fun e w' => e = .returned (.bool true) ∧ Below w1.heap.size w1 w') := fun w1 v h => by
    have hal : Below w1.heap.size w1 (w1.alloc (.cells #[.int .u64 9, .int .u64 10] 34)) := (Below.refl _ _).alloc (Nat.le_refl _) _
    refine (words_dec (h.below hal) (isU_lits w1 [9, 10] 34 (fun x hx => by simp only [List.mem_cons, List.not_mem_nil, or_false] at hx; omega) (by simp))).mono ?_
    rintro e w' ⟨rfl, hb⟩
    exact ⟨rfl, from_ hal hb⟩
  have D2 : Hid (∀ (w1 : World) (v : Value), IsInts w1 old v [3] → Calls Try.prog 24 #[v, .slice (some ⟨w1.heap.size, 0, none⟩) 1 1] (w1.alloc (.cells #[.int .i64 3] 3)) fun e w' => e = .returned (.bool true) ∧ Below w1.heap.size w1 w') := fun w1 v h => by
    have hal : Below w1.heap.size w1 (w1.alloc (.cells #[.int .i64 3] 3)) := (Below.refl _ _).alloc (Nat.le_refl _) _
    refine (ints_dec (isInts_below h hal) (ints_lits w1 [3] 3 (fun x hx => by simp only [List.mem_cons, List.not_mem_nil, or_false] at hx; omega) (by simp))).mono ?_
    rintro e w' ⟨rfl, hb⟩
    exact ⟨rfl, from_ hal hb⟩
  have D3 : Hid (∀ (w1 : World) (v : Value), IsInts w1 old v [0, 1] → Calls Try.prog 24 #[v, .slice (some ⟨w1.heap.size, 0, none⟩) 2 2] (w1.alloc (.cells #[.int .i64 0, .int .i64 1] 3)) fun e w' => e = .returned (.bool true) ∧ Below w1.heap.size w1 w') := fun w1 v h => by
    have hal : Below w1.heap.size w1 (w1.alloc (.cells #[.int .i64 0, .int .i64 1] 3)) := (Below.refl _ _).alloc (Nat.le_refl _) _
    refine (ints_dec (isInts_below h hal) (ints_lits w1 [0, 1] 3 (fun x hx => by simp only [List.mem_cons, List.not_mem_nil, or_false] at hx; omega) (by simp))).mono ?_
    rintro e w' ⟨rfl, hb⟩
    exact ⟨rfl, from_ hal hb⟩
  have HM := Lib.hid hm
  clear p1 p2 p3 p4 p5 p6 p7 p8 p9 p10 c1 hm
  go_enter Try.func10, Try.ntmps10
  go_wp2_with fail
  refine C1.out.mono ?_
  rintro e w1 ⟨va, rfl, ia, hb⟩
  have H1 := Lib.hid hb
  have hB := from_ hal hb
  clear hb hal
  go_wp2_with fail
  refine (C2.out _ _ (HM.out.below H1.out)).mono ?_
  rintro e w2 ⟨rfl, hb⟩
  have H2 := Lib.hid (from_ H1.out hb)
  replace ia := ia.below hb
  replace hB := from_ hB hb
  clear hb
  go_wp2_with fail
  refine (C3.out _ _ (HM.out.below H2.out)).mono ?_
  rintro e w3 ⟨vb, rfl, ib, hb⟩
  have H3 := Lib.hid (from_ H2.out hb)
  replace ia := ia.below hb
  replace hB := from_ hB hb
  clear hb
  go_wp2_with fail
  refine (C4.out _).mono ?_
  rintro e w4 ⟨vc, rfl, ic, hb⟩
  have H4 := Lib.hid (from_ H3.out hb)
  replace ia := ia.below hb
  replace ib := isInts_below ib hb
  replace hB := from_ hB hb
  clear hb
  go_wp2_with fail
  refine (C5.out _ _ (HM.out.below H4.out)).mono ?_
  rintro e w5 ⟨vd, rfl, hb⟩
  have H5 := Lib.hid (from_ H4.out hb)
  replace ia := ia.below hb
  replace ib := isInts_below ib hb
  replace ic := isInts_below ic hb
  replace hB := from_ hB hb
  clear hb
  go_wp2_with fail
  refine (C6.out _ _ (HM.out.below H5.out)).mono ?_
  rintro e w6 ⟨b6, rfl, hb⟩
  replace ia := ia.below hb
  replace ib := isInts_below ib hb
  replace ic := isInts_below ic hb
  replace hB := from_ hB hb
  clear hb
  go_wp2_with fail
  refine (D1.out _ _ ia).mono ?_
  rintro e w7 ⟨rfl, hb⟩
  replace ib := isInts_below ib hb
  replace ic := isInts_below ic hb
  replace hB := from_ hB hb
  clear hb ia
  go_wp2_with fail
  refine (alive19 _).mono ?_
  rintro e w8 ⟨rfl, hb⟩
  replace ib := isInts_below ib hb
  replace ic := isInts_below ic hb
  replace hB := from_ hB hb
  clear hb
  go_wp2_with fail
  refine (D2.out _ _ ib).mono ?_
  rintro e w9 ⟨rfl, hb⟩
  replace ic := isInts_below ic hb
  replace hB := from_ hB hb
  clear hb ib
  go_wp2_with fail
  refine (D3.out _ _ ic).mono ?_
  rintro e w10 ⟨rfl, hb⟩
  replace hB := from_ hB hb
  clear hb ic
  go_wp2
  go_ret
  exact ⟨by first | rfl | trivial, hB⟩

end Go.Proofs.Ytjnjlgknmocdlaa
