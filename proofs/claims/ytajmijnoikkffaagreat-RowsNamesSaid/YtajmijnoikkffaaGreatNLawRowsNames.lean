/-
  facetroomlaw18.RowsNames, walked. No conditions.
-/
import Derived.Test.YtajmijnoikkffaaGreatNRowY
import Derived.Test.YtajmijnoikkffaaGreatNRowN
namespace Go.Proofs.YtajmijnoikkffaaGreat
open Go.RowKit
set_option linter.unusedVariables false
set_option linter.unusedSimpArgs false

theorem n1_row {x y z : Int} (h : ∀ a ∈ [x, y, z], a.natAbs < 18446744073709551616) : SzV 1 [x, y, z] := enc_szv (nmV_small (encR_nm _) h)

set_option maxRecDepth 100000 in
set_option maxHeartbeats 4000000 in
theorem lawRowsNames (w : World) :
    Calls Tryz.prog 3 #[] w fun e w' => e = .returned (.bool true) ∧ Below w.heap.size w w' := by
  have hB : Below w.heap.size w w := Below.refl _ _
  have hV := Lib.hid rof3
  have HA := Lib.hid alive18
  have f1 : formF 3 [[0, 1, 2]] = [[0, 1, 2]] := by decide +kernel
  have f2 : restF 3 [[0, 1, 2]] [5, 1, 1] = [5, 0, -1] := by decide +kernel
  have f3 : pk 3 (restF 3 [[0, 1, 2]] [0, 3, 6]) = 0 := by decide +kernel
  have f4 : kerF 3 [[0, 1, 2]] = [[0, 2, -1], [1, 0, 0]] := by decide +kernel
  have s1 : ∀ r ∈ [[0, 1, 2]], SzV 1 r := by
    intro r hr
    simp only [List.mem_cons, List.not_mem_nil, or_false] at hr
    subst hr
    exact n1_row (by simp)
  have CR : Hid (∀ W A c B d, MatN W old A c 3 [[0, 1, 2]] → RowAt W old B d 3 [5, 1, 1] → Calls Tryz.prog 5 #[.slice B 3 d, .slice A 1 c] W fun e w' => ∃ A2 c2, e = .returned (.tuple #[.slice A2 3 c2, .int .i64 0]) ∧ RowAt w' (new W.heap.size) A2 c2 3 [5, 0, -1] ∧ Below W.heap.size W w') := fun W A c B d h1 h2 => by
    have h := reduce_ok (K := 1) (B0 := 1) (M := 1) h1 h2 (by omega) (by omega) (by simp) s1 (by rw [f1]; unfold bigF; decide +kernel) (n1_row (by simp)) (by rw [f1]; exact s1) (by rw [f1]; decide)
    rw [f1, f2] at h
    exact h
  have CI : Hid (∀ W A c B d, MatN W old A c 3 [[0, 1, 2]] → RowAt W old B d 3 [0, 3, 6] → Calls Tryz.prog 6 #[.slice B 3 d, .slice A 1 c] W fun e w' => e = .returned (.tuple #[.bool true, .int .i64 0]) ∧ Below W.heap.size W w') := fun W A c B d h1 h2 => by
    have h := rin_ok (K := 1) (B0 := 1) (M := 1) h1 h2 (by omega) (by omega) (by simp) s1 (by rw [f1]; unfold bigF; decide +kernel) (n1_row (by simp)) (by rw [f1]; exact s1) (by rw [f1]; decide)
    rw [f1, f3] at h
    exact h
  have CK : Hid (∀ W A c, MatN W old A c 3 [[0, 1, 2]] → Calls Tryz.prog 7 #[.int .i64 3, .slice A 1 c] W fun e w' => ∃ A2 c2, e = .returned (.tuple #[.slice A2 2 c2, .int .i64 0]) ∧ MatN w' old A2 c2 3 [[0, 2, -1], [1, 0, 0]] ∧ Below W.heap.size W w') := fun W A c h1 => by
    have h := kernel_ok (B0 := 1) (M := 1) h1 (by omega) (by omega) (by simp) s1 (by rw [f1]; unfold bigF; decide +kernel) (by rw [f1]; exact s1) (by rw [f1]; unfold bigF; decide +kernel)
    rw [f1, f4] at h
    exact h
  have CN : Hid (∀ W, Calls Tryz.prog 8 #[.slice none 0 0] W fun e w' => e = .returned (.tuple #[.int .i64 0, .int .i64 0]) ∧ Below W.heap.size W w') := fun W => by
    have h := rank_ok (B := 1) (matN_nil W old 3) (by omega) (by omega) (by simp) (by simp) (by unfold bigF; decide +kernel)
    exact h
  have CS7 : Hid (∀ W Z Y A1 c1 A2 c2, RowAt W Z A1 c1 3 [5, 0, -1] → RowAt W Y A2 c2 3 [5, 0, -1] → Calls Tryz.prog 10 #[.slice A1 3 c1, .slice A2 3 c2] W fun e w' => e = .returned (.bool true) ∧ Below W.heap.size W w') := fun W Z Y A1 c1 A2 c2 h1 h2 => by
    have h3 := r07same_n h1 h2
    rwa [decide_eq_true rfl] at h3
  have CS18 : Hid (∀ W A1 c1 A2 c2, MatN W old A1 c1 3 [[0, 2, -1], [1, 0, 0]] → MatN W old A2 c2 3 [[0, 2, -1], [1, 0, 0]] → Calls Tryz.prog 11 #[.slice A1 2 c1, .slice A2 2 c2] W fun e w' => e = .returned (.bool true) ∧ Below W.heap.size W w') := fun W A1 c1 A2 c2 h1 h2 => by
    have h3 := r18same_n h1 h2
    rwa [decide_eq_true rfl] at h3
  clear f1 f2 f3 f4 s1
  go_enter Tryz.func3, Tryz.ntmps3
  go_wp2_with fail
  refine (hV.out _ _ (by simp) (0) (1) (2) (by omega) (by omega) (by omega)).mono ?_
  rintro e w1 ⟨A1, c1, rfl, v1, hb⟩
  replace hB := from_ hB hb
  clear hb
  have hal : Below w1.heap.size w1 (w1.alloc (.cells #[.slice A1 3 c1] 23)) := (Below.refl _ _).alloc (Nat.le_refl _) _
  have ml := matN_one 23 v1
  clear v1
  replace hB := from_ hB hal
  clear hal
  go_wp2_with fail
  refine (hV.out _ _ (by simp) (5) (1) (1) (by omega) (by omega) (by omega)).mono ?_
  rintro e w2 ⟨A2, c2, rfl, va, hb⟩
  replace ml := ml.below hb
  replace hB := from_ hB hb
  clear hb
  go_wp2_with fail
  refine (CR.out _ _ _ _ _ ml va).mono ?_
  rintro e w3 ⟨A3, c3, rfl, vr, hb⟩
  clear va
  replace ml := ml.below hb
  replace hB := from_ hB hb
  clear hb
  go_wp2_with fail
  refine (hV.out _ _ (by simp) (0) (3) (6) (by omega) (by omega) (by omega)).mono ?_
  rintro e w4 ⟨A4, c4, rfl, vb, hb⟩
  replace ml := ml.below hb
  replace vr := vr.below hb
  replace hB := from_ hB hb
  clear hb
  go_wp2_with fail
  refine (CI.out _ _ _ _ _ ml vb).mono ?_
  rintro e w5 ⟨rfl, hb⟩
  clear vb
  replace ml := ml.below hb
  replace vr := vr.below hb
  replace hB := from_ hB hb
  clear hb
  go_wp2_with fail
  refine (CK.out _ _ _ ml).mono ?_
  rintro e w6 ⟨A6, c6, rfl, mk, hb⟩
  clear ml
  replace vr := vr.below hb
  replace hB := from_ hB hb
  clear hb
  go_wp2_with fail
  refine (CN.out _).mono ?_
  rintro e w7 ⟨rfl, hb⟩
  replace vr := vr.below hb
  replace mk := mk.below hb
  replace hB := from_ hB hb
  clear hb
  go_wp2_with fail
  refine (HA.out _).mono ?_
  rintro e w8 ⟨rfl, hb⟩
  replace vr := vr.below hb
  replace mk := mk.below hb
  replace hB := from_ hB hb
  clear hb
  go_wp2_with fail
  refine (hV.out _ _ (by simp) (5) (0) (-1) (by omega) (by omega) (by omega)).mono ?_
  rintro e w9 ⟨A9, c9, rfl, vc, hb⟩
  replace vr := vr.below hb
  replace mk := mk.below hb
  replace hB := from_ hB hb
  clear hb
  go_wp2_with fail
  refine (CS7.out _ _ _ _ _ _ _ vr vc).mono ?_
  rintro e w10 ⟨rfl, hb⟩
  clear vr
  clear vc
  replace mk := mk.below hb
  replace hB := from_ hB hb
  clear hb
  go_wp2_with fail
  refine (hV.out _ _ (by simp) (0) (2) (-1) (by omega) (by omega) (by omega)).mono ?_
  rintro e w11 ⟨A11, c11, rfl, vd, hb⟩
  replace mk := mk.below hb
  replace hB := from_ hB hb
  clear hb
  go_wp2_with fail
  refine (hV.out _ _ (by simp) (1) (0) (0) (by omega) (by omega) (by omega)).mono ?_
  rintro e w12 ⟨A12, c12, rfl, ve, hb⟩
  replace mk := mk.below hb
  replace vd := vd.below hb
  replace hB := from_ hB hb
  clear hb
  have hal : Below w12.heap.size w12 (w12.alloc (.cells #[.slice A11 3 c11, .slice A12 3 c12] 23)) := (Below.refl _ _).alloc (Nat.le_refl _) _
  have mq := matN_two 23 vd ve
  clear vd ve
  replace mk := mk.below hal
  replace hB := from_ hB hal
  clear hal
  go_wp2_with fail
  refine (CS18.out _ _ _ _ _ mk mq).mono ?_
  rintro e w13 ⟨rfl, hb⟩
  clear mk
  clear mq
  replace hB := from_ hB hb
  clear hb
  go_wp2
  go_ret
  exact ⟨by first | rfl | trivial, hB⟩

end Go.Proofs.YtajmijnoikkffaaGreat
