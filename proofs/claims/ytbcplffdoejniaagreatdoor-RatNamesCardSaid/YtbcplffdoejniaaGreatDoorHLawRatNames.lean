/-
  The walk of RatNames. The one premise: the table of powers of ten reads as it is laid.
-/
import Derived.Deep.RegionHeld3
import Derived.Test.YtbcplffdoejniaaGreatDoorHRatN
namespace Go.Proofs.YtbcplffdoejniaaGreatDoor
open Go.RowKit
set_option linter.unusedVariables false
set_option linter.unusedSimpArgs false

theorem txt0 : errT [] = 0 ∧ txtT [] = [48] := by
  have e : Lib.decDigits 0 = [48] := Lib.decDigits_one (by omega)
  obtain ⟨t1, t2⟩ := text_few (n := 0) (by rw [size_zero]; omega) (by rw [e]; simp)
  exact ⟨t1, by show textS 0 = [48]; rw [t2, e]⟩
theorem wtxt0 : wErrT false [] = 0 ∧ wTxtT false [] = [48] := by
  have ho : okI false [] = true := rfl
  refine ⟨by unfold wErrT; rw [if_pos ho, txt0.1], ?_⟩
  unfold wTxtT
  rw [if_pos ho, txt0.2]
  rfl

set_option maxRecDepth 100000 in
set_option maxHeartbeats 8000000 in
theorem lawRatNames (w : World) (ht : Tab w) : Calls Tryz.prog 6 #[] w fun e w' => e = .returned (.bool true) ∧ Below w.heap.size w w' := by
  have n0 : NmQ (Rat.divInt 0 7) false [] [1] := ⟨by decide +kernel, by decide +kernel, by decide +kernel⟩
  have n01 : NmQ (Rat.divInt 0 1) false [] [1] := ⟨by decide +kernel, by decide +kernel, by decide +kernel⟩
  have n23 : NmQ (Rat.divInt 2 3) false [2] [3] := ⟨by decide +kernel, by decide +kernel, by decide +kernel⟩
  have n34 : NmQ (Rat.divInt 3 4) false [3] [4] := ⟨by decide +kernel, by decide +kernel, by decide +kernel⟩
  have n12 : NmQ (Rat.divInt 1 2) false [1] [2] := ⟨by decide +kernel, by decide +kernel, by decide +kernel⟩
  have n13 : NmQ (Rat.divInt 1 3) false [1] [3] := ⟨by decide +kernel, by decide +kernel, by decide +kernel⟩
  have n32 : NmQ (Rat.divInt (-3) 2) true [3] [2] := ⟨by decide +kernel, by decide +kernel, by decide +kernel⟩
  have nm : NmQ (Rat.divInt 2 3 * Rat.divInt 3 4) false [1] [2] := ⟨by decide +kernel, by decide +kernel, by decide +kernel⟩
  have cm : sgn (Rat.divInt 1 3 - Rat.divInt 1 2).num = -1 := by decide +kernel
  have z0 : (Rat.divInt 0 1).num = 0 := by decide +kernel
  have rf : Nm (rq (Rat.divInt (-3) 2).num ((Rat.divInt (-3) 2).den : Int) true) true [2] := ⟨by decide +kernel, by decide +kernel⟩
  have rc : Nm (rq (Rat.divInt (-3) 2).num ((Rat.divInt (-3) 2).den : Int) false) true [1] := ⟨by decide +kernel, by decide +kernel⟩
  have a0 : Nm 0 false [] := ⟨rfl, rfl⟩
  have a7 : Nm 7 false [7] := ⟨rfl, rfl⟩
  have a1 : Nm 1 false [1] := ⟨rfl, rfl⟩
  have b2 : Nm (-2) true [2] := ⟨rfl, rfl⟩
  have b1 : Nm (-1) true [1] := ⟨rfl, rfl⟩
  have W0 : Hid (∀ (W : World), Calls Tryz.prog 20 #[.int .i64 0] W fun e w' => ∃ A c, e = .returned (.agg #[.bool false, .slice A 0 c]) ∧ U64s w' (new W.heap.size) A c [] ∧ Below W.heap.size W w') := fun W => wof_n6 (w := W) a0 (by omega)
  have W7 : Hid (∀ (W : World), Calls Tryz.prog 20 #[.int .i64 7] W fun e w' => ∃ A c, e = .returned (.agg #[.bool false, .slice A 1 c]) ∧ U64s w' (new W.heap.size) A c [7] ∧ Below W.heap.size W w') := fun W => wof_n6 (w := W) a7 (by omega)
  have W1 : Hid (∀ (W : World), Calls Tryz.prog 20 #[.int .i64 1] W fun e w' => ∃ A c, e = .returned (.agg #[.bool false, .slice A 1 c]) ∧ U64s w' (new W.heap.size) A c [1] ∧ Below W.heap.size W w') := fun W => wof_n6 (w := W) a1 (by omega)
  have V2 : Hid (∀ (W : World), Calls Tryz.prog 20 #[.int .i64 (-2)] W fun e w' => ∃ A c, e = .returned (.agg #[.bool true, .slice A 1 c]) ∧ U64s w' (new W.heap.size) A c [2] ∧ Below W.heap.size W w') := fun W => wof_n6 (w := W) b2 (by omega)
  have V1 : Hid (∀ (W : World), Calls Tryz.prog 20 #[.int .i64 (-1)] W fun e w' => ∃ A c, e = .returned (.agg #[.bool true, .slice A 1 c]) ∧ U64s w' (new W.heap.size) A c [1] ∧ Below W.heap.size W w') := fun W => wof_n6 (w := W) b1 (by omega)
  have CO : Hid (∀ (W : World) (Y1 Y2 : Zone) (A1 A2 : Option Addr) (c1 c2 : Nat), U64s W Y1 A1 c1 [] → U64s W Y2 A2 c2 [7] → Calls Tryz.prog 8 #[.agg #[.bool false, .slice A1 0 c1], .agg #[.bool false, .slice A2 1 c2]] W fun e w' => ∃ An cn Ad cd, e = .returned (.tuple #[.agg #[.bool false, .slice An 0 cn, .slice Ad 1 cd], .int .i64 0]) ∧ U64s w' (new W.heap.size) An cn [] ∧ U64s w' (new W.heap.size) Ad cd [1] ∧ Below W.heap.size W w') := fun W Y1 Y2 A1 A2 c1 c2 h1 h2 => ratof_q a0 a7 (by omega) n0 rfl (by simp) (by simp) h1 h2
  have CE : Hid (∀ (W : World) (Y1 Y2 : Zone) (A1 A2 : Option Addr) (c1 c2 : Nat), U64s W Y1 A1 c1 [1] → U64s W Y2 A2 c2 [] → Calls Tryz.prog 8 #[.agg #[.bool false, .slice A1 1 c1], .agg #[.bool false, .slice A2 0 c2]] W fun e w' => e = .returned (.tuple #[.agg #[.bool false, .slice none 0 0, .slice none 0 0], .int .i64 30]) ∧ Below W.heap.size W w') := fun W Y1 Y2 A1 A2 c1 c2 h1 h2 => ratof_err (l := [1]) (k := []) h1 h2 (by decide) (.inr rfl)
  have F23 : Hid (∀ (W : World), Calls Tryz.prog 21 #[.int .i64 2, .int .i64 3] W fun e w' => ∃ An cn Ad cd, e = .returned (.agg #[.bool false, .slice An 1 cn, .slice Ad 1 cd]) ∧ U64s w' (new W.heap.size) An cn [2] ∧ U64s w' (new W.heap.size) Ad cd [3] ∧ Below W.heap.size W w') := fun W => of6_q (w := W) (x := 2) (y := 3) (by omega) (by omega) (by omega) n23 rfl
  have F34 : Hid (∀ (W : World), Calls Tryz.prog 21 #[.int .i64 3, .int .i64 4] W fun e w' => ∃ An cn Ad cd, e = .returned (.agg #[.bool false, .slice An 1 cn, .slice Ad 1 cd]) ∧ U64s w' (new W.heap.size) An cn [3] ∧ U64s w' (new W.heap.size) Ad cd [4] ∧ Below W.heap.size W w') := fun W => of6_q (w := W) (x := 3) (y := 4) (by omega) (by omega) (by omega) n34 rfl
  have F13 : Hid (∀ (W : World), Calls Tryz.prog 21 #[.int .i64 1, .int .i64 3] W fun e w' => ∃ An cn Ad cd, e = .returned (.agg #[.bool false, .slice An 1 cn, .slice Ad 1 cd]) ∧ U64s w' (new W.heap.size) An cn [1] ∧ U64s w' (new W.heap.size) Ad cd [3] ∧ Below W.heap.size W w') := fun W => of6_q (w := W) (x := 1) (y := 3) (by omega) (by omega) (by omega) n13 rfl
  have F12 : Hid (∀ (W : World), Calls Tryz.prog 21 #[.int .i64 1, .int .i64 2] W fun e w' => ∃ An cn Ad cd, e = .returned (.agg #[.bool false, .slice An 1 cn, .slice Ad 1 cd]) ∧ U64s w' (new W.heap.size) An cn [1] ∧ U64s w' (new W.heap.size) Ad cd [2] ∧ Below W.heap.size W w') := fun W => of6_q (w := W) (x := 1) (y := 2) (by omega) (by omega) (by omega) n12 rfl
  have F32 : Hid (∀ (W : World), Calls Tryz.prog 21 #[.int .i64 (-3), .int .i64 2] W fun e w' => ∃ An cn Ad cd, e = .returned (.agg #[.bool true, .slice An 1 cn, .slice Ad 1 cd]) ∧ U64s w' (new W.heap.size) An cn [3] ∧ U64s w' (new W.heap.size) Ad cd [2] ∧ Below W.heap.size W w') := fun W => of6_q (w := W) (x := (-3)) (y := 2) (by omega) (by omega) (by omega) n32 rfl
  have F01 : Hid (∀ (W : World), Calls Tryz.prog 21 #[.int .i64 0, .int .i64 1] W fun e w' => ∃ An cn Ad cd, e = .returned (.agg #[.bool false, .slice An 0 cn, .slice Ad 1 cd]) ∧ U64s w' (new W.heap.size) An cn [] ∧ U64s w' (new W.heap.size) Ad cd [1] ∧ Below W.heap.size W w') := fun W => of6_q (w := W) (x := 0) (y := 1) (by omega) (by omega) (by omega) n01 rfl
  have CM : Hid (∀ (W : World) (Y1 Y2 Y3 Y4 : Zone) (A1 A2 A3 A4 : Option Addr) (c1 c2 c3 c4 : Nat), U64s W Y1 A1 c1 [2] → U64s W Y2 A2 c2 [3] → U64s W Y3 A3 c3 [3] → U64s W Y4 A4 c4 [4] → Calls Tryz.prog 14 #[.agg #[.bool false, .slice A1 1 c1, .slice A2 1 c2], .agg #[.bool false, .slice A3 1 c3, .slice A4 1 c4]] W fun e w' => ∃ An cn Ad cd, e = .returned (.tuple #[.agg #[.bool false, .slice An 1 cn, .slice Ad 1 cd], .int .i64 0]) ∧ U64s w' (new W.heap.size) An cn [1] ∧ U64s w' (new W.heap.size) Ad cd [2] ∧ Below W.heap.size W w') := fun W Y1 Y2 Y3 Y4 A1 A2 A3 A4 c1 c2 c3 c4 h1 h2 h3 h4 => by
    have := rmul_q n23 n34 nm rfl h1 h2 h3 h4 (by simp) (by simp) (by simp) (by simp)
    exact this
  have CC : Hid (∀ (W : World) (Y1 Y2 Y3 Y4 : Zone) (A1 A2 A3 A4 : Option Addr) (c1 c2 c3 c4 : Nat), U64s W Y1 A1 c1 [1] → U64s W Y2 A2 c2 [3] → U64s W Y3 A3 c3 [1] → U64s W Y4 A4 c4 [2] → Calls Tryz.prog 17 #[.agg #[.bool false, .slice A1 1 c1, .slice A2 1 c2], .agg #[.bool false, .slice A3 1 c3, .slice A4 1 c4]] W fun e w' => e = .returned (.tuple #[.int .i64 (-1), .int .i64 0]) ∧ Below W.heap.size W w') := fun W Y1 Y2 Y3 Y4 A1 A2 A3 A4 c1 c2 c3 c4 h1 h2 h3 h4 => by
    have := rcmp_q n13 n12 cm h1 h2 h3 h4 (by simp) (by simp) (by simp) (by simp)
    exact this
  have CD : Hid (∀ (W : World) (Y1 Y2 Y3 Y4 : Zone) (A1 A2 A3 A4 : Option Addr) (c1 c2 c3 c4 : Nat), U64s W Y1 A1 c1 [1] → U64s W Y2 A2 c2 [2] → U64s W Y3 A3 c3 [] → U64s W Y4 A4 c4 [1] → Calls Tryz.prog 16 #[.agg #[.bool false, .slice A1 1 c1, .slice A2 1 c2], .agg #[.bool false, .slice A3 0 c3, .slice A4 1 c4]] W fun e w' => ∃ An cn Ad cd, e = .returned (.tuple #[.agg #[.bool false, .slice An 0 cn, .slice Ad 0 cd], .int .i64 30]) ∧ U64s w' (new W.heap.size) An cn [] ∧ U64s w' (new W.heap.size) Ad cd [] ∧ Below W.heap.size W w') := fun W Y1 Y2 Y3 Y4 A1 A2 A3 A4 c1 c2 c3 c4 h1 h2 h3 h4 => by
    have := rdiv_zero n12 n01 z0 h1 h2 h3 h4 (by simp) (by simp) (by simp) (by simp)
    exact this
  have CF : Hid (∀ (W : World) (Y1 Y2 : Zone) (A1 A2 : Option Addr) (c1 c2 : Nat), U64s W Y1 A1 c1 [3] → U64s W Y2 A2 c2 [2] → Calls Tryz.prog 18 #[.agg #[.bool true, .slice A1 1 c1, .slice A2 1 c2]] W fun e w' => ∃ Av cv, e = .returned (.tuple #[.agg #[.bool true, .slice Av 1 cv], .int .i64 0]) ∧ U64s w' (new W.heap.size) Av cv [2] ∧ Below W.heap.size W w') := fun W Y1 Y2 A1 A2 c1 c2 h1 h2 => rfloor_q n32 rf h1 h2 (by simp) (by simp)
  have CG : Hid (∀ (W : World) (Y1 Y2 : Zone) (A1 A2 : Option Addr) (c1 c2 : Nat), U64s W Y1 A1 c1 [3] → U64s W Y2 A2 c2 [2] → Calls Tryz.prog 19 #[.agg #[.bool true, .slice A1 1 c1, .slice A2 1 c2]] W fun e w' => ∃ Av cv, e = .returned (.tuple #[.agg #[.bool true, .slice Av 1 cv], .int .i64 0]) ∧ U64s w' (new W.heap.size) Av cv [1] ∧ Below W.heap.size W w') := fun W Y1 Y2 A1 A2 c1 c2 h1 h2 => rceil_q n32 rc h1 h2 (by simp) (by simp)
  have T1 := txt1 (n := 1) (by omega) (by omega)
  have T2 := txt1 (n := 2) (by omega) (by omega)
  have X1 := wtxt1 (s := false) (n := 1) (by omega) (by omega)
  have K1 : Hid (∀ (W : World) (Y1 Y2 : Zone) (A1 A2 : Option Addr) (c1 c2 : Nat), U64s W Y1 A1 c1 [] → U64s W Y2 A2 c2 [1] → Tab W → Calls Tryz.prog 22 #[.agg #[.bool false, .slice A1 0 c1, .slice A2 1 c2], .int .i64 0, .string ⟨#[48]⟩] W fun e w' => e = .returned (.bool true) ∧ Below W.heap.size W w') := fun W Y1 Y2 A1 A2 c1 c2 h1 h2 h => by
    have := tells_q (str := [48]) (want := ⟨#[48]⟩) rfl n0 wtxt0.1 T1.1 (by rw [wtxt0.2]; decide +kernel) h1 h2 (by simp) (by simp) h
    exact this
  have K2 : Hid (∀ (W : World) (Y1 Y2 : Zone) (A1 A2 : Option Addr) (c1 c2 : Nat), U64s W Y1 A1 c1 [1] → U64s W Y2 A2 c2 [2] → Tab W → Calls Tryz.prog 22 #[.agg #[.bool false, .slice A1 1 c1, .slice A2 1 c2], .int .i64 0, .string ⟨#[49, 47, 50]⟩] W fun e w' => e = .returned (.bool true) ∧ Below W.heap.size W w') := fun W Y1 Y2 A1 A2 c1 c2 h1 h2 h => by
    have := tells_q (str := [49, 47, 50]) (want := ⟨#[49, 47, 50]⟩) rfl nm X1.1 T2.1 (by rw [X1.2, T2.2]; decide +kernel) h1 h2 (by simp) (by simp) h
    exact this
  have S2 : Hid (∀ (W : World) (Y1 Y2 : Zone) (A1 A2 : Option Addr) (c1 c2 : Nat), U64s W Y1 A1 c1 [2] → U64s W Y2 A2 c2 [2] → Calls Tryz.prog 23 #[.agg #[.bool true, .slice A1 1 c1], .agg #[.bool true, .slice A2 1 c2]] W fun e w' => e = .returned (.bool true) ∧ Below W.heap.size W w') := fun W Y1 Y2 A1 A2 c1 c2 h1 h2 => same_n (l := [2]) h1 h2
  have S1 : Hid (∀ (W : World) (Y1 Y2 : Zone) (A1 A2 : Option Addr) (c1 c2 : Nat), U64s W Y1 A1 c1 [1] → U64s W Y2 A2 c2 [1] → Calls Tryz.prog 23 #[.agg #[.bool true, .slice A1 1 c1], .agg #[.bool true, .slice A2 1 c2]] W fun e w' => e = .returned (.bool true) ∧ Below W.heap.size W w') := fun W Y1 Y2 A1 A2 c1 c2 h1 h2 => same_n (l := [1]) h1 h2
  have CZ : Hid (∀ (W : World), Calls Tryz.prog 11 #[.agg #[.bool false, .slice none 0 0, .slice none 0 0]] W fun e w' => e = .returned (.int .i64 8) ∧ Below W.heap.size W w') := fun W => checkQ_bad (l := []) (k := []) (by decide) (U64s.nil _ old) (U64s.nil _ old) (by simp) (by simp)
  have AL : Hid (∀ (W : World), Below w.heap.size w W → Calls Tryz.prog 7 #[] W fun e w' => e = .returned (.bool true) ∧ Below W.heap.size W w') := fun W h => alive6 (ht.below h)
  have HT := Lib.hid ht
  have hB : Below w.heap.size w w := Below.refl _ _
  clear n0 n01 n23 n34 n12 n13 n32 nm cm z0 rf rc a0 a7 a1 b2 b1 T1 T2 X1 ht
  go_enter Tryz.func6, Tryz.ntmps6
  go_wp2_with fail
  refine (W0.out _).mono ?_
  rintro e w1 ⟨A1, c1, rfl, ua, hb⟩
  replace hB := from_ hB hb
  clear hb
  go_wp2_with fail
  refine (W7.out _).mono ?_
  rintro e w2 ⟨A2, c2, rfl, ub, hb⟩
  replace ua := ua.below hb
  replace hB := from_ hB hb
  clear hb
  go_wp2_with fail
  refine (CO.out _ _ _ _ _ _ _ ua ub).mono ?_
  rintro e w3 ⟨A3, c3, B3, d3, rfl, uZ, vZ, hb⟩
  have hal : Below w3.heap.size w3 (w3.alloc (.cells #[.bool false, .slice A3 0 c3, .slice B3 1 d3] 28)) := (Below.refl _ _).alloc (Nat.le_refl _) _
  replace uZ := uZ.below hal
  replace vZ := vZ.below hal
  obtain ⟨xZ, yZ, zZ, _, _, _, _⟩ := Box3.new w3 (.bool false) (.slice A3 0 c3) (.slice B3 1 d3) 28
  have hs := from_ hb hal
  replace ua := ua.below hs
  replace ub := ub.below hs
  replace hB := from_ hB hs
  clear hb hal hs
  clear ua ub
  go_wp2_with fail
  refine (W1.out _).mono ?_
  rintro e w4 ⟨A4, c4, rfl, ua, hb⟩
  replace xZ := keepC hb xZ
  replace yZ := keepC hb yZ
  replace zZ := keepC hb zZ
  replace uZ := uZ.below hb
  replace vZ := vZ.below hb
  replace hB := from_ hB hb
  clear hb
  go_wp2_with fail
  refine (W0.out _).mono ?_
  rintro e w5 ⟨A5, c5, rfl, ub, hb⟩
  replace xZ := keepC hb xZ
  replace yZ := keepC hb yZ
  replace zZ := keepC hb zZ
  replace uZ := uZ.below hb
  replace vZ := vZ.below hb
  replace ua := ua.below hb
  replace hB := from_ hB hb
  clear hb
  go_wp2_with fail
  refine (CE.out _ _ _ _ _ _ _ ua ub).mono ?_
  rintro e w6 ⟨rfl, hb⟩
  have hal : Below w6.heap.size w6 (w6.alloc (.cells #[.bool false, .slice none 0 0, .slice none 0 0] 28)) := (Below.refl _ _).alloc (Nat.le_refl _) _
  obtain ⟨xE, yE, zE, _, _, _, _⟩ := Box3.new w6 (.bool false) (.slice none 0 0) (.slice none 0 0) 28
  have hs := from_ hb hal
  replace xZ := keepC hs xZ
  replace yZ := keepC hs yZ
  replace zZ := keepC hs zZ
  replace uZ := uZ.below hs
  replace vZ := vZ.below hs
  replace ua := ua.below hs
  replace ub := ub.below hs
  replace hB := from_ hB hs
  clear hb hal hs
  clear ua ub
  clear xE yE zE
  go_wp2_with fail
  refine (F23.out _).mono ?_
  rintro e w7 ⟨A7, c7, B7, d7, rfl, ua, va, hb⟩
  replace xZ := keepC hb xZ
  replace yZ := keepC hb yZ
  replace zZ := keepC hb zZ
  replace uZ := uZ.below hb
  replace vZ := vZ.below hb
  replace hB := from_ hB hb
  clear hb
  go_wp2_with fail
  refine (F34.out _).mono ?_
  rintro e w8 ⟨A8, c8, B8, d8, rfl, ub, vb, hb⟩
  replace xZ := keepC hb xZ
  replace yZ := keepC hb yZ
  replace zZ := keepC hb zZ
  replace uZ := uZ.below hb
  replace vZ := vZ.below hb
  replace ua := ua.below hb
  replace va := va.below hb
  replace hB := from_ hB hb
  clear hb
  go_wp2_with fail
  refine (CM.out _ _ _ _ _ _ _ _ _ _ _ _ _ ua va ub vb).mono ?_
  rintro e w9 ⟨A9, c9, B9, d9, rfl, uM, vM, hb⟩
  have hal : Below w9.heap.size w9 (w9.alloc (.cells #[.bool false, .slice A9 1 c9, .slice B9 1 d9] 28)) := (Below.refl _ _).alloc (Nat.le_refl _) _
  replace uM := uM.below hal
  replace vM := vM.below hal
  obtain ⟨xM, yM, zM, _, _, _, _⟩ := Box3.new w9 (.bool false) (.slice A9 1 c9) (.slice B9 1 d9) 28
  have hs := from_ hb hal
  replace xZ := keepC hs xZ
  replace yZ := keepC hs yZ
  replace zZ := keepC hs zZ
  replace uZ := uZ.below hs
  replace vZ := vZ.below hs
  replace ua := ua.below hs
  replace va := va.below hs
  replace ub := ub.below hs
  replace vb := vb.below hs
  replace hB := from_ hB hs
  clear hb hal hs
  clear ua va ub vb
  go_wp2_with fail
  refine (F13.out _).mono ?_
  rintro e w10 ⟨A10, c10, B10, d10, rfl, ua, va, hb⟩
  replace xZ := keepC hb xZ
  replace yZ := keepC hb yZ
  replace zZ := keepC hb zZ
  replace xM := keepC hb xM
  replace yM := keepC hb yM
  replace zM := keepC hb zM
  replace uZ := uZ.below hb
  replace vZ := vZ.below hb
  replace uM := uM.below hb
  replace vM := vM.below hb
  replace hB := from_ hB hb
  clear hb
  go_wp2_with fail
  refine (F12.out _).mono ?_
  rintro e w11 ⟨A11, c11, B11, d11, rfl, ub, vb, hb⟩
  replace xZ := keepC hb xZ
  replace yZ := keepC hb yZ
  replace zZ := keepC hb zZ
  replace xM := keepC hb xM
  replace yM := keepC hb yM
  replace zM := keepC hb zM
  replace uZ := uZ.below hb
  replace vZ := vZ.below hb
  replace uM := uM.below hb
  replace vM := vM.below hb
  replace ua := ua.below hb
  replace va := va.below hb
  replace hB := from_ hB hb
  clear hb
  go_wp2_with fail
  refine (CC.out _ _ _ _ _ _ _ _ _ _ _ _ _ ua va ub vb).mono ?_
  rintro e w12 ⟨rfl, hb⟩
  replace xZ := keepC hb xZ
  replace yZ := keepC hb yZ
  replace zZ := keepC hb zZ
  replace xM := keepC hb xM
  replace yM := keepC hb yM
  replace zM := keepC hb zM
  replace uZ := uZ.below hb
  replace vZ := vZ.below hb
  replace uM := uM.below hb
  replace vM := vM.below hb
  replace ua := ua.below hb
  replace va := va.below hb
  replace ub := ub.below hb
  replace vb := vb.below hb
  replace hB := from_ hB hb
  clear hb
  clear ua va ub vb
  go_wp2_with fail
  refine (F32.out _).mono ?_
  rintro e w13 ⟨A13, c13, B13, d13, rfl, ua, va, hb⟩
  replace xZ := keepC hb xZ
  replace yZ := keepC hb yZ
  replace zZ := keepC hb zZ
  replace xM := keepC hb xM
  replace yM := keepC hb yM
  replace zM := keepC hb zM
  replace uZ := uZ.below hb
  replace vZ := vZ.below hb
  replace uM := uM.below hb
  replace vM := vM.below hb
  replace hB := from_ hB hb
  clear hb
  go_wp2_with fail
  refine (CF.out _ _ _ _ _ _ _ ua va).mono ?_
  rintro e w14 ⟨A14, c14, rfl, uL, hb⟩
  have hal : Below w14.heap.size w14 (w14.alloc (.cells #[.bool true, .slice A14 1 c14] 25)) := (Below.refl _ _).alloc (Nat.le_refl _) _
  replace uL := uL.below hal
  obtain ⟨xL, yL, _, _, _⟩ := Box.new w14 (.bool true) (.slice A14 1 c14) 25
  have hs := from_ hb hal
  replace xZ := keepC hs xZ
  replace yZ := keepC hs yZ
  replace zZ := keepC hs zZ
  replace xM := keepC hs xM
  replace yM := keepC hs yM
  replace zM := keepC hs zM
  replace uZ := uZ.below hs
  replace vZ := vZ.below hs
  replace uM := uM.below hs
  replace vM := vM.below hs
  replace ua := ua.below hs
  replace va := va.below hs
  replace hB := from_ hB hs
  clear hb hal hs
  clear ua va
  go_wp2_with fail
  refine (F32.out _).mono ?_
  rintro e w15 ⟨A15, c15, B15, d15, rfl, ua, va, hb⟩
  replace xZ := keepC hb xZ
  replace yZ := keepC hb yZ
  replace zZ := keepC hb zZ
  replace xM := keepC hb xM
  replace yM := keepC hb yM
  replace zM := keepC hb zM
  replace xL := keepC hb xL
  replace yL := keepC hb yL
  replace uZ := uZ.below hb
  replace vZ := vZ.below hb
  replace uM := uM.below hb
  replace vM := vM.below hb
  replace uL := uL.below hb
  replace hB := from_ hB hb
  clear hb
  go_wp2_with fail
  refine (CG.out _ _ _ _ _ _ _ ua va).mono ?_
  rintro e w16 ⟨A16, c16, rfl, uH, hb⟩
  have hal : Below w16.heap.size w16 (w16.alloc (.cells #[.bool true, .slice A16 1 c16] 25)) := (Below.refl _ _).alloc (Nat.le_refl _) _
  replace uH := uH.below hal
  obtain ⟨xH, yH, _, _, _⟩ := Box.new w16 (.bool true) (.slice A16 1 c16) 25
  have hs := from_ hb hal
  replace xZ := keepC hs xZ
  replace yZ := keepC hs yZ
  replace zZ := keepC hs zZ
  replace xM := keepC hs xM
  replace yM := keepC hs yM
  replace zM := keepC hs zM
  replace xL := keepC hs xL
  replace yL := keepC hs yL
  replace uZ := uZ.below hs
  replace vZ := vZ.below hs
  replace uM := uM.below hs
  replace vM := vM.below hs
  replace uL := uL.below hs
  replace ua := ua.below hs
  replace va := va.below hs
  replace hB := from_ hB hs
  clear hb hal hs
  clear ua va
  go_wp2_with fail
  refine (F12.out _).mono ?_
  rintro e w17 ⟨A17, c17, B17, d17, rfl, ua, va, hb⟩
  replace xZ := keepC hb xZ
  replace yZ := keepC hb yZ
  replace zZ := keepC hb zZ
  replace xM := keepC hb xM
  replace yM := keepC hb yM
  replace zM := keepC hb zM
  replace xL := keepC hb xL
  replace yL := keepC hb yL
  replace xH := keepC hb xH
  replace yH := keepC hb yH
  replace uZ := uZ.below hb
  replace vZ := vZ.below hb
  replace uM := uM.below hb
  replace vM := vM.below hb
  replace uL := uL.below hb
  replace uH := uH.below hb
  replace hB := from_ hB hb
  clear hb
  go_wp2_with fail
  refine (F01.out _).mono ?_
  rintro e w18 ⟨A18, c18, B18, d18, rfl, ub, vb, hb⟩
  replace xZ := keepC hb xZ
  replace yZ := keepC hb yZ
  replace zZ := keepC hb zZ
  replace xM := keepC hb xM
  replace yM := keepC hb yM
  replace zM := keepC hb zM
  replace xL := keepC hb xL
  replace yL := keepC hb yL
  replace xH := keepC hb xH
  replace yH := keepC hb yH
  replace uZ := uZ.below hb
  replace vZ := vZ.below hb
  replace uM := uM.below hb
  replace vM := vM.below hb
  replace uL := uL.below hb
  replace uH := uH.below hb
  replace ua := ua.below hb
  replace va := va.below hb
  replace hB := from_ hB hb
  clear hb
  go_wp2_with fail
  refine (CD.out _ _ _ _ _ _ _ _ _ _ _ _ _ ua va ub vb).mono ?_
  rintro e w19 ⟨A19, c19, B19, d19, rfl, uD, vD, hb⟩
  have hal : Below w19.heap.size w19 (w19.alloc (.cells #[.bool false, .slice A19 0 c19, .slice B19 0 d19] 28)) := (Below.refl _ _).alloc (Nat.le_refl _) _
  replace uD := uD.below hal
  replace vD := vD.below hal
  obtain ⟨xD, yD, zD, _, _, _, _⟩ := Box3.new w19 (.bool false) (.slice A19 0 c19) (.slice B19 0 d19) 28
  have hs := from_ hb hal
  replace xZ := keepC hs xZ
  replace yZ := keepC hs yZ
  replace zZ := keepC hs zZ
  replace xM := keepC hs xM
  replace yM := keepC hs yM
  replace zM := keepC hs zM
  replace xL := keepC hs xL
  replace yL := keepC hs yL
  replace xH := keepC hs xH
  replace yH := keepC hs yH
  replace uZ := uZ.below hs
  replace vZ := vZ.below hs
  replace uM := uM.below hs
  replace vM := vM.below hs
  replace uL := uL.below hs
  replace uH := uH.below hs
  replace ua := ua.below hs
  replace va := va.below hs
  replace ub := ub.below hs
  replace vb := vb.below hs
  replace hB := from_ hB hs
  clear hb hal hs
  clear ua va ub vb
  clear xD yD zD uD vD
  go_wp2_with fail
  refine (K1.out _ _ _ _ _ _ _ uZ vZ (HT.out.below hB)).mono ?_
  rintro e w20 ⟨rfl, hb⟩
  replace xZ := keepC hb xZ
  replace yZ := keepC hb yZ
  replace zZ := keepC hb zZ
  replace xM := keepC hb xM
  replace yM := keepC hb yM
  replace zM := keepC hb zM
  replace xL := keepC hb xL
  replace yL := keepC hb yL
  replace xH := keepC hb xH
  replace yH := keepC hb yH
  replace uZ := uZ.below hb
  replace vZ := vZ.below hb
  replace uM := uM.below hb
  replace vM := vM.below hb
  replace uL := uL.below hb
  replace uH := uH.below hb
  replace hB := from_ hB hb
  clear hb
  go_wp2_with fail
  refine (K2.out _ _ _ _ _ _ _ uM vM (HT.out.below hB)).mono ?_
  rintro e w21 ⟨rfl, hb⟩
  replace xZ := keepC hb xZ
  replace yZ := keepC hb yZ
  replace zZ := keepC hb zZ
  replace xM := keepC hb xM
  replace yM := keepC hb yM
  replace zM := keepC hb zM
  replace xL := keepC hb xL
  replace yL := keepC hb yL
  replace xH := keepC hb xH
  replace yH := keepC hb yH
  replace uZ := uZ.below hb
  replace vZ := vZ.below hb
  replace uM := uM.below hb
  replace vM := vM.below hb
  replace uL := uL.below hb
  replace uH := uH.below hb
  replace hB := from_ hB hb
  clear hb
  clear xZ yZ zZ uZ vZ
  clear xM yM zM uM vM
  have hs := And.intro (keepC (Below.refl _ w21).drew xL) (And.intro (keepC (Below.refl _ w21).drew yL) (And.intro (keepC (Below.refl _ w21).drew xH) (keepC (Below.refl _ w21).drew yH)))
  replace uL := uL.below (Below.refl _ w21).drew
  replace uH := uH.below (Below.refl _ w21).drew
  have Hc := Lib.hid hB.drew
  clear xL yL xH yH hB
  go_wp2
  go_region_held3 (fun w' => w'.cell? ⟨w14.heap.size, 0, none⟩ = some (.bool true) ∧ w'.cell? ⟨w14.heap.size, 1, none⟩ = some (.slice A14 1 c14) ∧ w'.cell? ⟨w16.heap.size, 0, none⟩ = some (.bool true) ∧ w'.cell? ⟨w16.heap.size, 1, none⟩ = some (.slice A16 1 c16))
    (first
      | with_reducible exact hs)
    (first
      | (go_at_call 7; with_reducible refine (AL.out _ Hc.out).mono ?_; rintro e w' ⟨rfl, hc⟩; replace hs := And.intro (keepC hc hs.1) (And.intro (keepC hc hs.2.1) (And.intro (keepC hc hs.2.2.1) (keepC hc hs.2.2.2))); replace uL := uL.below hc; replace uH := uH.below hc; replace Hc := Lib.hid (from_ Hc.out hc))
      | (go_at_call 20; with_reducible refine (V2.out _).mono ?_; rintro e w' ⟨Ap, cp, rfl, up, hc⟩; replace hs := And.intro (keepC hc hs.1) (And.intro (keepC hc hs.2.1) (And.intro (keepC hc hs.2.2.1) (keepC hc hs.2.2.2))); replace uL := uL.below hc; replace uH := uH.below hc; replace Hc := Lib.hid (from_ Hc.out hc))
      | (go_at_call 23; with_reducible refine (S2.out _ _ _ _ _ _ _ uL up).mono ?_; rintro e w' ⟨rfl, hc⟩; replace hs := And.intro (keepC hc hs.1) (And.intro (keepC hc hs.2.1) (And.intro (keepC hc hs.2.2.1) (keepC hc hs.2.2.2))); replace uL := uL.below hc; replace uH := uH.below hc; replace Hc := Lib.hid (from_ Hc.out hc))
      | (go_at_call 20; with_reducible refine (V1.out _).mono ?_; rintro e w' ⟨Aq, cq, rfl, uq, hc⟩; replace hs := And.intro (keepC hc hs.1) (And.intro (keepC hc hs.2.1) (And.intro (keepC hc hs.2.2.1) (keepC hc hs.2.2.2))); replace uL := uL.below hc; replace uH := uH.below hc; replace Hc := Lib.hid (from_ Hc.out hc))
      | (go_at_call 23; with_reducible refine (S1.out _ _ _ _ _ _ _ uH uq).mono ?_; rintro e w' ⟨rfl, hc⟩; replace hs := And.intro (keepC hc hs.1) (And.intro (keepC hc hs.2.1) (And.intro (keepC hc hs.2.2.1) (keepC hc hs.2.2.2))); replace uL := uL.below hc; replace uH := uH.below hc; replace Hc := Lib.hid (from_ Hc.out hc))
      | (go_at_call 11; with_reducible refine (CZ.out _).mono ?_; rintro e w' ⟨rfl, hc⟩; replace hs := And.intro (keepC hc hs.1) (And.intro (keepC hc hs.2.1) (And.intro (keepC hc hs.2.2.1) (keepC hc hs.2.2.2))); replace uL := uL.below hc; replace uH := uH.below hc; replace Hc := Lib.hid (from_ Hc.out hc)))
  all_goals
    go_wp2
    go_ret
    exact ⟨by first | rfl | trivial, Hc.out⟩

end Go.Proofs.YtbcplffdoejniaaGreatDoor
