/-
  The walk of WholeQuotients. The one premise: the table of powers of ten reads as it is laid. No conditions.
-/
import Derived.Test.YtceenaegchlbcaaGreatDoorEDigV
import Derived.Test.YtceenaegchlbcaaGreatDoorEWhV
namespace Go.Proofs.YtceenaegchlbcaaGreatDoor
open Go.RowKit
set_option linter.unusedVariables false
set_option linter.unusedSimpArgs false

set_option maxRecDepth 100000 in
set_option maxHeartbeats 4000000 in
theorem lawWholeQuotients {w : World} {a b : Value} {s t : Bool} {l k : List Nat} {x : ByteArray} (ha : IsI w old a s l) (hb : IsI w old b t k) (hs : x.size ≤ maxLen) (ht : Tab w) :
    Calls Tryz.prog 4 #[a, b, .string x] w fun e w' => e = .returned (.bool true) ∧ Below w.heap.size w w' := by
  obtain ⟨_, rfl, A, ca, rfl, hu⟩ := ha
  obtain ⟨_, rfl, B, cb, rfl, hv⟩ := hb
  obtain ⟨bA, bB, hB⟩ := boxes2 w (.bool s) (.slice A l.length ca) (.bool t) (.slice B k.length cb) 36
  obtain ⟨a0, a1, _, _, _⟩ := bA
  obtain ⟨b0, b1, _, _, _⟩ := bB
  have uA := hu.below hB
  have uB := hv.below hB
  clear hu hv
  by_cases h0 : l.length ≤ 6
  · by_cases h1 : k.length ≤ 6
    · by_cases h2 : x.size ≤ 80
      · have d1 : decide ((6 : Int) < (l.length : Int)) = false := decide_eq_false (by omega)
        have d2 : decide ((6 : Int) < (k.length : Int)) = false := decide_eq_false (by omega)
        have d3 : decide ((80 : Int) < (x.size : Int)) = false := decide_eq_false (by omega)
        have hl : l.length ≤ 4000 := by omega
        have hk : k.length ≤ 4000 := by omega
        have hx : x.size ≤ 9223372036854775807 := by omega
        have F1 : Hid (∀ (W : World) (Z1 Z2 : Zone) (A' B' : Option Addr) (c d : Nat), U64s W Z1 A' c l → U64s W Z2 B' d k → Calls Tryz.prog 11 #[.agg #[.bool s, .slice A' l.length c], .agg #[.bool t, .slice B' k.length d]] W fun e w' => ∃ Av cv, e = .returned (.tuple #[.agg #[.bool (flS true s l t k), .slice Av (flL true s l t k).length cv], .int .i64 (flE s l t k)]) ∧ U64s w' (new W.heap.size) Av cv (flL true s l t k) ∧ Below W.heap.size W w') := fun W Z1 Z2 A' B' c d u1 u2 => wfloor_any u1 u2 (by omega)
        have F2 : Hid (∀ (W : World) (Z1 Z2 : Zone) (A' B' : Option Addr) (c d : Nat), U64s W Z1 A' c l → U64s W Z2 B' d k → Calls Tryz.prog 12 #[.agg #[.bool s, .slice A' l.length c], .agg #[.bool t, .slice B' k.length d]] W fun e w' => ∃ Av cv, e = .returned (.tuple #[.agg #[.bool (flS true s l t k), .slice Av (flL true s l t k).length cv], .int .i64 (flE s l t k)]) ∧ U64s w' (new W.heap.size) Av cv (flL true s l t k) ∧ Below W.heap.size W w') := fun W Z1 Z2 A' B' c d u1 u2 => r5floor_any u1 u2 hl hk
        have C1 : Hid (∀ (W : World) (Z1 Z2 : Zone) (A' B' : Option Addr) (c d : Nat), U64s W Z1 A' c l → U64s W Z2 B' d k → Calls Tryz.prog 13 #[.agg #[.bool s, .slice A' l.length c], .agg #[.bool t, .slice B' k.length d]] W fun e w' => ∃ Av cv, e = .returned (.tuple #[.agg #[.bool (flS false s l t k), .slice Av (flL false s l t k).length cv], .int .i64 (flE s l t k)]) ∧ U64s w' (new W.heap.size) Av cv (flL false s l t k) ∧ Below W.heap.size W w') := fun W Z1 Z2 A' B' c d u1 u2 => wceil_any u1 u2 (by omega)
        have C2 : Hid (∀ (W : World) (Z1 Z2 : Zone) (A' B' : Option Addr) (c d : Nat), U64s W Z1 A' c l → U64s W Z2 B' d k → Calls Tryz.prog 14 #[.agg #[.bool s, .slice A' l.length c], .agg #[.bool t, .slice B' k.length d]] W fun e w' => ∃ Av cv, e = .returned (.tuple #[.agg #[.bool (flS false s l t k), .slice Av (flL false s l t k).length cv], .int .i64 (flE s l t k)]) ∧ U64s w' (new W.heap.size) Av cv (flL false s l t k) ∧ Below W.heap.size W w') := fun W Z1 Z2 A' B' c d u1 u2 => r5ceil_any u1 u2 hl hk
        have X1 : Hid (∀ (W : World) (Z1 Z2 : Zone) (A' B' : Option Addr) (c d : Nat), U64s W Z1 A' c l → U64s W Z2 B' d k → Calls Tryz.prog 15 #[.agg #[.bool s, .slice A' l.length c], .agg #[.bool t, .slice B' k.length d]] W fun e w' => ∃ Av cv, e = .returned (.tuple #[.agg #[.bool (wxS s l t k), .slice Av (wxL s l t k).length cv], .int .i64 (wxE s l t k)]) ∧ U64s w' (new W.heap.size) Av cv (wxL s l t k) ∧ Below W.heap.size W w') := fun W Z1 Z2 A' B' c d u1 u2 => wexact_any u1 u2 (by omega)
        have X2 : Hid (∀ (W : World) (Z1 Z2 : Zone) (A' B' : Option Addr) (c d : Nat), U64s W Z1 A' c l → U64s W Z2 B' d k → Calls Tryz.prog 16 #[.agg #[.bool s, .slice A' l.length c], .agg #[.bool t, .slice B' k.length d]] W fun e w' => ∃ Av cv, e = .returned (.tuple #[.agg #[.bool (wxS s l t k), .slice Av (wxL s l t k).length cv], .int .i64 (wxE s l t k)]) ∧ U64s w' (new W.heap.size) Av cv (wxL s l t k) ∧ Below W.heap.size W w') := fun W Z1 Z2 A' B' c d u1 u2 => r5exact_any u1 u2 hl hk
        have T1 : Hid (∀ (W : World) (Z1 : Zone) (A' : Option Addr) (c : Nat), U64s W Z1 A' c l → Tab W → Calls Tryz.prog 17 #[.agg #[.bool s, .slice A' l.length c]] W fun e w' => e = .returned (.tuple #[strV (wTxtT s l), .int .i64 (wErrT s l)]) ∧ Below W.heap.size W w') := fun W Z1 A' c u1 h => wtext_any (s := s) u1 (by omega) h
        have T2 : Hid (∀ (W : World) (Z1 : Zone) (A' : Option Addr) (c : Nat), U64s W Z1 A' c l → Calls Tryz.prog 18 #[.agg #[.bool s, .slice A' l.length c]] W fun e w' => e = .returned (.tuple #[strV (wTxtT s l), .int .i64 (wErrT s l)]) ∧ Below W.heap.size W w') := fun W Z1 A' c u1 => r5text_any (s := s) u1 (by omega)
        have P1 : Hid (∀ (W : World), Calls Tryz.prog 19 #[.string x] W fun e w' => ∃ A' c, e = .returned (.tuple #[.agg #[.bool (wparS x.data.toList), .slice A' (wparL x.data.toList).length c], .int .i64 (wparE x.data.toList)]) ∧ U64s w' (new W.heap.size) A' c (wparL x.data.toList) ∧ Below W.heap.size W w') := fun W => wparse_any x hx
        have P2 : Hid (∀ (W : World), Calls Tryz.prog 20 #[.string x] W fun e w' => ∃ A' c, e = .returned (.tuple #[.agg #[.bool (wparS x.data.toList), .slice A' (wparL x.data.toList).length c], .int .i64 (wparE x.data.toList)]) ∧ U64s w' (new W.heap.size) A' c (wparL x.data.toList) ∧ Below W.heap.size W w') := fun W => r5parse_any x hx
        generalize flS true s l t k = fS at *
        generalize flL true s l t k = fL at *
        generalize flS false s l t k = cS at *
        generalize flL false s l t k = cL at *
        generalize flE s l t k = fE at *
        generalize wxS s l t k = xS at *
        generalize wxL s l t k = xL at *
        generalize wxE s l t k = xE at *
        generalize wErrT s l = tE at *
        generalize wparS x.data.toList = pS at *
        generalize wparL x.data.toList = pL at *
        generalize wparE x.data.toList = pE at *
        obtain ⟨tx, htx⟩ : ∃ tx : ByteArray, strV (wTxtT s l) = .string tx := ⟨_, rfl⟩
        rw [htx] at T1 T2
        have Ht := Lib.hid ht
        clear htx hl hk hx h0 h1 h2 hs ht
        go_enter Tryz.func4, Tryz.ntmps4
        go_wp2_with fail
        refine (F1.out _ _ _ _ _ _ _ uA uB).mono ?_
        rintro e w1 ⟨A1, c1, rfl, uF1, hb⟩
        have hal : Below w1.heap.size w1 (w1.alloc (.cells #[.bool fS, .slice A1 fL.length c1] 36)) := (Below.refl _ _).alloc (Nat.le_refl _) _
        replace uF1 := uF1.below hal
        obtain ⟨xF1, yF1, _, _, _⟩ := Box.new w1 (.bool fS) (.slice A1 fL.length c1) 36
        have hs := from_ hb hal
        replace a0 := keepC hs a0
        replace a1 := keepC hs a1
        replace b0 := keepC hs b0
        replace b1 := keepC hs b1
        replace uA := uA.below hs
        replace uB := uB.below hs
        replace hB := from_ hB hs
        clear hb hal hs
        go_wp2_with fail
        refine (F2.out _ _ _ _ _ _ _ uA uB).mono ?_
        rintro e w2 ⟨A2, c2, rfl, uF2, hb⟩
        have hal : Below w2.heap.size w2 (w2.alloc (.cells #[.bool fS, .slice A2 fL.length c2] 36)) := (Below.refl _ _).alloc (Nat.le_refl _) _
        replace uF2 := uF2.below hal
        obtain ⟨xF2, yF2, _, _, _⟩ := Box.new w2 (.bool fS) (.slice A2 fL.length c2) 36
        have hs := from_ hb hal
        replace a0 := keepC hs a0
        replace a1 := keepC hs a1
        replace b0 := keepC hs b0
        replace b1 := keepC hs b1
        replace xF1 := keepC hs xF1
        replace yF1 := keepC hs yF1
        replace uA := uA.below hs
        replace uB := uB.below hs
        replace uF1 := uF1.below hs
        replace hB := from_ hB hs
        clear hb hal hs
        go_wp2_with fail
        refine (C1.out _ _ _ _ _ _ _ uA uB).mono ?_
        rintro e w3 ⟨A3, c3, rfl, uC1, hb⟩
        have hal : Below w3.heap.size w3 (w3.alloc (.cells #[.bool cS, .slice A3 cL.length c3] 36)) := (Below.refl _ _).alloc (Nat.le_refl _) _
        replace uC1 := uC1.below hal
        obtain ⟨xC1, yC1, _, _, _⟩ := Box.new w3 (.bool cS) (.slice A3 cL.length c3) 36
        have hs := from_ hb hal
        replace a0 := keepC hs a0
        replace a1 := keepC hs a1
        replace b0 := keepC hs b0
        replace b1 := keepC hs b1
        replace xF1 := keepC hs xF1
        replace yF1 := keepC hs yF1
        replace xF2 := keepC hs xF2
        replace yF2 := keepC hs yF2
        replace uA := uA.below hs
        replace uB := uB.below hs
        replace uF1 := uF1.below hs
        replace uF2 := uF2.below hs
        replace hB := from_ hB hs
        clear hb hal hs
        go_wp2_with fail
        refine (C2.out _ _ _ _ _ _ _ uA uB).mono ?_
        rintro e w4 ⟨A4, c4, rfl, uC2, hb⟩
        have hal : Below w4.heap.size w4 (w4.alloc (.cells #[.bool cS, .slice A4 cL.length c4] 36)) := (Below.refl _ _).alloc (Nat.le_refl _) _
        replace uC2 := uC2.below hal
        obtain ⟨xC2, yC2, _, _, _⟩ := Box.new w4 (.bool cS) (.slice A4 cL.length c4) 36
        have hs := from_ hb hal
        replace a0 := keepC hs a0
        replace a1 := keepC hs a1
        replace b0 := keepC hs b0
        replace b1 := keepC hs b1
        replace xF1 := keepC hs xF1
        replace yF1 := keepC hs yF1
        replace xF2 := keepC hs xF2
        replace yF2 := keepC hs yF2
        replace xC1 := keepC hs xC1
        replace yC1 := keepC hs yC1
        replace uA := uA.below hs
        replace uB := uB.below hs
        replace uF1 := uF1.below hs
        replace uF2 := uF2.below hs
        replace uC1 := uC1.below hs
        replace hB := from_ hB hs
        clear hb hal hs
        go_wp2_with fail
        refine (X1.out _ _ _ _ _ _ _ uA uB).mono ?_
        rintro e w5 ⟨A5, c5, rfl, uX1, hb⟩
        have hal : Below w5.heap.size w5 (w5.alloc (.cells #[.bool xS, .slice A5 xL.length c5] 36)) := (Below.refl _ _).alloc (Nat.le_refl _) _
        replace uX1 := uX1.below hal
        obtain ⟨xX1, yX1, _, _, _⟩ := Box.new w5 (.bool xS) (.slice A5 xL.length c5) 36
        have hs := from_ hb hal
        replace a0 := keepC hs a0
        replace a1 := keepC hs a1
        replace b0 := keepC hs b0
        replace b1 := keepC hs b1
        replace xF1 := keepC hs xF1
        replace yF1 := keepC hs yF1
        replace xF2 := keepC hs xF2
        replace yF2 := keepC hs yF2
        replace xC1 := keepC hs xC1
        replace yC1 := keepC hs yC1
        replace xC2 := keepC hs xC2
        replace yC2 := keepC hs yC2
        replace uA := uA.below hs
        replace uB := uB.below hs
        replace uF1 := uF1.below hs
        replace uF2 := uF2.below hs
        replace uC1 := uC1.below hs
        replace uC2 := uC2.below hs
        replace hB := from_ hB hs
        clear hb hal hs
        go_wp2_with fail
        refine (X2.out _ _ _ _ _ _ _ uA uB).mono ?_
        rintro e w6 ⟨A6, c6, rfl, uX2, hb⟩
        have hal : Below w6.heap.size w6 (w6.alloc (.cells #[.bool xS, .slice A6 xL.length c6] 36)) := (Below.refl _ _).alloc (Nat.le_refl _) _
        replace uX2 := uX2.below hal
        obtain ⟨xX2, yX2, _, _, _⟩ := Box.new w6 (.bool xS) (.slice A6 xL.length c6) 36
        have hs := from_ hb hal
        replace a0 := keepC hs a0
        replace a1 := keepC hs a1
        replace b0 := keepC hs b0
        replace b1 := keepC hs b1
        replace xF1 := keepC hs xF1
        replace yF1 := keepC hs yF1
        replace xF2 := keepC hs xF2
        replace yF2 := keepC hs yF2
        replace xC1 := keepC hs xC1
        replace yC1 := keepC hs yC1
        replace xC2 := keepC hs xC2
        replace yC2 := keepC hs yC2
        replace xX1 := keepC hs xX1
        replace yX1 := keepC hs yX1
        replace uA := uA.below hs
        replace uB := uB.below hs
        replace uF1 := uF1.below hs
        replace uF2 := uF2.below hs
        replace uC1 := uC1.below hs
        replace uC2 := uC2.below hs
        replace uX1 := uX1.below hs
        replace hB := from_ hB hs
        clear hb hal hs
        go_wp2_with fail
        refine (T1.out _ _ _ _ uA (Ht.out.below hB)).mono ?_
        rintro e w7 ⟨rfl, hb⟩
        replace a0 := keepC hb a0
        replace a1 := keepC hb a1
        replace b0 := keepC hb b0
        replace b1 := keepC hb b1
        replace xF1 := keepC hb xF1
        replace yF1 := keepC hb yF1
        replace xF2 := keepC hb xF2
        replace yF2 := keepC hb yF2
        replace xC1 := keepC hb xC1
        replace yC1 := keepC hb yC1
        replace xC2 := keepC hb xC2
        replace yC2 := keepC hb yC2
        replace xX1 := keepC hb xX1
        replace yX1 := keepC hb yX1
        replace xX2 := keepC hb xX2
        replace yX2 := keepC hb yX2
        replace uA := uA.below hb
        replace uB := uB.below hb
        replace uF1 := uF1.below hb
        replace uF2 := uF2.below hb
        replace uC1 := uC1.below hb
        replace uC2 := uC2.below hb
        replace uX1 := uX1.below hb
        replace uX2 := uX2.below hb
        replace hB := from_ hB hb
        clear hb
        go_wp2_with fail
        refine (T2.out _ _ _ _ uA).mono ?_
        rintro e w8 ⟨rfl, hb⟩
        replace a0 := keepC hb a0
        replace a1 := keepC hb a1
        replace b0 := keepC hb b0
        replace b1 := keepC hb b1
        replace xF1 := keepC hb xF1
        replace yF1 := keepC hb yF1
        replace xF2 := keepC hb xF2
        replace yF2 := keepC hb yF2
        replace xC1 := keepC hb xC1
        replace yC1 := keepC hb yC1
        replace xC2 := keepC hb xC2
        replace yC2 := keepC hb yC2
        replace xX1 := keepC hb xX1
        replace yX1 := keepC hb yX1
        replace xX2 := keepC hb xX2
        replace yX2 := keepC hb yX2
        replace uA := uA.below hb
        replace uB := uB.below hb
        replace uF1 := uF1.below hb
        replace uF2 := uF2.below hb
        replace uC1 := uC1.below hb
        replace uC2 := uC2.below hb
        replace uX1 := uX1.below hb
        replace uX2 := uX2.below hb
        replace hB := from_ hB hb
        clear hb
        go_wp2_with fail
        refine (P1.out _).mono ?_
        rintro e w9 ⟨A9, c9, rfl, uP1, hb⟩
        have hal : Below w9.heap.size w9 (w9.alloc (.cells #[.bool pS, .slice A9 pL.length c9] 36)) := (Below.refl _ _).alloc (Nat.le_refl _) _
        replace uP1 := uP1.below hal
        obtain ⟨xP1, yP1, _, _, _⟩ := Box.new w9 (.bool pS) (.slice A9 pL.length c9) 36
        have hs := from_ hb hal
        replace a0 := keepC hs a0
        replace a1 := keepC hs a1
        replace b0 := keepC hs b0
        replace b1 := keepC hs b1
        replace xF1 := keepC hs xF1
        replace yF1 := keepC hs yF1
        replace xF2 := keepC hs xF2
        replace yF2 := keepC hs yF2
        replace xC1 := keepC hs xC1
        replace yC1 := keepC hs yC1
        replace xC2 := keepC hs xC2
        replace yC2 := keepC hs yC2
        replace xX1 := keepC hs xX1
        replace yX1 := keepC hs yX1
        replace xX2 := keepC hs xX2
        replace yX2 := keepC hs yX2
        replace uA := uA.below hs
        replace uB := uB.below hs
        replace uF1 := uF1.below hs
        replace uF2 := uF2.below hs
        replace uC1 := uC1.below hs
        replace uC2 := uC2.below hs
        replace uX1 := uX1.below hs
        replace uX2 := uX2.below hs
        replace hB := from_ hB hs
        clear hb hal hs
        go_wp2_with fail
        refine (P2.out _).mono ?_
        rintro e w10 ⟨A10, c10, rfl, uP2, hb⟩
        have hal : Below w10.heap.size w10 (w10.alloc (.cells #[.bool pS, .slice A10 pL.length c10] 36)) := (Below.refl _ _).alloc (Nat.le_refl _) _
        replace uP2 := uP2.below hal
        obtain ⟨xP2, yP2, _, _, _⟩ := Box.new w10 (.bool pS) (.slice A10 pL.length c10) 36
        have hs := from_ hb hal
        replace a0 := keepC hs a0
        replace a1 := keepC hs a1
        replace b0 := keepC hs b0
        replace b1 := keepC hs b1
        replace xF1 := keepC hs xF1
        replace yF1 := keepC hs yF1
        replace xF2 := keepC hs xF2
        replace yF2 := keepC hs yF2
        replace xC1 := keepC hs xC1
        replace yC1 := keepC hs yC1
        replace xC2 := keepC hs xC2
        replace yC2 := keepC hs yC2
        replace xX1 := keepC hs xX1
        replace yX1 := keepC hs yX1
        replace xX2 := keepC hs xX2
        replace yX2 := keepC hs yX2
        replace xP1 := keepC hs xP1
        replace yP1 := keepC hs yP1
        replace uA := uA.below hs
        replace uB := uB.below hs
        replace uF1 := uF1.below hs
        replace uF2 := uF2.below hs
        replace uC1 := uC1.below hs
        replace uC2 := uC2.below hs
        replace uX1 := uX1.below hs
        replace uX2 := uX2.below hs
        replace uP1 := uP1.below hs
        replace hB := from_ hB hs
        clear hb hal hs
        go_wp2_with fail
        refine (same_n uF1 uF2).mono ?_
        rintro e w11 ⟨rfl, hb⟩
        replace a0 := keepC hb a0
        replace a1 := keepC hb a1
        replace b0 := keepC hb b0
        replace b1 := keepC hb b1
        replace xF1 := keepC hb xF1
        replace yF1 := keepC hb yF1
        replace xF2 := keepC hb xF2
        replace yF2 := keepC hb yF2
        replace xC1 := keepC hb xC1
        replace yC1 := keepC hb yC1
        replace xC2 := keepC hb xC2
        replace yC2 := keepC hb yC2
        replace xX1 := keepC hb xX1
        replace yX1 := keepC hb yX1
        replace xX2 := keepC hb xX2
        replace yX2 := keepC hb yX2
        replace xP1 := keepC hb xP1
        replace yP1 := keepC hb yP1
        replace xP2 := keepC hb xP2
        replace yP2 := keepC hb yP2
        replace uA := uA.below hb
        replace uB := uB.below hb
        replace uF1 := uF1.below hb
        replace uF2 := uF2.below hb
        replace uC1 := uC1.below hb
        replace uC2 := uC2.below hb
        replace uX1 := uX1.below hb
        replace uX2 := uX2.below hb
        replace uP1 := uP1.below hb
        replace uP2 := uP2.below hb
        replace hB := from_ hB hb
        clear hb
        go_wp2_with fail
        refine (same_n uC1 uC2).mono ?_
        rintro e w12 ⟨rfl, hb⟩
        replace a0 := keepC hb a0
        replace a1 := keepC hb a1
        replace b0 := keepC hb b0
        replace b1 := keepC hb b1
        replace xF1 := keepC hb xF1
        replace yF1 := keepC hb yF1
        replace xF2 := keepC hb xF2
        replace yF2 := keepC hb yF2
        replace xC1 := keepC hb xC1
        replace yC1 := keepC hb yC1
        replace xC2 := keepC hb xC2
        replace yC2 := keepC hb yC2
        replace xX1 := keepC hb xX1
        replace yX1 := keepC hb yX1
        replace xX2 := keepC hb xX2
        replace yX2 := keepC hb yX2
        replace xP1 := keepC hb xP1
        replace yP1 := keepC hb yP1
        replace xP2 := keepC hb xP2
        replace yP2 := keepC hb yP2
        replace uA := uA.below hb
        replace uB := uB.below hb
        replace uF1 := uF1.below hb
        replace uF2 := uF2.below hb
        replace uC1 := uC1.below hb
        replace uC2 := uC2.below hb
        replace uX1 := uX1.below hb
        replace uX2 := uX2.below hb
        replace uP1 := uP1.below hb
        replace uP2 := uP2.below hb
        replace hB := from_ hB hb
        clear hb
        go_wp2_with fail
        refine (same_n uX1 uX2).mono ?_
        rintro e w13 ⟨rfl, hb⟩
        replace a0 := keepC hb a0
        replace a1 := keepC hb a1
        replace b0 := keepC hb b0
        replace b1 := keepC hb b1
        replace xF1 := keepC hb xF1
        replace yF1 := keepC hb yF1
        replace xF2 := keepC hb xF2
        replace yF2 := keepC hb yF2
        replace xC1 := keepC hb xC1
        replace yC1 := keepC hb yC1
        replace xC2 := keepC hb xC2
        replace yC2 := keepC hb yC2
        replace xX1 := keepC hb xX1
        replace yX1 := keepC hb yX1
        replace xX2 := keepC hb xX2
        replace yX2 := keepC hb yX2
        replace xP1 := keepC hb xP1
        replace yP1 := keepC hb yP1
        replace xP2 := keepC hb xP2
        replace yP2 := keepC hb yP2
        replace uA := uA.below hb
        replace uB := uB.below hb
        replace uF1 := uF1.below hb
        replace uF2 := uF2.below hb
        replace uC1 := uC1.below hb
        replace uC2 := uC2.below hb
        replace uX1 := uX1.below hb
        replace uX2 := uX2.below hb
        replace uP1 := uP1.below hb
        replace uP2 := uP2.below hb
        replace hB := from_ hB hb
        clear hb
        go_wp2_with fail
        refine (same_n uP1 uP2).mono ?_
        rintro e w14 ⟨rfl, hb⟩
        replace a0 := keepC hb a0
        replace a1 := keepC hb a1
        replace b0 := keepC hb b0
        replace b1 := keepC hb b1
        replace xF1 := keepC hb xF1
        replace yF1 := keepC hb yF1
        replace xF2 := keepC hb xF2
        replace yF2 := keepC hb yF2
        replace xC1 := keepC hb xC1
        replace yC1 := keepC hb yC1
        replace xC2 := keepC hb xC2
        replace yC2 := keepC hb yC2
        replace xX1 := keepC hb xX1
        replace yX1 := keepC hb yX1
        replace xX2 := keepC hb xX2
        replace yX2 := keepC hb yX2
        replace xP1 := keepC hb xP1
        replace yP1 := keepC hb yP1
        replace xP2 := keepC hb xP2
        replace yP2 := keepC hb yP2
        replace uA := uA.below hb
        replace uB := uB.below hb
        replace uF1 := uF1.below hb
        replace uF2 := uF2.below hb
        replace uC1 := uC1.below hb
        replace uC2 := uC2.below hb
        replace uX1 := uX1.below hb
        replace uX2 := uX2.below hb
        replace uP1 := uP1.below hb
        replace uP2 := uP2.below hb
        replace hB := from_ hB hb
        clear hb
        go_wp2
        go_ret
        exact ⟨by first | rfl | trivial | simp, hB⟩
      · have d1 : decide ((6 : Int) < (l.length : Int)) = false := decide_eq_false (by omega)
        have d2 : decide ((6 : Int) < (k.length : Int)) = false := decide_eq_false (by omega)
        have d3 : decide ((80 : Int) < (x.size : Int)) = true := decide_eq_true (by omega)
        clear uA uB
        go_enter Tryz.func4, Tryz.ntmps4
        go_wp2
        go_ret
        exact ⟨rfl, hB⟩
    · have d1 : decide ((6 : Int) < (l.length : Int)) = false := decide_eq_false (by omega)
      have d2 : decide ((6 : Int) < (k.length : Int)) = true := decide_eq_true (by omega)
      clear uA uB
      go_enter Tryz.func4, Tryz.ntmps4
      go_wp2
      go_ret
      exact ⟨rfl, hB⟩
  · have d1 : decide ((6 : Int) < (l.length : Int)) = true := decide_eq_true (by omega)
    clear uA uB
    go_enter Tryz.func4, Tryz.ntmps4
    go_wp2
    go_ret
    exact ⟨rfl, hB⟩

end Go.Proofs.YtceenaegchlbcaaGreatDoor
