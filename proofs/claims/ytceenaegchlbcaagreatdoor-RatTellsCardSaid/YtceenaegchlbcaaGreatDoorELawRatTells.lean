/-
  The walk of RatTells. The one premise: the table of powers of ten reads as it is laid.
-/
import Derived.Deep.RegionHeld3
import Derived.Test.YtceenaegchlbcaaGreatDoorERatV
namespace Go.Proofs.YtceenaegchlbcaaGreatDoor
open Go.RowKit
set_option linter.unusedVariables false
set_option linter.unusedSimpArgs false


set_option maxRecDepth 100000 in
set_option maxHeartbeats 4000000 in
theorem lawRatTells {w : World} {a b : Value} {s t : Bool} {l k l' k' : List Nat} (ha : IsR w old a s l k) (hb : IsR w old b t l' k') (ht : Tab w) :
    Calls Tryz.prog 5 #[a, b] w fun e w' => e = .returned (.bool true) ∧ Below w.heap.size w w' := by
  obtain ⟨A, ca, B, cb, rfl, ua, va⟩ := ha
  obtain ⟨C, cc, D, cd, rfl, ub, vb⟩ := hb
  obtain ⟨bA, bB, hB⟩ := boxes2Q w (.bool s) (.slice A l.length ca) (.slice B k.length cb) (.bool t) (.slice C l'.length cc) (.slice D k'.length cd)
  obtain ⟨xa, ya, za, _, _, _, _⟩ := bA
  obtain ⟨xb, yb, zb, _, _, _, _⟩ := bB
  replace ua := ua.below hB
  replace va := va.below hB
  replace ub := ub.below hB
  replace vb := vb.below hB
  rcases (show (3 < l.length ∨ (l.length ≤ 3 ∧ 3 < k.length)) ∨ ((l.length ≤ 3 ∧ k.length ≤ 3) ∧ (3 < l'.length ∨ (l'.length ≤ 3 ∧ 3 < k'.length))) ∨ ((l.length ≤ 3 ∧ k.length ≤ 3) ∧ (l'.length ≤ 3 ∧ k'.length ≤ 3)) by omega) with g1 | ⟨g1, g2⟩ | ⟨g1, g2⟩
  · clear ua va ub vb
    have G1 := Lib.hid g1
    clear g1
    go_enter Tryz.func5, Tryz.ntmps5
    go_wp2_with fail
    refine (great6_yes (n := 3) G1.out (by omega)).mono ?_
    rintro e w1 ⟨rfl, hb⟩
    replace xa := keepC hb xa
    replace ya := keepC hb ya
    replace za := keepC hb za
    replace xb := keepC hb xb
    replace yb := keepC hb yb
    replace zb := keepC hb zb
    replace hB := from_ hB hb
    clear hb
    go_wp2
    go_ret
    exact ⟨by first | rfl | trivial, hB⟩
  · clear ua va ub vb
    have G1 := Lib.hid g1
    have G2 := Lib.hid g2
    clear g1 g2
    go_enter Tryz.func5, Tryz.ntmps5
    go_wp2_with fail
    refine (great6_no (n := 3) G1.out.1 G1.out.2 (by omega)).mono ?_
    rintro e w1 ⟨rfl, hb⟩
    replace xa := keepC hb xa
    replace ya := keepC hb ya
    replace za := keepC hb za
    replace xb := keepC hb xb
    replace yb := keepC hb yb
    replace zb := keepC hb zb
    replace hB := from_ hB hb
    clear hb
    go_wp2_with fail
    refine (great6_yes (n := 3) G2.out (by omega)).mono ?_
    rintro e w2 ⟨rfl, hb⟩
    replace xa := keepC hb xa
    replace ya := keepC hb ya
    replace za := keepC hb za
    replace xb := keepC hb xb
    replace yb := keepC hb yb
    replace zb := keepC hb zb
    replace hB := from_ hB hb
    clear hb
    go_wp2
    go_ret
    exact ⟨by first | rfl | trivial, hB⟩
  · have sa := ua.small
    have ta := va.small
    have sb := ub.small
    have tb := vb.small
    have G1 := Lib.hid g1
    have G2 := Lib.hid g2
    have HL := Lib.hid (show l.length ≤ 300 ∧ k.length ≤ 300 ∧ l'.length ≤ 300 ∧ k'.length ≤ 300 by omega)
    obtain ⟨r1, la1, ld1, E1, P1, R1⟩ := pair_Add s t l k l' k' (by omega) (by omega) (by omega) (by omega) sa ta sb tb
    obtain ⟨r2, la2, ld2, E2, P2, R2⟩ := pair_Sub s t l k l' k' (by omega) (by omega) (by omega) (by omega) sa ta sb tb
    obtain ⟨r3, la3, ld3, E3, P3, R3⟩ := pair_Mul s t l k l' k' (by omega) (by omega) (by omega) (by omega) sa ta sb tb
    obtain ⟨r4, la4, ld4, E4, P4, R4⟩ := pair_Div s t l k l' k' (by omega) (by omega) (by omega) (by omega) sa ta sb tb
    obtain ⟨g5, E5, P5, R5⟩ := pair_Cmp s t l k l' k' (by omega) (by omega) (by omega) (by omega) sa ta sb tb
    obtain ⟨r6, m6, E6, P6, R6⟩ := pair_Floor s l k (by omega) (by omega) sa ta
    obtain ⟨r7, m7, E7, P7, R7⟩ := pair_Ceil s l k (by omega) (by omega) sa ta
    replace P1 := Lib.hid P1
    replace R1 := Lib.hid R1
    replace P2 := Lib.hid P2
    replace R2 := Lib.hid R2
    replace P3 := Lib.hid P3
    replace R3 := Lib.hid R3
    replace P4 := Lib.hid P4
    replace R4 := Lib.hid R4
    replace P5 := Lib.hid P5
    replace R5 := Lib.hid R5
    replace P6 := Lib.hid P6
    replace R6 := Lib.hid R6
    replace P7 := Lib.hid P7
    replace R7 := Lib.hid R7
    have P8 : Hid (∀ (W : World) (Z1 Z2 : Zone) (A B : Option Addr) (a b : Nat), U64s W Z1 A a l → U64s W Z2 B b k → Tab W → Calls Tryz.prog 38 #[.agg #[.bool s, .slice A l.length a, .slice B k.length b]] W fun e w' => e = .returned (.tuple #[strV (qTt s l k), .int .i64 (qTe s l k)]) ∧ Below W.heap.size W w') := fun W Z1 Z2 A B a b u1 u2 h => rtext_any u1 u2 HL.out.1 HL.out.2.1 h
    have R8 : Hid (∀ (W : World) (Z1 Z2 : Zone) (A B : Option Addr) (a b : Nat), U64s W Z1 A a l → U64s W Z2 B b k → Calls Tryz.prog 39 #[.agg #[.bool s, .slice A l.length a, .slice B k.length b]] W fun e w' => e = .returned (.tuple #[strV (qTt s l k), .int .i64 (qTe s l k)]) ∧ Below W.heap.size W w') := fun W Z1 Z2 A B a b u1 u2 => r6text_any u1 u2 HL.out.1 HL.out.2.1
    have P9 : Hid (∀ (W : World) (Z1 Z2 : Zone) (A B : Option Addr) (a b : Nat), U64s W Z1 A a l → U64s W Z2 B b k → Calls Tryz.prog 40 #[.agg #[.bool s, .slice A l.length a, .slice B k.length b]] W fun e w' => e = .returned (.int .i64 (errF s l k)) ∧ Below W.heap.size W w') := fun W Z1 Z2 A B a b u1 u2 => ratcheck_any (s := s) u1 u2 (by have := HL.out; omega) (by have := HL.out; omega)
    have R9 : Hid (∀ (W : World) (Z1 Z2 : Zone) (A B : Option Addr) (a b : Nat), U64s W Z1 A a l → U64s W Z2 B b k → Calls Tryz.prog 41 #[.agg #[.bool s, .slice A l.length a, .slice B k.length b]] W fun e w' => e = .returned (.int .i64 (errF s l k)) ∧ Below W.heap.size W w') := fun W Z1 Z2 A B a b u1 u2 => r6check_any u1 u2 HL.out.1 HL.out.2.1
    obtain ⟨O, hO⟩ : ∃ O, decide (s = t ∧ l = l' ∧ k = k') = O := ⟨_, rfl⟩
    have P10 : Hid (∀ (W : World) (Z1 Z2 Z3 Z4 : Zone) (A B C D : Option Addr) (a b c d : Nat), U64s W Z1 A a l → U64s W Z2 B b k → U64s W Z3 C c l' → U64s W Z4 D d k' → Calls Tryz.prog 42 #[.agg #[.bool s, .slice A l.length a, .slice B k.length b], .agg #[.bool t, .slice C l'.length c, .slice D k'.length d]] W fun e w' => e = .returned (.bool O) ∧ Below W.heap.size W w') := fun W Z1 Z2 Z3 Z4 A B C D a b c d u1 u2 u3 u4 => rsame_dec hO u1 u2 u3 u4
    have R10 : Hid (∀ (W : World) (Z1 Z2 Z3 Z4 : Zone) (A B C D : Option Addr) (a b c d : Nat), U64s W Z1 A a l → U64s W Z2 B b k → U64s W Z3 C c l' → U64s W Z4 D d k' → Calls Tryz.prog 33 #[.agg #[.bool s, .slice A l.length a, .slice B k.length b], .agg #[.bool t, .slice C l'.length c, .slice D k'.length d]] W fun e w' => e = .returned (.bool O) ∧ Below W.heap.size W w') := fun W Z1 Z2 Z3 Z4 A B C D a b c d u1 u2 u3 u4 => same6_dec hO u1 u2 u3 u4
    obtain ⟨tx, htx⟩ : ∃ tx : ByteArray, strV (qTt s l k) = .string tx := ⟨_, rfl⟩
    rw [htx] at P8 R8
    generalize qTe s l k = qe at *
    generalize errF s l k = ef at *
    have Ht := Lib.hid ht
    clear htx hO sa ta sb tb g1 g2 ht
    go_enter Tryz.func5, Tryz.ntmps5
    go_wp2_with fail
    refine (great6_no (n := 3) G1.out.1 G1.out.2 (by omega)).mono ?_
    rintro e w1 ⟨rfl, hb⟩
    replace xa := keepC hb xa
    replace ya := keepC hb ya
    replace za := keepC hb za
    replace xb := keepC hb xb
    replace yb := keepC hb yb
    replace zb := keepC hb zb
    replace ua := ua.below hb
    replace va := va.below hb
    replace ub := ub.below hb
    replace vb := vb.below hb
    replace hB := from_ hB hb
    clear hb
    go_wp2_with fail
    refine (great6_no (n := 3) G2.out.1 G2.out.2 (by omega)).mono ?_
    rintro e w2 ⟨rfl, hb⟩
    replace xa := keepC hb xa
    replace ya := keepC hb ya
    replace za := keepC hb za
    replace xb := keepC hb xb
    replace yb := keepC hb yb
    replace zb := keepC hb zb
    replace ua := ua.below hb
    replace va := va.below hb
    replace ub := ub.below hb
    replace vb := vb.below hb
    replace hB := from_ hB hb
    clear hb
    go_wp2_with fail
    refine (P1.out _ _ _ _ _ _ _ _ _ _ _ _ _ ua va ub vb).mono ?_
    rintro e w3 ⟨A3, c3, B3, d3, rfl, uP1, vP1, hb⟩
    have hal : Below w3.heap.size w3 (w3.alloc (.cells #[.bool r1, .slice A3 la1.length c3, .slice B3 ld1.length d3] 48)) := (Below.refl _ _).alloc (Nat.le_refl _) _
    replace uP1 := uP1.below hal
    replace vP1 := vP1.below hal
    obtain ⟨xP1, yP1, zP1, _, _, _, _⟩ := Box3.new w3 (.bool r1) (.slice A3 la1.length c3) (.slice B3 ld1.length d3) 48
    have hs := from_ hb hal
    replace xa := keepC hs xa
    replace ya := keepC hs ya
    replace za := keepC hs za
    replace xb := keepC hs xb
    replace yb := keepC hs yb
    replace zb := keepC hs zb
    replace ua := ua.below hs
    replace va := va.below hs
    replace ub := ub.below hs
    replace vb := vb.below hs
    replace hB := from_ hB hs
    clear hb hal hs
    go_wp2_with fail
    refine (R1.out _ _ _ _ _ _ _ _ _ _ _ _ _ ua va ub vb).mono ?_
    rintro e w4 ⟨A4, c4, B4, d4, rfl, uR1, vR1, hb⟩
    have hal : Below w4.heap.size w4 (w4.alloc (.cells #[.bool r1, .slice A4 la1.length c4, .slice B4 ld1.length d4] 48)) := (Below.refl _ _).alloc (Nat.le_refl _) _
    replace uR1 := uR1.below hal
    replace vR1 := vR1.below hal
    obtain ⟨xR1, yR1, zR1, _, _, _, _⟩ := Box3.new w4 (.bool r1) (.slice A4 la1.length c4) (.slice B4 ld1.length d4) 48
    have hs := from_ hb hal
    replace xa := keepC hs xa
    replace ya := keepC hs ya
    replace za := keepC hs za
    replace xb := keepC hs xb
    replace yb := keepC hs yb
    replace zb := keepC hs zb
    replace xP1 := keepC hs xP1
    replace yP1 := keepC hs yP1
    replace zP1 := keepC hs zP1
    replace ua := ua.below hs
    replace va := va.below hs
    replace ub := ub.below hs
    replace vb := vb.below hs
    replace uP1 := uP1.below hs
    replace vP1 := vP1.below hs
    replace hB := from_ hB hs
    clear hb hal hs
    go_wp2_with fail
    refine (P2.out _ _ _ _ _ _ _ _ _ _ _ _ _ ua va ub vb).mono ?_
    rintro e w5 ⟨A5, c5, B5, d5, rfl, uP2, vP2, hb⟩
    have hal : Below w5.heap.size w5 (w5.alloc (.cells #[.bool r2, .slice A5 la2.length c5, .slice B5 ld2.length d5] 48)) := (Below.refl _ _).alloc (Nat.le_refl _) _
    replace uP2 := uP2.below hal
    replace vP2 := vP2.below hal
    obtain ⟨xP2, yP2, zP2, _, _, _, _⟩ := Box3.new w5 (.bool r2) (.slice A5 la2.length c5) (.slice B5 ld2.length d5) 48
    have hs := from_ hb hal
    replace xa := keepC hs xa
    replace ya := keepC hs ya
    replace za := keepC hs za
    replace xb := keepC hs xb
    replace yb := keepC hs yb
    replace zb := keepC hs zb
    replace xP1 := keepC hs xP1
    replace yP1 := keepC hs yP1
    replace zP1 := keepC hs zP1
    replace xR1 := keepC hs xR1
    replace yR1 := keepC hs yR1
    replace zR1 := keepC hs zR1
    replace ua := ua.below hs
    replace va := va.below hs
    replace ub := ub.below hs
    replace vb := vb.below hs
    replace uP1 := uP1.below hs
    replace vP1 := vP1.below hs
    replace uR1 := uR1.below hs
    replace vR1 := vR1.below hs
    replace hB := from_ hB hs
    clear hb hal hs
    go_wp2_with fail
    refine (R2.out _ _ _ _ _ _ _ _ _ _ _ _ _ ua va ub vb).mono ?_
    rintro e w6 ⟨A6, c6, B6, d6, rfl, uR2, vR2, hb⟩
    have hal : Below w6.heap.size w6 (w6.alloc (.cells #[.bool r2, .slice A6 la2.length c6, .slice B6 ld2.length d6] 48)) := (Below.refl _ _).alloc (Nat.le_refl _) _
    replace uR2 := uR2.below hal
    replace vR2 := vR2.below hal
    obtain ⟨xR2, yR2, zR2, _, _, _, _⟩ := Box3.new w6 (.bool r2) (.slice A6 la2.length c6) (.slice B6 ld2.length d6) 48
    have hs := from_ hb hal
    replace xa := keepC hs xa
    replace ya := keepC hs ya
    replace za := keepC hs za
    replace xb := keepC hs xb
    replace yb := keepC hs yb
    replace zb := keepC hs zb
    replace xP1 := keepC hs xP1
    replace yP1 := keepC hs yP1
    replace zP1 := keepC hs zP1
    replace xR1 := keepC hs xR1
    replace yR1 := keepC hs yR1
    replace zR1 := keepC hs zR1
    replace xP2 := keepC hs xP2
    replace yP2 := keepC hs yP2
    replace zP2 := keepC hs zP2
    replace ua := ua.below hs
    replace va := va.below hs
    replace ub := ub.below hs
    replace vb := vb.below hs
    replace uP1 := uP1.below hs
    replace vP1 := vP1.below hs
    replace uR1 := uR1.below hs
    replace vR1 := vR1.below hs
    replace uP2 := uP2.below hs
    replace vP2 := vP2.below hs
    replace hB := from_ hB hs
    clear hb hal hs
    go_wp2_with fail
    refine (P3.out _ _ _ _ _ _ _ _ _ _ _ _ _ ua va ub vb).mono ?_
    rintro e w7 ⟨A7, c7, B7, d7, rfl, uP3, vP3, hb⟩
    have hal : Below w7.heap.size w7 (w7.alloc (.cells #[.bool r3, .slice A7 la3.length c7, .slice B7 ld3.length d7] 48)) := (Below.refl _ _).alloc (Nat.le_refl _) _
    replace uP3 := uP3.below hal
    replace vP3 := vP3.below hal
    obtain ⟨xP3, yP3, zP3, _, _, _, _⟩ := Box3.new w7 (.bool r3) (.slice A7 la3.length c7) (.slice B7 ld3.length d7) 48
    have hs := from_ hb hal
    replace xa := keepC hs xa
    replace ya := keepC hs ya
    replace za := keepC hs za
    replace xb := keepC hs xb
    replace yb := keepC hs yb
    replace zb := keepC hs zb
    replace xP1 := keepC hs xP1
    replace yP1 := keepC hs yP1
    replace zP1 := keepC hs zP1
    replace xR1 := keepC hs xR1
    replace yR1 := keepC hs yR1
    replace zR1 := keepC hs zR1
    replace xP2 := keepC hs xP2
    replace yP2 := keepC hs yP2
    replace zP2 := keepC hs zP2
    replace xR2 := keepC hs xR2
    replace yR2 := keepC hs yR2
    replace zR2 := keepC hs zR2
    replace ua := ua.below hs
    replace va := va.below hs
    replace ub := ub.below hs
    replace vb := vb.below hs
    replace uP1 := uP1.below hs
    replace vP1 := vP1.below hs
    replace uR1 := uR1.below hs
    replace vR1 := vR1.below hs
    replace uP2 := uP2.below hs
    replace vP2 := vP2.below hs
    replace uR2 := uR2.below hs
    replace vR2 := vR2.below hs
    replace hB := from_ hB hs
    clear hb hal hs
    go_wp2_with fail
    refine (R3.out _ _ _ _ _ _ _ _ _ _ _ _ _ ua va ub vb).mono ?_
    rintro e w8 ⟨A8, c8, B8, d8, rfl, uR3, vR3, hb⟩
    have hal : Below w8.heap.size w8 (w8.alloc (.cells #[.bool r3, .slice A8 la3.length c8, .slice B8 ld3.length d8] 48)) := (Below.refl _ _).alloc (Nat.le_refl _) _
    replace uR3 := uR3.below hal
    replace vR3 := vR3.below hal
    obtain ⟨xR3, yR3, zR3, _, _, _, _⟩ := Box3.new w8 (.bool r3) (.slice A8 la3.length c8) (.slice B8 ld3.length d8) 48
    have hs := from_ hb hal
    replace xa := keepC hs xa
    replace ya := keepC hs ya
    replace za := keepC hs za
    replace xb := keepC hs xb
    replace yb := keepC hs yb
    replace zb := keepC hs zb
    replace xP1 := keepC hs xP1
    replace yP1 := keepC hs yP1
    replace zP1 := keepC hs zP1
    replace xR1 := keepC hs xR1
    replace yR1 := keepC hs yR1
    replace zR1 := keepC hs zR1
    replace xP2 := keepC hs xP2
    replace yP2 := keepC hs yP2
    replace zP2 := keepC hs zP2
    replace xR2 := keepC hs xR2
    replace yR2 := keepC hs yR2
    replace zR2 := keepC hs zR2
    replace xP3 := keepC hs xP3
    replace yP3 := keepC hs yP3
    replace zP3 := keepC hs zP3
    replace ua := ua.below hs
    replace va := va.below hs
    replace ub := ub.below hs
    replace vb := vb.below hs
    replace uP1 := uP1.below hs
    replace vP1 := vP1.below hs
    replace uR1 := uR1.below hs
    replace vR1 := vR1.below hs
    replace uP2 := uP2.below hs
    replace vP2 := vP2.below hs
    replace uR2 := uR2.below hs
    replace vR2 := vR2.below hs
    replace uP3 := uP3.below hs
    replace vP3 := vP3.below hs
    replace hB := from_ hB hs
    clear hb hal hs
    go_wp2_with fail
    refine (P4.out _ _ _ _ _ _ _ _ _ _ _ _ _ ua va ub vb).mono ?_
    rintro e w9 ⟨A9, c9, B9, d9, rfl, uP4, vP4, hb⟩
    have hal : Below w9.heap.size w9 (w9.alloc (.cells #[.bool r4, .slice A9 la4.length c9, .slice B9 ld4.length d9] 48)) := (Below.refl _ _).alloc (Nat.le_refl _) _
    replace uP4 := uP4.below hal
    replace vP4 := vP4.below hal
    obtain ⟨xP4, yP4, zP4, _, _, _, _⟩ := Box3.new w9 (.bool r4) (.slice A9 la4.length c9) (.slice B9 ld4.length d9) 48
    have hs := from_ hb hal
    replace xa := keepC hs xa
    replace ya := keepC hs ya
    replace za := keepC hs za
    replace xb := keepC hs xb
    replace yb := keepC hs yb
    replace zb := keepC hs zb
    replace xP1 := keepC hs xP1
    replace yP1 := keepC hs yP1
    replace zP1 := keepC hs zP1
    replace xR1 := keepC hs xR1
    replace yR1 := keepC hs yR1
    replace zR1 := keepC hs zR1
    replace xP2 := keepC hs xP2
    replace yP2 := keepC hs yP2
    replace zP2 := keepC hs zP2
    replace xR2 := keepC hs xR2
    replace yR2 := keepC hs yR2
    replace zR2 := keepC hs zR2
    replace xP3 := keepC hs xP3
    replace yP3 := keepC hs yP3
    replace zP3 := keepC hs zP3
    replace xR3 := keepC hs xR3
    replace yR3 := keepC hs yR3
    replace zR3 := keepC hs zR3
    replace ua := ua.below hs
    replace va := va.below hs
    replace ub := ub.below hs
    replace vb := vb.below hs
    replace uP1 := uP1.below hs
    replace vP1 := vP1.below hs
    replace uR1 := uR1.below hs
    replace vR1 := vR1.below hs
    replace uP2 := uP2.below hs
    replace vP2 := vP2.below hs
    replace uR2 := uR2.below hs
    replace vR2 := vR2.below hs
    replace uP3 := uP3.below hs
    replace vP3 := vP3.below hs
    replace uR3 := uR3.below hs
    replace vR3 := vR3.below hs
    replace hB := from_ hB hs
    clear hb hal hs
    go_wp2_with fail
    refine (R4.out _ _ _ _ _ _ _ _ _ _ _ _ _ ua va ub vb).mono ?_
    rintro e w10 ⟨A10, c10, B10, d10, rfl, uR4, vR4, hb⟩
    have hal : Below w10.heap.size w10 (w10.alloc (.cells #[.bool r4, .slice A10 la4.length c10, .slice B10 ld4.length d10] 48)) := (Below.refl _ _).alloc (Nat.le_refl _) _
    replace uR4 := uR4.below hal
    replace vR4 := vR4.below hal
    obtain ⟨xR4, yR4, zR4, _, _, _, _⟩ := Box3.new w10 (.bool r4) (.slice A10 la4.length c10) (.slice B10 ld4.length d10) 48
    have hs := from_ hb hal
    replace xa := keepC hs xa
    replace ya := keepC hs ya
    replace za := keepC hs za
    replace xb := keepC hs xb
    replace yb := keepC hs yb
    replace zb := keepC hs zb
    replace xP1 := keepC hs xP1
    replace yP1 := keepC hs yP1
    replace zP1 := keepC hs zP1
    replace xR1 := keepC hs xR1
    replace yR1 := keepC hs yR1
    replace zR1 := keepC hs zR1
    replace xP2 := keepC hs xP2
    replace yP2 := keepC hs yP2
    replace zP2 := keepC hs zP2
    replace xR2 := keepC hs xR2
    replace yR2 := keepC hs yR2
    replace zR2 := keepC hs zR2
    replace xP3 := keepC hs xP3
    replace yP3 := keepC hs yP3
    replace zP3 := keepC hs zP3
    replace xR3 := keepC hs xR3
    replace yR3 := keepC hs yR3
    replace zR3 := keepC hs zR3
    replace xP4 := keepC hs xP4
    replace yP4 := keepC hs yP4
    replace zP4 := keepC hs zP4
    replace ua := ua.below hs
    replace va := va.below hs
    replace ub := ub.below hs
    replace vb := vb.below hs
    replace uP1 := uP1.below hs
    replace vP1 := vP1.below hs
    replace uR1 := uR1.below hs
    replace vR1 := vR1.below hs
    replace uP2 := uP2.below hs
    replace vP2 := vP2.below hs
    replace uR2 := uR2.below hs
    replace vR2 := vR2.below hs
    replace uP3 := uP3.below hs
    replace vP3 := vP3.below hs
    replace uR3 := uR3.below hs
    replace vR3 := vR3.below hs
    replace uP4 := uP4.below hs
    replace vP4 := vP4.below hs
    replace hB := from_ hB hs
    clear hb hal hs
    go_wp2_with fail
    refine (P5.out _ _ _ _ _ _ _ _ _ _ _ _ _ ua va ub vb).mono ?_
    rintro e w11 ⟨rfl, hb⟩
    replace xa := keepC hb xa
    replace ya := keepC hb ya
    replace za := keepC hb za
    replace xb := keepC hb xb
    replace yb := keepC hb yb
    replace zb := keepC hb zb
    replace xP1 := keepC hb xP1
    replace yP1 := keepC hb yP1
    replace zP1 := keepC hb zP1
    replace xR1 := keepC hb xR1
    replace yR1 := keepC hb yR1
    replace zR1 := keepC hb zR1
    replace xP2 := keepC hb xP2
    replace yP2 := keepC hb yP2
    replace zP2 := keepC hb zP2
    replace xR2 := keepC hb xR2
    replace yR2 := keepC hb yR2
    replace zR2 := keepC hb zR2
    replace xP3 := keepC hb xP3
    replace yP3 := keepC hb yP3
    replace zP3 := keepC hb zP3
    replace xR3 := keepC hb xR3
    replace yR3 := keepC hb yR3
    replace zR3 := keepC hb zR3
    replace xP4 := keepC hb xP4
    replace yP4 := keepC hb yP4
    replace zP4 := keepC hb zP4
    replace xR4 := keepC hb xR4
    replace yR4 := keepC hb yR4
    replace zR4 := keepC hb zR4
    replace ua := ua.below hb
    replace va := va.below hb
    replace ub := ub.below hb
    replace vb := vb.below hb
    replace uP1 := uP1.below hb
    replace vP1 := vP1.below hb
    replace uR1 := uR1.below hb
    replace vR1 := vR1.below hb
    replace uP2 := uP2.below hb
    replace vP2 := vP2.below hb
    replace uR2 := uR2.below hb
    replace vR2 := vR2.below hb
    replace uP3 := uP3.below hb
    replace vP3 := vP3.below hb
    replace uR3 := uR3.below hb
    replace vR3 := vR3.below hb
    replace uP4 := uP4.below hb
    replace vP4 := vP4.below hb
    replace uR4 := uR4.below hb
    replace vR4 := vR4.below hb
    replace hB := from_ hB hb
    clear hb
    go_wp2_with fail
    refine (R5.out _ _ _ _ _ _ _ _ _ _ _ _ _ ua va ub vb).mono ?_
    rintro e w12 ⟨rfl, hb⟩
    replace xa := keepC hb xa
    replace ya := keepC hb ya
    replace za := keepC hb za
    replace xb := keepC hb xb
    replace yb := keepC hb yb
    replace zb := keepC hb zb
    replace xP1 := keepC hb xP1
    replace yP1 := keepC hb yP1
    replace zP1 := keepC hb zP1
    replace xR1 := keepC hb xR1
    replace yR1 := keepC hb yR1
    replace zR1 := keepC hb zR1
    replace xP2 := keepC hb xP2
    replace yP2 := keepC hb yP2
    replace zP2 := keepC hb zP2
    replace xR2 := keepC hb xR2
    replace yR2 := keepC hb yR2
    replace zR2 := keepC hb zR2
    replace xP3 := keepC hb xP3
    replace yP3 := keepC hb yP3
    replace zP3 := keepC hb zP3
    replace xR3 := keepC hb xR3
    replace yR3 := keepC hb yR3
    replace zR3 := keepC hb zR3
    replace xP4 := keepC hb xP4
    replace yP4 := keepC hb yP4
    replace zP4 := keepC hb zP4
    replace xR4 := keepC hb xR4
    replace yR4 := keepC hb yR4
    replace zR4 := keepC hb zR4
    replace ua := ua.below hb
    replace va := va.below hb
    replace ub := ub.below hb
    replace vb := vb.below hb
    replace uP1 := uP1.below hb
    replace vP1 := vP1.below hb
    replace uR1 := uR1.below hb
    replace vR1 := vR1.below hb
    replace uP2 := uP2.below hb
    replace vP2 := vP2.below hb
    replace uR2 := uR2.below hb
    replace vR2 := vR2.below hb
    replace uP3 := uP3.below hb
    replace vP3 := vP3.below hb
    replace uR3 := uR3.below hb
    replace vR3 := vR3.below hb
    replace uP4 := uP4.below hb
    replace vP4 := vP4.below hb
    replace uR4 := uR4.below hb
    replace vR4 := vR4.below hb
    replace hB := from_ hB hb
    clear hb
    go_wp2_with fail
    refine (same6_yes uP1 vP1 uR1 vR1).mono ?_
    rintro e w13 ⟨rfl, hb⟩
    replace xa := keepC hb xa
    replace ya := keepC hb ya
    replace za := keepC hb za
    replace xb := keepC hb xb
    replace yb := keepC hb yb
    replace zb := keepC hb zb
    replace xP1 := keepC hb xP1
    replace yP1 := keepC hb yP1
    replace zP1 := keepC hb zP1
    replace xR1 := keepC hb xR1
    replace yR1 := keepC hb yR1
    replace zR1 := keepC hb zR1
    replace xP2 := keepC hb xP2
    replace yP2 := keepC hb yP2
    replace zP2 := keepC hb zP2
    replace xR2 := keepC hb xR2
    replace yR2 := keepC hb yR2
    replace zR2 := keepC hb zR2
    replace xP3 := keepC hb xP3
    replace yP3 := keepC hb yP3
    replace zP3 := keepC hb zP3
    replace xR3 := keepC hb xR3
    replace yR3 := keepC hb yR3
    replace zR3 := keepC hb zR3
    replace xP4 := keepC hb xP4
    replace yP4 := keepC hb yP4
    replace zP4 := keepC hb zP4
    replace xR4 := keepC hb xR4
    replace yR4 := keepC hb yR4
    replace zR4 := keepC hb zR4
    replace ua := ua.below hb
    replace va := va.below hb
    replace ub := ub.below hb
    replace vb := vb.below hb
    replace uP1 := uP1.below hb
    replace vP1 := vP1.below hb
    replace uR1 := uR1.below hb
    replace vR1 := vR1.below hb
    replace uP2 := uP2.below hb
    replace vP2 := vP2.below hb
    replace uR2 := uR2.below hb
    replace vR2 := vR2.below hb
    replace uP3 := uP3.below hb
    replace vP3 := vP3.below hb
    replace uR3 := uR3.below hb
    replace vR3 := vR3.below hb
    replace uP4 := uP4.below hb
    replace vP4 := vP4.below hb
    replace uR4 := uR4.below hb
    replace vR4 := vR4.below hb
    replace hB := from_ hB hb
    clear hb
    go_wp2_with fail
    refine (same6_yes uP2 vP2 uR2 vR2).mono ?_
    rintro e w14 ⟨rfl, hb⟩
    replace xa := keepC hb xa
    replace ya := keepC hb ya
    replace za := keepC hb za
    replace xb := keepC hb xb
    replace yb := keepC hb yb
    replace zb := keepC hb zb
    replace xP1 := keepC hb xP1
    replace yP1 := keepC hb yP1
    replace zP1 := keepC hb zP1
    replace xR1 := keepC hb xR1
    replace yR1 := keepC hb yR1
    replace zR1 := keepC hb zR1
    replace xP2 := keepC hb xP2
    replace yP2 := keepC hb yP2
    replace zP2 := keepC hb zP2
    replace xR2 := keepC hb xR2
    replace yR2 := keepC hb yR2
    replace zR2 := keepC hb zR2
    replace xP3 := keepC hb xP3
    replace yP3 := keepC hb yP3
    replace zP3 := keepC hb zP3
    replace xR3 := keepC hb xR3
    replace yR3 := keepC hb yR3
    replace zR3 := keepC hb zR3
    replace xP4 := keepC hb xP4
    replace yP4 := keepC hb yP4
    replace zP4 := keepC hb zP4
    replace xR4 := keepC hb xR4
    replace yR4 := keepC hb yR4
    replace zR4 := keepC hb zR4
    replace ua := ua.below hb
    replace va := va.below hb
    replace ub := ub.below hb
    replace vb := vb.below hb
    replace uP1 := uP1.below hb
    replace vP1 := vP1.below hb
    replace uR1 := uR1.below hb
    replace vR1 := vR1.below hb
    replace uP2 := uP2.below hb
    replace vP2 := vP2.below hb
    replace uR2 := uR2.below hb
    replace vR2 := vR2.below hb
    replace uP3 := uP3.below hb
    replace vP3 := vP3.below hb
    replace uR3 := uR3.below hb
    replace vR3 := vR3.below hb
    replace uP4 := uP4.below hb
    replace vP4 := vP4.below hb
    replace uR4 := uR4.below hb
    replace vR4 := vR4.below hb
    replace hB := from_ hB hb
    clear hb
    go_wp2_with fail
    refine (same6_yes uP3 vP3 uR3 vR3).mono ?_
    rintro e w15 ⟨rfl, hb⟩
    replace xa := keepC hb xa
    replace ya := keepC hb ya
    replace za := keepC hb za
    replace xb := keepC hb xb
    replace yb := keepC hb yb
    replace zb := keepC hb zb
    replace xP1 := keepC hb xP1
    replace yP1 := keepC hb yP1
    replace zP1 := keepC hb zP1
    replace xR1 := keepC hb xR1
    replace yR1 := keepC hb yR1
    replace zR1 := keepC hb zR1
    replace xP2 := keepC hb xP2
    replace yP2 := keepC hb yP2
    replace zP2 := keepC hb zP2
    replace xR2 := keepC hb xR2
    replace yR2 := keepC hb yR2
    replace zR2 := keepC hb zR2
    replace xP3 := keepC hb xP3
    replace yP3 := keepC hb yP3
    replace zP3 := keepC hb zP3
    replace xR3 := keepC hb xR3
    replace yR3 := keepC hb yR3
    replace zR3 := keepC hb zR3
    replace xP4 := keepC hb xP4
    replace yP4 := keepC hb yP4
    replace zP4 := keepC hb zP4
    replace xR4 := keepC hb xR4
    replace yR4 := keepC hb yR4
    replace zR4 := keepC hb zR4
    replace ua := ua.below hb
    replace va := va.below hb
    replace ub := ub.below hb
    replace vb := vb.below hb
    replace uP1 := uP1.below hb
    replace vP1 := vP1.below hb
    replace uR1 := uR1.below hb
    replace vR1 := vR1.below hb
    replace uP2 := uP2.below hb
    replace vP2 := vP2.below hb
    replace uR2 := uR2.below hb
    replace vR2 := vR2.below hb
    replace uP3 := uP3.below hb
    replace vP3 := vP3.below hb
    replace uR3 := uR3.below hb
    replace vR3 := vR3.below hb
    replace uP4 := uP4.below hb
    replace vP4 := vP4.below hb
    replace uR4 := uR4.below hb
    replace vR4 := vR4.below hb
    replace hB := from_ hB hb
    clear hb
    go_wp2_with fail
    refine (same6_yes uP4 vP4 uR4 vR4).mono ?_
    rintro e w16 ⟨rfl, hb⟩
    replace xa := keepC hb xa
    replace ya := keepC hb ya
    replace za := keepC hb za
    replace xb := keepC hb xb
    replace yb := keepC hb yb
    replace zb := keepC hb zb
    replace xP1 := keepC hb xP1
    replace yP1 := keepC hb yP1
    replace zP1 := keepC hb zP1
    replace xR1 := keepC hb xR1
    replace yR1 := keepC hb yR1
    replace zR1 := keepC hb zR1
    replace xP2 := keepC hb xP2
    replace yP2 := keepC hb yP2
    replace zP2 := keepC hb zP2
    replace xR2 := keepC hb xR2
    replace yR2 := keepC hb yR2
    replace zR2 := keepC hb zR2
    replace xP3 := keepC hb xP3
    replace yP3 := keepC hb yP3
    replace zP3 := keepC hb zP3
    replace xR3 := keepC hb xR3
    replace yR3 := keepC hb yR3
    replace zR3 := keepC hb zR3
    replace xP4 := keepC hb xP4
    replace yP4 := keepC hb yP4
    replace zP4 := keepC hb zP4
    replace xR4 := keepC hb xR4
    replace yR4 := keepC hb yR4
    replace zR4 := keepC hb zR4
    replace ua := ua.below hb
    replace va := va.below hb
    replace ub := ub.below hb
    replace vb := vb.below hb
    replace uP1 := uP1.below hb
    replace vP1 := vP1.below hb
    replace uR1 := uR1.below hb
    replace vR1 := vR1.below hb
    replace uP2 := uP2.below hb
    replace vP2 := vP2.below hb
    replace uR2 := uR2.below hb
    replace vR2 := vR2.below hb
    replace uP3 := uP3.below hb
    replace vP3 := vP3.below hb
    replace uR3 := uR3.below hb
    replace vR3 := vR3.below hb
    replace uP4 := uP4.below hb
    replace vP4 := vP4.below hb
    replace uR4 := uR4.below hb
    replace vR4 := vR4.below hb
    replace hB := from_ hB hb
    clear hb
    clear xP1 yP1 zP1 uP1 vP1
    clear xR1 yR1 zR1 uR1 vR1
    clear xP2 yP2 zP2 uP2 vP2
    clear xR2 yR2 zR2 uR2 vR2
    clear xP3 yP3 zP3 uP3 vP3
    clear xR3 yR3 zR3 uR3 vR3
    clear xP4 yP4 zP4 uP4 vP4
    clear xR4 yR4 zR4 uR4 vR4
    go_wp2_with fail
    refine (P6.out _ _ _ _ _ _ _ ua va).mono ?_
    rintro e w17 ⟨A17, c17, rfl, uP6, hb⟩
    have hal : Below w17.heap.size w17 (w17.alloc (.cells #[.bool r6, .slice A17 m6.length c17] 36)) := (Below.refl _ _).alloc (Nat.le_refl _) _
    replace uP6 := uP6.below hal
    obtain ⟨xP6, yP6, _, _, _⟩ := Box.new w17 (.bool r6) (.slice A17 m6.length c17) 36
    have hs := from_ hb hal
    replace xa := keepC hs xa
    replace ya := keepC hs ya
    replace za := keepC hs za
    replace xb := keepC hs xb
    replace yb := keepC hs yb
    replace zb := keepC hs zb
    replace ua := ua.below hs
    replace va := va.below hs
    replace ub := ub.below hs
    replace vb := vb.below hs
    replace hB := from_ hB hs
    clear hb hal hs
    go_wp2_with fail
    refine (R6.out _ _ _ _ _ _ _ ua va).mono ?_
    rintro e w18 ⟨A18, c18, rfl, uR6, hb⟩
    have hal : Below w18.heap.size w18 (w18.alloc (.cells #[.bool r6, .slice A18 m6.length c18] 36)) := (Below.refl _ _).alloc (Nat.le_refl _) _
    replace uR6 := uR6.below hal
    obtain ⟨xR6, yR6, _, _, _⟩ := Box.new w18 (.bool r6) (.slice A18 m6.length c18) 36
    have hs := from_ hb hal
    replace xa := keepC hs xa
    replace ya := keepC hs ya
    replace za := keepC hs za
    replace xb := keepC hs xb
    replace yb := keepC hs yb
    replace zb := keepC hs zb
    replace xP6 := keepC hs xP6
    replace yP6 := keepC hs yP6
    replace ua := ua.below hs
    replace va := va.below hs
    replace ub := ub.below hs
    replace vb := vb.below hs
    replace uP6 := uP6.below hs
    replace hB := from_ hB hs
    clear hb hal hs
    go_wp2_with fail
    refine (P7.out _ _ _ _ _ _ _ ua va).mono ?_
    rintro e w19 ⟨A19, c19, rfl, uP7, hb⟩
    have hal : Below w19.heap.size w19 (w19.alloc (.cells #[.bool r7, .slice A19 m7.length c19] 36)) := (Below.refl _ _).alloc (Nat.le_refl _) _
    replace uP7 := uP7.below hal
    obtain ⟨xP7, yP7, _, _, _⟩ := Box.new w19 (.bool r7) (.slice A19 m7.length c19) 36
    have hs := from_ hb hal
    replace xa := keepC hs xa
    replace ya := keepC hs ya
    replace za := keepC hs za
    replace xb := keepC hs xb
    replace yb := keepC hs yb
    replace zb := keepC hs zb
    replace xP6 := keepC hs xP6
    replace yP6 := keepC hs yP6
    replace xR6 := keepC hs xR6
    replace yR6 := keepC hs yR6
    replace ua := ua.below hs
    replace va := va.below hs
    replace ub := ub.below hs
    replace vb := vb.below hs
    replace uP6 := uP6.below hs
    replace uR6 := uR6.below hs
    replace hB := from_ hB hs
    clear hb hal hs
    go_wp2_with fail
    refine (R7.out _ _ _ _ _ _ _ ua va).mono ?_
    rintro e w20 ⟨A20, c20, rfl, uR7, hb⟩
    have hal : Below w20.heap.size w20 (w20.alloc (.cells #[.bool r7, .slice A20 m7.length c20] 36)) := (Below.refl _ _).alloc (Nat.le_refl _) _
    replace uR7 := uR7.below hal
    obtain ⟨xR7, yR7, _, _, _⟩ := Box.new w20 (.bool r7) (.slice A20 m7.length c20) 36
    have hs := from_ hb hal
    replace xa := keepC hs xa
    replace ya := keepC hs ya
    replace za := keepC hs za
    replace xb := keepC hs xb
    replace yb := keepC hs yb
    replace zb := keepC hs zb
    replace xP6 := keepC hs xP6
    replace yP6 := keepC hs yP6
    replace xR6 := keepC hs xR6
    replace yR6 := keepC hs yR6
    replace xP7 := keepC hs xP7
    replace yP7 := keepC hs yP7
    replace ua := ua.below hs
    replace va := va.below hs
    replace ub := ub.below hs
    replace vb := vb.below hs
    replace uP6 := uP6.below hs
    replace uR6 := uR6.below hs
    replace uP7 := uP7.below hs
    replace hB := from_ hB hs
    clear hb hal hs
    go_wp2_with fail
    refine (P8.out _ _ _ _ _ _ _ ua va (Ht.out.below hB)).mono ?_
    rintro e w21 ⟨rfl, hb⟩
    replace xa := keepC hb xa
    replace ya := keepC hb ya
    replace za := keepC hb za
    replace xb := keepC hb xb
    replace yb := keepC hb yb
    replace zb := keepC hb zb
    replace xP6 := keepC hb xP6
    replace yP6 := keepC hb yP6
    replace xR6 := keepC hb xR6
    replace yR6 := keepC hb yR6
    replace xP7 := keepC hb xP7
    replace yP7 := keepC hb yP7
    replace xR7 := keepC hb xR7
    replace yR7 := keepC hb yR7
    replace ua := ua.below hb
    replace va := va.below hb
    replace ub := ub.below hb
    replace vb := vb.below hb
    replace uP6 := uP6.below hb
    replace uR6 := uR6.below hb
    replace uP7 := uP7.below hb
    replace uR7 := uR7.below hb
    replace hB := from_ hB hb
    clear hb
    go_wp2_with fail
    refine (R8.out _ _ _ _ _ _ _ ua va).mono ?_
    rintro e w22 ⟨rfl, hb⟩
    replace xa := keepC hb xa
    replace ya := keepC hb ya
    replace za := keepC hb za
    replace xb := keepC hb xb
    replace yb := keepC hb yb
    replace zb := keepC hb zb
    replace xP6 := keepC hb xP6
    replace yP6 := keepC hb yP6
    replace xR6 := keepC hb xR6
    replace yR6 := keepC hb yR6
    replace xP7 := keepC hb xP7
    replace yP7 := keepC hb yP7
    replace xR7 := keepC hb xR7
    replace yR7 := keepC hb yR7
    replace ua := ua.below hb
    replace va := va.below hb
    replace ub := ub.below hb
    replace vb := vb.below hb
    replace uP6 := uP6.below hb
    replace uR6 := uR6.below hb
    replace uP7 := uP7.below hb
    replace uR7 := uR7.below hb
    replace hB := from_ hB hb
    clear hb
    go_wp2_with fail
    refine (same_n uP6 uR6).mono ?_
    rintro e w23 ⟨rfl, hb⟩
    replace xa := keepC hb xa
    replace ya := keepC hb ya
    replace za := keepC hb za
    replace xb := keepC hb xb
    replace yb := keepC hb yb
    replace zb := keepC hb zb
    replace xP6 := keepC hb xP6
    replace yP6 := keepC hb yP6
    replace xR6 := keepC hb xR6
    replace yR6 := keepC hb yR6
    replace xP7 := keepC hb xP7
    replace yP7 := keepC hb yP7
    replace xR7 := keepC hb xR7
    replace yR7 := keepC hb yR7
    replace ua := ua.below hb
    replace va := va.below hb
    replace ub := ub.below hb
    replace vb := vb.below hb
    replace uP6 := uP6.below hb
    replace uR6 := uR6.below hb
    replace uP7 := uP7.below hb
    replace uR7 := uR7.below hb
    replace hB := from_ hB hb
    clear hb
    go_wp2_with fail
    refine (same_n uP7 uR7).mono ?_
    rintro e w24 ⟨rfl, hb⟩
    replace xa := keepC hb xa
    replace ya := keepC hb ya
    replace za := keepC hb za
    replace xb := keepC hb xb
    replace yb := keepC hb yb
    replace zb := keepC hb zb
    replace xP6 := keepC hb xP6
    replace yP6 := keepC hb yP6
    replace xR6 := keepC hb xR6
    replace yR6 := keepC hb yR6
    replace xP7 := keepC hb xP7
    replace yP7 := keepC hb yP7
    replace xR7 := keepC hb xR7
    replace yR7 := keepC hb yR7
    replace ua := ua.below hb
    replace va := va.below hb
    replace ub := ub.below hb
    replace vb := vb.below hb
    replace uP6 := uP6.below hb
    replace uR6 := uR6.below hb
    replace uP7 := uP7.below hb
    replace uR7 := uR7.below hb
    replace hB := from_ hB hb
    clear hb
    clear xP6 yP6 uP6
    clear xR6 yR6 uR6
    clear xP7 yP7 uP7
    clear xR7 yR7 uR7
    have hs0 := And.intro xa (And.intro ya (And.intro za (And.intro xb (And.intro yb zb))))
    have hs := boxQ_keep hs0 (Below.refl w24.heap.size w24).drew
    have Hc := Lib.hid hB.drew
    replace ua := ua.below (Below.refl w24.heap.size w24).drew
    replace va := va.below (Below.refl w24.heap.size w24).drew
    replace ub := ub.below (Below.refl w24.heap.size w24).drew
    replace vb := vb.below (Below.refl w24.heap.size w24).drew
    clear xa ya za xb yb zb hB hs0
    go_wp2
    first | go_region_held3 (fun w' => w'.cell? ⟨w.heap.size, 0, none⟩ = some (.bool s) ∧ w'.cell? ⟨w.heap.size, 1, none⟩ = some (.slice A l.length ca) ∧ w'.cell? ⟨w.heap.size, 2, none⟩ = some (.slice B k.length cb) ∧ w'.cell? ⟨(w.heap.size + 1), 0, none⟩ = some (.bool t) ∧ w'.cell? ⟨(w.heap.size + 1), 1, none⟩ = some (.slice C l'.length cc) ∧ w'.cell? ⟨(w.heap.size + 1), 2, none⟩ = some (.slice D k'.length cd))
      (first
        | with_reducible exact hs)
      (first
        | (go_at_call 40; with_reducible refine (P9.out _ _ _ _ _ _ _ ua va).mono ?_; rintro e w' ⟨rfl, hc⟩; replace hs := boxQ_keep hs hc; replace ua := ua.below hc; replace va := va.below hc; replace ub := ub.below hc; replace vb := vb.below hc; replace Hc := Lib.hid (from_ Hc.out hc))
        | (go_at_call 41; with_reducible refine (R9.out _ _ _ _ _ _ _ ua va).mono ?_; rintro e w' ⟨rfl, hc⟩; replace hs := boxQ_keep hs hc; replace ua := ua.below hc; replace va := va.below hc; replace ub := ub.below hc; replace vb := vb.below hc; replace Hc := Lib.hid (from_ Hc.out hc))
        | (go_at_call 42; with_reducible refine (P10.out _ _ _ _ _ _ _ _ _ _ _ _ _ ua va ub vb).mono ?_; rintro e w' ⟨rfl, hc⟩; replace hs := boxQ_keep hs hc; replace ua := ua.below hc; replace va := va.below hc; replace ub := ub.below hc; replace vb := vb.below hc; replace Hc := Lib.hid (from_ Hc.out hc))
        | (go_at_call 33; with_reducible refine (R10.out _ _ _ _ _ _ _ _ _ _ _ _ _ ua va ub vb).mono ?_; rintro e w' ⟨rfl, hc⟩; replace hs := boxQ_keep hs hc; replace ua := ua.below hc; replace va := va.below hc; replace ub := ub.below hc; replace vb := vb.below hc; replace Hc := Lib.hid (from_ Hc.out hc))) | fail
    all_goals
      go_wp2
      go_ret
      exact ⟨by first | rfl | trivial | simp, Hc.out⟩

end Go.Proofs.YtceenaegchlbcaaGreatDoor
