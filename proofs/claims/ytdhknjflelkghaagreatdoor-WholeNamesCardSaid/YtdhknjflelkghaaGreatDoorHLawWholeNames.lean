/-
  The walk of WholeNames. The one premise: the table of powers of ten reads as it is laid. No conditions.
-/
import Derived.Deep.RegionHeld3
import Derived.Test.YtdhknjflelkghaaGreatDoorHDigS
import Derived.Test.YtdhknjflelkghaaGreatDoorHWhQ
namespace Go.Proofs.YtdhknjflelkghaaGreatDoor
open Go.RowKit
set_option linter.unusedVariables false
set_option linter.unusedSimpArgs false

theorem wtxt12 : wErrT true [12] = 0 ∧ wTxtT true [12] = [45, 49, 50] := by
  have hl : limbs 12 = [12] := limbs_one (by omega) (by omega)
  have hd : okD [49, 50] := by decide +kernel
  have hv : dval [49, 50] = 12 := by decide +kernel
  obtain ⟨t1, t2⟩ := text_okD hd
  rw [hv, hl] at t1 t2
  have ho : okI true [12] = true := by decide +kernel
  unfold wErrT wTxtT
  rw [if_pos ho, if_pos ho, t1, t2]
  exact ⟨rfl, rfl⟩
theorem wpar12 : wparE [45, 49, 50] = 0 ∧ wparS [45, 49, 50] = true ∧ wparL [45, 49, 50] = [12] := by
  have e : wparE [45, 49, 50] = 0 := by decide +kernel
  have hl : limbs 12 = [12] := limbs_one (by omega) (by omega)
  refine ⟨e, ?_, ?_⟩
  · unfold wparS
    rw [if_pos e]
    rfl
  · unfold wparL
    rw [if_pos e, show dval (restL [45, 49, 50]) = 12 by decide +kernel, hl]
theorem lit63 {w : World} {g : Nat} (h : w.cell? ⟨g, 0, none⟩ = some (.int .u64 9223372036854775808)) : U64s w old (some ⟨g, 0, none⟩) 1 [9223372036854775808] := by
  have h1 := isN_one (w := w) (g := g) (x := 9223372036854775808) (by omega) (by omega) h
  unfold IsN at h1
  rw [limbs_one (by omega) (by omega)] at h1
  obtain ⟨A, c, e, hu⟩ := h1
  injection e with e1 _ e3
  subst e1 e3
  exact hu

set_option maxRecDepth 100000 in
set_option maxHeartbeats 4000000 in
theorem lawWholeNames (w : World) (ht : Tab w) :
    Calls Tryz.prog 4 #[] w fun e w' => e = .returned (.bool true) ∧ Below w.heap.size w w' := by
  have C1 : Hid (∀ (W : World) (g : Nat), W.cell? ⟨g, 0, none⟩ = some (.int .u64 9223372036854775808) → Calls Tryz.prog 9 #[.agg #[.bool false, .slice (some ⟨g, 0, none⟩) 1 1]] W fun e w' => e = .returned (.tuple #[.int .i64 0, .int .i64 4]) ∧ Below W.heap.size W w') := fun W g h => by
    have := wint_all (w := W) (a := .agg #[.bool false, .slice (some ⟨g, 0, none⟩) 1 1]) ⟨_, rfl, _, _, rfl, lit63 h⟩
    rw [show intE false [9223372036854775808] = 4 by decide +kernel, show intX false [9223372036854775808] = 0 by decide +kernel] at this
    exact this
  have C2 : Hid (∀ (W : World) (g : Nat), W.cell? ⟨g, 0, none⟩ = some (.int .u64 9223372036854775808) → Calls Tryz.prog 9 #[.agg #[.bool true, .slice (some ⟨g, 0, none⟩) 1 1]] W fun e w' => e = .returned (.tuple #[.int .i64 (-9223372036854775808), .int .i64 0]) ∧ Below W.heap.size W w') := fun W g h => by
    have := wint_all (w := W) (a := .agg #[.bool true, .slice (some ⟨g, 0, none⟩) 1 1]) ⟨_, rfl, _, _, rfl, lit63 h⟩
    rw [show intE true [9223372036854775808] = 0 by decide +kernel, show intX true [9223372036854775808] = -9223372036854775808 by decide +kernel] at this
    exact this
  have l12 : limbs 12 = [12] := limbs_one (by omega) (by omega)
  have l1 : limbs 1 = [1] := limbs_one (by omega) (by omega)
  have n12 : Nm (-12) true [12] := ⟨rfl, l12.symm⟩
  have n1 : Nm 1 false [1] := ⟨rfl, l1.symm⟩
  have n0 : Nm 0 false [] := ⟨rfl, (limbs_eq_nil.2 rfl).symm⟩
  have C3 : Hid (∀ (W : World), Calls Tryz.prog 10 #[.int .i64 (-12)] W fun e w' => ∃ A c, e = .returned (.agg #[.bool true, .slice A 1 c]) ∧ U64s w' (new W.heap.size) A c [12] ∧ Below W.heap.size W w') := fun W => by
    have := wof_nS (w := W) n12 (by omega)
    exact this
  have C4 : Hid (∀ (W : World) (Y : Zone) (A : Option Addr) (c : Nat), U64s W Y A c [12] → Tab W → Calls Tryz.prog 6 #[.agg #[.bool true, .slice A 1 c]] W fun e w' => e = .returned (.tuple #[.string ⟨#[45, 49, 50]⟩, .int .i64 0]) ∧ Below W.heap.size W w') := fun W Y A c h ht => by
    have := wtext_any (s := true) h (by simp) ht
    rw [wtxt12.1, wtxt12.2] at this
    exact this
  have C5 : Hid (∀ (W : World), Calls Tryz.prog 7 #[.string ⟨#[45, 48]⟩] W fun e w' => ∃ A c, e = .returned (.tuple #[.agg #[.bool false, .slice A 0 c], .int .i64 8]) ∧ U64s w' (new W.heap.size) A c [] ∧ Below W.heap.size W w') := fun W => by
    have := wparse_at (w := W) ⟨#[45, 48]⟩ (e0 := 8) (sg := false) (m := []) (by decide +kernel) (by decide +kernel) (if_neg (by decide +kernel)) (by decide)
    exact this
  have C6 : Hid (∀ (W : World), Calls Tryz.prog 7 #[.string ⟨#[45, 49, 50]⟩] W fun e w' => ∃ A c, e = .returned (.tuple #[.agg #[.bool true, .slice A 1 c], .int .i64 0]) ∧ U64s w' (new W.heap.size) A c [12] ∧ Below W.heap.size W w') := fun W => by
    have := wparse_at (w := W) ⟨#[45, 49, 50]⟩ (e0 := 0) (sg := true) (m := [12]) wpar12.1 wpar12.2.1 wpar12.2.2 (by decide)
    exact this
  have C7 : Hid (∀ (W : World), Calls Tryz.prog 11 #[.agg #[.bool false, .slice none 0 0]] W fun e w' => ∃ A c, e = .returned (.tuple #[.agg #[.bool false, .slice A 0 c], .int .i64 0]) ∧ U64s w' (new W.heap.size) A c [] ∧ Below W.heap.size W w') := fun W => by
    have := wneg_n (w := W) (Z1 := old) (A := none) (c := 0) n0 n0 rfl (by simp) (U64s.nil _ _)
    exact this
  have C8 : Hid (∀ (W : World), Calls Tryz.prog 10 #[.int .i64 1] W fun e w' => ∃ A c, e = .returned (.agg #[.bool false, .slice A 1 c]) ∧ U64s w' (new W.heap.size) A c [1] ∧ Below W.heap.size W w') := fun W => by
    have := wof_nS (w := W) n1 (by omega)
    exact this
  have C9 : Hid (∀ (W : World) (Y : Zone) (A : Option Addr) (c : Nat), U64s W Y A c [1] → Calls Tryz.prog 12 #[.agg #[.bool false, .slice A 1 c], .agg #[.bool false, .slice none 0 0]] W fun e w' => ∃ A c, e = .returned (.tuple #[.agg #[.bool false, .slice A 0 c], .int .i64 30]) ∧ U64s w' (new W.heap.size) A c [] ∧ Below W.heap.size W w') := fun W Y A c h => by
    have := (round_zero (s := false) (by decide +kernel) (by simp) h (U64s.nil W old)).1
    refine this.mono ?_
    rintro e w' ⟨rfl, hb⟩
    exact ⟨none, 0, rfl, U64s.nil _ _, hb⟩
  have S12 : Hid (∀ (W : World) (Y1 Y2 : Zone) (A1 A2 : Option Addr) (c1 c2 : Nat), U64s W Y1 A1 c1 [12] → U64s W Y2 A2 c2 [12] → Calls Tryz.prog 8 #[.agg #[.bool true, .slice A1 1 c1], .agg #[.bool true, .slice A2 1 c2]] W fun e w' => e = .returned (.bool true) ∧ Below W.heap.size W w') := fun W Y1 Y2 A1 A2 c1 c2 h1 h2 => by
    have := same_n (s := true) h1 h2
    exact this
  have S0 : Hid (∀ (W : World) (Y1 : Zone) (A1 : Option Addr) (c1 : Nat), U64s W Y1 A1 c1 [] → Calls Tryz.prog 8 #[.agg #[.bool false, .slice A1 0 c1], .agg #[.bool false, .slice none 0 0]] W fun e w' => e = .returned (.bool true) ∧ Below W.heap.size W w') := fun W Y1 A1 c1 h1 => by
    have := same_n (s := false) h1 (U64s.nil W old)
    exact this
  have CK : Hid (∀ (W : World), Calls Tryz.prog 13 #[.agg #[.bool true, .slice none 0 0]] W fun e w' => e = .returned (.int .i64 8) ∧ Below W.heap.size W w') := fun W => by
    have := wcheck_any (w := W) (Z := old) (a := .agg #[.bool true, .slice none 0 0]) (s := true) (l := []) ⟨_, rfl, _, _, rfl, U64s.nil _ _⟩
    rw [show errC true [] = 8 by decide +kernel] at this
    exact this
  have HT := Lib.hid ht
  clear l12 l1 n12 n1 n0 ht
  go_enter Tryz.func4, Tryz.ntmps4
  go_wp2_with fail
  refine (C1.out _ _ (cell_newest rfl rfl)).mono ?_
  rintro e w1 ⟨rfl, hb⟩
  have hB := step (w := w) (by first | exact Below.refl _ _ | go_grown) hb
  clear hb
  go_wp2_with fail
  refine (C2.out _ _ (cell_newest rfl rfl)).mono ?_
  rintro e w2 ⟨rfl, hb⟩
  have hs := step (w := w1) (by first | exact Below.refl _ _ | go_grown) hb
  replace hB := from_ hB hs
  clear hb hs
  go_wp2_with fail
  refine (C3.out _).mono ?_
  rintro e w3 ⟨A3, c3, rfl, u12, hb⟩
  replace hB := from_ hB hb
  clear hb
  go_wp2_with fail
  refine (C4.out _ _ _ _ u12 (HT.out.below hB)).mono ?_
  rintro e w4 ⟨rfl, hb⟩
  replace u12 := u12.below hb
  replace hB := from_ hB hb
  clear hb
  clear u12
  go_wp2_with fail
  refine (C5.out _).mono ?_
  rintro e w5 ⟨A5, c5, rfl, uE, hb⟩
  have hal : Below w5.heap.size w5 (w5.alloc (.cells #[.bool false, .slice A5 0 c5] 25)) := (Below.refl _ _).alloc (Nat.le_refl _) _
  replace uE := uE.below hal
  obtain ⟨xE, yE, _, _, _⟩ := Box.new w5 (.bool false) (.slice A5 0 c5) 25
  have hs := from_ hb hal
  replace hB := from_ hB hs
  clear hb hal hs
  clear xE yE uE
  go_wp2_with fail
  refine (C6.out _).mono ?_
  rintro e w6 ⟨A6, c6, rfl, uP, hb⟩
  have hal : Below w6.heap.size w6 (w6.alloc (.cells #[.bool true, .slice A6 1 c6] 25)) := (Below.refl _ _).alloc (Nat.le_refl _) _
  replace uP := uP.below hal
  obtain ⟨xP, yP, _, _, _⟩ := Box.new w6 (.bool true) (.slice A6 1 c6) 25
  have hs := from_ hb hal
  replace hB := from_ hB hs
  clear hb hal hs
  go_wp2_with fail
  refine (C7.out _).mono ?_
  rintro e w7 ⟨A7, c7, rfl, uZ, hb⟩
  have hal : Below w7.heap.size w7 (w7.alloc (.cells #[.bool false, .slice A7 0 c7] 25)) := (Below.refl _ _).alloc (Nat.le_refl _) _
  replace uZ := uZ.below hal
  obtain ⟨xZ, yZ, _, _, _⟩ := Box.new w7 (.bool false) (.slice A7 0 c7) 25
  have hs := from_ hb hal
  replace xP := keepC hs xP
  replace yP := keepC hs yP
  replace uP := uP.below hs
  replace hB := from_ hB hs
  clear hb hal hs
  go_wp2_with fail
  refine (C8.out _).mono ?_
  rintro e w8 ⟨A8, c8, rfl, u1, hb⟩
  replace xP := keepC hb xP
  replace yP := keepC hb yP
  replace xZ := keepC hb xZ
  replace yZ := keepC hb yZ
  replace uP := uP.below hb
  replace uZ := uZ.below hb
  replace hB := from_ hB hb
  clear hb
  go_wp2_with fail
  refine (C9.out _ _ _ _ u1).mono ?_
  rintro e w9 ⟨A9, c9, rfl, uF, hb⟩
  have hal : Below w9.heap.size w9 (w9.alloc (.cells #[.bool false, .slice A9 0 c9] 25)) := (Below.refl _ _).alloc (Nat.le_refl _) _
  replace uF := uF.below hal
  obtain ⟨xF, yF, _, _, _⟩ := Box.new w9 (.bool false) (.slice A9 0 c9) 25
  have hs := from_ hb hal
  replace xP := keepC hs xP
  replace yP := keepC hs yP
  replace xZ := keepC hs xZ
  replace yZ := keepC hs yZ
  replace uP := uP.below hs
  replace uZ := uZ.below hs
  replace u1 := u1.below hs
  replace hB := from_ hB hs
  clear hb hal hs
  clear u1
  clear xF yF uF
  have hs := And.intro (keepC (Below.refl _ (w9.alloc (.cells #[.bool false, .slice A9 0 c9] 25))).drew xP) (keepC (Below.refl _ (w9.alloc (.cells #[.bool false, .slice A9 0 c9] 25))).drew yP)
  replace uP := uP.below (Below.refl _ (w9.alloc (.cells #[.bool false, .slice A9 0 c9] 25))).drew
  replace xZ := keepC (Below.refl _ (w9.alloc (.cells #[.bool false, .slice A9 0 c9] 25))).drew xZ
  replace yZ := keepC (Below.refl _ (w9.alloc (.cells #[.bool false, .slice A9 0 c9] 25))).drew yZ
  replace uZ := uZ.below (Below.refl _ (w9.alloc (.cells #[.bool false, .slice A9 0 c9] 25))).drew
  have Hc := Lib.hid (hB.drew)
  have xZ' := Lib.hid xZ
  have yZ' := Lib.hid yZ
  clear xP yP hB xZ yZ
  go_wp2
  go_region_held3 (fun w' => w'.cell? ⟨w6.heap.size, 0, none⟩ = some (.bool true) ∧ w'.cell? ⟨w6.heap.size, 1, none⟩ = some (.slice A6 1 c6))
    (first
      | with_reducible exact hs)
    (first
      | (go_at_call 10; with_reducible refine (C3.out _).mono ?_; rintro e w' ⟨Ap, cp, rfl, up, hc⟩; replace hs := And.intro (keepC hc hs.1) (keepC hc hs.2); replace uP := uP.below hc; replace uZ := uZ.below hc; replace xZ' := Lib.hid (keepC hc xZ'.out); replace yZ' := Lib.hid (keepC hc yZ'.out); replace Hc := Lib.hid (from_ Hc.out hc))
      | (go_at_call 8; with_reducible refine (S12.out _ _ _ _ _ _ _ uP up).mono ?_; rintro e w' ⟨rfl, hc⟩; replace hs := And.intro (keepC hc hs.1) (keepC hc hs.2); replace uP := uP.below hc; replace uZ := uZ.below hc; replace xZ' := Lib.hid (keepC hc xZ'.out); replace yZ' := Lib.hid (keepC hc yZ'.out); replace Hc := Lib.hid (from_ Hc.out hc)))
  all_goals
    have hB := Hc.out
    have xZ := xZ'.out
    have yZ := yZ'.out
    clear Hc xZ' yZ' hs uP up
    go_wp2_with fail
    refine (alive5 _).mono ?_
    rintro e w10 ⟨rfl, hb⟩
    replace xZ := keepC hb xZ
    replace yZ := keepC hb yZ
    replace uZ := uZ.below hb
    replace hB := from_ hB hb
    clear hb
    go_wp2_with fail
    refine (S0.out _ _ _ _ uZ).mono ?_
    rintro e w11 ⟨rfl, hb⟩
    replace xZ := keepC hb xZ
    replace yZ := keepC hb yZ
    replace uZ := uZ.below hb
    replace hB := from_ hB hb
    clear hb
    go_wp2_with fail
    refine (CK.out _).mono ?_
    rintro e w12 ⟨rfl, hb⟩
    replace xZ := keepC hb xZ
    replace yZ := keepC hb yZ
    replace uZ := uZ.below hb
    replace hB := from_ hB hb
    clear hb
    go_wp2
    go_ret
    exact ⟨by first | rfl | trivial, hB⟩

end Go.Proofs.YtdhknjflelkghaaGreatDoor
