/-
  The walk of RatField. The one premise: the table of powers of ten reads as it is laid.
-/
import Derived.Test.YtbcplffdoejniaaGreatDoorFRatN
namespace Go.Proofs.YtbcplffdoejniaaGreatDoor
open Go.RowKit
set_option linter.unusedVariables false
set_option linter.unusedSimpArgs false


set_option maxRecDepth 100000 in
set_option maxHeartbeats 8000000 in
theorem lawRatField {w : World} {a b c : Value} {s t r : Bool} {l k l' k' m j : List Nat} (ha : IsR w old a s l k) (hb : IsR w old b t l' k') (hc : IsR w old c r m j) (ht : Tab w) :
    Calls Tryz.prog 4 #[a, b, c] w fun e w' => e = .returned (.bool true) ∧ Below w.heap.size w w' := by
  obtain ⟨A, ca, B, cb, rfl, ua, va⟩ := ha
  obtain ⟨C, cc, D, cd, rfl, ub, vb⟩ := hb
  obtain ⟨E, ce, F, cf, rfl, uc, vc⟩ := hc
  obtain ⟨bA, bB, bC, hB⟩ := boxes3Q w (.bool s) (.slice A l.length ca) (.slice B k.length cb) (.bool t) (.slice C l'.length cc) (.slice D k'.length cd) (.bool r) (.slice E m.length ce) (.slice F j.length cf)
  obtain ⟨xa, ya, za, _, _, _, _⟩ := bA
  obtain ⟨xb, yb, zb, _, _, _, _⟩ := bB
  obtain ⟨xc, yc, zc, _, _, _, _⟩ := bC
  replace ua := ua.below hB
  replace va := va.below hB
  replace ub := ub.below hB
  replace vb := vb.below hB
  replace uc := uc.below hB
  replace vc := vc.below hB
  have sa := ua.small
  have ta := va.small
  have sb := ub.small
  have tb := vb.small
  have sc := uc.small
  have tc := vc.small
  rcases (show ((8 < l.length ∨ (l.length ≤ 8 ∧ 8 < k.length))) ∨ ((l.length ≤ 8 ∧ k.length ≤ 8) ∧ (8 < l'.length ∨ (l'.length ≤ 8 ∧ 8 < k'.length))) ∨ ((l.length ≤ 8 ∧ k.length ≤ 8) ∧ (l'.length ≤ 8 ∧ k'.length ≤ 8) ∧ (8 < m.length ∨ (m.length ≤ 8 ∧ 8 < j.length))) ∨ ((l.length ≤ 8 ∧ k.length ≤ 8) ∧ (l'.length ≤ 8 ∧ k'.length ≤ 8) ∧ (m.length ≤ 8 ∧ j.length ≤ 8)) by omega) with g1 | ⟨g1, g2⟩ | ⟨g1, g2, g3⟩ | ⟨g1, g2, g3⟩
  · clear ua va ub vb uc vc sa ta sb tb sc tc
    have G0 := Lib.hid g1
    clear g1
    go_enter Tryz.func4, Tryz.ntmps4
    go_wp2_with fail
    refine (alive6 (ht.below hB)).mono ?_
    rintro e w1 ⟨rfl, hb⟩
    replace xa := keepC hb xa
    replace ya := keepC hb ya
    replace za := keepC hb za
    replace xb := keepC hb xb
    replace yb := keepC hb yb
    replace zb := keepC hb zb
    replace xc := keepC hb xc
    replace yc := keepC hb yc
    replace zc := keepC hb zc
    replace hB := from_ hB hb
    clear hb
    go_wp2_with fail
    refine (great6_yes (n := 8) G0.out (by omega)).mono ?_
    rintro e w2 ⟨rfl, hb⟩
    replace xa := keepC hb xa
    replace ya := keepC hb ya
    replace za := keepC hb za
    replace xb := keepC hb xb
    replace yb := keepC hb yb
    replace zb := keepC hb zb
    replace xc := keepC hb xc
    replace yc := keepC hb yc
    replace zc := keepC hb zc
    replace hB := from_ hB hb
    clear hb
    go_wp2
    go_ret
    exact ⟨by first | rfl | trivial, hB⟩
  · clear ua va ub vb uc vc sa ta sb tb sc tc
    have G0 := Lib.hid g1
    clear g1
    have G1 := Lib.hid g2
    clear g2
    go_enter Tryz.func4, Tryz.ntmps4
    go_wp2_with fail
    refine (alive6 (ht.below hB)).mono ?_
    rintro e w1 ⟨rfl, hb⟩
    replace xa := keepC hb xa
    replace ya := keepC hb ya
    replace za := keepC hb za
    replace xb := keepC hb xb
    replace yb := keepC hb yb
    replace zb := keepC hb zb
    replace xc := keepC hb xc
    replace yc := keepC hb yc
    replace zc := keepC hb zc
    replace hB := from_ hB hb
    clear hb
    go_wp2_with fail
    refine (great6_no (n := 8) G0.out.1 G0.out.2 (by omega)).mono ?_
    rintro e w2 ⟨rfl, hb⟩
    replace xa := keepC hb xa
    replace ya := keepC hb ya
    replace za := keepC hb za
    replace xb := keepC hb xb
    replace yb := keepC hb yb
    replace zb := keepC hb zb
    replace xc := keepC hb xc
    replace yc := keepC hb yc
    replace zc := keepC hb zc
    replace hB := from_ hB hb
    clear hb
    go_wp2_with fail
    refine (great6_yes (n := 8) G1.out (by omega)).mono ?_
    rintro e w3 ⟨rfl, hb⟩
    replace xa := keepC hb xa
    replace ya := keepC hb ya
    replace za := keepC hb za
    replace xb := keepC hb xb
    replace yb := keepC hb yb
    replace zb := keepC hb zb
    replace xc := keepC hb xc
    replace yc := keepC hb yc
    replace zc := keepC hb zc
    replace hB := from_ hB hb
    clear hb
    go_wp2
    go_ret
    exact ⟨by first | rfl | trivial, hB⟩
  · clear ua va ub vb uc vc sa ta sb tb sc tc
    have G0 := Lib.hid g1
    clear g1
    have G1 := Lib.hid g2
    clear g2
    have G2 := Lib.hid g3
    clear g3
    go_enter Tryz.func4, Tryz.ntmps4
    go_wp2_with fail
    refine (alive6 (ht.below hB)).mono ?_
    rintro e w1 ⟨rfl, hb⟩
    replace xa := keepC hb xa
    replace ya := keepC hb ya
    replace za := keepC hb za
    replace xb := keepC hb xb
    replace yb := keepC hb yb
    replace zb := keepC hb zb
    replace xc := keepC hb xc
    replace yc := keepC hb yc
    replace zc := keepC hb zc
    replace hB := from_ hB hb
    clear hb
    go_wp2_with fail
    refine (great6_no (n := 8) G0.out.1 G0.out.2 (by omega)).mono ?_
    rintro e w2 ⟨rfl, hb⟩
    replace xa := keepC hb xa
    replace ya := keepC hb ya
    replace za := keepC hb za
    replace xb := keepC hb xb
    replace yb := keepC hb yb
    replace zb := keepC hb zb
    replace xc := keepC hb xc
    replace yc := keepC hb yc
    replace zc := keepC hb zc
    replace hB := from_ hB hb
    clear hb
    go_wp2_with fail
    refine (great6_no (n := 8) G1.out.1 G1.out.2 (by omega)).mono ?_
    rintro e w3 ⟨rfl, hb⟩
    replace xa := keepC hb xa
    replace ya := keepC hb ya
    replace za := keepC hb za
    replace xb := keepC hb xb
    replace yb := keepC hb yb
    replace zb := keepC hb zb
    replace xc := keepC hb xc
    replace yc := keepC hb yc
    replace zc := keepC hb zc
    replace hB := from_ hB hb
    clear hb
    go_wp2_with fail
    refine (great6_yes (n := 8) G2.out (by omega)).mono ?_
    rintro e w4 ⟨rfl, hb⟩
    replace xa := keepC hb xa
    replace ya := keepC hb ya
    replace za := keepC hb za
    replace xb := keepC hb xb
    replace yb := keepC hb yb
    replace zb := keepC hb zb
    replace xc := keepC hb xc
    replace yc := keepC hb yc
    replace zc := keepC hb zc
    replace hB := from_ hB hb
    clear hb
    go_wp2
    go_ret
    exact ⟨by first | rfl | trivial, hB⟩
  · have G0 := Lib.hid g1
    have G1 := Lib.hid g2
    have G2 := Lib.hid g3
    cases o1 : okQ s l k with
    | false =>
      have O1 := Lib.hid o1
      have On : Hid (¬ (okQ s l k = true ∧ okQ t l' k' = true)) := fun h => by rw [o1] at h; cases h.1
      clear o1 sa ta sb tb sc tc
      go_enter Tryz.func4, Tryz.ntmps4
      go_wp2_with fail
      refine (alive6 (ht.below hB)).mono ?_
      rintro e w1 ⟨rfl, hb⟩
      replace xa := keepC hb xa
      replace ya := keepC hb ya
      replace za := keepC hb za
      replace xb := keepC hb xb
      replace yb := keepC hb yb
      replace zb := keepC hb zb
      replace xc := keepC hb xc
      replace yc := keepC hb yc
      replace zc := keepC hb zc
      replace ua := ua.below hb
      replace va := va.below hb
      replace ub := ub.below hb
      replace vb := vb.below hb
      replace uc := uc.below hb
      replace vc := vc.below hb
      replace hB := from_ hB hb
      clear hb
      go_wp2_with fail
      refine (great6_no (n := 8) G0.out.1 G0.out.2 (by omega)).mono ?_
      rintro e w2 ⟨rfl, hb⟩
      replace xa := keepC hb xa
      replace ya := keepC hb ya
      replace za := keepC hb za
      replace xb := keepC hb xb
      replace yb := keepC hb yb
      replace zb := keepC hb zb
      replace xc := keepC hb xc
      replace yc := keepC hb yc
      replace zc := keepC hb zc
      replace ua := ua.below hb
      replace va := va.below hb
      replace ub := ub.below hb
      replace vb := vb.below hb
      replace uc := uc.below hb
      replace vc := vc.below hb
      replace hB := from_ hB hb
      clear hb
      go_wp2_with fail
      refine (great6_no (n := 8) G1.out.1 G1.out.2 (by omega)).mono ?_
      rintro e w3 ⟨rfl, hb⟩
      replace xa := keepC hb xa
      replace ya := keepC hb ya
      replace za := keepC hb za
      replace xb := keepC hb xb
      replace yb := keepC hb yb
      replace zb := keepC hb zb
      replace xc := keepC hb xc
      replace yc := keepC hb yc
      replace zc := keepC hb zc
      replace ua := ua.below hb
      replace va := va.below hb
      replace ub := ub.below hb
      replace vb := vb.below hb
      replace uc := uc.below hb
      replace vc := vc.below hb
      replace hB := from_ hB hb
      clear hb
      go_wp2_with fail
      refine (great6_no (n := 8) G2.out.1 G2.out.2 (by omega)).mono ?_
      rintro e w4 ⟨rfl, hb⟩
      replace xa := keepC hb xa
      replace ya := keepC hb ya
      replace za := keepC hb za
      replace xb := keepC hb xb
      replace yb := keepC hb yb
      replace zb := keepC hb zb
      replace xc := keepC hb xc
      replace yc := keepC hb yc
      replace zc := keepC hb zc
      replace ua := ua.below hb
      replace va := va.below hb
      replace ub := ub.below hb
      replace vb := vb.below hb
      replace uc := uc.below hb
      replace vc := vc.below hb
      replace hB := from_ hB hb
      clear hb
      go_wp2_with fail
      refine (checkQ_bad O1.out ua va (by omega) (by omega)).mono ?_
      rintro e w5 ⟨rfl, hb⟩
      replace xa := keepC hb xa
      replace ya := keepC hb ya
      replace za := keepC hb za
      replace xb := keepC hb xb
      replace yb := keepC hb yb
      replace zb := keepC hb zb
      replace xc := keepC hb xc
      replace yc := keepC hb yc
      replace zc := keepC hb zc
      replace ua := ua.below hb
      replace va := va.below hb
      replace ub := ub.below hb
      replace vb := vb.below hb
      replace uc := uc.below hb
      replace vc := vc.below hb
      replace hB := from_ hB hb
      clear hb
      go_wp2_with fail
      refine (radd_err ua va ub vb (by omega) (by omega) (by omega) (by omega) On.out).mono ?_
      rintro e w6 ⟨rfl, hb⟩
      have hal : Below w6.heap.size w6 (w6.alloc (.cells #[.bool false, .slice none 0 0, .slice none 0 0] 28)) := (Below.refl _ _).alloc (Nat.le_refl _) _
      obtain ⟨xe, ye, ze, _, _, _, _⟩ := Box3.new w6 (.bool false) (.slice none 0 0) (.slice none 0 0) 28
      have hs := from_ hb hal
      replace xa := keepC hs xa
      replace ya := keepC hs ya
      replace za := keepC hs za
      replace xb := keepC hs xb
      replace yb := keepC hs yb
      replace zb := keepC hs zb
      replace xc := keepC hs xc
      replace yc := keepC hs yc
      replace zc := keepC hs zc
      replace ua := ua.below hs
      replace va := va.below hs
      replace ub := ub.below hs
      replace vb := vb.below hs
      replace uc := uc.below hs
      replace vc := vc.below hs
      replace hB := from_ hB hs
      clear hb hal hs
      go_wp2
      go_ret
      exact ⟨by first | rfl | trivial, hB⟩
    | true =>
      obtain ⟨P, nA⟩ := okQ_nm o1 sa ta
      cases o2 : okQ t l' k' with
      | false =>
        have O2 := Lib.hid o2
        have On : Hid (¬ (okQ s l k = true ∧ okQ t l' k' = true)) := fun h => by rw [o2] at h; cases h.2
        have Np := Lib.hid nA
        clear o1 o2 nA sa ta sb tb sc tc
        go_enter Tryz.func4, Tryz.ntmps4
        go_wp2_with fail
        refine (alive6 (ht.below hB)).mono ?_
        rintro e w1 ⟨rfl, hb⟩
        replace xa := keepC hb xa
        replace ya := keepC hb ya
        replace za := keepC hb za
        replace xb := keepC hb xb
        replace yb := keepC hb yb
        replace zb := keepC hb zb
        replace xc := keepC hb xc
        replace yc := keepC hb yc
        replace zc := keepC hb zc
        replace ua := ua.below hb
        replace va := va.below hb
        replace ub := ub.below hb
        replace vb := vb.below hb
        replace uc := uc.below hb
        replace vc := vc.below hb
        replace hB := from_ hB hb
        clear hb
        go_wp2_with fail
        refine (great6_no (n := 8) G0.out.1 G0.out.2 (by omega)).mono ?_
        rintro e w2 ⟨rfl, hb⟩
        replace xa := keepC hb xa
        replace ya := keepC hb ya
        replace za := keepC hb za
        replace xb := keepC hb xb
        replace yb := keepC hb yb
        replace zb := keepC hb zb
        replace xc := keepC hb xc
        replace yc := keepC hb yc
        replace zc := keepC hb zc
        replace ua := ua.below hb
        replace va := va.below hb
        replace ub := ub.below hb
        replace vb := vb.below hb
        replace uc := uc.below hb
        replace vc := vc.below hb
        replace hB := from_ hB hb
        clear hb
        go_wp2_with fail
        refine (great6_no (n := 8) G1.out.1 G1.out.2 (by omega)).mono ?_
        rintro e w3 ⟨rfl, hb⟩
        replace xa := keepC hb xa
        replace ya := keepC hb ya
        replace za := keepC hb za
        replace xb := keepC hb xb
        replace yb := keepC hb yb
        replace zb := keepC hb zb
        replace xc := keepC hb xc
        replace yc := keepC hb yc
        replace zc := keepC hb zc
        replace ua := ua.below hb
        replace va := va.below hb
        replace ub := ub.below hb
        replace vb := vb.below hb
        replace uc := uc.below hb
        replace vc := vc.below hb
        replace hB := from_ hB hb
        clear hb
        go_wp2_with fail
        refine (great6_no (n := 8) G2.out.1 G2.out.2 (by omega)).mono ?_
        rintro e w4 ⟨rfl, hb⟩
        replace xa := keepC hb xa
        replace ya := keepC hb ya
        replace za := keepC hb za
        replace xb := keepC hb xb
        replace yb := keepC hb yb
        replace zb := keepC hb zb
        replace xc := keepC hb xc
        replace yc := keepC hb yc
        replace zc := keepC hb zc
        replace ua := ua.below hb
        replace va := va.below hb
        replace ub := ub.below hb
        replace vb := vb.below hb
        replace uc := uc.below hb
        replace vc := vc.below hb
        replace hB := from_ hB hb
        clear hb
        go_wp2_with fail
        refine (checkQ_ok Np.out ua va (by omega) (by omega)).mono ?_
        rintro e w5 ⟨rfl, hb⟩
        replace xa := keepC hb xa
        replace ya := keepC hb ya
        replace za := keepC hb za
        replace xb := keepC hb xb
        replace yb := keepC hb yb
        replace zb := keepC hb zb
        replace xc := keepC hb xc
        replace yc := keepC hb yc
        replace zc := keepC hb zc
        replace ua := ua.below hb
        replace va := va.below hb
        replace ub := ub.below hb
        replace vb := vb.below hb
        replace uc := uc.below hb
        replace vc := vc.below hb
        replace hB := from_ hB hb
        clear hb
        go_wp2_with fail
        refine (checkQ_bad O2.out ub vb (by omega) (by omega)).mono ?_
        rintro e w6 ⟨rfl, hb⟩
        replace xa := keepC hb xa
        replace ya := keepC hb ya
        replace za := keepC hb za
        replace xb := keepC hb xb
        replace yb := keepC hb yb
        replace zb := keepC hb zb
        replace xc := keepC hb xc
        replace yc := keepC hb yc
        replace zc := keepC hb zc
        replace ua := ua.below hb
        replace va := va.below hb
        replace ub := ub.below hb
        replace vb := vb.below hb
        replace uc := uc.below hb
        replace vc := vc.below hb
        replace hB := from_ hB hb
        clear hb
        go_wp2_with fail
        refine (radd_err ua va ub vb (by omega) (by omega) (by omega) (by omega) On.out).mono ?_
        rintro e w7 ⟨rfl, hb⟩
        have hal : Below w7.heap.size w7 (w7.alloc (.cells #[.bool false, .slice none 0 0, .slice none 0 0] 28)) := (Below.refl _ _).alloc (Nat.le_refl _) _
        obtain ⟨xe, ye, ze, _, _, _, _⟩ := Box3.new w7 (.bool false) (.slice none 0 0) (.slice none 0 0) 28
        have hs := from_ hb hal
        replace xa := keepC hs xa
        replace ya := keepC hs ya
        replace za := keepC hs za
        replace xb := keepC hs xb
        replace yb := keepC hs yb
        replace zb := keepC hs zb
        replace xc := keepC hs xc
        replace yc := keepC hs yc
        replace zc := keepC hs zc
        replace ua := ua.below hs
        replace va := va.below hs
        replace ub := ub.below hs
        replace vb := vb.below hs
        replace uc := uc.below hs
        replace vc := vc.below hs
        replace hB := from_ hB hs
        clear hb hal hs
        go_wp2
        go_ret
        exact ⟨by first | rfl | trivial, hB⟩
      | true =>
        obtain ⟨R, nB⟩ := okQ_nm o2 sb tb
        cases o3 : okQ r m j with
        | false =>
          have O3 := Lib.hid o3
          have Np := Lib.hid nA
          have Nq := Lib.hid nB
          obtain ⟨sz, lz, kz, nz⟩ : ∃ s l k, NmQ (P + R) s l k := ⟨_, _, _, NmQ.mk' _⟩
          have Nz := Lib.hid nz
          clear o1 o2 o3 nA nB nz sa ta sb tb sc tc
          go_enter Tryz.func4, Tryz.ntmps4
          go_wp2_with fail
          refine (alive6 (ht.below hB)).mono ?_
          rintro e w1 ⟨rfl, hb⟩
          replace xa := keepC hb xa
          replace ya := keepC hb ya
          replace za := keepC hb za
          replace xb := keepC hb xb
          replace yb := keepC hb yb
          replace zb := keepC hb zb
          replace xc := keepC hb xc
          replace yc := keepC hb yc
          replace zc := keepC hb zc
          replace ua := ua.below hb
          replace va := va.below hb
          replace ub := ub.below hb
          replace vb := vb.below hb
          replace uc := uc.below hb
          replace vc := vc.below hb
          replace hB := from_ hB hb
          clear hb
          go_wp2_with fail
          refine (great6_no (n := 8) G0.out.1 G0.out.2 (by omega)).mono ?_
          rintro e w2 ⟨rfl, hb⟩
          replace xa := keepC hb xa
          replace ya := keepC hb ya
          replace za := keepC hb za
          replace xb := keepC hb xb
          replace yb := keepC hb yb
          replace zb := keepC hb zb
          replace xc := keepC hb xc
          replace yc := keepC hb yc
          replace zc := keepC hb zc
          replace ua := ua.below hb
          replace va := va.below hb
          replace ub := ub.below hb
          replace vb := vb.below hb
          replace uc := uc.below hb
          replace vc := vc.below hb
          replace hB := from_ hB hb
          clear hb
          go_wp2_with fail
          refine (great6_no (n := 8) G1.out.1 G1.out.2 (by omega)).mono ?_
          rintro e w3 ⟨rfl, hb⟩
          replace xa := keepC hb xa
          replace ya := keepC hb ya
          replace za := keepC hb za
          replace xb := keepC hb xb
          replace yb := keepC hb yb
          replace zb := keepC hb zb
          replace xc := keepC hb xc
          replace yc := keepC hb yc
          replace zc := keepC hb zc
          replace ua := ua.below hb
          replace va := va.below hb
          replace ub := ub.below hb
          replace vb := vb.below hb
          replace uc := uc.below hb
          replace vc := vc.below hb
          replace hB := from_ hB hb
          clear hb
          go_wp2_with fail
          refine (great6_no (n := 8) G2.out.1 G2.out.2 (by omega)).mono ?_
          rintro e w4 ⟨rfl, hb⟩
          replace xa := keepC hb xa
          replace ya := keepC hb ya
          replace za := keepC hb za
          replace xb := keepC hb xb
          replace yb := keepC hb yb
          replace zb := keepC hb zb
          replace xc := keepC hb xc
          replace yc := keepC hb yc
          replace zc := keepC hb zc
          replace ua := ua.below hb
          replace va := va.below hb
          replace ub := ub.below hb
          replace vb := vb.below hb
          replace uc := uc.below hb
          replace vc := vc.below hb
          replace hB := from_ hB hb
          clear hb
          go_wp2_with fail
          refine (checkQ_ok Np.out ua va (by omega) (by omega)).mono ?_
          rintro e w5 ⟨rfl, hb⟩
          replace xa := keepC hb xa
          replace ya := keepC hb ya
          replace za := keepC hb za
          replace xb := keepC hb xb
          replace yb := keepC hb yb
          replace zb := keepC hb zb
          replace xc := keepC hb xc
          replace yc := keepC hb yc
          replace zc := keepC hb zc
          replace ua := ua.below hb
          replace va := va.below hb
          replace ub := ub.below hb
          replace vb := vb.below hb
          replace uc := uc.below hb
          replace vc := vc.below hb
          replace hB := from_ hB hb
          clear hb
          go_wp2_with fail
          refine (checkQ_ok Nq.out ub vb (by omega) (by omega)).mono ?_
          rintro e w6 ⟨rfl, hb⟩
          replace xa := keepC hb xa
          replace ya := keepC hb ya
          replace za := keepC hb za
          replace xb := keepC hb xb
          replace yb := keepC hb yb
          replace zb := keepC hb zb
          replace xc := keepC hb xc
          replace yc := keepC hb yc
          replace zc := keepC hb zc
          replace ua := ua.below hb
          replace va := va.below hb
          replace ub := ub.below hb
          replace vb := vb.below hb
          replace uc := uc.below hb
          replace vc := vc.below hb
          replace hB := from_ hB hb
          clear hb
          go_wp2_with fail
          refine (checkQ_bad O3.out uc vc (by omega) (by omega)).mono ?_
          rintro e w7 ⟨rfl, hb⟩
          replace xa := keepC hb xa
          replace ya := keepC hb ya
          replace za := keepC hb za
          replace xb := keepC hb xb
          replace yb := keepC hb yb
          replace zb := keepC hb zb
          replace xc := keepC hb xc
          replace yc := keepC hb yc
          replace zc := keepC hb zc
          replace ua := ua.below hb
          replace va := va.below hb
          replace ub := ub.below hb
          replace vb := vb.below hb
          replace uc := uc.below hb
          replace vc := vc.below hb
          replace hB := from_ hB hb
          clear hb
          go_wp2_with fail
          refine (radd_q Np.out Nq.out Nz.out rfl ua va ub vb (by omega) (by omega) (by omega) (by omega)).mono ?_
          rintro e w8 ⟨A8, c8, B8, d8, rfl, ue, ve, hb⟩
          have hal : Below w8.heap.size w8 (w8.alloc (.cells #[.bool sz, .slice A8 lz.length c8, .slice B8 kz.length d8] 28)) := (Below.refl _ _).alloc (Nat.le_refl _) _
          replace ue := ue.below hal
          replace ve := ve.below hal
          obtain ⟨xe, ye, ze, _, _, _, _⟩ := Box3.new w8 (.bool sz) (.slice A8 lz.length c8) (.slice B8 kz.length d8) 28
          have hs := from_ hb hal
          replace xa := keepC hs xa
          replace ya := keepC hs ya
          replace za := keepC hs za
          replace xb := keepC hs xb
          replace yb := keepC hs yb
          replace zb := keepC hs zb
          replace xc := keepC hs xc
          replace yc := keepC hs yc
          replace zc := keepC hs zc
          replace ua := ua.below hs
          replace va := va.below hs
          replace ub := ub.below hs
          replace vb := vb.below hs
          replace uc := uc.below hs
          replace vc := vc.below hs
          replace hB := from_ hB hs
          clear hb hal hs
          go_wp2
          go_ret
          exact ⟨by first | rfl | trivial, hB⟩
        | true =>
          obtain ⟨S, nC⟩ := okQ_nm o3 sc tc
          clear o1 o2 o3 sa ta sb tb sc tc
          obtain ⟨sab, lab, kab, nab⟩ : ∃ s l k, NmQ (P + R) s l k := ⟨_, _, _, NmQ.mk' _⟩
          obtain ⟨sbc, lbc, kbc, nbc⟩ : ∃ s l k, NmQ (R + S) s l k := ⟨_, _, _, NmQ.mk' _⟩
          obtain ⟨sxx, lxx, kxx, nxx⟩ : ∃ s l k, NmQ (P + R + S) s l k := ⟨_, _, _, NmQ.mk' _⟩
          obtain ⟨sp, lp, kp, np⟩ : ∃ s l k, NmQ (P * R) s l k := ⟨_, _, _, NmQ.mk' _⟩
          obtain ⟨sac, lac, kac, nac⟩ : ∃ s l k, NmQ (P * S) s l k := ⟨_, _, _, NmQ.mk' _⟩
          obtain ⟨su, lu, ku, nu⟩ : ∃ s l k, NmQ (P * (R + S)) s l k := ⟨_, _, _, NmQ.mk' _⟩
          obtain ⟨sm2, lm2, km2, nm2⟩ : ∃ s l k, NmQ (R * S) s l k := ⟨_, _, _, NmQ.mk' _⟩
          obtain ⟨sn, ln, kn, nn⟩ : ∃ s l k, NmQ (P * R * S) s l k := ⟨_, _, _, NmQ.mk' _⟩
          obtain ⟨sd, ld, kd, nd⟩ : ∃ s l k, NmQ (P - R) s l k := ⟨_, _, _, NmQ.mk' _⟩
          obtain ⟨sz, lz, kz, nz⟩ : ∃ s l k, NmQ (P / R) s l k := ⟨_, _, _, NmQ.mk' _⟩
          have L_nA := lens_q nA
          have L_nB := lens_q nB
          have L_nC := lens_q nC
          have L_nab := lens_q nab
          have L_nbc := lens_q nbc
          have L_nxx := lens_q nxx
          have L_np := lens_q np
          have L_nac := lens_q nac
          have L_nu := lens_q nu
          have L_nm2 := lens_q nm2
          have L_nn := lens_q nn
          have L_nd := lens_q nd
          have L_nz := lens_q nz
          have z1 := add_len P R
          have z2 := add_len R S
          have z3 := add_len (P + R) S
          have z4 := mul_len P R
          have z5 := mul_len P S
          have z6 := mul_len P (R + S)
          have z7 := mul_len R S
          have z8 := mul_len (P * R) S
          have z9 : (limbs (P - R).num.natAbs).length ≤ 40 ∧ (limbs (P - R).den).length ≤ 40 := by
            have h1 := add_len P (-R)
            rw [← Rat.sub_eq_add_neg, Rat.neg_num, Rat.neg_den, Int.natAbs_neg] at h1
            omega
          have bl_ab : lab.length ≤ 60 ∧ kab.length ≤ 60 := by omega
          have bl_bc : lbc.length ≤ 60 ∧ kbc.length ≤ 60 := by omega
          have bl_xx : lxx.length ≤ 60 ∧ kxx.length ≤ 60 := by omega
          have bl_p : lp.length ≤ 60 ∧ kp.length ≤ 60 := by omega
          have bl_ac : lac.length ≤ 60 ∧ kac.length ≤ 60 := by omega
          have bl_u : lu.length ≤ 60 ∧ ku.length ≤ 60 := by omega
          have bl_m2 : lm2.length ≤ 60 ∧ km2.length ≤ 60 := by omega
          have bl_n : ln.length ≤ 60 ∧ kn.length ≤ 60 := by omega
          have bl_d : ld.length ≤ 60 ∧ kd.length ≤ 60 := by omega
          clear z1 z2 z3 z4 z5 z6 z7 z8
          have N_a := Lib.hid nA
          have N_b := Lib.hid nB
          have N_c := Lib.hid nC
          have N_ab := Lib.hid nab
          have N_bc := Lib.hid nbc
          have N_xx := Lib.hid nxx
          have N_p := Lib.hid np
          have N_ac := Lib.hid nac
          have N_u := Lib.hid nu
          have N_m2 := Lib.hid nm2
          have N_n := Lib.hid nn
          have N_d := Lib.hid nd
          have N_z := Lib.hid nz
          by_cases h0 : R.num = 0
          · have hl0 : l' = [] := by rw [nB.2.1, h0]; rfl
            have H0 := Lib.hid h0
            subst hl0
            clear h0
            have Gb := Lib.hid (And.intro g1 (And.intro g2 g3))
            clear z9 L_nA L_nB L_nC L_nab L_nbc L_nxx L_np L_nac L_nu L_nm2 L_nn L_nd L_nz nA nB nC nab nbc nxx np nac nu nm2 nn nd nz
            go_enter Tryz.func4, Tryz.ntmps4
            go_wp2_with fail
            refine (alive6 (ht.below hB)).mono ?_
            rintro e w1 ⟨rfl, hb⟩
            replace xa := keepC hb xa
            replace ya := keepC hb ya
            replace za := keepC hb za
            replace xb := keepC hb xb
            replace yb := keepC hb yb
            replace zb := keepC hb zb
            replace xc := keepC hb xc
            replace yc := keepC hb yc
            replace zc := keepC hb zc
            replace ua := ua.below hb
            replace va := va.below hb
            replace ub := ub.below hb
            replace vb := vb.below hb
            replace uc := uc.below hb
            replace vc := vc.below hb
            replace hB := from_ hB hb
            clear hb
            go_wp2_with fail
            refine (great6_no (n := 8) G0.out.1 G0.out.2 (by omega)).mono ?_
            rintro e w2 ⟨rfl, hb⟩
            replace xa := keepC hb xa
            replace ya := keepC hb ya
            replace za := keepC hb za
            replace xb := keepC hb xb
            replace yb := keepC hb yb
            replace zb := keepC hb zb
            replace xc := keepC hb xc
            replace yc := keepC hb yc
            replace zc := keepC hb zc
            replace ua := ua.below hb
            replace va := va.below hb
            replace ub := ub.below hb
            replace vb := vb.below hb
            replace uc := uc.below hb
            replace vc := vc.below hb
            replace hB := from_ hB hb
            clear hb
            go_wp2_with fail
            refine (great6_no (n := 8) G1.out.1 G1.out.2 (by omega)).mono ?_
            rintro e w3 ⟨rfl, hb⟩
            replace xa := keepC hb xa
            replace ya := keepC hb ya
            replace za := keepC hb za
            replace xb := keepC hb xb
            replace yb := keepC hb yb
            replace zb := keepC hb zb
            replace xc := keepC hb xc
            replace yc := keepC hb yc
            replace zc := keepC hb zc
            replace ua := ua.below hb
            replace va := va.below hb
            replace ub := ub.below hb
            replace vb := vb.below hb
            replace uc := uc.below hb
            replace vc := vc.below hb
            replace hB := from_ hB hb
            clear hb
            go_wp2_with fail
            refine (great6_no (n := 8) G2.out.1 G2.out.2 (by omega)).mono ?_
            rintro e w4 ⟨rfl, hb⟩
            replace xa := keepC hb xa
            replace ya := keepC hb ya
            replace za := keepC hb za
            replace xb := keepC hb xb
            replace yb := keepC hb yb
            replace zb := keepC hb zb
            replace xc := keepC hb xc
            replace yc := keepC hb yc
            replace zc := keepC hb zc
            replace ua := ua.below hb
            replace va := va.below hb
            replace ub := ub.below hb
            replace vb := vb.below hb
            replace uc := uc.below hb
            replace vc := vc.below hb
            replace hB := from_ hB hb
            clear hb
            go_wp2_with fail
            refine (checkQ_ok N_a.out ua va (by omega) (by omega)).mono ?_
            rintro e w5 ⟨rfl, hb⟩
            replace xa := keepC hb xa
            replace ya := keepC hb ya
            replace za := keepC hb za
            replace xb := keepC hb xb
            replace yb := keepC hb yb
            replace zb := keepC hb zb
            replace xc := keepC hb xc
            replace yc := keepC hb yc
            replace zc := keepC hb zc
            replace ua := ua.below hb
            replace va := va.below hb
            replace ub := ub.below hb
            replace vb := vb.below hb
            replace uc := uc.below hb
            replace vc := vc.below hb
            replace hB := from_ hB hb
            clear hb
            go_wp2_with fail
            refine (checkQ_ok N_b.out ub vb (by omega) (by omega)).mono ?_
            rintro e w6 ⟨rfl, hb⟩
            replace xa := keepC hb xa
            replace ya := keepC hb ya
            replace za := keepC hb za
            replace xb := keepC hb xb
            replace yb := keepC hb yb
            replace zb := keepC hb zb
            replace xc := keepC hb xc
            replace yc := keepC hb yc
            replace zc := keepC hb zc
            replace ua := ua.below hb
            replace va := va.below hb
            replace ub := ub.below hb
            replace vb := vb.below hb
            replace uc := uc.below hb
            replace vc := vc.below hb
            replace hB := from_ hB hb
            clear hb
            go_wp2_with fail
            refine (checkQ_ok N_c.out uc vc (by omega) (by omega)).mono ?_
            rintro e w7 ⟨rfl, hb⟩
            replace xa := keepC hb xa
            replace ya := keepC hb ya
            replace za := keepC hb za
            replace xb := keepC hb xb
            replace yb := keepC hb yb
            replace zb := keepC hb zb
            replace xc := keepC hb xc
            replace yc := keepC hb yc
            replace zc := keepC hb zc
            replace ua := ua.below hb
            replace va := va.below hb
            replace ub := ub.below hb
            replace vb := vb.below hb
            replace uc := uc.below hb
            replace vc := vc.below hb
            replace hB := from_ hB hb
            clear hb
            go_wp2_with fail
            refine (radd_q N_a.out N_b.out N_ab.out rfl ua va ub vb (by omega) (by omega) (by omega) (by omega)).mono ?_
            rintro e w8 ⟨A8, c8, B8, d8, rfl, uAB, vAB, hb⟩
            have hal : Below w8.heap.size w8 (w8.alloc (.cells #[.bool sab, .slice A8 lab.length c8, .slice B8 kab.length d8] 28)) := (Below.refl _ _).alloc (Nat.le_refl _) _
            replace uAB := uAB.below hal
            replace vAB := vAB.below hal
            obtain ⟨xAB, yAB, zAB, _, _, _, _⟩ := Box3.new w8 (.bool sab) (.slice A8 lab.length c8) (.slice B8 kab.length d8) 28
            have hs := from_ hb hal
            replace xa := keepC hs xa
            replace ya := keepC hs ya
            replace za := keepC hs za
            replace xb := keepC hs xb
            replace yb := keepC hs yb
            replace zb := keepC hs zb
            replace xc := keepC hs xc
            replace yc := keepC hs yc
            replace zc := keepC hs zc
            replace ua := ua.below hs
            replace va := va.below hs
            replace ub := ub.below hs
            replace vb := vb.below hs
            replace uc := uc.below hs
            replace vc := vc.below hs
            replace hB := from_ hB hs
            clear hb hal hs
            go_wp2_with fail
            refine (radd_q N_b.out N_a.out N_ab.out (Rat.add_comm R P) ub vb ua va (by omega) (by omega) (by omega) (by omega)).mono ?_
            rintro e w9 ⟨A9, c9, B9, d9, rfl, uBA, vBA, hb⟩
            have hal : Below w9.heap.size w9 (w9.alloc (.cells #[.bool sab, .slice A9 lab.length c9, .slice B9 kab.length d9] 28)) := (Below.refl _ _).alloc (Nat.le_refl _) _
            replace uBA := uBA.below hal
            replace vBA := vBA.below hal
            obtain ⟨xBA, yBA, zBA, _, _, _, _⟩ := Box3.new w9 (.bool sab) (.slice A9 lab.length c9) (.slice B9 kab.length d9) 28
            have hs := from_ hb hal
            replace xa := keepC hs xa
            replace ya := keepC hs ya
            replace za := keepC hs za
            replace xb := keepC hs xb
            replace yb := keepC hs yb
            replace zb := keepC hs zb
            replace xc := keepC hs xc
            replace yc := keepC hs yc
            replace zc := keepC hs zc
            replace xAB := keepC hs xAB
            replace yAB := keepC hs yAB
            replace zAB := keepC hs zAB
            replace ua := ua.below hs
            replace va := va.below hs
            replace ub := ub.below hs
            replace vb := vb.below hs
            replace uc := uc.below hs
            replace vc := vc.below hs
            replace uAB := uAB.below hs
            replace vAB := vAB.below hs
            replace hB := from_ hB hs
            clear hb hal hs
            go_wp2_with fail
            refine (radd_q N_b.out N_c.out N_bc.out rfl ub vb uc vc (by omega) (by omega) (by omega) (by omega)).mono ?_
            rintro e w10 ⟨A10, c10, B10, d10, rfl, uBC, vBC, hb⟩
            have hal : Below w10.heap.size w10 (w10.alloc (.cells #[.bool sbc, .slice A10 lbc.length c10, .slice B10 kbc.length d10] 28)) := (Below.refl _ _).alloc (Nat.le_refl _) _
            replace uBC := uBC.below hal
            replace vBC := vBC.below hal
            obtain ⟨xBC, yBC, zBC, _, _, _, _⟩ := Box3.new w10 (.bool sbc) (.slice A10 lbc.length c10) (.slice B10 kbc.length d10) 28
            have hs := from_ hb hal
            replace xa := keepC hs xa
            replace ya := keepC hs ya
            replace za := keepC hs za
            replace xb := keepC hs xb
            replace yb := keepC hs yb
            replace zb := keepC hs zb
            replace xc := keepC hs xc
            replace yc := keepC hs yc
            replace zc := keepC hs zc
            replace xAB := keepC hs xAB
            replace yAB := keepC hs yAB
            replace zAB := keepC hs zAB
            replace xBA := keepC hs xBA
            replace yBA := keepC hs yBA
            replace zBA := keepC hs zBA
            replace ua := ua.below hs
            replace va := va.below hs
            replace ub := ub.below hs
            replace vb := vb.below hs
            replace uc := uc.below hs
            replace vc := vc.below hs
            replace uAB := uAB.below hs
            replace vAB := vAB.below hs
            replace uBA := uBA.below hs
            replace vBA := vBA.below hs
            replace hB := from_ hB hs
            clear hb hal hs
            go_wp2_with fail
            refine (radd_q N_ab.out N_c.out N_xx.out rfl uAB vAB uc vc (by omega) (by omega) (by omega) (by omega)).mono ?_
            rintro e w11 ⟨A11, c11, B11, d11, rfl, uX, vX, hb⟩
            have hal : Below w11.heap.size w11 (w11.alloc (.cells #[.bool sxx, .slice A11 lxx.length c11, .slice B11 kxx.length d11] 28)) := (Below.refl _ _).alloc (Nat.le_refl _) _
            replace uX := uX.below hal
            replace vX := vX.below hal
            obtain ⟨xX, yX, zX, _, _, _, _⟩ := Box3.new w11 (.bool sxx) (.slice A11 lxx.length c11) (.slice B11 kxx.length d11) 28
            have hs := from_ hb hal
            replace xa := keepC hs xa
            replace ya := keepC hs ya
            replace za := keepC hs za
            replace xb := keepC hs xb
            replace yb := keepC hs yb
            replace zb := keepC hs zb
            replace xc := keepC hs xc
            replace yc := keepC hs yc
            replace zc := keepC hs zc
            replace xAB := keepC hs xAB
            replace yAB := keepC hs yAB
            replace zAB := keepC hs zAB
            replace xBA := keepC hs xBA
            replace yBA := keepC hs yBA
            replace zBA := keepC hs zBA
            replace xBC := keepC hs xBC
            replace yBC := keepC hs yBC
            replace zBC := keepC hs zBC
            replace ua := ua.below hs
            replace va := va.below hs
            replace ub := ub.below hs
            replace vb := vb.below hs
            replace uc := uc.below hs
            replace vc := vc.below hs
            replace uAB := uAB.below hs
            replace vAB := vAB.below hs
            replace uBA := uBA.below hs
            replace vBA := vBA.below hs
            replace uBC := uBC.below hs
            replace vBC := vBC.below hs
            replace hB := from_ hB hs
            clear hb hal hs
            go_wp2_with fail
            refine (radd_q N_a.out N_bc.out N_xx.out (Rat.add_assoc P R S).symm ua va uBC vBC (by omega) (by omega) (by omega) (by omega)).mono ?_
            rintro e w12 ⟨A12, c12, B12, d12, rfl, uY, vY, hb⟩
            have hal : Below w12.heap.size w12 (w12.alloc (.cells #[.bool sxx, .slice A12 lxx.length c12, .slice B12 kxx.length d12] 28)) := (Below.refl _ _).alloc (Nat.le_refl _) _
            replace uY := uY.below hal
            replace vY := vY.below hal
            obtain ⟨xY, yY, zY, _, _, _, _⟩ := Box3.new w12 (.bool sxx) (.slice A12 lxx.length c12) (.slice B12 kxx.length d12) 28
            have hs := from_ hb hal
            replace xa := keepC hs xa
            replace ya := keepC hs ya
            replace za := keepC hs za
            replace xb := keepC hs xb
            replace yb := keepC hs yb
            replace zb := keepC hs zb
            replace xc := keepC hs xc
            replace yc := keepC hs yc
            replace zc := keepC hs zc
            replace xAB := keepC hs xAB
            replace yAB := keepC hs yAB
            replace zAB := keepC hs zAB
            replace xBA := keepC hs xBA
            replace yBA := keepC hs yBA
            replace zBA := keepC hs zBA
            replace xBC := keepC hs xBC
            replace yBC := keepC hs yBC
            replace zBC := keepC hs zBC
            replace xX := keepC hs xX
            replace yX := keepC hs yX
            replace zX := keepC hs zX
            replace ua := ua.below hs
            replace va := va.below hs
            replace ub := ub.below hs
            replace vb := vb.below hs
            replace uc := uc.below hs
            replace vc := vc.below hs
            replace uAB := uAB.below hs
            replace vAB := vAB.below hs
            replace uBA := uBA.below hs
            replace vBA := vBA.below hs
            replace uBC := uBC.below hs
            replace vBC := vBC.below hs
            replace uX := uX.below hs
            replace vX := vX.below hs
            replace hB := from_ hB hs
            clear hb hal hs
            go_wp2_with fail
            refine (rmul_q N_a.out N_b.out N_p.out rfl ua va ub vb (by omega) (by omega) (by omega) (by omega)).mono ?_
            rintro e w13 ⟨A13, c13, B13, d13, rfl, uP, vP, hb⟩
            have hal : Below w13.heap.size w13 (w13.alloc (.cells #[.bool sp, .slice A13 lp.length c13, .slice B13 kp.length d13] 28)) := (Below.refl _ _).alloc (Nat.le_refl _) _
            replace uP := uP.below hal
            replace vP := vP.below hal
            obtain ⟨xP, yP, zP, _, _, _, _⟩ := Box3.new w13 (.bool sp) (.slice A13 lp.length c13) (.slice B13 kp.length d13) 28
            have hs := from_ hb hal
            replace xa := keepC hs xa
            replace ya := keepC hs ya
            replace za := keepC hs za
            replace xb := keepC hs xb
            replace yb := keepC hs yb
            replace zb := keepC hs zb
            replace xc := keepC hs xc
            replace yc := keepC hs yc
            replace zc := keepC hs zc
            replace xAB := keepC hs xAB
            replace yAB := keepC hs yAB
            replace zAB := keepC hs zAB
            replace xBA := keepC hs xBA
            replace yBA := keepC hs yBA
            replace zBA := keepC hs zBA
            replace xBC := keepC hs xBC
            replace yBC := keepC hs yBC
            replace zBC := keepC hs zBC
            replace xX := keepC hs xX
            replace yX := keepC hs yX
            replace zX := keepC hs zX
            replace xY := keepC hs xY
            replace yY := keepC hs yY
            replace zY := keepC hs zY
            replace ua := ua.below hs
            replace va := va.below hs
            replace ub := ub.below hs
            replace vb := vb.below hs
            replace uc := uc.below hs
            replace vc := vc.below hs
            replace uAB := uAB.below hs
            replace vAB := vAB.below hs
            replace uBA := uBA.below hs
            replace vBA := vBA.below hs
            replace uBC := uBC.below hs
            replace vBC := vBC.below hs
            replace uX := uX.below hs
            replace vX := vX.below hs
            replace uY := uY.below hs
            replace vY := vY.below hs
            replace hB := from_ hB hs
            clear hb hal hs
            go_wp2_with fail
            refine (rmul_q N_b.out N_a.out N_p.out (Rat.mul_comm R P) ub vb ua va (by omega) (by omega) (by omega) (by omega)).mono ?_
            rintro e w14 ⟨A14, c14, B14, d14, rfl, uQQ, vQQ, hb⟩
            have hal : Below w14.heap.size w14 (w14.alloc (.cells #[.bool sp, .slice A14 lp.length c14, .slice B14 kp.length d14] 28)) := (Below.refl _ _).alloc (Nat.le_refl _) _
            replace uQQ := uQQ.below hal
            replace vQQ := vQQ.below hal
            obtain ⟨xQQ, yQQ, zQQ, _, _, _, _⟩ := Box3.new w14 (.bool sp) (.slice A14 lp.length c14) (.slice B14 kp.length d14) 28
            have hs := from_ hb hal
            replace xa := keepC hs xa
            replace ya := keepC hs ya
            replace za := keepC hs za
            replace xb := keepC hs xb
            replace yb := keepC hs yb
            replace zb := keepC hs zb
            replace xc := keepC hs xc
            replace yc := keepC hs yc
            replace zc := keepC hs zc
            replace xAB := keepC hs xAB
            replace yAB := keepC hs yAB
            replace zAB := keepC hs zAB
            replace xBA := keepC hs xBA
            replace yBA := keepC hs yBA
            replace zBA := keepC hs zBA
            replace xBC := keepC hs xBC
            replace yBC := keepC hs yBC
            replace zBC := keepC hs zBC
            replace xX := keepC hs xX
            replace yX := keepC hs yX
            replace zX := keepC hs zX
            replace xY := keepC hs xY
            replace yY := keepC hs yY
            replace zY := keepC hs zY
            replace xP := keepC hs xP
            replace yP := keepC hs yP
            replace zP := keepC hs zP
            replace ua := ua.below hs
            replace va := va.below hs
            replace ub := ub.below hs
            replace vb := vb.below hs
            replace uc := uc.below hs
            replace vc := vc.below hs
            replace uAB := uAB.below hs
            replace vAB := vAB.below hs
            replace uBA := uBA.below hs
            replace vBA := vBA.below hs
            replace uBC := uBC.below hs
            replace vBC := vBC.below hs
            replace uX := uX.below hs
            replace vX := vX.below hs
            replace uY := uY.below hs
            replace vY := vY.below hs
            replace uP := uP.below hs
            replace vP := vP.below hs
            replace hB := from_ hB hs
            clear hb hal hs
            go_wp2_with fail
            refine (rmul_q N_a.out N_c.out N_ac.out rfl ua va uc vc (by omega) (by omega) (by omega) (by omega)).mono ?_
            rintro e w15 ⟨A15, c15, B15, d15, rfl, uAC, vAC, hb⟩
            have hal : Below w15.heap.size w15 (w15.alloc (.cells #[.bool sac, .slice A15 lac.length c15, .slice B15 kac.length d15] 28)) := (Below.refl _ _).alloc (Nat.le_refl _) _
            replace uAC := uAC.below hal
            replace vAC := vAC.below hal
            obtain ⟨xAC, yAC, zAC, _, _, _, _⟩ := Box3.new w15 (.bool sac) (.slice A15 lac.length c15) (.slice B15 kac.length d15) 28
            have hs := from_ hb hal
            replace xa := keepC hs xa
            replace ya := keepC hs ya
            replace za := keepC hs za
            replace xb := keepC hs xb
            replace yb := keepC hs yb
            replace zb := keepC hs zb
            replace xc := keepC hs xc
            replace yc := keepC hs yc
            replace zc := keepC hs zc
            replace xAB := keepC hs xAB
            replace yAB := keepC hs yAB
            replace zAB := keepC hs zAB
            replace xBA := keepC hs xBA
            replace yBA := keepC hs yBA
            replace zBA := keepC hs zBA
            replace xBC := keepC hs xBC
            replace yBC := keepC hs yBC
            replace zBC := keepC hs zBC
            replace xX := keepC hs xX
            replace yX := keepC hs yX
            replace zX := keepC hs zX
            replace xY := keepC hs xY
            replace yY := keepC hs yY
            replace zY := keepC hs zY
            replace xP := keepC hs xP
            replace yP := keepC hs yP
            replace zP := keepC hs zP
            replace xQQ := keepC hs xQQ
            replace yQQ := keepC hs yQQ
            replace zQQ := keepC hs zQQ
            replace ua := ua.below hs
            replace va := va.below hs
            replace ub := ub.below hs
            replace vb := vb.below hs
            replace uc := uc.below hs
            replace vc := vc.below hs
            replace uAB := uAB.below hs
            replace vAB := vAB.below hs
            replace uBA := uBA.below hs
            replace vBA := vBA.below hs
            replace uBC := uBC.below hs
            replace vBC := vBC.below hs
            replace uX := uX.below hs
            replace vX := vX.below hs
            replace uY := uY.below hs
            replace vY := vY.below hs
            replace uP := uP.below hs
            replace vP := vP.below hs
            replace uQQ := uQQ.below hs
            replace vQQ := vQQ.below hs
            replace hB := from_ hB hs
            clear hb hal hs
            go_wp2_with fail
            refine (rmul_q N_a.out N_bc.out N_u.out rfl ua va uBC vBC (by omega) (by omega) (by omega) (by omega)).mono ?_
            rintro e w16 ⟨A16, c16, B16, d16, rfl, uUU, vUU, hb⟩
            have hal : Below w16.heap.size w16 (w16.alloc (.cells #[.bool su, .slice A16 lu.length c16, .slice B16 ku.length d16] 28)) := (Below.refl _ _).alloc (Nat.le_refl _) _
            replace uUU := uUU.below hal
            replace vUU := vUU.below hal
            obtain ⟨xUU, yUU, zUU, _, _, _, _⟩ := Box3.new w16 (.bool su) (.slice A16 lu.length c16) (.slice B16 ku.length d16) 28
            have hs := from_ hb hal
            replace xa := keepC hs xa
            replace ya := keepC hs ya
            replace za := keepC hs za
            replace xb := keepC hs xb
            replace yb := keepC hs yb
            replace zb := keepC hs zb
            replace xc := keepC hs xc
            replace yc := keepC hs yc
            replace zc := keepC hs zc
            replace xAB := keepC hs xAB
            replace yAB := keepC hs yAB
            replace zAB := keepC hs zAB
            replace xBA := keepC hs xBA
            replace yBA := keepC hs yBA
            replace zBA := keepC hs zBA
            replace xBC := keepC hs xBC
            replace yBC := keepC hs yBC
            replace zBC := keepC hs zBC
            replace xX := keepC hs xX
            replace yX := keepC hs yX
            replace zX := keepC hs zX
            replace xY := keepC hs xY
            replace yY := keepC hs yY
            replace zY := keepC hs zY
            replace xP := keepC hs xP
            replace yP := keepC hs yP
            replace zP := keepC hs zP
            replace xQQ := keepC hs xQQ
            replace yQQ := keepC hs yQQ
            replace zQQ := keepC hs zQQ
            replace xAC := keepC hs xAC
            replace yAC := keepC hs yAC
            replace zAC := keepC hs zAC
            replace ua := ua.below hs
            replace va := va.below hs
            replace ub := ub.below hs
            replace vb := vb.below hs
            replace uc := uc.below hs
            replace vc := vc.below hs
            replace uAB := uAB.below hs
            replace vAB := vAB.below hs
            replace uBA := uBA.below hs
            replace vBA := vBA.below hs
            replace uBC := uBC.below hs
            replace vBC := vBC.below hs
            replace uX := uX.below hs
            replace vX := vX.below hs
            replace uY := uY.below hs
            replace vY := vY.below hs
            replace uP := uP.below hs
            replace vP := vP.below hs
            replace uQQ := uQQ.below hs
            replace vQQ := vQQ.below hs
            replace uAC := uAC.below hs
            replace vAC := vAC.below hs
            replace hB := from_ hB hs
            clear hb hal hs
            clear xBC yBC zBC uBC vBC
            go_wp2_with fail
            refine (radd_q N_p.out N_ac.out N_u.out (Rat.mul_add P R S).symm uP vP uAC vAC (by omega) (by omega) (by omega) (by omega)).mono ?_
            rintro e w17 ⟨A17, c17, B17, d17, rfl, uVV, vVV, hb⟩
            have hal : Below w17.heap.size w17 (w17.alloc (.cells #[.bool su, .slice A17 lu.length c17, .slice B17 ku.length d17] 28)) := (Below.refl _ _).alloc (Nat.le_refl _) _
            replace uVV := uVV.below hal
            replace vVV := vVV.below hal
            obtain ⟨xVV, yVV, zVV, _, _, _, _⟩ := Box3.new w17 (.bool su) (.slice A17 lu.length c17) (.slice B17 ku.length d17) 28
            have hs := from_ hb hal
            replace xa := keepC hs xa
            replace ya := keepC hs ya
            replace za := keepC hs za
            replace xb := keepC hs xb
            replace yb := keepC hs yb
            replace zb := keepC hs zb
            replace xc := keepC hs xc
            replace yc := keepC hs yc
            replace zc := keepC hs zc
            replace xAB := keepC hs xAB
            replace yAB := keepC hs yAB
            replace zAB := keepC hs zAB
            replace xBA := keepC hs xBA
            replace yBA := keepC hs yBA
            replace zBA := keepC hs zBA
            replace xX := keepC hs xX
            replace yX := keepC hs yX
            replace zX := keepC hs zX
            replace xY := keepC hs xY
            replace yY := keepC hs yY
            replace zY := keepC hs zY
            replace xP := keepC hs xP
            replace yP := keepC hs yP
            replace zP := keepC hs zP
            replace xQQ := keepC hs xQQ
            replace yQQ := keepC hs yQQ
            replace zQQ := keepC hs zQQ
            replace xAC := keepC hs xAC
            replace yAC := keepC hs yAC
            replace zAC := keepC hs zAC
            replace xUU := keepC hs xUU
            replace yUU := keepC hs yUU
            replace zUU := keepC hs zUU
            replace ua := ua.below hs
            replace va := va.below hs
            replace ub := ub.below hs
            replace vb := vb.below hs
            replace uc := uc.below hs
            replace vc := vc.below hs
            replace uAB := uAB.below hs
            replace vAB := vAB.below hs
            replace uBA := uBA.below hs
            replace vBA := vBA.below hs
            replace uX := uX.below hs
            replace vX := vX.below hs
            replace uY := uY.below hs
            replace vY := vY.below hs
            replace uP := uP.below hs
            replace vP := vP.below hs
            replace uQQ := uQQ.below hs
            replace vQQ := vQQ.below hs
            replace uAC := uAC.below hs
            replace vAC := vAC.below hs
            replace uUU := uUU.below hs
            replace vUU := vUU.below hs
            replace hB := from_ hB hs
            clear hb hal hs
            clear xAC yAC zAC uAC vAC
            go_wp2_with fail
            refine (rmul_q N_b.out N_c.out N_m2.out rfl ub vb uc vc (by omega) (by omega) (by omega) (by omega)).mono ?_
            rintro e w18 ⟨A18, c18, B18, d18, rfl, uMM, vMM, hb⟩
            have hal : Below w18.heap.size w18 (w18.alloc (.cells #[.bool sm2, .slice A18 lm2.length c18, .slice B18 km2.length d18] 28)) := (Below.refl _ _).alloc (Nat.le_refl _) _
            replace uMM := uMM.below hal
            replace vMM := vMM.below hal
            obtain ⟨xMM, yMM, zMM, _, _, _, _⟩ := Box3.new w18 (.bool sm2) (.slice A18 lm2.length c18) (.slice B18 km2.length d18) 28
            have hs := from_ hb hal
            replace xa := keepC hs xa
            replace ya := keepC hs ya
            replace za := keepC hs za
            replace xb := keepC hs xb
            replace yb := keepC hs yb
            replace zb := keepC hs zb
            replace xc := keepC hs xc
            replace yc := keepC hs yc
            replace zc := keepC hs zc
            replace xAB := keepC hs xAB
            replace yAB := keepC hs yAB
            replace zAB := keepC hs zAB
            replace xBA := keepC hs xBA
            replace yBA := keepC hs yBA
            replace zBA := keepC hs zBA
            replace xX := keepC hs xX
            replace yX := keepC hs yX
            replace zX := keepC hs zX
            replace xY := keepC hs xY
            replace yY := keepC hs yY
            replace zY := keepC hs zY
            replace xP := keepC hs xP
            replace yP := keepC hs yP
            replace zP := keepC hs zP
            replace xQQ := keepC hs xQQ
            replace yQQ := keepC hs yQQ
            replace zQQ := keepC hs zQQ
            replace xUU := keepC hs xUU
            replace yUU := keepC hs yUU
            replace zUU := keepC hs zUU
            replace xVV := keepC hs xVV
            replace yVV := keepC hs yVV
            replace zVV := keepC hs zVV
            replace ua := ua.below hs
            replace va := va.below hs
            replace ub := ub.below hs
            replace vb := vb.below hs
            replace uc := uc.below hs
            replace vc := vc.below hs
            replace uAB := uAB.below hs
            replace vAB := vAB.below hs
            replace uBA := uBA.below hs
            replace vBA := vBA.below hs
            replace uX := uX.below hs
            replace vX := vX.below hs
            replace uY := uY.below hs
            replace vY := vY.below hs
            replace uP := uP.below hs
            replace vP := vP.below hs
            replace uQQ := uQQ.below hs
            replace vQQ := vQQ.below hs
            replace uUU := uUU.below hs
            replace vUU := vUU.below hs
            replace uVV := uVV.below hs
            replace vVV := vVV.below hs
            replace hB := from_ hB hs
            clear hb hal hs
            go_wp2_with fail
            refine (rmul_q N_p.out N_c.out N_n.out rfl uP vP uc vc (by omega) (by omega) (by omega) (by omega)).mono ?_
            rintro e w19 ⟨A19, c19, B19, d19, rfl, uNN, vNN, hb⟩
            have hal : Below w19.heap.size w19 (w19.alloc (.cells #[.bool sn, .slice A19 ln.length c19, .slice B19 kn.length d19] 28)) := (Below.refl _ _).alloc (Nat.le_refl _) _
            replace uNN := uNN.below hal
            replace vNN := vNN.below hal
            obtain ⟨xNN, yNN, zNN, _, _, _, _⟩ := Box3.new w19 (.bool sn) (.slice A19 ln.length c19) (.slice B19 kn.length d19) 28
            have hs := from_ hb hal
            replace xa := keepC hs xa
            replace ya := keepC hs ya
            replace za := keepC hs za
            replace xb := keepC hs xb
            replace yb := keepC hs yb
            replace zb := keepC hs zb
            replace xc := keepC hs xc
            replace yc := keepC hs yc
            replace zc := keepC hs zc
            replace xAB := keepC hs xAB
            replace yAB := keepC hs yAB
            replace zAB := keepC hs zAB
            replace xBA := keepC hs xBA
            replace yBA := keepC hs yBA
            replace zBA := keepC hs zBA
            replace xX := keepC hs xX
            replace yX := keepC hs yX
            replace zX := keepC hs zX
            replace xY := keepC hs xY
            replace yY := keepC hs yY
            replace zY := keepC hs zY
            replace xP := keepC hs xP
            replace yP := keepC hs yP
            replace zP := keepC hs zP
            replace xQQ := keepC hs xQQ
            replace yQQ := keepC hs yQQ
            replace zQQ := keepC hs zQQ
            replace xUU := keepC hs xUU
            replace yUU := keepC hs yUU
            replace zUU := keepC hs zUU
            replace xVV := keepC hs xVV
            replace yVV := keepC hs yVV
            replace zVV := keepC hs zVV
            replace xMM := keepC hs xMM
            replace yMM := keepC hs yMM
            replace zMM := keepC hs zMM
            replace ua := ua.below hs
            replace va := va.below hs
            replace ub := ub.below hs
            replace vb := vb.below hs
            replace uc := uc.below hs
            replace vc := vc.below hs
            replace uAB := uAB.below hs
            replace vAB := vAB.below hs
            replace uBA := uBA.below hs
            replace vBA := vBA.below hs
            replace uX := uX.below hs
            replace vX := vX.below hs
            replace uY := uY.below hs
            replace vY := vY.below hs
            replace uP := uP.below hs
            replace vP := vP.below hs
            replace uQQ := uQQ.below hs
            replace vQQ := vQQ.below hs
            replace uUU := uUU.below hs
            replace vUU := vUU.below hs
            replace uVV := uVV.below hs
            replace vVV := vVV.below hs
            replace uMM := uMM.below hs
            replace vMM := vMM.below hs
            replace hB := from_ hB hs
            clear hb hal hs
            go_wp2_with fail
            refine (rmul_q N_a.out N_m2.out N_n.out (Rat.mul_assoc P R S).symm ua va uMM vMM (by omega) (by omega) (by omega) (by omega)).mono ?_
            rintro e w20 ⟨A20, c20, B20, d20, rfl, uOO, vOO, hb⟩
            have hal : Below w20.heap.size w20 (w20.alloc (.cells #[.bool sn, .slice A20 ln.length c20, .slice B20 kn.length d20] 28)) := (Below.refl _ _).alloc (Nat.le_refl _) _
            replace uOO := uOO.below hal
            replace vOO := vOO.below hal
            obtain ⟨xOO, yOO, zOO, _, _, _, _⟩ := Box3.new w20 (.bool sn) (.slice A20 ln.length c20) (.slice B20 kn.length d20) 28
            have hs := from_ hb hal
            replace xa := keepC hs xa
            replace ya := keepC hs ya
            replace za := keepC hs za
            replace xb := keepC hs xb
            replace yb := keepC hs yb
            replace zb := keepC hs zb
            replace xc := keepC hs xc
            replace yc := keepC hs yc
            replace zc := keepC hs zc
            replace xAB := keepC hs xAB
            replace yAB := keepC hs yAB
            replace zAB := keepC hs zAB
            replace xBA := keepC hs xBA
            replace yBA := keepC hs yBA
            replace zBA := keepC hs zBA
            replace xX := keepC hs xX
            replace yX := keepC hs yX
            replace zX := keepC hs zX
            replace xY := keepC hs xY
            replace yY := keepC hs yY
            replace zY := keepC hs zY
            replace xP := keepC hs xP
            replace yP := keepC hs yP
            replace zP := keepC hs zP
            replace xQQ := keepC hs xQQ
            replace yQQ := keepC hs yQQ
            replace zQQ := keepC hs zQQ
            replace xUU := keepC hs xUU
            replace yUU := keepC hs yUU
            replace zUU := keepC hs zUU
            replace xVV := keepC hs xVV
            replace yVV := keepC hs yVV
            replace zVV := keepC hs zVV
            replace xMM := keepC hs xMM
            replace yMM := keepC hs yMM
            replace zMM := keepC hs zMM
            replace xNN := keepC hs xNN
            replace yNN := keepC hs yNN
            replace zNN := keepC hs zNN
            replace ua := ua.below hs
            replace va := va.below hs
            replace ub := ub.below hs
            replace vb := vb.below hs
            replace uc := uc.below hs
            replace vc := vc.below hs
            replace uAB := uAB.below hs
            replace vAB := vAB.below hs
            replace uBA := uBA.below hs
            replace vBA := vBA.below hs
            replace uX := uX.below hs
            replace vX := vX.below hs
            replace uY := uY.below hs
            replace vY := vY.below hs
            replace uP := uP.below hs
            replace vP := vP.below hs
            replace uQQ := uQQ.below hs
            replace vQQ := vQQ.below hs
            replace uUU := uUU.below hs
            replace vUU := vUU.below hs
            replace uVV := uVV.below hs
            replace vVV := vVV.below hs
            replace uMM := uMM.below hs
            replace vMM := vMM.below hs
            replace uNN := uNN.below hs
            replace vNN := vNN.below hs
            replace hB := from_ hB hs
            clear hb hal hs
            clear xMM yMM zMM uMM vMM
            clear xc yc zc uc vc
            go_wp2_with fail
            refine (rsub_q N_a.out N_b.out N_d.out rfl ua va ub vb (by omega) (by omega) (by omega) (by omega)).mono ?_
            rintro e w21 ⟨A21, c21, B21, d21, rfl, uDD, vDD, hb⟩
            have hal : Below w21.heap.size w21 (w21.alloc (.cells #[.bool sd, .slice A21 ld.length c21, .slice B21 kd.length d21] 28)) := (Below.refl _ _).alloc (Nat.le_refl _) _
            replace uDD := uDD.below hal
            replace vDD := vDD.below hal
            obtain ⟨xDD, yDD, zDD, _, _, _, _⟩ := Box3.new w21 (.bool sd) (.slice A21 ld.length c21) (.slice B21 kd.length d21) 28
            have hs := from_ hb hal
            replace xa := keepC hs xa
            replace ya := keepC hs ya
            replace za := keepC hs za
            replace xb := keepC hs xb
            replace yb := keepC hs yb
            replace zb := keepC hs zb
            replace xAB := keepC hs xAB
            replace yAB := keepC hs yAB
            replace zAB := keepC hs zAB
            replace xBA := keepC hs xBA
            replace yBA := keepC hs yBA
            replace zBA := keepC hs zBA
            replace xX := keepC hs xX
            replace yX := keepC hs yX
            replace zX := keepC hs zX
            replace xY := keepC hs xY
            replace yY := keepC hs yY
            replace zY := keepC hs zY
            replace xP := keepC hs xP
            replace yP := keepC hs yP
            replace zP := keepC hs zP
            replace xQQ := keepC hs xQQ
            replace yQQ := keepC hs yQQ
            replace zQQ := keepC hs zQQ
            replace xUU := keepC hs xUU
            replace yUU := keepC hs yUU
            replace zUU := keepC hs zUU
            replace xVV := keepC hs xVV
            replace yVV := keepC hs yVV
            replace zVV := keepC hs zVV
            replace xNN := keepC hs xNN
            replace yNN := keepC hs yNN
            replace zNN := keepC hs zNN
            replace xOO := keepC hs xOO
            replace yOO := keepC hs yOO
            replace zOO := keepC hs zOO
            replace ua := ua.below hs
            replace va := va.below hs
            replace ub := ub.below hs
            replace vb := vb.below hs
            replace uAB := uAB.below hs
            replace vAB := vAB.below hs
            replace uBA := uBA.below hs
            replace vBA := vBA.below hs
            replace uX := uX.below hs
            replace vX := vX.below hs
            replace uY := uY.below hs
            replace vY := vY.below hs
            replace uP := uP.below hs
            replace vP := vP.below hs
            replace uQQ := uQQ.below hs
            replace vQQ := vQQ.below hs
            replace uUU := uUU.below hs
            replace vUU := vUU.below hs
            replace uVV := uVV.below hs
            replace vVV := vVV.below hs
            replace uNN := uNN.below hs
            replace vNN := vNN.below hs
            replace uOO := uOO.below hs
            replace vOO := vOO.below hs
            replace hB := from_ hB hs
            clear hb hal hs
            go_wp2_with fail
            refine (radd_q N_d.out N_b.out N_a.out Rat.sub_add_cancel uDD vDD ub vb (by omega) (by omega) (by omega) (by omega)).mono ?_
            rintro e w22 ⟨A22, c22, B22, d22, rfl, uBK, vBK, hb⟩
            have hal : Below w22.heap.size w22 (w22.alloc (.cells #[.bool s, .slice A22 l.length c22, .slice B22 k.length d22] 28)) := (Below.refl _ _).alloc (Nat.le_refl _) _
            replace uBK := uBK.below hal
            replace vBK := vBK.below hal
            obtain ⟨xBK, yBK, zBK, _, _, _, _⟩ := Box3.new w22 (.bool s) (.slice A22 l.length c22) (.slice B22 k.length d22) 28
            have hs := from_ hb hal
            replace xa := keepC hs xa
            replace ya := keepC hs ya
            replace za := keepC hs za
            replace xb := keepC hs xb
            replace yb := keepC hs yb
            replace zb := keepC hs zb
            replace xAB := keepC hs xAB
            replace yAB := keepC hs yAB
            replace zAB := keepC hs zAB
            replace xBA := keepC hs xBA
            replace yBA := keepC hs yBA
            replace zBA := keepC hs zBA
            replace xX := keepC hs xX
            replace yX := keepC hs yX
            replace zX := keepC hs zX
            replace xY := keepC hs xY
            replace yY := keepC hs yY
            replace zY := keepC hs zY
            replace xP := keepC hs xP
            replace yP := keepC hs yP
            replace zP := keepC hs zP
            replace xQQ := keepC hs xQQ
            replace yQQ := keepC hs yQQ
            replace zQQ := keepC hs zQQ
            replace xUU := keepC hs xUU
            replace yUU := keepC hs yUU
            replace zUU := keepC hs zUU
            replace xVV := keepC hs xVV
            replace yVV := keepC hs yVV
            replace zVV := keepC hs zVV
            replace xNN := keepC hs xNN
            replace yNN := keepC hs yNN
            replace zNN := keepC hs zNN
            replace xOO := keepC hs xOO
            replace yOO := keepC hs yOO
            replace zOO := keepC hs zOO
            replace xDD := keepC hs xDD
            replace yDD := keepC hs yDD
            replace zDD := keepC hs zDD
            replace ua := ua.below hs
            replace va := va.below hs
            replace ub := ub.below hs
            replace vb := vb.below hs
            replace uAB := uAB.below hs
            replace vAB := vAB.below hs
            replace uBA := uBA.below hs
            replace vBA := vBA.below hs
            replace uX := uX.below hs
            replace vX := vX.below hs
            replace uY := uY.below hs
            replace vY := vY.below hs
            replace uP := uP.below hs
            replace vP := vP.below hs
            replace uQQ := uQQ.below hs
            replace vQQ := vQQ.below hs
            replace uUU := uUU.below hs
            replace vUU := vUU.below hs
            replace uVV := uVV.below hs
            replace vVV := vVV.below hs
            replace uNN := uNN.below hs
            replace vNN := vNN.below hs
            replace uOO := uOO.below hs
            replace vOO := vOO.below hs
            replace uDD := uDD.below hs
            replace vDD := vDD.below hs
            replace hB := from_ hB hs
            clear hb hal hs
            clear xDD yDD zDD uDD vDD
            go_wp2_with fail
            refine (rdiv_zero N_a.out N_b.out H0.out ua va ub vb (by omega) (by omega) (by omega) (by omega)).mono ?_
            rintro e w23 ⟨A23, c23, B23, d23, rfl, uZZ, vZZ, hb⟩
            have hal : Below w23.heap.size w23 (w23.alloc (.cells #[.bool false, .slice A23 0 c23, .slice B23 0 d23] 28)) := (Below.refl _ _).alloc (Nat.le_refl _) _
            replace uZZ := uZZ.below hal
            replace vZZ := vZZ.below hal
            obtain ⟨xZZ, yZZ, zZZ, _, _, _, _⟩ := Box3.new w23 (.bool false) (.slice A23 0 c23) (.slice B23 0 d23) 28
            have hs := from_ hb hal
            replace xa := keepC hs xa
            replace ya := keepC hs ya
            replace za := keepC hs za
            replace xb := keepC hs xb
            replace yb := keepC hs yb
            replace zb := keepC hs zb
            replace xAB := keepC hs xAB
            replace yAB := keepC hs yAB
            replace zAB := keepC hs zAB
            replace xBA := keepC hs xBA
            replace yBA := keepC hs yBA
            replace zBA := keepC hs zBA
            replace xX := keepC hs xX
            replace yX := keepC hs yX
            replace zX := keepC hs zX
            replace xY := keepC hs xY
            replace yY := keepC hs yY
            replace zY := keepC hs zY
            replace xP := keepC hs xP
            replace yP := keepC hs yP
            replace zP := keepC hs zP
            replace xQQ := keepC hs xQQ
            replace yQQ := keepC hs yQQ
            replace zQQ := keepC hs zQQ
            replace xUU := keepC hs xUU
            replace yUU := keepC hs yUU
            replace zUU := keepC hs zUU
            replace xVV := keepC hs xVV
            replace yVV := keepC hs yVV
            replace zVV := keepC hs zVV
            replace xNN := keepC hs xNN
            replace yNN := keepC hs yNN
            replace zNN := keepC hs zNN
            replace xOO := keepC hs xOO
            replace yOO := keepC hs yOO
            replace zOO := keepC hs zOO
            replace xBK := keepC hs xBK
            replace yBK := keepC hs yBK
            replace zBK := keepC hs zBK
            replace ua := ua.below hs
            replace va := va.below hs
            replace ub := ub.below hs
            replace vb := vb.below hs
            replace uAB := uAB.below hs
            replace vAB := vAB.below hs
            replace uBA := uBA.below hs
            replace vBA := vBA.below hs
            replace uX := uX.below hs
            replace vX := vX.below hs
            replace uY := uY.below hs
            replace vY := vY.below hs
            replace uP := uP.below hs
            replace vP := vP.below hs
            replace uQQ := uQQ.below hs
            replace vQQ := vQQ.below hs
            replace uUU := uUU.below hs
            replace vUU := vUU.below hs
            replace uVV := uVV.below hs
            replace vVV := vVV.below hs
            replace uNN := uNN.below hs
            replace vNN := vNN.below hs
            replace uOO := uOO.below hs
            replace vOO := vOO.below hs
            replace uBK := uBK.below hs
            replace vBK := vBK.below hs
            replace hB := from_ hB hs
            clear hb hal hs
            go_wp2_with fail
            refine (same6_yes uAB vAB uBA vBA).mono ?_
            rintro e w24 ⟨rfl, hb⟩
            replace xa := keepC hb xa
            replace ya := keepC hb ya
            replace za := keepC hb za
            replace xb := keepC hb xb
            replace yb := keepC hb yb
            replace zb := keepC hb zb
            replace xAB := keepC hb xAB
            replace yAB := keepC hb yAB
            replace zAB := keepC hb zAB
            replace xBA := keepC hb xBA
            replace yBA := keepC hb yBA
            replace zBA := keepC hb zBA
            replace xX := keepC hb xX
            replace yX := keepC hb yX
            replace zX := keepC hb zX
            replace xY := keepC hb xY
            replace yY := keepC hb yY
            replace zY := keepC hb zY
            replace xP := keepC hb xP
            replace yP := keepC hb yP
            replace zP := keepC hb zP
            replace xQQ := keepC hb xQQ
            replace yQQ := keepC hb yQQ
            replace zQQ := keepC hb zQQ
            replace xUU := keepC hb xUU
            replace yUU := keepC hb yUU
            replace zUU := keepC hb zUU
            replace xVV := keepC hb xVV
            replace yVV := keepC hb yVV
            replace zVV := keepC hb zVV
            replace xNN := keepC hb xNN
            replace yNN := keepC hb yNN
            replace zNN := keepC hb zNN
            replace xOO := keepC hb xOO
            replace yOO := keepC hb yOO
            replace zOO := keepC hb zOO
            replace xBK := keepC hb xBK
            replace yBK := keepC hb yBK
            replace zBK := keepC hb zBK
            replace xZZ := keepC hb xZZ
            replace yZZ := keepC hb yZZ
            replace zZZ := keepC hb zZZ
            replace ua := ua.below hb
            replace va := va.below hb
            replace ub := ub.below hb
            replace vb := vb.below hb
            replace uAB := uAB.below hb
            replace vAB := vAB.below hb
            replace uBA := uBA.below hb
            replace vBA := vBA.below hb
            replace uX := uX.below hb
            replace vX := vX.below hb
            replace uY := uY.below hb
            replace vY := vY.below hb
            replace uP := uP.below hb
            replace vP := vP.below hb
            replace uQQ := uQQ.below hb
            replace vQQ := vQQ.below hb
            replace uUU := uUU.below hb
            replace vUU := vUU.below hb
            replace uVV := uVV.below hb
            replace vVV := vVV.below hb
            replace uNN := uNN.below hb
            replace vNN := vNN.below hb
            replace uOO := uOO.below hb
            replace vOO := vOO.below hb
            replace uBK := uBK.below hb
            replace vBK := vBK.below hb
            replace uZZ := uZZ.below hb
            replace vZZ := vZZ.below hb
            replace hB := from_ hB hb
            clear hb
            go_wp2_with fail
            refine (same6_yes uX vX uY vY).mono ?_
            rintro e w25 ⟨rfl, hb⟩
            replace xa := keepC hb xa
            replace ya := keepC hb ya
            replace za := keepC hb za
            replace xb := keepC hb xb
            replace yb := keepC hb yb
            replace zb := keepC hb zb
            replace xAB := keepC hb xAB
            replace yAB := keepC hb yAB
            replace zAB := keepC hb zAB
            replace xBA := keepC hb xBA
            replace yBA := keepC hb yBA
            replace zBA := keepC hb zBA
            replace xX := keepC hb xX
            replace yX := keepC hb yX
            replace zX := keepC hb zX
            replace xY := keepC hb xY
            replace yY := keepC hb yY
            replace zY := keepC hb zY
            replace xP := keepC hb xP
            replace yP := keepC hb yP
            replace zP := keepC hb zP
            replace xQQ := keepC hb xQQ
            replace yQQ := keepC hb yQQ
            replace zQQ := keepC hb zQQ
            replace xUU := keepC hb xUU
            replace yUU := keepC hb yUU
            replace zUU := keepC hb zUU
            replace xVV := keepC hb xVV
            replace yVV := keepC hb yVV
            replace zVV := keepC hb zVV
            replace xNN := keepC hb xNN
            replace yNN := keepC hb yNN
            replace zNN := keepC hb zNN
            replace xOO := keepC hb xOO
            replace yOO := keepC hb yOO
            replace zOO := keepC hb zOO
            replace xBK := keepC hb xBK
            replace yBK := keepC hb yBK
            replace zBK := keepC hb zBK
            replace xZZ := keepC hb xZZ
            replace yZZ := keepC hb yZZ
            replace zZZ := keepC hb zZZ
            replace ua := ua.below hb
            replace va := va.below hb
            replace ub := ub.below hb
            replace vb := vb.below hb
            replace uAB := uAB.below hb
            replace vAB := vAB.below hb
            replace uBA := uBA.below hb
            replace vBA := vBA.below hb
            replace uX := uX.below hb
            replace vX := vX.below hb
            replace uY := uY.below hb
            replace vY := vY.below hb
            replace uP := uP.below hb
            replace vP := vP.below hb
            replace uQQ := uQQ.below hb
            replace vQQ := vQQ.below hb
            replace uUU := uUU.below hb
            replace vUU := vUU.below hb
            replace uVV := uVV.below hb
            replace vVV := vVV.below hb
            replace uNN := uNN.below hb
            replace vNN := vNN.below hb
            replace uOO := uOO.below hb
            replace vOO := vOO.below hb
            replace uBK := uBK.below hb
            replace vBK := vBK.below hb
            replace uZZ := uZZ.below hb
            replace vZZ := vZZ.below hb
            replace hB := from_ hB hb
            clear hb
            go_wp2_with fail
            refine (same6_yes uP vP uQQ vQQ).mono ?_
            rintro e w26 ⟨rfl, hb⟩
            replace xa := keepC hb xa
            replace ya := keepC hb ya
            replace za := keepC hb za
            replace xb := keepC hb xb
            replace yb := keepC hb yb
            replace zb := keepC hb zb
            replace xAB := keepC hb xAB
            replace yAB := keepC hb yAB
            replace zAB := keepC hb zAB
            replace xBA := keepC hb xBA
            replace yBA := keepC hb yBA
            replace zBA := keepC hb zBA
            replace xX := keepC hb xX
            replace yX := keepC hb yX
            replace zX := keepC hb zX
            replace xY := keepC hb xY
            replace yY := keepC hb yY
            replace zY := keepC hb zY
            replace xP := keepC hb xP
            replace yP := keepC hb yP
            replace zP := keepC hb zP
            replace xQQ := keepC hb xQQ
            replace yQQ := keepC hb yQQ
            replace zQQ := keepC hb zQQ
            replace xUU := keepC hb xUU
            replace yUU := keepC hb yUU
            replace zUU := keepC hb zUU
            replace xVV := keepC hb xVV
            replace yVV := keepC hb yVV
            replace zVV := keepC hb zVV
            replace xNN := keepC hb xNN
            replace yNN := keepC hb yNN
            replace zNN := keepC hb zNN
            replace xOO := keepC hb xOO
            replace yOO := keepC hb yOO
            replace zOO := keepC hb zOO
            replace xBK := keepC hb xBK
            replace yBK := keepC hb yBK
            replace zBK := keepC hb zBK
            replace xZZ := keepC hb xZZ
            replace yZZ := keepC hb yZZ
            replace zZZ := keepC hb zZZ
            replace ua := ua.below hb
            replace va := va.below hb
            replace ub := ub.below hb
            replace vb := vb.below hb
            replace uAB := uAB.below hb
            replace vAB := vAB.below hb
            replace uBA := uBA.below hb
            replace vBA := vBA.below hb
            replace uX := uX.below hb
            replace vX := vX.below hb
            replace uY := uY.below hb
            replace vY := vY.below hb
            replace uP := uP.below hb
            replace vP := vP.below hb
            replace uQQ := uQQ.below hb
            replace vQQ := vQQ.below hb
            replace uUU := uUU.below hb
            replace vUU := vUU.below hb
            replace uVV := uVV.below hb
            replace vVV := vVV.below hb
            replace uNN := uNN.below hb
            replace vNN := vNN.below hb
            replace uOO := uOO.below hb
            replace vOO := vOO.below hb
            replace uBK := uBK.below hb
            replace vBK := vBK.below hb
            replace uZZ := uZZ.below hb
            replace vZZ := vZZ.below hb
            replace hB := from_ hB hb
            clear hb
            go_wp2_with fail
            refine (same6_yes uUU vUU uVV vVV).mono ?_
            rintro e w27 ⟨rfl, hb⟩
            replace xa := keepC hb xa
            replace ya := keepC hb ya
            replace za := keepC hb za
            replace xb := keepC hb xb
            replace yb := keepC hb yb
            replace zb := keepC hb zb
            replace xAB := keepC hb xAB
            replace yAB := keepC hb yAB
            replace zAB := keepC hb zAB
            replace xBA := keepC hb xBA
            replace yBA := keepC hb yBA
            replace zBA := keepC hb zBA
            replace xX := keepC hb xX
            replace yX := keepC hb yX
            replace zX := keepC hb zX
            replace xY := keepC hb xY
            replace yY := keepC hb yY
            replace zY := keepC hb zY
            replace xP := keepC hb xP
            replace yP := keepC hb yP
            replace zP := keepC hb zP
            replace xQQ := keepC hb xQQ
            replace yQQ := keepC hb yQQ
            replace zQQ := keepC hb zQQ
            replace xUU := keepC hb xUU
            replace yUU := keepC hb yUU
            replace zUU := keepC hb zUU
            replace xVV := keepC hb xVV
            replace yVV := keepC hb yVV
            replace zVV := keepC hb zVV
            replace xNN := keepC hb xNN
            replace yNN := keepC hb yNN
            replace zNN := keepC hb zNN
            replace xOO := keepC hb xOO
            replace yOO := keepC hb yOO
            replace zOO := keepC hb zOO
            replace xBK := keepC hb xBK
            replace yBK := keepC hb yBK
            replace zBK := keepC hb zBK
            replace xZZ := keepC hb xZZ
            replace yZZ := keepC hb yZZ
            replace zZZ := keepC hb zZZ
            replace ua := ua.below hb
            replace va := va.below hb
            replace ub := ub.below hb
            replace vb := vb.below hb
            replace uAB := uAB.below hb
            replace vAB := vAB.below hb
            replace uBA := uBA.below hb
            replace vBA := vBA.below hb
            replace uX := uX.below hb
            replace vX := vX.below hb
            replace uY := uY.below hb
            replace vY := vY.below hb
            replace uP := uP.below hb
            replace vP := vP.below hb
            replace uQQ := uQQ.below hb
            replace vQQ := vQQ.below hb
            replace uUU := uUU.below hb
            replace vUU := vUU.below hb
            replace uVV := uVV.below hb
            replace vVV := vVV.below hb
            replace uNN := uNN.below hb
            replace vNN := vNN.below hb
            replace uOO := uOO.below hb
            replace vOO := vOO.below hb
            replace uBK := uBK.below hb
            replace vBK := vBK.below hb
            replace uZZ := uZZ.below hb
            replace vZZ := vZZ.below hb
            replace hB := from_ hB hb
            clear hb
            go_wp2_with fail
            refine (same6_yes uNN vNN uOO vOO).mono ?_
            rintro e w28 ⟨rfl, hb⟩
            replace xa := keepC hb xa
            replace ya := keepC hb ya
            replace za := keepC hb za
            replace xb := keepC hb xb
            replace yb := keepC hb yb
            replace zb := keepC hb zb
            replace xAB := keepC hb xAB
            replace yAB := keepC hb yAB
            replace zAB := keepC hb zAB
            replace xBA := keepC hb xBA
            replace yBA := keepC hb yBA
            replace zBA := keepC hb zBA
            replace xX := keepC hb xX
            replace yX := keepC hb yX
            replace zX := keepC hb zX
            replace xY := keepC hb xY
            replace yY := keepC hb yY
            replace zY := keepC hb zY
            replace xP := keepC hb xP
            replace yP := keepC hb yP
            replace zP := keepC hb zP
            replace xQQ := keepC hb xQQ
            replace yQQ := keepC hb yQQ
            replace zQQ := keepC hb zQQ
            replace xUU := keepC hb xUU
            replace yUU := keepC hb yUU
            replace zUU := keepC hb zUU
            replace xVV := keepC hb xVV
            replace yVV := keepC hb yVV
            replace zVV := keepC hb zVV
            replace xNN := keepC hb xNN
            replace yNN := keepC hb yNN
            replace zNN := keepC hb zNN
            replace xOO := keepC hb xOO
            replace yOO := keepC hb yOO
            replace zOO := keepC hb zOO
            replace xBK := keepC hb xBK
            replace yBK := keepC hb yBK
            replace zBK := keepC hb zBK
            replace xZZ := keepC hb xZZ
            replace yZZ := keepC hb yZZ
            replace zZZ := keepC hb zZZ
            replace ua := ua.below hb
            replace va := va.below hb
            replace ub := ub.below hb
            replace vb := vb.below hb
            replace uAB := uAB.below hb
            replace vAB := vAB.below hb
            replace uBA := uBA.below hb
            replace vBA := vBA.below hb
            replace uX := uX.below hb
            replace vX := vX.below hb
            replace uY := uY.below hb
            replace vY := vY.below hb
            replace uP := uP.below hb
            replace vP := vP.below hb
            replace uQQ := uQQ.below hb
            replace vQQ := vQQ.below hb
            replace uUU := uUU.below hb
            replace vUU := vUU.below hb
            replace uVV := uVV.below hb
            replace vVV := vVV.below hb
            replace uNN := uNN.below hb
            replace vNN := vNN.below hb
            replace uOO := uOO.below hb
            replace vOO := vOO.below hb
            replace uBK := uBK.below hb
            replace vBK := vBK.below hb
            replace uZZ := uZZ.below hb
            replace vZZ := vZZ.below hb
            replace hB := from_ hB hb
            clear hb
            clear xBA yBA zBA uBA vBA
            clear xX yX zX uX vX
            clear xY yY zY uY vY
            clear xQQ yQQ zQQ uQQ vQQ
            clear xUU yUU zUU uUU vUU
            clear xVV yVV zVV uVV vVV
            clear xNN yNN zNN uNN vNN
            clear xOO yOO zOO uOO vOO
            go_wp2_with fail
            refine (same6_yes uBK vBK ua va).mono ?_
            rintro e w29 ⟨rfl, hb⟩
            replace xa := keepC hb xa
            replace ya := keepC hb ya
            replace za := keepC hb za
            replace xb := keepC hb xb
            replace yb := keepC hb yb
            replace zb := keepC hb zb
            replace xAB := keepC hb xAB
            replace yAB := keepC hb yAB
            replace zAB := keepC hb zAB
            replace xP := keepC hb xP
            replace yP := keepC hb yP
            replace zP := keepC hb zP
            replace xBK := keepC hb xBK
            replace yBK := keepC hb yBK
            replace zBK := keepC hb zBK
            replace xZZ := keepC hb xZZ
            replace yZZ := keepC hb yZZ
            replace zZZ := keepC hb zZZ
            replace ua := ua.below hb
            replace va := va.below hb
            replace ub := ub.below hb
            replace vb := vb.below hb
            replace uAB := uAB.below hb
            replace vAB := vAB.below hb
            replace uP := uP.below hb
            replace vP := vP.below hb
            replace uBK := uBK.below hb
            replace vBK := vBK.below hb
            replace uZZ := uZZ.below hb
            replace vZZ := vZZ.below hb
            replace hB := from_ hB hb
            clear hb
            clear xBK yBK zBK uBK vBK
            go_wp2_with fail
            refine (checkQ_ok N_ab.out uAB vAB (by omega) (by omega)).mono ?_
            rintro e w30 ⟨rfl, hb⟩
            replace xa := keepC hb xa
            replace ya := keepC hb ya
            replace za := keepC hb za
            replace xb := keepC hb xb
            replace yb := keepC hb yb
            replace zb := keepC hb zb
            replace xAB := keepC hb xAB
            replace yAB := keepC hb yAB
            replace zAB := keepC hb zAB
            replace xP := keepC hb xP
            replace yP := keepC hb yP
            replace zP := keepC hb zP
            replace xZZ := keepC hb xZZ
            replace yZZ := keepC hb yZZ
            replace zZZ := keepC hb zZZ
            replace ua := ua.below hb
            replace va := va.below hb
            replace ub := ub.below hb
            replace vb := vb.below hb
            replace uAB := uAB.below hb
            replace vAB := vAB.below hb
            replace uP := uP.below hb
            replace vP := vP.below hb
            replace uZZ := uZZ.below hb
            replace vZZ := vZZ.below hb
            replace hB := from_ hB hb
            clear hb
            go_wp2_with fail
            refine (checkQ_ok N_p.out uP vP (by omega) (by omega)).mono ?_
            rintro e w31 ⟨rfl, hb⟩
            replace xa := keepC hb xa
            replace ya := keepC hb ya
            replace za := keepC hb za
            replace xb := keepC hb xb
            replace yb := keepC hb yb
            replace zb := keepC hb zb
            replace xAB := keepC hb xAB
            replace yAB := keepC hb yAB
            replace zAB := keepC hb zAB
            replace xP := keepC hb xP
            replace yP := keepC hb yP
            replace zP := keepC hb zP
            replace xZZ := keepC hb xZZ
            replace yZZ := keepC hb yZZ
            replace zZZ := keepC hb zZZ
            replace ua := ua.below hb
            replace va := va.below hb
            replace ub := ub.below hb
            replace vb := vb.below hb
            replace uAB := uAB.below hb
            replace vAB := vAB.below hb
            replace uP := uP.below hb
            replace vP := vP.below hb
            replace uZZ := uZZ.below hb
            replace vZZ := vZZ.below hb
            replace hB := from_ hB hb
            clear hb
            go_wp2
            go_ret
            exact ⟨by first | rfl | trivial, hB⟩
          · have z10 := div_len (p := P) h0
            have bl_z : lz.length ≤ 60 ∧ kz.length ≤ 60 := by omega
            have hR : R ≠ 0 := fun e => h0 (Rat.num_eq_zero.2 e)
            have HR := Lib.hid hR
            have H0 := Lib.hid h0
            clear h0 z10 hR
            have Gb := Lib.hid (And.intro g1 (And.intro g2 g3))
            clear z9 L_nA L_nB L_nC L_nab L_nbc L_nxx L_np L_nac L_nu L_nm2 L_nn L_nd L_nz nA nB nC nab nbc nxx np nac nu nm2 nn nd nz
            go_enter Tryz.func4, Tryz.ntmps4
            go_wp2_with fail
            refine (alive6 (ht.below hB)).mono ?_
            rintro e w1 ⟨rfl, hb⟩
            replace xa := keepC hb xa
            replace ya := keepC hb ya
            replace za := keepC hb za
            replace xb := keepC hb xb
            replace yb := keepC hb yb
            replace zb := keepC hb zb
            replace xc := keepC hb xc
            replace yc := keepC hb yc
            replace zc := keepC hb zc
            replace ua := ua.below hb
            replace va := va.below hb
            replace ub := ub.below hb
            replace vb := vb.below hb
            replace uc := uc.below hb
            replace vc := vc.below hb
            replace hB := from_ hB hb
            clear hb
            go_wp2_with fail
            refine (great6_no (n := 8) G0.out.1 G0.out.2 (by omega)).mono ?_
            rintro e w2 ⟨rfl, hb⟩
            replace xa := keepC hb xa
            replace ya := keepC hb ya
            replace za := keepC hb za
            replace xb := keepC hb xb
            replace yb := keepC hb yb
            replace zb := keepC hb zb
            replace xc := keepC hb xc
            replace yc := keepC hb yc
            replace zc := keepC hb zc
            replace ua := ua.below hb
            replace va := va.below hb
            replace ub := ub.below hb
            replace vb := vb.below hb
            replace uc := uc.below hb
            replace vc := vc.below hb
            replace hB := from_ hB hb
            clear hb
            go_wp2_with fail
            refine (great6_no (n := 8) G1.out.1 G1.out.2 (by omega)).mono ?_
            rintro e w3 ⟨rfl, hb⟩
            replace xa := keepC hb xa
            replace ya := keepC hb ya
            replace za := keepC hb za
            replace xb := keepC hb xb
            replace yb := keepC hb yb
            replace zb := keepC hb zb
            replace xc := keepC hb xc
            replace yc := keepC hb yc
            replace zc := keepC hb zc
            replace ua := ua.below hb
            replace va := va.below hb
            replace ub := ub.below hb
            replace vb := vb.below hb
            replace uc := uc.below hb
            replace vc := vc.below hb
            replace hB := from_ hB hb
            clear hb
            go_wp2_with fail
            refine (great6_no (n := 8) G2.out.1 G2.out.2 (by omega)).mono ?_
            rintro e w4 ⟨rfl, hb⟩
            replace xa := keepC hb xa
            replace ya := keepC hb ya
            replace za := keepC hb za
            replace xb := keepC hb xb
            replace yb := keepC hb yb
            replace zb := keepC hb zb
            replace xc := keepC hb xc
            replace yc := keepC hb yc
            replace zc := keepC hb zc
            replace ua := ua.below hb
            replace va := va.below hb
            replace ub := ub.below hb
            replace vb := vb.below hb
            replace uc := uc.below hb
            replace vc := vc.below hb
            replace hB := from_ hB hb
            clear hb
            go_wp2_with fail
            refine (checkQ_ok N_a.out ua va (by omega) (by omega)).mono ?_
            rintro e w5 ⟨rfl, hb⟩
            replace xa := keepC hb xa
            replace ya := keepC hb ya
            replace za := keepC hb za
            replace xb := keepC hb xb
            replace yb := keepC hb yb
            replace zb := keepC hb zb
            replace xc := keepC hb xc
            replace yc := keepC hb yc
            replace zc := keepC hb zc
            replace ua := ua.below hb
            replace va := va.below hb
            replace ub := ub.below hb
            replace vb := vb.below hb
            replace uc := uc.below hb
            replace vc := vc.below hb
            replace hB := from_ hB hb
            clear hb
            go_wp2_with fail
            refine (checkQ_ok N_b.out ub vb (by omega) (by omega)).mono ?_
            rintro e w6 ⟨rfl, hb⟩
            replace xa := keepC hb xa
            replace ya := keepC hb ya
            replace za := keepC hb za
            replace xb := keepC hb xb
            replace yb := keepC hb yb
            replace zb := keepC hb zb
            replace xc := keepC hb xc
            replace yc := keepC hb yc
            replace zc := keepC hb zc
            replace ua := ua.below hb
            replace va := va.below hb
            replace ub := ub.below hb
            replace vb := vb.below hb
            replace uc := uc.below hb
            replace vc := vc.below hb
            replace hB := from_ hB hb
            clear hb
            go_wp2_with fail
            refine (checkQ_ok N_c.out uc vc (by omega) (by omega)).mono ?_
            rintro e w7 ⟨rfl, hb⟩
            replace xa := keepC hb xa
            replace ya := keepC hb ya
            replace za := keepC hb za
            replace xb := keepC hb xb
            replace yb := keepC hb yb
            replace zb := keepC hb zb
            replace xc := keepC hb xc
            replace yc := keepC hb yc
            replace zc := keepC hb zc
            replace ua := ua.below hb
            replace va := va.below hb
            replace ub := ub.below hb
            replace vb := vb.below hb
            replace uc := uc.below hb
            replace vc := vc.below hb
            replace hB := from_ hB hb
            clear hb
            go_wp2_with fail
            refine (radd_q N_a.out N_b.out N_ab.out rfl ua va ub vb (by omega) (by omega) (by omega) (by omega)).mono ?_
            rintro e w8 ⟨A8, c8, B8, d8, rfl, uAB, vAB, hb⟩
            have hal : Below w8.heap.size w8 (w8.alloc (.cells #[.bool sab, .slice A8 lab.length c8, .slice B8 kab.length d8] 28)) := (Below.refl _ _).alloc (Nat.le_refl _) _
            replace uAB := uAB.below hal
            replace vAB := vAB.below hal
            obtain ⟨xAB, yAB, zAB, _, _, _, _⟩ := Box3.new w8 (.bool sab) (.slice A8 lab.length c8) (.slice B8 kab.length d8) 28
            have hs := from_ hb hal
            replace xa := keepC hs xa
            replace ya := keepC hs ya
            replace za := keepC hs za
            replace xb := keepC hs xb
            replace yb := keepC hs yb
            replace zb := keepC hs zb
            replace xc := keepC hs xc
            replace yc := keepC hs yc
            replace zc := keepC hs zc
            replace ua := ua.below hs
            replace va := va.below hs
            replace ub := ub.below hs
            replace vb := vb.below hs
            replace uc := uc.below hs
            replace vc := vc.below hs
            replace hB := from_ hB hs
            clear hb hal hs
            go_wp2_with fail
            refine (radd_q N_b.out N_a.out N_ab.out (Rat.add_comm R P) ub vb ua va (by omega) (by omega) (by omega) (by omega)).mono ?_
            rintro e w9 ⟨A9, c9, B9, d9, rfl, uBA, vBA, hb⟩
            have hal : Below w9.heap.size w9 (w9.alloc (.cells #[.bool sab, .slice A9 lab.length c9, .slice B9 kab.length d9] 28)) := (Below.refl _ _).alloc (Nat.le_refl _) _
            replace uBA := uBA.below hal
            replace vBA := vBA.below hal
            obtain ⟨xBA, yBA, zBA, _, _, _, _⟩ := Box3.new w9 (.bool sab) (.slice A9 lab.length c9) (.slice B9 kab.length d9) 28
            have hs := from_ hb hal
            replace xa := keepC hs xa
            replace ya := keepC hs ya
            replace za := keepC hs za
            replace xb := keepC hs xb
            replace yb := keepC hs yb
            replace zb := keepC hs zb
            replace xc := keepC hs xc
            replace yc := keepC hs yc
            replace zc := keepC hs zc
            replace xAB := keepC hs xAB
            replace yAB := keepC hs yAB
            replace zAB := keepC hs zAB
            replace ua := ua.below hs
            replace va := va.below hs
            replace ub := ub.below hs
            replace vb := vb.below hs
            replace uc := uc.below hs
            replace vc := vc.below hs
            replace uAB := uAB.below hs
            replace vAB := vAB.below hs
            replace hB := from_ hB hs
            clear hb hal hs
            go_wp2_with fail
            refine (radd_q N_b.out N_c.out N_bc.out rfl ub vb uc vc (by omega) (by omega) (by omega) (by omega)).mono ?_
            rintro e w10 ⟨A10, c10, B10, d10, rfl, uBC, vBC, hb⟩
            have hal : Below w10.heap.size w10 (w10.alloc (.cells #[.bool sbc, .slice A10 lbc.length c10, .slice B10 kbc.length d10] 28)) := (Below.refl _ _).alloc (Nat.le_refl _) _
            replace uBC := uBC.below hal
            replace vBC := vBC.below hal
            obtain ⟨xBC, yBC, zBC, _, _, _, _⟩ := Box3.new w10 (.bool sbc) (.slice A10 lbc.length c10) (.slice B10 kbc.length d10) 28
            have hs := from_ hb hal
            replace xa := keepC hs xa
            replace ya := keepC hs ya
            replace za := keepC hs za
            replace xb := keepC hs xb
            replace yb := keepC hs yb
            replace zb := keepC hs zb
            replace xc := keepC hs xc
            replace yc := keepC hs yc
            replace zc := keepC hs zc
            replace xAB := keepC hs xAB
            replace yAB := keepC hs yAB
            replace zAB := keepC hs zAB
            replace xBA := keepC hs xBA
            replace yBA := keepC hs yBA
            replace zBA := keepC hs zBA
            replace ua := ua.below hs
            replace va := va.below hs
            replace ub := ub.below hs
            replace vb := vb.below hs
            replace uc := uc.below hs
            replace vc := vc.below hs
            replace uAB := uAB.below hs
            replace vAB := vAB.below hs
            replace uBA := uBA.below hs
            replace vBA := vBA.below hs
            replace hB := from_ hB hs
            clear hb hal hs
            go_wp2_with fail
            refine (radd_q N_ab.out N_c.out N_xx.out rfl uAB vAB uc vc (by omega) (by omega) (by omega) (by omega)).mono ?_
            rintro e w11 ⟨A11, c11, B11, d11, rfl, uX, vX, hb⟩
            have hal : Below w11.heap.size w11 (w11.alloc (.cells #[.bool sxx, .slice A11 lxx.length c11, .slice B11 kxx.length d11] 28)) := (Below.refl _ _).alloc (Nat.le_refl _) _
            replace uX := uX.below hal
            replace vX := vX.below hal
            obtain ⟨xX, yX, zX, _, _, _, _⟩ := Box3.new w11 (.bool sxx) (.slice A11 lxx.length c11) (.slice B11 kxx.length d11) 28
            have hs := from_ hb hal
            replace xa := keepC hs xa
            replace ya := keepC hs ya
            replace za := keepC hs za
            replace xb := keepC hs xb
            replace yb := keepC hs yb
            replace zb := keepC hs zb
            replace xc := keepC hs xc
            replace yc := keepC hs yc
            replace zc := keepC hs zc
            replace xAB := keepC hs xAB
            replace yAB := keepC hs yAB
            replace zAB := keepC hs zAB
            replace xBA := keepC hs xBA
            replace yBA := keepC hs yBA
            replace zBA := keepC hs zBA
            replace xBC := keepC hs xBC
            replace yBC := keepC hs yBC
            replace zBC := keepC hs zBC
            replace ua := ua.below hs
            replace va := va.below hs
            replace ub := ub.below hs
            replace vb := vb.below hs
            replace uc := uc.below hs
            replace vc := vc.below hs
            replace uAB := uAB.below hs
            replace vAB := vAB.below hs
            replace uBA := uBA.below hs
            replace vBA := vBA.below hs
            replace uBC := uBC.below hs
            replace vBC := vBC.below hs
            replace hB := from_ hB hs
            clear hb hal hs
            go_wp2_with fail
            refine (radd_q N_a.out N_bc.out N_xx.out (Rat.add_assoc P R S).symm ua va uBC vBC (by omega) (by omega) (by omega) (by omega)).mono ?_
            rintro e w12 ⟨A12, c12, B12, d12, rfl, uY, vY, hb⟩
            have hal : Below w12.heap.size w12 (w12.alloc (.cells #[.bool sxx, .slice A12 lxx.length c12, .slice B12 kxx.length d12] 28)) := (Below.refl _ _).alloc (Nat.le_refl _) _
            replace uY := uY.below hal
            replace vY := vY.below hal
            obtain ⟨xY, yY, zY, _, _, _, _⟩ := Box3.new w12 (.bool sxx) (.slice A12 lxx.length c12) (.slice B12 kxx.length d12) 28
            have hs := from_ hb hal
            replace xa := keepC hs xa
            replace ya := keepC hs ya
            replace za := keepC hs za
            replace xb := keepC hs xb
            replace yb := keepC hs yb
            replace zb := keepC hs zb
            replace xc := keepC hs xc
            replace yc := keepC hs yc
            replace zc := keepC hs zc
            replace xAB := keepC hs xAB
            replace yAB := keepC hs yAB
            replace zAB := keepC hs zAB
            replace xBA := keepC hs xBA
            replace yBA := keepC hs yBA
            replace zBA := keepC hs zBA
            replace xBC := keepC hs xBC
            replace yBC := keepC hs yBC
            replace zBC := keepC hs zBC
            replace xX := keepC hs xX
            replace yX := keepC hs yX
            replace zX := keepC hs zX
            replace ua := ua.below hs
            replace va := va.below hs
            replace ub := ub.below hs
            replace vb := vb.below hs
            replace uc := uc.below hs
            replace vc := vc.below hs
            replace uAB := uAB.below hs
            replace vAB := vAB.below hs
            replace uBA := uBA.below hs
            replace vBA := vBA.below hs
            replace uBC := uBC.below hs
            replace vBC := vBC.below hs
            replace uX := uX.below hs
            replace vX := vX.below hs
            replace hB := from_ hB hs
            clear hb hal hs
            go_wp2_with fail
            refine (rmul_q N_a.out N_b.out N_p.out rfl ua va ub vb (by omega) (by omega) (by omega) (by omega)).mono ?_
            rintro e w13 ⟨A13, c13, B13, d13, rfl, uP, vP, hb⟩
            have hal : Below w13.heap.size w13 (w13.alloc (.cells #[.bool sp, .slice A13 lp.length c13, .slice B13 kp.length d13] 28)) := (Below.refl _ _).alloc (Nat.le_refl _) _
            replace uP := uP.below hal
            replace vP := vP.below hal
            obtain ⟨xP, yP, zP, _, _, _, _⟩ := Box3.new w13 (.bool sp) (.slice A13 lp.length c13) (.slice B13 kp.length d13) 28
            have hs := from_ hb hal
            replace xa := keepC hs xa
            replace ya := keepC hs ya
            replace za := keepC hs za
            replace xb := keepC hs xb
            replace yb := keepC hs yb
            replace zb := keepC hs zb
            replace xc := keepC hs xc
            replace yc := keepC hs yc
            replace zc := keepC hs zc
            replace xAB := keepC hs xAB
            replace yAB := keepC hs yAB
            replace zAB := keepC hs zAB
            replace xBA := keepC hs xBA
            replace yBA := keepC hs yBA
            replace zBA := keepC hs zBA
            replace xBC := keepC hs xBC
            replace yBC := keepC hs yBC
            replace zBC := keepC hs zBC
            replace xX := keepC hs xX
            replace yX := keepC hs yX
            replace zX := keepC hs zX
            replace xY := keepC hs xY
            replace yY := keepC hs yY
            replace zY := keepC hs zY
            replace ua := ua.below hs
            replace va := va.below hs
            replace ub := ub.below hs
            replace vb := vb.below hs
            replace uc := uc.below hs
            replace vc := vc.below hs
            replace uAB := uAB.below hs
            replace vAB := vAB.below hs
            replace uBA := uBA.below hs
            replace vBA := vBA.below hs
            replace uBC := uBC.below hs
            replace vBC := vBC.below hs
            replace uX := uX.below hs
            replace vX := vX.below hs
            replace uY := uY.below hs
            replace vY := vY.below hs
            replace hB := from_ hB hs
            clear hb hal hs
            go_wp2_with fail
            refine (rmul_q N_b.out N_a.out N_p.out (Rat.mul_comm R P) ub vb ua va (by omega) (by omega) (by omega) (by omega)).mono ?_
            rintro e w14 ⟨A14, c14, B14, d14, rfl, uQQ, vQQ, hb⟩
            have hal : Below w14.heap.size w14 (w14.alloc (.cells #[.bool sp, .slice A14 lp.length c14, .slice B14 kp.length d14] 28)) := (Below.refl _ _).alloc (Nat.le_refl _) _
            replace uQQ := uQQ.below hal
            replace vQQ := vQQ.below hal
            obtain ⟨xQQ, yQQ, zQQ, _, _, _, _⟩ := Box3.new w14 (.bool sp) (.slice A14 lp.length c14) (.slice B14 kp.length d14) 28
            have hs := from_ hb hal
            replace xa := keepC hs xa
            replace ya := keepC hs ya
            replace za := keepC hs za
            replace xb := keepC hs xb
            replace yb := keepC hs yb
            replace zb := keepC hs zb
            replace xc := keepC hs xc
            replace yc := keepC hs yc
            replace zc := keepC hs zc
            replace xAB := keepC hs xAB
            replace yAB := keepC hs yAB
            replace zAB := keepC hs zAB
            replace xBA := keepC hs xBA
            replace yBA := keepC hs yBA
            replace zBA := keepC hs zBA
            replace xBC := keepC hs xBC
            replace yBC := keepC hs yBC
            replace zBC := keepC hs zBC
            replace xX := keepC hs xX
            replace yX := keepC hs yX
            replace zX := keepC hs zX
            replace xY := keepC hs xY
            replace yY := keepC hs yY
            replace zY := keepC hs zY
            replace xP := keepC hs xP
            replace yP := keepC hs yP
            replace zP := keepC hs zP
            replace ua := ua.below hs
            replace va := va.below hs
            replace ub := ub.below hs
            replace vb := vb.below hs
            replace uc := uc.below hs
            replace vc := vc.below hs
            replace uAB := uAB.below hs
            replace vAB := vAB.below hs
            replace uBA := uBA.below hs
            replace vBA := vBA.below hs
            replace uBC := uBC.below hs
            replace vBC := vBC.below hs
            replace uX := uX.below hs
            replace vX := vX.below hs
            replace uY := uY.below hs
            replace vY := vY.below hs
            replace uP := uP.below hs
            replace vP := vP.below hs
            replace hB := from_ hB hs
            clear hb hal hs
            go_wp2_with fail
            refine (rmul_q N_a.out N_c.out N_ac.out rfl ua va uc vc (by omega) (by omega) (by omega) (by omega)).mono ?_
            rintro e w15 ⟨A15, c15, B15, d15, rfl, uAC, vAC, hb⟩
            have hal : Below w15.heap.size w15 (w15.alloc (.cells #[.bool sac, .slice A15 lac.length c15, .slice B15 kac.length d15] 28)) := (Below.refl _ _).alloc (Nat.le_refl _) _
            replace uAC := uAC.below hal
            replace vAC := vAC.below hal
            obtain ⟨xAC, yAC, zAC, _, _, _, _⟩ := Box3.new w15 (.bool sac) (.slice A15 lac.length c15) (.slice B15 kac.length d15) 28
            have hs := from_ hb hal
            replace xa := keepC hs xa
            replace ya := keepC hs ya
            replace za := keepC hs za
            replace xb := keepC hs xb
            replace yb := keepC hs yb
            replace zb := keepC hs zb
            replace xc := keepC hs xc
            replace yc := keepC hs yc
            replace zc := keepC hs zc
            replace xAB := keepC hs xAB
            replace yAB := keepC hs yAB
            replace zAB := keepC hs zAB
            replace xBA := keepC hs xBA
            replace yBA := keepC hs yBA
            replace zBA := keepC hs zBA
            replace xBC := keepC hs xBC
            replace yBC := keepC hs yBC
            replace zBC := keepC hs zBC
            replace xX := keepC hs xX
            replace yX := keepC hs yX
            replace zX := keepC hs zX
            replace xY := keepC hs xY
            replace yY := keepC hs yY
            replace zY := keepC hs zY
            replace xP := keepC hs xP
            replace yP := keepC hs yP
            replace zP := keepC hs zP
            replace xQQ := keepC hs xQQ
            replace yQQ := keepC hs yQQ
            replace zQQ := keepC hs zQQ
            replace ua := ua.below hs
            replace va := va.below hs
            replace ub := ub.below hs
            replace vb := vb.below hs
            replace uc := uc.below hs
            replace vc := vc.below hs
            replace uAB := uAB.below hs
            replace vAB := vAB.below hs
            replace uBA := uBA.below hs
            replace vBA := vBA.below hs
            replace uBC := uBC.below hs
            replace vBC := vBC.below hs
            replace uX := uX.below hs
            replace vX := vX.below hs
            replace uY := uY.below hs
            replace vY := vY.below hs
            replace uP := uP.below hs
            replace vP := vP.below hs
            replace uQQ := uQQ.below hs
            replace vQQ := vQQ.below hs
            replace hB := from_ hB hs
            clear hb hal hs
            go_wp2_with fail
            refine (rmul_q N_a.out N_bc.out N_u.out rfl ua va uBC vBC (by omega) (by omega) (by omega) (by omega)).mono ?_
            rintro e w16 ⟨A16, c16, B16, d16, rfl, uUU, vUU, hb⟩
            have hal : Below w16.heap.size w16 (w16.alloc (.cells #[.bool su, .slice A16 lu.length c16, .slice B16 ku.length d16] 28)) := (Below.refl _ _).alloc (Nat.le_refl _) _
            replace uUU := uUU.below hal
            replace vUU := vUU.below hal
            obtain ⟨xUU, yUU, zUU, _, _, _, _⟩ := Box3.new w16 (.bool su) (.slice A16 lu.length c16) (.slice B16 ku.length d16) 28
            have hs := from_ hb hal
            replace xa := keepC hs xa
            replace ya := keepC hs ya
            replace za := keepC hs za
            replace xb := keepC hs xb
            replace yb := keepC hs yb
            replace zb := keepC hs zb
            replace xc := keepC hs xc
            replace yc := keepC hs yc
            replace zc := keepC hs zc
            replace xAB := keepC hs xAB
            replace yAB := keepC hs yAB
            replace zAB := keepC hs zAB
            replace xBA := keepC hs xBA
            replace yBA := keepC hs yBA
            replace zBA := keepC hs zBA
            replace xBC := keepC hs xBC
            replace yBC := keepC hs yBC
            replace zBC := keepC hs zBC
            replace xX := keepC hs xX
            replace yX := keepC hs yX
            replace zX := keepC hs zX
            replace xY := keepC hs xY
            replace yY := keepC hs yY
            replace zY := keepC hs zY
            replace xP := keepC hs xP
            replace yP := keepC hs yP
            replace zP := keepC hs zP
            replace xQQ := keepC hs xQQ
            replace yQQ := keepC hs yQQ
            replace zQQ := keepC hs zQQ
            replace xAC := keepC hs xAC
            replace yAC := keepC hs yAC
            replace zAC := keepC hs zAC
            replace ua := ua.below hs
            replace va := va.below hs
            replace ub := ub.below hs
            replace vb := vb.below hs
            replace uc := uc.below hs
            replace vc := vc.below hs
            replace uAB := uAB.below hs
            replace vAB := vAB.below hs
            replace uBA := uBA.below hs
            replace vBA := vBA.below hs
            replace uBC := uBC.below hs
            replace vBC := vBC.below hs
            replace uX := uX.below hs
            replace vX := vX.below hs
            replace uY := uY.below hs
            replace vY := vY.below hs
            replace uP := uP.below hs
            replace vP := vP.below hs
            replace uQQ := uQQ.below hs
            replace vQQ := vQQ.below hs
            replace uAC := uAC.below hs
            replace vAC := vAC.below hs
            replace hB := from_ hB hs
            clear hb hal hs
            clear xBC yBC zBC uBC vBC
            go_wp2_with fail
            refine (radd_q N_p.out N_ac.out N_u.out (Rat.mul_add P R S).symm uP vP uAC vAC (by omega) (by omega) (by omega) (by omega)).mono ?_
            rintro e w17 ⟨A17, c17, B17, d17, rfl, uVV, vVV, hb⟩
            have hal : Below w17.heap.size w17 (w17.alloc (.cells #[.bool su, .slice A17 lu.length c17, .slice B17 ku.length d17] 28)) := (Below.refl _ _).alloc (Nat.le_refl _) _
            replace uVV := uVV.below hal
            replace vVV := vVV.below hal
            obtain ⟨xVV, yVV, zVV, _, _, _, _⟩ := Box3.new w17 (.bool su) (.slice A17 lu.length c17) (.slice B17 ku.length d17) 28
            have hs := from_ hb hal
            replace xa := keepC hs xa
            replace ya := keepC hs ya
            replace za := keepC hs za
            replace xb := keepC hs xb
            replace yb := keepC hs yb
            replace zb := keepC hs zb
            replace xc := keepC hs xc
            replace yc := keepC hs yc
            replace zc := keepC hs zc
            replace xAB := keepC hs xAB
            replace yAB := keepC hs yAB
            replace zAB := keepC hs zAB
            replace xBA := keepC hs xBA
            replace yBA := keepC hs yBA
            replace zBA := keepC hs zBA
            replace xX := keepC hs xX
            replace yX := keepC hs yX
            replace zX := keepC hs zX
            replace xY := keepC hs xY
            replace yY := keepC hs yY
            replace zY := keepC hs zY
            replace xP := keepC hs xP
            replace yP := keepC hs yP
            replace zP := keepC hs zP
            replace xQQ := keepC hs xQQ
            replace yQQ := keepC hs yQQ
            replace zQQ := keepC hs zQQ
            replace xAC := keepC hs xAC
            replace yAC := keepC hs yAC
            replace zAC := keepC hs zAC
            replace xUU := keepC hs xUU
            replace yUU := keepC hs yUU
            replace zUU := keepC hs zUU
            replace ua := ua.below hs
            replace va := va.below hs
            replace ub := ub.below hs
            replace vb := vb.below hs
            replace uc := uc.below hs
            replace vc := vc.below hs
            replace uAB := uAB.below hs
            replace vAB := vAB.below hs
            replace uBA := uBA.below hs
            replace vBA := vBA.below hs
            replace uX := uX.below hs
            replace vX := vX.below hs
            replace uY := uY.below hs
            replace vY := vY.below hs
            replace uP := uP.below hs
            replace vP := vP.below hs
            replace uQQ := uQQ.below hs
            replace vQQ := vQQ.below hs
            replace uAC := uAC.below hs
            replace vAC := vAC.below hs
            replace uUU := uUU.below hs
            replace vUU := vUU.below hs
            replace hB := from_ hB hs
            clear hb hal hs
            clear xAC yAC zAC uAC vAC
            go_wp2_with fail
            refine (rmul_q N_b.out N_c.out N_m2.out rfl ub vb uc vc (by omega) (by omega) (by omega) (by omega)).mono ?_
            rintro e w18 ⟨A18, c18, B18, d18, rfl, uMM, vMM, hb⟩
            have hal : Below w18.heap.size w18 (w18.alloc (.cells #[.bool sm2, .slice A18 lm2.length c18, .slice B18 km2.length d18] 28)) := (Below.refl _ _).alloc (Nat.le_refl _) _
            replace uMM := uMM.below hal
            replace vMM := vMM.below hal
            obtain ⟨xMM, yMM, zMM, _, _, _, _⟩ := Box3.new w18 (.bool sm2) (.slice A18 lm2.length c18) (.slice B18 km2.length d18) 28
            have hs := from_ hb hal
            replace xa := keepC hs xa
            replace ya := keepC hs ya
            replace za := keepC hs za
            replace xb := keepC hs xb
            replace yb := keepC hs yb
            replace zb := keepC hs zb
            replace xc := keepC hs xc
            replace yc := keepC hs yc
            replace zc := keepC hs zc
            replace xAB := keepC hs xAB
            replace yAB := keepC hs yAB
            replace zAB := keepC hs zAB
            replace xBA := keepC hs xBA
            replace yBA := keepC hs yBA
            replace zBA := keepC hs zBA
            replace xX := keepC hs xX
            replace yX := keepC hs yX
            replace zX := keepC hs zX
            replace xY := keepC hs xY
            replace yY := keepC hs yY
            replace zY := keepC hs zY
            replace xP := keepC hs xP
            replace yP := keepC hs yP
            replace zP := keepC hs zP
            replace xQQ := keepC hs xQQ
            replace yQQ := keepC hs yQQ
            replace zQQ := keepC hs zQQ
            replace xUU := keepC hs xUU
            replace yUU := keepC hs yUU
            replace zUU := keepC hs zUU
            replace xVV := keepC hs xVV
            replace yVV := keepC hs yVV
            replace zVV := keepC hs zVV
            replace ua := ua.below hs
            replace va := va.below hs
            replace ub := ub.below hs
            replace vb := vb.below hs
            replace uc := uc.below hs
            replace vc := vc.below hs
            replace uAB := uAB.below hs
            replace vAB := vAB.below hs
            replace uBA := uBA.below hs
            replace vBA := vBA.below hs
            replace uX := uX.below hs
            replace vX := vX.below hs
            replace uY := uY.below hs
            replace vY := vY.below hs
            replace uP := uP.below hs
            replace vP := vP.below hs
            replace uQQ := uQQ.below hs
            replace vQQ := vQQ.below hs
            replace uUU := uUU.below hs
            replace vUU := vUU.below hs
            replace uVV := uVV.below hs
            replace vVV := vVV.below hs
            replace hB := from_ hB hs
            clear hb hal hs
            go_wp2_with fail
            refine (rmul_q N_p.out N_c.out N_n.out rfl uP vP uc vc (by omega) (by omega) (by omega) (by omega)).mono ?_
            rintro e w19 ⟨A19, c19, B19, d19, rfl, uNN, vNN, hb⟩
            have hal : Below w19.heap.size w19 (w19.alloc (.cells #[.bool sn, .slice A19 ln.length c19, .slice B19 kn.length d19] 28)) := (Below.refl _ _).alloc (Nat.le_refl _) _
            replace uNN := uNN.below hal
            replace vNN := vNN.below hal
            obtain ⟨xNN, yNN, zNN, _, _, _, _⟩ := Box3.new w19 (.bool sn) (.slice A19 ln.length c19) (.slice B19 kn.length d19) 28
            have hs := from_ hb hal
            replace xa := keepC hs xa
            replace ya := keepC hs ya
            replace za := keepC hs za
            replace xb := keepC hs xb
            replace yb := keepC hs yb
            replace zb := keepC hs zb
            replace xc := keepC hs xc
            replace yc := keepC hs yc
            replace zc := keepC hs zc
            replace xAB := keepC hs xAB
            replace yAB := keepC hs yAB
            replace zAB := keepC hs zAB
            replace xBA := keepC hs xBA
            replace yBA := keepC hs yBA
            replace zBA := keepC hs zBA
            replace xX := keepC hs xX
            replace yX := keepC hs yX
            replace zX := keepC hs zX
            replace xY := keepC hs xY
            replace yY := keepC hs yY
            replace zY := keepC hs zY
            replace xP := keepC hs xP
            replace yP := keepC hs yP
            replace zP := keepC hs zP
            replace xQQ := keepC hs xQQ
            replace yQQ := keepC hs yQQ
            replace zQQ := keepC hs zQQ
            replace xUU := keepC hs xUU
            replace yUU := keepC hs yUU
            replace zUU := keepC hs zUU
            replace xVV := keepC hs xVV
            replace yVV := keepC hs yVV
            replace zVV := keepC hs zVV
            replace xMM := keepC hs xMM
            replace yMM := keepC hs yMM
            replace zMM := keepC hs zMM
            replace ua := ua.below hs
            replace va := va.below hs
            replace ub := ub.below hs
            replace vb := vb.below hs
            replace uc := uc.below hs
            replace vc := vc.below hs
            replace uAB := uAB.below hs
            replace vAB := vAB.below hs
            replace uBA := uBA.below hs
            replace vBA := vBA.below hs
            replace uX := uX.below hs
            replace vX := vX.below hs
            replace uY := uY.below hs
            replace vY := vY.below hs
            replace uP := uP.below hs
            replace vP := vP.below hs
            replace uQQ := uQQ.below hs
            replace vQQ := vQQ.below hs
            replace uUU := uUU.below hs
            replace vUU := vUU.below hs
            replace uVV := uVV.below hs
            replace vVV := vVV.below hs
            replace uMM := uMM.below hs
            replace vMM := vMM.below hs
            replace hB := from_ hB hs
            clear hb hal hs
            go_wp2_with fail
            refine (rmul_q N_a.out N_m2.out N_n.out (Rat.mul_assoc P R S).symm ua va uMM vMM (by omega) (by omega) (by omega) (by omega)).mono ?_
            rintro e w20 ⟨A20, c20, B20, d20, rfl, uOO, vOO, hb⟩
            have hal : Below w20.heap.size w20 (w20.alloc (.cells #[.bool sn, .slice A20 ln.length c20, .slice B20 kn.length d20] 28)) := (Below.refl _ _).alloc (Nat.le_refl _) _
            replace uOO := uOO.below hal
            replace vOO := vOO.below hal
            obtain ⟨xOO, yOO, zOO, _, _, _, _⟩ := Box3.new w20 (.bool sn) (.slice A20 ln.length c20) (.slice B20 kn.length d20) 28
            have hs := from_ hb hal
            replace xa := keepC hs xa
            replace ya := keepC hs ya
            replace za := keepC hs za
            replace xb := keepC hs xb
            replace yb := keepC hs yb
            replace zb := keepC hs zb
            replace xc := keepC hs xc
            replace yc := keepC hs yc
            replace zc := keepC hs zc
            replace xAB := keepC hs xAB
            replace yAB := keepC hs yAB
            replace zAB := keepC hs zAB
            replace xBA := keepC hs xBA
            replace yBA := keepC hs yBA
            replace zBA := keepC hs zBA
            replace xX := keepC hs xX
            replace yX := keepC hs yX
            replace zX := keepC hs zX
            replace xY := keepC hs xY
            replace yY := keepC hs yY
            replace zY := keepC hs zY
            replace xP := keepC hs xP
            replace yP := keepC hs yP
            replace zP := keepC hs zP
            replace xQQ := keepC hs xQQ
            replace yQQ := keepC hs yQQ
            replace zQQ := keepC hs zQQ
            replace xUU := keepC hs xUU
            replace yUU := keepC hs yUU
            replace zUU := keepC hs zUU
            replace xVV := keepC hs xVV
            replace yVV := keepC hs yVV
            replace zVV := keepC hs zVV
            replace xMM := keepC hs xMM
            replace yMM := keepC hs yMM
            replace zMM := keepC hs zMM
            replace xNN := keepC hs xNN
            replace yNN := keepC hs yNN
            replace zNN := keepC hs zNN
            replace ua := ua.below hs
            replace va := va.below hs
            replace ub := ub.below hs
            replace vb := vb.below hs
            replace uc := uc.below hs
            replace vc := vc.below hs
            replace uAB := uAB.below hs
            replace vAB := vAB.below hs
            replace uBA := uBA.below hs
            replace vBA := vBA.below hs
            replace uX := uX.below hs
            replace vX := vX.below hs
            replace uY := uY.below hs
            replace vY := vY.below hs
            replace uP := uP.below hs
            replace vP := vP.below hs
            replace uQQ := uQQ.below hs
            replace vQQ := vQQ.below hs
            replace uUU := uUU.below hs
            replace vUU := vUU.below hs
            replace uVV := uVV.below hs
            replace vVV := vVV.below hs
            replace uMM := uMM.below hs
            replace vMM := vMM.below hs
            replace uNN := uNN.below hs
            replace vNN := vNN.below hs
            replace hB := from_ hB hs
            clear hb hal hs
            clear xMM yMM zMM uMM vMM
            clear xc yc zc uc vc
            go_wp2_with fail
            refine (rsub_q N_a.out N_b.out N_d.out rfl ua va ub vb (by omega) (by omega) (by omega) (by omega)).mono ?_
            rintro e w21 ⟨A21, c21, B21, d21, rfl, uDD, vDD, hb⟩
            have hal : Below w21.heap.size w21 (w21.alloc (.cells #[.bool sd, .slice A21 ld.length c21, .slice B21 kd.length d21] 28)) := (Below.refl _ _).alloc (Nat.le_refl _) _
            replace uDD := uDD.below hal
            replace vDD := vDD.below hal
            obtain ⟨xDD, yDD, zDD, _, _, _, _⟩ := Box3.new w21 (.bool sd) (.slice A21 ld.length c21) (.slice B21 kd.length d21) 28
            have hs := from_ hb hal
            replace xa := keepC hs xa
            replace ya := keepC hs ya
            replace za := keepC hs za
            replace xb := keepC hs xb
            replace yb := keepC hs yb
            replace zb := keepC hs zb
            replace xAB := keepC hs xAB
            replace yAB := keepC hs yAB
            replace zAB := keepC hs zAB
            replace xBA := keepC hs xBA
            replace yBA := keepC hs yBA
            replace zBA := keepC hs zBA
            replace xX := keepC hs xX
            replace yX := keepC hs yX
            replace zX := keepC hs zX
            replace xY := keepC hs xY
            replace yY := keepC hs yY
            replace zY := keepC hs zY
            replace xP := keepC hs xP
            replace yP := keepC hs yP
            replace zP := keepC hs zP
            replace xQQ := keepC hs xQQ
            replace yQQ := keepC hs yQQ
            replace zQQ := keepC hs zQQ
            replace xUU := keepC hs xUU
            replace yUU := keepC hs yUU
            replace zUU := keepC hs zUU
            replace xVV := keepC hs xVV
            replace yVV := keepC hs yVV
            replace zVV := keepC hs zVV
            replace xNN := keepC hs xNN
            replace yNN := keepC hs yNN
            replace zNN := keepC hs zNN
            replace xOO := keepC hs xOO
            replace yOO := keepC hs yOO
            replace zOO := keepC hs zOO
            replace ua := ua.below hs
            replace va := va.below hs
            replace ub := ub.below hs
            replace vb := vb.below hs
            replace uAB := uAB.below hs
            replace vAB := vAB.below hs
            replace uBA := uBA.below hs
            replace vBA := vBA.below hs
            replace uX := uX.below hs
            replace vX := vX.below hs
            replace uY := uY.below hs
            replace vY := vY.below hs
            replace uP := uP.below hs
            replace vP := vP.below hs
            replace uQQ := uQQ.below hs
            replace vQQ := vQQ.below hs
            replace uUU := uUU.below hs
            replace vUU := vUU.below hs
            replace uVV := uVV.below hs
            replace vVV := vVV.below hs
            replace uNN := uNN.below hs
            replace vNN := vNN.below hs
            replace uOO := uOO.below hs
            replace vOO := vOO.below hs
            replace hB := from_ hB hs
            clear hb hal hs
            go_wp2_with fail
            refine (radd_q N_d.out N_b.out N_a.out Rat.sub_add_cancel uDD vDD ub vb (by omega) (by omega) (by omega) (by omega)).mono ?_
            rintro e w22 ⟨A22, c22, B22, d22, rfl, uBK, vBK, hb⟩
            have hal : Below w22.heap.size w22 (w22.alloc (.cells #[.bool s, .slice A22 l.length c22, .slice B22 k.length d22] 28)) := (Below.refl _ _).alloc (Nat.le_refl _) _
            replace uBK := uBK.below hal
            replace vBK := vBK.below hal
            obtain ⟨xBK, yBK, zBK, _, _, _, _⟩ := Box3.new w22 (.bool s) (.slice A22 l.length c22) (.slice B22 k.length d22) 28
            have hs := from_ hb hal
            replace xa := keepC hs xa
            replace ya := keepC hs ya
            replace za := keepC hs za
            replace xb := keepC hs xb
            replace yb := keepC hs yb
            replace zb := keepC hs zb
            replace xAB := keepC hs xAB
            replace yAB := keepC hs yAB
            replace zAB := keepC hs zAB
            replace xBA := keepC hs xBA
            replace yBA := keepC hs yBA
            replace zBA := keepC hs zBA
            replace xX := keepC hs xX
            replace yX := keepC hs yX
            replace zX := keepC hs zX
            replace xY := keepC hs xY
            replace yY := keepC hs yY
            replace zY := keepC hs zY
            replace xP := keepC hs xP
            replace yP := keepC hs yP
            replace zP := keepC hs zP
            replace xQQ := keepC hs xQQ
            replace yQQ := keepC hs yQQ
            replace zQQ := keepC hs zQQ
            replace xUU := keepC hs xUU
            replace yUU := keepC hs yUU
            replace zUU := keepC hs zUU
            replace xVV := keepC hs xVV
            replace yVV := keepC hs yVV
            replace zVV := keepC hs zVV
            replace xNN := keepC hs xNN
            replace yNN := keepC hs yNN
            replace zNN := keepC hs zNN
            replace xOO := keepC hs xOO
            replace yOO := keepC hs yOO
            replace zOO := keepC hs zOO
            replace xDD := keepC hs xDD
            replace yDD := keepC hs yDD
            replace zDD := keepC hs zDD
            replace ua := ua.below hs
            replace va := va.below hs
            replace ub := ub.below hs
            replace vb := vb.below hs
            replace uAB := uAB.below hs
            replace vAB := vAB.below hs
            replace uBA := uBA.below hs
            replace vBA := vBA.below hs
            replace uX := uX.below hs
            replace vX := vX.below hs
            replace uY := uY.below hs
            replace vY := vY.below hs
            replace uP := uP.below hs
            replace vP := vP.below hs
            replace uQQ := uQQ.below hs
            replace vQQ := vQQ.below hs
            replace uUU := uUU.below hs
            replace vUU := vUU.below hs
            replace uVV := uVV.below hs
            replace vVV := vVV.below hs
            replace uNN := uNN.below hs
            replace vNN := vNN.below hs
            replace uOO := uOO.below hs
            replace vOO := vOO.below hs
            replace uDD := uDD.below hs
            replace vDD := vDD.below hs
            replace hB := from_ hB hs
            clear hb hal hs
            clear xDD yDD zDD uDD vDD
            go_wp2_with fail
            refine (rdiv_q N_a.out N_b.out N_z.out rfl H0.out ua va ub vb (by omega) (by omega) (by omega) (by omega)).mono ?_
            rintro e w23 ⟨A23, c23, B23, d23, rfl, uZZ, vZZ, hb⟩
            have hal : Below w23.heap.size w23 (w23.alloc (.cells #[.bool sz, .slice A23 lz.length c23, .slice B23 kz.length d23] 28)) := (Below.refl _ _).alloc (Nat.le_refl _) _
            replace uZZ := uZZ.below hal
            replace vZZ := vZZ.below hal
            obtain ⟨xZZ, yZZ, zZZ, _, _, _, _⟩ := Box3.new w23 (.bool sz) (.slice A23 lz.length c23) (.slice B23 kz.length d23) 28
            have hs := from_ hb hal
            replace xa := keepC hs xa
            replace ya := keepC hs ya
            replace za := keepC hs za
            replace xb := keepC hs xb
            replace yb := keepC hs yb
            replace zb := keepC hs zb
            replace xAB := keepC hs xAB
            replace yAB := keepC hs yAB
            replace zAB := keepC hs zAB
            replace xBA := keepC hs xBA
            replace yBA := keepC hs yBA
            replace zBA := keepC hs zBA
            replace xX := keepC hs xX
            replace yX := keepC hs yX
            replace zX := keepC hs zX
            replace xY := keepC hs xY
            replace yY := keepC hs yY
            replace zY := keepC hs zY
            replace xP := keepC hs xP
            replace yP := keepC hs yP
            replace zP := keepC hs zP
            replace xQQ := keepC hs xQQ
            replace yQQ := keepC hs yQQ
            replace zQQ := keepC hs zQQ
            replace xUU := keepC hs xUU
            replace yUU := keepC hs yUU
            replace zUU := keepC hs zUU
            replace xVV := keepC hs xVV
            replace yVV := keepC hs yVV
            replace zVV := keepC hs zVV
            replace xNN := keepC hs xNN
            replace yNN := keepC hs yNN
            replace zNN := keepC hs zNN
            replace xOO := keepC hs xOO
            replace yOO := keepC hs yOO
            replace zOO := keepC hs zOO
            replace xBK := keepC hs xBK
            replace yBK := keepC hs yBK
            replace zBK := keepC hs zBK
            replace ua := ua.below hs
            replace va := va.below hs
            replace ub := ub.below hs
            replace vb := vb.below hs
            replace uAB := uAB.below hs
            replace vAB := vAB.below hs
            replace uBA := uBA.below hs
            replace vBA := vBA.below hs
            replace uX := uX.below hs
            replace vX := vX.below hs
            replace uY := uY.below hs
            replace vY := vY.below hs
            replace uP := uP.below hs
            replace vP := vP.below hs
            replace uQQ := uQQ.below hs
            replace vQQ := vQQ.below hs
            replace uUU := uUU.below hs
            replace vUU := vUU.below hs
            replace uVV := uVV.below hs
            replace vVV := vVV.below hs
            replace uNN := uNN.below hs
            replace vNN := vNN.below hs
            replace uOO := uOO.below hs
            replace vOO := vOO.below hs
            replace uBK := uBK.below hs
            replace vBK := vBK.below hs
            replace hB := from_ hB hs
            clear hb hal hs
            go_wp2_with fail
            refine (same6_yes uAB vAB uBA vBA).mono ?_
            rintro e w24 ⟨rfl, hb⟩
            replace xa := keepC hb xa
            replace ya := keepC hb ya
            replace za := keepC hb za
            replace xb := keepC hb xb
            replace yb := keepC hb yb
            replace zb := keepC hb zb
            replace xAB := keepC hb xAB
            replace yAB := keepC hb yAB
            replace zAB := keepC hb zAB
            replace xBA := keepC hb xBA
            replace yBA := keepC hb yBA
            replace zBA := keepC hb zBA
            replace xX := keepC hb xX
            replace yX := keepC hb yX
            replace zX := keepC hb zX
            replace xY := keepC hb xY
            replace yY := keepC hb yY
            replace zY := keepC hb zY
            replace xP := keepC hb xP
            replace yP := keepC hb yP
            replace zP := keepC hb zP
            replace xQQ := keepC hb xQQ
            replace yQQ := keepC hb yQQ
            replace zQQ := keepC hb zQQ
            replace xUU := keepC hb xUU
            replace yUU := keepC hb yUU
            replace zUU := keepC hb zUU
            replace xVV := keepC hb xVV
            replace yVV := keepC hb yVV
            replace zVV := keepC hb zVV
            replace xNN := keepC hb xNN
            replace yNN := keepC hb yNN
            replace zNN := keepC hb zNN
            replace xOO := keepC hb xOO
            replace yOO := keepC hb yOO
            replace zOO := keepC hb zOO
            replace xBK := keepC hb xBK
            replace yBK := keepC hb yBK
            replace zBK := keepC hb zBK
            replace xZZ := keepC hb xZZ
            replace yZZ := keepC hb yZZ
            replace zZZ := keepC hb zZZ
            replace ua := ua.below hb
            replace va := va.below hb
            replace ub := ub.below hb
            replace vb := vb.below hb
            replace uAB := uAB.below hb
            replace vAB := vAB.below hb
            replace uBA := uBA.below hb
            replace vBA := vBA.below hb
            replace uX := uX.below hb
            replace vX := vX.below hb
            replace uY := uY.below hb
            replace vY := vY.below hb
            replace uP := uP.below hb
            replace vP := vP.below hb
            replace uQQ := uQQ.below hb
            replace vQQ := vQQ.below hb
            replace uUU := uUU.below hb
            replace vUU := vUU.below hb
            replace uVV := uVV.below hb
            replace vVV := vVV.below hb
            replace uNN := uNN.below hb
            replace vNN := vNN.below hb
            replace uOO := uOO.below hb
            replace vOO := vOO.below hb
            replace uBK := uBK.below hb
            replace vBK := vBK.below hb
            replace uZZ := uZZ.below hb
            replace vZZ := vZZ.below hb
            replace hB := from_ hB hb
            clear hb
            go_wp2_with fail
            refine (same6_yes uX vX uY vY).mono ?_
            rintro e w25 ⟨rfl, hb⟩
            replace xa := keepC hb xa
            replace ya := keepC hb ya
            replace za := keepC hb za
            replace xb := keepC hb xb
            replace yb := keepC hb yb
            replace zb := keepC hb zb
            replace xAB := keepC hb xAB
            replace yAB := keepC hb yAB
            replace zAB := keepC hb zAB
            replace xBA := keepC hb xBA
            replace yBA := keepC hb yBA
            replace zBA := keepC hb zBA
            replace xX := keepC hb xX
            replace yX := keepC hb yX
            replace zX := keepC hb zX
            replace xY := keepC hb xY
            replace yY := keepC hb yY
            replace zY := keepC hb zY
            replace xP := keepC hb xP
            replace yP := keepC hb yP
            replace zP := keepC hb zP
            replace xQQ := keepC hb xQQ
            replace yQQ := keepC hb yQQ
            replace zQQ := keepC hb zQQ
            replace xUU := keepC hb xUU
            replace yUU := keepC hb yUU
            replace zUU := keepC hb zUU
            replace xVV := keepC hb xVV
            replace yVV := keepC hb yVV
            replace zVV := keepC hb zVV
            replace xNN := keepC hb xNN
            replace yNN := keepC hb yNN
            replace zNN := keepC hb zNN
            replace xOO := keepC hb xOO
            replace yOO := keepC hb yOO
            replace zOO := keepC hb zOO
            replace xBK := keepC hb xBK
            replace yBK := keepC hb yBK
            replace zBK := keepC hb zBK
            replace xZZ := keepC hb xZZ
            replace yZZ := keepC hb yZZ
            replace zZZ := keepC hb zZZ
            replace ua := ua.below hb
            replace va := va.below hb
            replace ub := ub.below hb
            replace vb := vb.below hb
            replace uAB := uAB.below hb
            replace vAB := vAB.below hb
            replace uBA := uBA.below hb
            replace vBA := vBA.below hb
            replace uX := uX.below hb
            replace vX := vX.below hb
            replace uY := uY.below hb
            replace vY := vY.below hb
            replace uP := uP.below hb
            replace vP := vP.below hb
            replace uQQ := uQQ.below hb
            replace vQQ := vQQ.below hb
            replace uUU := uUU.below hb
            replace vUU := vUU.below hb
            replace uVV := uVV.below hb
            replace vVV := vVV.below hb
            replace uNN := uNN.below hb
            replace vNN := vNN.below hb
            replace uOO := uOO.below hb
            replace vOO := vOO.below hb
            replace uBK := uBK.below hb
            replace vBK := vBK.below hb
            replace uZZ := uZZ.below hb
            replace vZZ := vZZ.below hb
            replace hB := from_ hB hb
            clear hb
            go_wp2_with fail
            refine (same6_yes uP vP uQQ vQQ).mono ?_
            rintro e w26 ⟨rfl, hb⟩
            replace xa := keepC hb xa
            replace ya := keepC hb ya
            replace za := keepC hb za
            replace xb := keepC hb xb
            replace yb := keepC hb yb
            replace zb := keepC hb zb
            replace xAB := keepC hb xAB
            replace yAB := keepC hb yAB
            replace zAB := keepC hb zAB
            replace xBA := keepC hb xBA
            replace yBA := keepC hb yBA
            replace zBA := keepC hb zBA
            replace xX := keepC hb xX
            replace yX := keepC hb yX
            replace zX := keepC hb zX
            replace xY := keepC hb xY
            replace yY := keepC hb yY
            replace zY := keepC hb zY
            replace xP := keepC hb xP
            replace yP := keepC hb yP
            replace zP := keepC hb zP
            replace xQQ := keepC hb xQQ
            replace yQQ := keepC hb yQQ
            replace zQQ := keepC hb zQQ
            replace xUU := keepC hb xUU
            replace yUU := keepC hb yUU
            replace zUU := keepC hb zUU
            replace xVV := keepC hb xVV
            replace yVV := keepC hb yVV
            replace zVV := keepC hb zVV
            replace xNN := keepC hb xNN
            replace yNN := keepC hb yNN
            replace zNN := keepC hb zNN
            replace xOO := keepC hb xOO
            replace yOO := keepC hb yOO
            replace zOO := keepC hb zOO
            replace xBK := keepC hb xBK
            replace yBK := keepC hb yBK
            replace zBK := keepC hb zBK
            replace xZZ := keepC hb xZZ
            replace yZZ := keepC hb yZZ
            replace zZZ := keepC hb zZZ
            replace ua := ua.below hb
            replace va := va.below hb
            replace ub := ub.below hb
            replace vb := vb.below hb
            replace uAB := uAB.below hb
            replace vAB := vAB.below hb
            replace uBA := uBA.below hb
            replace vBA := vBA.below hb
            replace uX := uX.below hb
            replace vX := vX.below hb
            replace uY := uY.below hb
            replace vY := vY.below hb
            replace uP := uP.below hb
            replace vP := vP.below hb
            replace uQQ := uQQ.below hb
            replace vQQ := vQQ.below hb
            replace uUU := uUU.below hb
            replace vUU := vUU.below hb
            replace uVV := uVV.below hb
            replace vVV := vVV.below hb
            replace uNN := uNN.below hb
            replace vNN := vNN.below hb
            replace uOO := uOO.below hb
            replace vOO := vOO.below hb
            replace uBK := uBK.below hb
            replace vBK := vBK.below hb
            replace uZZ := uZZ.below hb
            replace vZZ := vZZ.below hb
            replace hB := from_ hB hb
            clear hb
            go_wp2_with fail
            refine (same6_yes uUU vUU uVV vVV).mono ?_
            rintro e w27 ⟨rfl, hb⟩
            replace xa := keepC hb xa
            replace ya := keepC hb ya
            replace za := keepC hb za
            replace xb := keepC hb xb
            replace yb := keepC hb yb
            replace zb := keepC hb zb
            replace xAB := keepC hb xAB
            replace yAB := keepC hb yAB
            replace zAB := keepC hb zAB
            replace xBA := keepC hb xBA
            replace yBA := keepC hb yBA
            replace zBA := keepC hb zBA
            replace xX := keepC hb xX
            replace yX := keepC hb yX
            replace zX := keepC hb zX
            replace xY := keepC hb xY
            replace yY := keepC hb yY
            replace zY := keepC hb zY
            replace xP := keepC hb xP
            replace yP := keepC hb yP
            replace zP := keepC hb zP
            replace xQQ := keepC hb xQQ
            replace yQQ := keepC hb yQQ
            replace zQQ := keepC hb zQQ
            replace xUU := keepC hb xUU
            replace yUU := keepC hb yUU
            replace zUU := keepC hb zUU
            replace xVV := keepC hb xVV
            replace yVV := keepC hb yVV
            replace zVV := keepC hb zVV
            replace xNN := keepC hb xNN
            replace yNN := keepC hb yNN
            replace zNN := keepC hb zNN
            replace xOO := keepC hb xOO
            replace yOO := keepC hb yOO
            replace zOO := keepC hb zOO
            replace xBK := keepC hb xBK
            replace yBK := keepC hb yBK
            replace zBK := keepC hb zBK
            replace xZZ := keepC hb xZZ
            replace yZZ := keepC hb yZZ
            replace zZZ := keepC hb zZZ
            replace ua := ua.below hb
            replace va := va.below hb
            replace ub := ub.below hb
            replace vb := vb.below hb
            replace uAB := uAB.below hb
            replace vAB := vAB.below hb
            replace uBA := uBA.below hb
            replace vBA := vBA.below hb
            replace uX := uX.below hb
            replace vX := vX.below hb
            replace uY := uY.below hb
            replace vY := vY.below hb
            replace uP := uP.below hb
            replace vP := vP.below hb
            replace uQQ := uQQ.below hb
            replace vQQ := vQQ.below hb
            replace uUU := uUU.below hb
            replace vUU := vUU.below hb
            replace uVV := uVV.below hb
            replace vVV := vVV.below hb
            replace uNN := uNN.below hb
            replace vNN := vNN.below hb
            replace uOO := uOO.below hb
            replace vOO := vOO.below hb
            replace uBK := uBK.below hb
            replace vBK := vBK.below hb
            replace uZZ := uZZ.below hb
            replace vZZ := vZZ.below hb
            replace hB := from_ hB hb
            clear hb
            go_wp2_with fail
            refine (same6_yes uNN vNN uOO vOO).mono ?_
            rintro e w28 ⟨rfl, hb⟩
            replace xa := keepC hb xa
            replace ya := keepC hb ya
            replace za := keepC hb za
            replace xb := keepC hb xb
            replace yb := keepC hb yb
            replace zb := keepC hb zb
            replace xAB := keepC hb xAB
            replace yAB := keepC hb yAB
            replace zAB := keepC hb zAB
            replace xBA := keepC hb xBA
            replace yBA := keepC hb yBA
            replace zBA := keepC hb zBA
            replace xX := keepC hb xX
            replace yX := keepC hb yX
            replace zX := keepC hb zX
            replace xY := keepC hb xY
            replace yY := keepC hb yY
            replace zY := keepC hb zY
            replace xP := keepC hb xP
            replace yP := keepC hb yP
            replace zP := keepC hb zP
            replace xQQ := keepC hb xQQ
            replace yQQ := keepC hb yQQ
            replace zQQ := keepC hb zQQ
            replace xUU := keepC hb xUU
            replace yUU := keepC hb yUU
            replace zUU := keepC hb zUU
            replace xVV := keepC hb xVV
            replace yVV := keepC hb yVV
            replace zVV := keepC hb zVV
            replace xNN := keepC hb xNN
            replace yNN := keepC hb yNN
            replace zNN := keepC hb zNN
            replace xOO := keepC hb xOO
            replace yOO := keepC hb yOO
            replace zOO := keepC hb zOO
            replace xBK := keepC hb xBK
            replace yBK := keepC hb yBK
            replace zBK := keepC hb zBK
            replace xZZ := keepC hb xZZ
            replace yZZ := keepC hb yZZ
            replace zZZ := keepC hb zZZ
            replace ua := ua.below hb
            replace va := va.below hb
            replace ub := ub.below hb
            replace vb := vb.below hb
            replace uAB := uAB.below hb
            replace vAB := vAB.below hb
            replace uBA := uBA.below hb
            replace vBA := vBA.below hb
            replace uX := uX.below hb
            replace vX := vX.below hb
            replace uY := uY.below hb
            replace vY := vY.below hb
            replace uP := uP.below hb
            replace vP := vP.below hb
            replace uQQ := uQQ.below hb
            replace vQQ := vQQ.below hb
            replace uUU := uUU.below hb
            replace vUU := vUU.below hb
            replace uVV := uVV.below hb
            replace vVV := vVV.below hb
            replace uNN := uNN.below hb
            replace vNN := vNN.below hb
            replace uOO := uOO.below hb
            replace vOO := vOO.below hb
            replace uBK := uBK.below hb
            replace vBK := vBK.below hb
            replace uZZ := uZZ.below hb
            replace vZZ := vZZ.below hb
            replace hB := from_ hB hb
            clear hb
            clear xBA yBA zBA uBA vBA
            clear xX yX zX uX vX
            clear xY yY zY uY vY
            clear xQQ yQQ zQQ uQQ vQQ
            clear xUU yUU zUU uUU vUU
            clear xVV yVV zVV uVV vVV
            clear xNN yNN zNN uNN vNN
            clear xOO yOO zOO uOO vOO
            go_wp2_with fail
            refine (same6_yes uBK vBK ua va).mono ?_
            rintro e w29 ⟨rfl, hb⟩
            replace xa := keepC hb xa
            replace ya := keepC hb ya
            replace za := keepC hb za
            replace xb := keepC hb xb
            replace yb := keepC hb yb
            replace zb := keepC hb zb
            replace xAB := keepC hb xAB
            replace yAB := keepC hb yAB
            replace zAB := keepC hb zAB
            replace xP := keepC hb xP
            replace yP := keepC hb yP
            replace zP := keepC hb zP
            replace xBK := keepC hb xBK
            replace yBK := keepC hb yBK
            replace zBK := keepC hb zBK
            replace xZZ := keepC hb xZZ
            replace yZZ := keepC hb yZZ
            replace zZZ := keepC hb zZZ
            replace ua := ua.below hb
            replace va := va.below hb
            replace ub := ub.below hb
            replace vb := vb.below hb
            replace uAB := uAB.below hb
            replace vAB := vAB.below hb
            replace uP := uP.below hb
            replace vP := vP.below hb
            replace uBK := uBK.below hb
            replace vBK := vBK.below hb
            replace uZZ := uZZ.below hb
            replace vZZ := vZZ.below hb
            replace hB := from_ hB hb
            clear hb
            clear xBK yBK zBK uBK vBK
            go_wp2_with fail
            refine (checkQ_ok N_ab.out uAB vAB (by omega) (by omega)).mono ?_
            rintro e w30 ⟨rfl, hb⟩
            replace xa := keepC hb xa
            replace ya := keepC hb ya
            replace za := keepC hb za
            replace xb := keepC hb xb
            replace yb := keepC hb yb
            replace zb := keepC hb zb
            replace xAB := keepC hb xAB
            replace yAB := keepC hb yAB
            replace zAB := keepC hb zAB
            replace xP := keepC hb xP
            replace yP := keepC hb yP
            replace zP := keepC hb zP
            replace xZZ := keepC hb xZZ
            replace yZZ := keepC hb yZZ
            replace zZZ := keepC hb zZZ
            replace ua := ua.below hb
            replace va := va.below hb
            replace ub := ub.below hb
            replace vb := vb.below hb
            replace uAB := uAB.below hb
            replace vAB := vAB.below hb
            replace uP := uP.below hb
            replace vP := vP.below hb
            replace uZZ := uZZ.below hb
            replace vZZ := vZZ.below hb
            replace hB := from_ hB hb
            clear hb
            go_wp2_with fail
            refine (checkQ_ok N_p.out uP vP (by omega) (by omega)).mono ?_
            rintro e w31 ⟨rfl, hb⟩
            replace xa := keepC hb xa
            replace ya := keepC hb ya
            replace za := keepC hb za
            replace xb := keepC hb xb
            replace yb := keepC hb yb
            replace zb := keepC hb zb
            replace xAB := keepC hb xAB
            replace yAB := keepC hb yAB
            replace zAB := keepC hb zAB
            replace xP := keepC hb xP
            replace yP := keepC hb yP
            replace zP := keepC hb zP
            replace xZZ := keepC hb xZZ
            replace yZZ := keepC hb yZZ
            replace zZZ := keepC hb zZZ
            replace ua := ua.below hb
            replace va := va.below hb
            replace ub := ub.below hb
            replace vb := vb.below hb
            replace uAB := uAB.below hb
            replace vAB := vAB.below hb
            replace uP := uP.below hb
            replace vP := vP.below hb
            replace uZZ := uZZ.below hb
            replace vZZ := vZZ.below hb
            replace hB := from_ hB hb
            clear hb
            go_wp2_with fail
            refine (rmul_q N_z.out N_b.out N_a.out (Rat.div_mul_cancel HR.out) uZZ vZZ ub vb (by omega) (by omega) (by omega) (by omega)).mono ?_
            rintro e w32 ⟨A32, c32, B32, d32, rfl, uWW, vWW, hb⟩
            have hal : Below w32.heap.size w32 (w32.alloc (.cells #[.bool s, .slice A32 l.length c32, .slice B32 k.length d32] 28)) := (Below.refl _ _).alloc (Nat.le_refl _) _
            replace uWW := uWW.below hal
            replace vWW := vWW.below hal
            obtain ⟨xWW, yWW, zWW, _, _, _, _⟩ := Box3.new w32 (.bool s) (.slice A32 l.length c32) (.slice B32 k.length d32) 28
            have hs := from_ hb hal
            replace xa := keepC hs xa
            replace ya := keepC hs ya
            replace za := keepC hs za
            replace xb := keepC hs xb
            replace yb := keepC hs yb
            replace zb := keepC hs zb
            replace xAB := keepC hs xAB
            replace yAB := keepC hs yAB
            replace zAB := keepC hs zAB
            replace xP := keepC hs xP
            replace yP := keepC hs yP
            replace zP := keepC hs zP
            replace xZZ := keepC hs xZZ
            replace yZZ := keepC hs yZZ
            replace zZZ := keepC hs zZZ
            replace ua := ua.below hs
            replace va := va.below hs
            replace ub := ub.below hs
            replace vb := vb.below hs
            replace uAB := uAB.below hs
            replace vAB := vAB.below hs
            replace uP := uP.below hs
            replace vP := vP.below hs
            replace uZZ := uZZ.below hs
            replace vZZ := vZZ.below hs
            replace hB := from_ hB hs
            clear hb hal hs
            go_wp2_with fail
            refine (same6_yes uWW vWW ua va).mono ?_
            rintro e w33 ⟨rfl, hb⟩
            replace xa := keepC hb xa
            replace ya := keepC hb ya
            replace za := keepC hb za
            replace xb := keepC hb xb
            replace yb := keepC hb yb
            replace zb := keepC hb zb
            replace xAB := keepC hb xAB
            replace yAB := keepC hb yAB
            replace zAB := keepC hb zAB
            replace xP := keepC hb xP
            replace yP := keepC hb yP
            replace zP := keepC hb zP
            replace xZZ := keepC hb xZZ
            replace yZZ := keepC hb yZZ
            replace zZZ := keepC hb zZZ
            replace xWW := keepC hb xWW
            replace yWW := keepC hb yWW
            replace zWW := keepC hb zWW
            replace ua := ua.below hb
            replace va := va.below hb
            replace ub := ub.below hb
            replace vb := vb.below hb
            replace uAB := uAB.below hb
            replace vAB := vAB.below hb
            replace uP := uP.below hb
            replace vP := vP.below hb
            replace uZZ := uZZ.below hb
            replace vZZ := vZZ.below hb
            replace uWW := uWW.below hb
            replace vWW := vWW.below hb
            replace hB := from_ hB hb
            clear hb
            go_wp2
            go_ret
            exact ⟨by first | rfl | trivial, hB⟩

end Go.Proofs.YtbcplffdoejniaaGreatDoor
