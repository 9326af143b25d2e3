/-
  The walk of RatTold. The one premise: the table of powers of ten reads as it is laid.
-/
import Derived.Test.YtbcplffdoejniaaGreatDoorHRatN
namespace Go.Proofs.YtbcplffdoejniaaGreatDoor
open Go.RowKit
set_option linter.unusedVariables false
set_option linter.unusedSimpArgs false


theorem wmul_x {w : World} {Z Y : Zone} {s t : Bool} {l k : List Nat} {A B : Option Addr} {c d : Nat} {E : Int} (u1 : U64s w Z A c l) (u2 : U64s w Y B d k) (hl : l.length ≤ 90000) (hl2 : k.length ≤ 90000) (hE : errO s l t k = E) :
    Calls Tryz.prog 9 #[.agg #[.bool s, .slice A l.length c], .agg #[.bool t, .slice B k.length d]] w fun e w' => ∃ Av cv, e = .returned (.tuple #[.agg #[.bool (opP (· * ·) s l t k).1, .slice Av (opP (· * ·) s l t k).2.length cv], .int .i64 E]) ∧ U64s w' (new w.heap.size) Av cv (opP (· * ·) s l t k).2 ∧ Below w.heap.size w w' := by
  refine (wmul_all (s := s) (t := t) ⟨_, rfl, A, c, rfl, u1⟩ ⟨_, rfl, B, d, rfl, u2⟩ hl hl2).mono ?_
  rintro e w' ⟨_, rfl, ⟨_, rfl, Av, cv, rfl, hu⟩, hb⟩
  exact ⟨Av, cv, by rw [hE], hu, hb⟩
theorem ratof_e {w : World} {Z Y : Zone} {s t : Bool} {l k : List Nat} {A B : Option Addr} {c d : Nat} {E : Int} (u1 : U64s w Z A c l) (u2 : U64s w Y B d k) (hE : errQ s l t k = E) (hE2 : E = 8 ∨ E = 30) :
    Calls Tryz.prog 8 #[.agg #[.bool s, .slice A l.length c], .agg #[.bool t, .slice B k.length d]] w fun e w' => e = .returned (.tuple #[.agg #[.bool false, .slice none 0 0, .slice none 0 0], .int .i64 E]) ∧ Below w.heap.size w w' := ratof_err u1 u2 hE hE2

set_option maxRecDepth 100000 in
set_option maxHeartbeats 8000000 in
theorem lawRatTold {w : World} {a b c : Value} {s t r : Bool} {l k m : List Nat} (ha : IsI w old a s l) (hb : IsI w old b t k) (hc : IsI w old c r m) (ht : Tab w) :
    Calls Tryz.prog 3 #[a, b, c] w fun e w' => e = .returned (.bool true) ∧ Below w.heap.size w w' := by
  obtain ⟨_, rfl, A, ca, rfl, ua⟩ := ha
  obtain ⟨_, rfl, B, cb, rfl, ub⟩ := hb
  obtain ⟨_, rfl, C, cc, rfl, uc⟩ := hc
  obtain ⟨bA, bB, bC, hB⟩ := boxes3 w (.bool s) (.slice A l.length ca) (.bool t) (.slice B k.length cb) (.bool r) (.slice C m.length cc) 25
  obtain ⟨xa, ya, _, _, _⟩ := bA
  obtain ⟨xb, yb, _, _, _⟩ := bB
  obtain ⟨xc, yc, _, _, _⟩ := (show Box _ (w.heap.size + 1 + 1) _ _ from bC)
  replace ua := ua.below hB
  replace ub := ub.below hB
  replace uc := uc.below hB
  have sa := ua.small
  have sb := ub.small
  have sc := uc.small
  rcases (show 8 < l.length ∨ (l.length ≤ 8 ∧ 8 < k.length) ∨ (l.length ≤ 8 ∧ k.length ≤ 8 ∧ 8 < m.length) ∨ (l.length ≤ 8 ∧ k.length ≤ 8 ∧ m.length ≤ 8) by omega) with g1 | ⟨g1, g2⟩ | ⟨g1, g2, g3⟩ | ⟨g1, g2, g3⟩
  · have d0 : decide ((8 : Int) < (l.length : Int)) = true := decide_eq_true (by omega)
    clear ua ub uc sa sb sc bC
    go_enter Tryz.func3, Tryz.ntmps3
    go_wp2_with fail
    refine (alive6 (ht.below hB)).mono ?_
    rintro e w1 ⟨rfl, hb⟩
    replace xa := keepC hb xa
    replace ya := keepC hb ya
    replace xb := keepC hb xb
    replace yb := keepC hb yb
    replace xc := keepC hb xc
    replace yc := keepC hb yc
    replace hB := from_ hB hb
    clear hb
    go_wp2
    go_ret
    exact ⟨by first | rfl | trivial, hB⟩
  · have d0 : decide ((8 : Int) < (l.length : Int)) = false := decide_eq_false (by omega)
    have d1 : decide ((8 : Int) < (k.length : Int)) = true := decide_eq_true (by omega)
    clear ua ub uc sa sb sc bC
    go_enter Tryz.func3, Tryz.ntmps3
    go_wp2_with fail
    refine (alive6 (ht.below hB)).mono ?_
    rintro e w1 ⟨rfl, hb⟩
    replace xa := keepC hb xa
    replace ya := keepC hb ya
    replace xb := keepC hb xb
    replace yb := keepC hb yb
    replace xc := keepC hb xc
    replace yc := keepC hb yc
    replace hB := from_ hB hb
    clear hb
    go_wp2
    go_ret
    exact ⟨by first | rfl | trivial, hB⟩
  · have d0 : decide ((8 : Int) < (l.length : Int)) = false := decide_eq_false (by omega)
    have d1 : decide ((8 : Int) < (k.length : Int)) = false := decide_eq_false (by omega)
    have d2 : decide ((8 : Int) < (m.length : Int)) = true := decide_eq_true (by omega)
    clear ua ub uc sa sb sc bC
    go_enter Tryz.func3, Tryz.ntmps3
    go_wp2_with fail
    refine (alive6 (ht.below hB)).mono ?_
    rintro e w1 ⟨rfl, hb⟩
    replace xa := keepC hb xa
    replace ya := keepC hb ya
    replace xb := keepC hb xb
    replace yb := keepC hb yb
    replace xc := keepC hb xc
    replace yc := keepC hb yc
    replace hB := from_ hB hb
    clear hb
    go_wp2
    go_ret
    exact ⟨by first | rfl | trivial, hB⟩
  · have d0 : decide ((8 : Int) < (l.length : Int)) = false := decide_eq_false (by omega)
    have d1 : decide ((8 : Int) < (k.length : Int)) = false := decide_eq_false (by omega)
    have d2 : decide ((8 : Int) < (m.length : Int)) = false := decide_eq_false (by omega)
    clear bC
    have Gb := Lib.hid (And.intro g1 (And.intro g2 g3))
    by_cases he : errQ s l t k = 0
    · obtain ⟨o1, o2, hk⟩ : okI s l = true ∧ okI t k = true ∧ 0 < k.length := by
        unfold errQ at he
        split at he
        · rename_i h
          split at he
          · cases he
          · exact ⟨h.1, h.2, by omega⟩
        · cases he
      have nA := Nm.ok o1 sa
      have nB := Nm.ok o2 sb
      have hy : zof t k ≠ 0 := by
        intro e
        have h1 := nB.2
        rw [e] at h1
        rw [h1] at hk
        exact absurd hk (by decide)
      generalize zof s l = X at *
      generalize zof t k = Y at *
      obtain ⟨sq, lq, kq, nq⟩ : ∃ s l k, NmQ (Rat.divInt X Y) s l k := ⟨_, _, _, NmQ.mk' _⟩
      have bq : lq.length ≤ 8 ∧ kq.length ≤ 8 := by
        obtain ⟨h1, h2⟩ := divInt_len (x := X) hy
        have h3 := lens_q nq
        have h4 := nA.len
        have h5 := nB.len
        omega
      have HY := Lib.hid hy
      have N_a := Lib.hid nA
      have N_b := Lib.hid nB
      have N_q := Lib.hid nq
      clear he o1 o2 hk sa sb
      cases o3 : okI r m with
      | false =>
        obtain ⟨S1, hS1⟩ : ∃ S, S = (opP (· * ·) s l r m).1 := ⟨_, rfl⟩
        obtain ⟨M1, hM1⟩ : ∃ M, M = (opP (· * ·) s l r m).2 := ⟨_, rfl⟩
        obtain ⟨E1, hE1⟩ : ∃ E, E = errO s l r m := ⟨_, rfl⟩
        obtain ⟨S2, hS2⟩ : ∃ S, S = (opP (· * ·) t k r m).1 := ⟨_, rfl⟩
        obtain ⟨M2, hM2⟩ : ∃ M, M = (opP (· * ·) t k r m).2 := ⟨_, rfl⟩
        obtain ⟨E2, hE2⟩ : ∃ E, E = errO t k r m := ⟨_, rfl⟩
        have MU1 : Hid (∀ (W : World) Y1 Y2 A1 c1 A2 c2, U64s W Y1 A1 c1 l → U64s W Y2 A2 c2 m → Calls Tryz.prog 9 #[.agg #[.bool s, .slice A1 l.length c1], .agg #[.bool r, .slice A2 m.length c2]] W fun e w' => ∃ Av cv, e = .returned (.tuple #[.agg #[.bool S1, .slice Av M1.length cv], .int .i64 E1]) ∧ U64s w' (new W.heap.size) Av cv M1 ∧ Below W.heap.size W w') := fun W Y1 Y2 A1 c1 A2 c2 h1 h2 => by
          rw [hS1, hM1, hE1]
          exact wmul_x h1 h2 (by have := Gb.out; omega) (by have := Gb.out; omega) rfl
        have MU2 : Hid (∀ (W : World) Y1 Y2 A1 c1 A2 c2, U64s W Y1 A1 c1 k → U64s W Y2 A2 c2 m → Calls Tryz.prog 9 #[.agg #[.bool t, .slice A1 k.length c1], .agg #[.bool r, .slice A2 m.length c2]] W fun e w' => ∃ Av cv, e = .returned (.tuple #[.agg #[.bool S2, .slice Av M2.length cv], .int .i64 E2]) ∧ U64s w' (new W.heap.size) Av cv M2 ∧ Below W.heap.size W w') := fun W Y1 Y2 A1 c1 A2 c2 h1 h2 => by
          rw [hS2, hM2, hE2]
          exact wmul_x h1 h2 (by have := Gb.out; omega) (by have := Gb.out; omega) rfl
        have hx1 : (E1 == 0) = false := by
          rw [hE1]
          unfold errO
          rw [if_neg (by rw [o3]; simp)]
          rfl
        obtain ⟨O, hO⟩ : ∃ O, O = decide (sq = false ∧ lq = [] ∧ kq = []) := ⟨_, rfl⟩
        have HO := Lib.hid hO.symm
        clear hS1 hS2 hM1 hM2 hE1 hE2 hO nA nB nq hy sc o3
        cases O
        · go_enter Tryz.func3, Tryz.ntmps3
          go_wp2_with fail
          refine (alive6 (ht.below hB)).mono ?_
          rintro e w1 ⟨rfl, hb⟩
          replace xa := keepC hb xa
          replace ya := keepC hb ya
          replace xb := keepC hb xb
          replace yb := keepC hb yb
          replace xc := keepC hb xc
          replace yc := keepC hb yc
          replace ua := ua.below hb
          replace ub := ub.below hb
          replace uc := uc.below hb
          replace hB := from_ hB hb
          clear hb
          go_wp2_with fail
          refine (ratof_q N_a.out N_b.out HY.out N_q.out rfl (by have := Gb.out; omega) (by have := Gb.out; omega) ua ub).mono ?_
          rintro e w2 ⟨A2, c2, B2, d2, rfl, uQQ, vQQ, hb⟩
          have hal : Below w2.heap.size w2 (w2.alloc (.cells #[.bool sq, .slice A2 lq.length c2, .slice B2 kq.length d2] 28)) := (Below.refl _ _).alloc (Nat.le_refl _) _
          replace uQQ := uQQ.below hal
          replace vQQ := vQQ.below hal
          obtain ⟨xQQ, yQQ, zQQ, _, _, _, _⟩ := Box3.new w2 (.bool sq) (.slice A2 lq.length c2) (.slice B2 kq.length d2) 28
          have hs := from_ hb hal
          replace xa := keepC hs xa
          replace ya := keepC hs ya
          replace xb := keepC hs xb
          replace yb := keepC hs yb
          replace xc := keepC hs xc
          replace yc := keepC hs yc
          replace ua := ua.below hs
          replace ub := ub.below hs
          replace uc := uc.below hs
          replace hB := from_ hB hs
          clear hb hal hs
          go_wp2_with fail
          refine (MU1.out _ _ _ _ _ _ _ ua uc).mono ?_
          rintro e w3 ⟨A3, c3, rfl, uF, hb⟩
          have hal : Below w3.heap.size w3 (w3.alloc (.cells #[.bool S1, .slice A3 M1.length c3] 25)) := (Below.refl _ _).alloc (Nat.le_refl _) _
          replace uF := uF.below hal
          obtain ⟨xF, yF, _, _, _⟩ := Box.new w3 (.bool S1) (.slice A3 M1.length c3) 25
          have hs := from_ hb hal
          replace xa := keepC hs xa
          replace ya := keepC hs ya
          replace xb := keepC hs xb
          replace yb := keepC hs yb
          replace xc := keepC hs xc
          replace yc := keepC hs yc
          replace xQQ := keepC hs xQQ
          replace yQQ := keepC hs yQQ
          replace zQQ := keepC hs zQQ
          replace ua := ua.below hs
          replace ub := ub.below hs
          replace uc := uc.below hs
          replace uQQ := uQQ.below hs
          replace vQQ := vQQ.below hs
          replace hB := from_ hB hs
          clear hb hal hs
          go_wp2_with fail
          refine (MU2.out _ _ _ _ _ _ _ ub uc).mono ?_
          rintro e w4 ⟨A4, c4, rfl, uG, hb⟩
          have hal : Below w4.heap.size w4 (w4.alloc (.cells #[.bool S2, .slice A4 M2.length c4] 25)) := (Below.refl _ _).alloc (Nat.le_refl _) _
          replace uG := uG.below hal
          obtain ⟨xG, yG, _, _, _⟩ := Box.new w4 (.bool S2) (.slice A4 M2.length c4) 25
          have hs := from_ hb hal
          replace xa := keepC hs xa
          replace ya := keepC hs ya
          replace xb := keepC hs xb
          replace yb := keepC hs yb
          replace xc := keepC hs xc
          replace yc := keepC hs yc
          replace xQQ := keepC hs xQQ
          replace yQQ := keepC hs yQQ
          replace zQQ := keepC hs zQQ
          replace xF := keepC hs xF
          replace yF := keepC hs yF
          replace ua := ua.below hs
          replace ub := ub.below hs
          replace uc := uc.below hs
          replace uQQ := uQQ.below hs
          replace vQQ := vQQ.below hs
          replace uF := uF.below hs
          replace hB := from_ hB hs
          clear hb hal hs
          go_wp2_with fail
          refine (same6_dec (l' := []) (k' := []) HO.out uQQ vQQ (U64s.nil _ old) (U64s.nil _ old)).mono ?_
          rintro e w5 ⟨rfl, hb⟩
          replace xa := keepC hb xa
          replace ya := keepC hb ya
          replace xb := keepC hb xb
          replace yb := keepC hb yb
          replace xc := keepC hb xc
          replace yc := keepC hb yc
          replace xQQ := keepC hb xQQ
          replace yQQ := keepC hb yQQ
          replace zQQ := keepC hb zQQ
          replace xF := keepC hb xF
          replace yF := keepC hb yF
          replace xG := keepC hb xG
          replace yG := keepC hb yG
          replace ua := ua.below hb
          replace ub := ub.below hb
          replace uc := uc.below hb
          replace uQQ := uQQ.below hb
          replace vQQ := vQQ.below hb
          replace uF := uF.below hb
          replace uG := uG.below hb
          replace hB := from_ hB hb
          clear hb
          go_wp2
          go_ret
          exact ⟨by first | rfl | trivial, hB⟩
        · go_enter Tryz.func3, Tryz.ntmps3
          go_wp2_with fail
          refine (alive6 (ht.below hB)).mono ?_
          rintro e w1 ⟨rfl, hb⟩
          replace xa := keepC hb xa
          replace ya := keepC hb ya
          replace xb := keepC hb xb
          replace yb := keepC hb yb
          replace xc := keepC hb xc
          replace yc := keepC hb yc
          replace ua := ua.below hb
          replace ub := ub.below hb
          replace uc := uc.below hb
          replace hB := from_ hB hb
          clear hb
          go_wp2_with fail
          refine (ratof_q N_a.out N_b.out HY.out N_q.out rfl (by have := Gb.out; omega) (by have := Gb.out; omega) ua ub).mono ?_
          rintro e w2 ⟨A2, c2, B2, d2, rfl, uQQ, vQQ, hb⟩
          have hal : Below w2.heap.size w2 (w2.alloc (.cells #[.bool sq, .slice A2 lq.length c2, .slice B2 kq.length d2] 28)) := (Below.refl _ _).alloc (Nat.le_refl _) _
          replace uQQ := uQQ.below hal
          replace vQQ := vQQ.below hal
          obtain ⟨xQQ, yQQ, zQQ, _, _, _, _⟩ := Box3.new w2 (.bool sq) (.slice A2 lq.length c2) (.slice B2 kq.length d2) 28
          have hs := from_ hb hal
          replace xa := keepC hs xa
          replace ya := keepC hs ya
          replace xb := keepC hs xb
          replace yb := keepC hs yb
          replace xc := keepC hs xc
          replace yc := keepC hs yc
          replace ua := ua.below hs
          replace ub := ub.below hs
          replace uc := uc.below hs
          replace hB := from_ hB hs
          clear hb hal hs
          go_wp2_with fail
          refine (MU1.out _ _ _ _ _ _ _ ua uc).mono ?_
          rintro e w3 ⟨A3, c3, rfl, uF, hb⟩
          have hal : Below w3.heap.size w3 (w3.alloc (.cells #[.bool S1, .slice A3 M1.length c3] 25)) := (Below.refl _ _).alloc (Nat.le_refl _) _
          replace uF := uF.below hal
          obtain ⟨xF, yF, _, _, _⟩ := Box.new w3 (.bool S1) (.slice A3 M1.length c3) 25
          have hs := from_ hb hal
          replace xa := keepC hs xa
          replace ya := keepC hs ya
          replace xb := keepC hs xb
          replace yb := keepC hs yb
          replace xc := keepC hs xc
          replace yc := keepC hs yc
          replace xQQ := keepC hs xQQ
          replace yQQ := keepC hs yQQ
          replace zQQ := keepC hs zQQ
          replace ua := ua.below hs
          replace ub := ub.below hs
          replace uc := uc.below hs
          replace uQQ := uQQ.below hs
          replace vQQ := vQQ.below hs
          replace hB := from_ hB hs
          clear hb hal hs
          go_wp2_with fail
          refine (MU2.out _ _ _ _ _ _ _ ub uc).mono ?_
          rintro e w4 ⟨A4, c4, rfl, uG, hb⟩
          have hal : Below w4.heap.size w4 (w4.alloc (.cells #[.bool S2, .slice A4 M2.length c4] 25)) := (Below.refl _ _).alloc (Nat.le_refl _) _
          replace uG := uG.below hal
          obtain ⟨xG, yG, _, _, _⟩ := Box.new w4 (.bool S2) (.slice A4 M2.length c4) 25
          have hs := from_ hb hal
          replace xa := keepC hs xa
          replace ya := keepC hs ya
          replace xb := keepC hs xb
          replace yb := keepC hs yb
          replace xc := keepC hs xc
          replace yc := keepC hs yc
          replace xQQ := keepC hs xQQ
          replace yQQ := keepC hs yQQ
          replace zQQ := keepC hs zQQ
          replace xF := keepC hs xF
          replace yF := keepC hs yF
          replace ua := ua.below hs
          replace ub := ub.below hs
          replace uc := uc.below hs
          replace uQQ := uQQ.below hs
          replace vQQ := vQQ.below hs
          replace uF := uF.below hs
          replace hB := from_ hB hs
          clear hb hal hs
          go_wp2_with fail
          refine (same6_dec (l' := []) (k' := []) HO.out uQQ vQQ (U64s.nil _ old) (U64s.nil _ old)).mono ?_
          rintro e w5 ⟨rfl, hb⟩
          replace xa := keepC hb xa
          replace ya := keepC hb ya
          replace xb := keepC hb xb
          replace yb := keepC hb yb
          replace xc := keepC hb xc
          replace yc := keepC hb yc
          replace xQQ := keepC hb xQQ
          replace yQQ := keepC hb yQQ
          replace zQQ := keepC hb zQQ
          replace xF := keepC hb xF
          replace yF := keepC hb yF
          replace xG := keepC hb xG
          replace yG := keepC hb yG
          replace ua := ua.below hb
          replace ub := ub.below hb
          replace uc := uc.below hb
          replace uQQ := uQQ.below hb
          replace vQQ := vQQ.below hb
          replace uF := uF.below hb
          replace uG := uG.below hb
          replace hB := from_ hB hb
          clear hb
          go_wp2
          go_ret
          exact ⟨by first | rfl | trivial, hB⟩
      | true =>
        have nC := Nm.ok o3 sc
        generalize zof r m = V at *
        obtain ⟨sf, lf, nf⟩ : ∃ s l, Nm (X * V) s l := ⟨_, _, Nm.mk' _⟩
        obtain ⟨sg, lg, ng⟩ : ∃ s l, Nm (Y * V) s l := ⟨_, _, Nm.mk' _⟩
        have z1 := lz_mul X V
        have z2 := lz_mul Y V
        have z3 := nf.len
        have z4 := ng.len
        have z5 := nA.len
        have z6 := nB.len
        have z7 := nC.len
        have bf : lf.length ≤ 20 ∧ lg.length ≤ 20 := by omega
        have N_c := Lib.hid nC
        have N_f := Lib.hid nf
        have N_g := Lib.hid ng
        have hown := Rat.num_divInt_den (Rat.divInt X Y)
        have Hown := Lib.hid hown
        have hden := (Rat.divInt X Y).den_nz
        have Hden := Lib.hid (show ((Rat.divInt X Y).den : Int) ≠ 0 by omega)
        clear z1 z2 z3 z4 z5 z6 z7 hown hden o3 sc
        by_cases hV : V = 0
        · have hm0 : m = [] := by rw [nC.2, hV]; rfl
          have hE : errQ sf lf sg lg = 30 := by
            have h0 : lg.length = 0 := by rw [ng.2, hV, Int.mul_zero]; rfl
            unfold errQ
            rw [if_pos ⟨nf.okI, ng.okI⟩, if_pos h0]
          have HE := Lib.hid hE
          clear hE hV nA nB nq nC nf ng hy
          subst hm0
          go_enter Tryz.func3, Tryz.ntmps3
          go_wp2_with fail
          refine (alive6 (ht.below hB)).mono ?_
          rintro e w1 ⟨rfl, hb⟩
          replace xa := keepC hb xa
          replace ya := keepC hb ya
          replace xb := keepC hb xb
          replace yb := keepC hb yb
          replace xc := keepC hb xc
          replace yc := keepC hb yc
          replace ua := ua.below hb
          replace ub := ub.below hb
          replace uc := uc.below hb
          replace hB := from_ hB hb
          clear hb
          go_wp2_with fail
          refine (ratof_q N_a.out N_b.out HY.out N_q.out rfl (by have := Gb.out; omega) (by have := Gb.out; omega) ua ub).mono ?_
          rintro e w2 ⟨A2, c2, B2, d2, rfl, uQQ, vQQ, hb⟩
          have hal : Below w2.heap.size w2 (w2.alloc (.cells #[.bool sq, .slice A2 lq.length c2, .slice B2 kq.length d2] 28)) := (Below.refl _ _).alloc (Nat.le_refl _) _
          replace uQQ := uQQ.below hal
          replace vQQ := vQQ.below hal
          obtain ⟨xQQ, yQQ, zQQ, _, _, _, _⟩ := Box3.new w2 (.bool sq) (.slice A2 lq.length c2) (.slice B2 kq.length d2) 28
          have hs := from_ hb hal
          replace xa := keepC hs xa
          replace ya := keepC hs ya
          replace xb := keepC hs xb
          replace yb := keepC hs yb
          replace xc := keepC hs xc
          replace yc := keepC hs yc
          replace ua := ua.below hs
          replace ub := ub.below hs
          replace uc := uc.below hs
          replace hB := from_ hB hs
          clear hb hal hs
          go_wp2_with fail
          refine (wmul_n N_a.out N_c.out N_f.out rfl (by have := Gb.out; omega) (by have := Gb.out; omega) ua uc).mono ?_
          rintro e w3 ⟨A3, c3, rfl, uF, hb⟩
          have hal : Below w3.heap.size w3 (w3.alloc (.cells #[.bool sf, .slice A3 lf.length c3] 25)) := (Below.refl _ _).alloc (Nat.le_refl _) _
          replace uF := uF.below hal
          obtain ⟨xF, yF, _, _, _⟩ := Box.new w3 (.bool sf) (.slice A3 lf.length c3) 25
          have hs := from_ hb hal
          replace xa := keepC hs xa
          replace ya := keepC hs ya
          replace xb := keepC hs xb
          replace yb := keepC hs yb
          replace xc := keepC hs xc
          replace yc := keepC hs yc
          replace xQQ := keepC hs xQQ
          replace yQQ := keepC hs yQQ
          replace zQQ := keepC hs zQQ
          replace ua := ua.below hs
          replace ub := ub.below hs
          replace uc := uc.below hs
          replace uQQ := uQQ.below hs
          replace vQQ := vQQ.below hs
          replace hB := from_ hB hs
          clear hb hal hs
          go_wp2_with fail
          refine (wmul_n N_b.out N_c.out N_g.out rfl (by have := Gb.out; omega) (by have := Gb.out; omega) ub uc).mono ?_
          rintro e w4 ⟨A4, c4, rfl, uG, hb⟩
          have hal : Below w4.heap.size w4 (w4.alloc (.cells #[.bool sg, .slice A4 lg.length c4] 25)) := (Below.refl _ _).alloc (Nat.le_refl _) _
          replace uG := uG.below hal
          obtain ⟨xG, yG, _, _, _⟩ := Box.new w4 (.bool sg) (.slice A4 lg.length c4) 25
          have hs := from_ hb hal
          replace xa := keepC hs xa
          replace ya := keepC hs ya
          replace xb := keepC hs xb
          replace yb := keepC hs yb
          replace xc := keepC hs xc
          replace yc := keepC hs yc
          replace xQQ := keepC hs xQQ
          replace yQQ := keepC hs yQQ
          replace zQQ := keepC hs zQQ
          replace xF := keepC hs xF
          replace yF := keepC hs yF
          replace ua := ua.below hs
          replace ub := ub.below hs
          replace uc := uc.below hs
          replace uQQ := uQQ.below hs
          replace vQQ := vQQ.below hs
          replace uF := uF.below hs
          replace hB := from_ hB hs
          clear hb hal hs
          go_wp2_with fail
          refine (ratof_e uF uG HE.out (.inr rfl)).mono ?_
          rintro e w5 ⟨rfl, hb⟩
          have hal : Below w5.heap.size w5 (w5.alloc (.cells #[.bool false, .slice none 0 0, .slice none 0 0] 28)) := (Below.refl _ _).alloc (Nat.le_refl _) _
          obtain ⟨xBB, yBB, zBB, _, _, _, _⟩ := Box3.new w5 (.bool false) (.slice none 0 0) (.slice none 0 0) 28
          have hs := from_ hb hal
          replace xa := keepC hs xa
          replace ya := keepC hs ya
          replace xb := keepC hs xb
          replace yb := keepC hs yb
          replace xc := keepC hs xc
          replace yc := keepC hs yc
          replace xQQ := keepC hs xQQ
          replace yQQ := keepC hs yQQ
          replace zQQ := keepC hs zQQ
          replace xF := keepC hs xF
          replace yF := keepC hs yF
          replace xG := keepC hs xG
          replace yG := keepC hs yG
          replace ua := ua.below hs
          replace ub := ub.below hs
          replace uc := uc.below hs
          replace uQQ := uQQ.below hs
          replace vQQ := vQQ.below hs
          replace uF := uF.below hs
          replace uG := uG.below hs
          replace hB := from_ hB hs
          clear hb hal hs
          go_wp2_with fail
          refine (ratof_q N_q.out.num N_q.out.den Hden.out N_q.out Hown.out (by omega) (by omega) uQQ vQQ).mono ?_
          rintro e w6 ⟨A6, c6, B6, d6, rfl, uOW, vOW, hb⟩
          have hal : Below w6.heap.size w6 (w6.alloc (.cells #[.bool sq, .slice A6 lq.length c6, .slice B6 kq.length d6] 28)) := (Below.refl _ _).alloc (Nat.le_refl _) _
          replace uOW := uOW.below hal
          replace vOW := vOW.below hal
          obtain ⟨xOW, yOW, zOW, _, _, _, _⟩ := Box3.new w6 (.bool sq) (.slice A6 lq.length c6) (.slice B6 kq.length d6) 28
          have hs := from_ hb hal
          replace xa := keepC hs xa
          replace ya := keepC hs ya
          replace xb := keepC hs xb
          replace yb := keepC hs yb
          replace xc := keepC hs xc
          replace yc := keepC hs yc
          replace xQQ := keepC hs xQQ
          replace yQQ := keepC hs yQQ
          replace zQQ := keepC hs zQQ
          replace xF := keepC hs xF
          replace yF := keepC hs yF
          replace xG := keepC hs xG
          replace yG := keepC hs yG
          replace xBB := keepC hs xBB
          replace yBB := keepC hs yBB
          replace zBB := keepC hs zBB
          replace ua := ua.below hs
          replace ub := ub.below hs
          replace uc := uc.below hs
          replace uQQ := uQQ.below hs
          replace vQQ := vQQ.below hs
          replace uF := uF.below hs
          replace uG := uG.below hs
          replace hB := from_ hB hs
          clear hb hal hs
          go_wp2_with fail
          refine (same6_yes uOW vOW uQQ vQQ).mono ?_
          rintro e w7 ⟨rfl, hb⟩
          replace xa := keepC hb xa
          replace ya := keepC hb ya
          replace xb := keepC hb xb
          replace yb := keepC hb yb
          replace xc := keepC hb xc
          replace yc := keepC hb yc
          replace xQQ := keepC hb xQQ
          replace yQQ := keepC hb yQQ
          replace zQQ := keepC hb zQQ
          replace xF := keepC hb xF
          replace yF := keepC hb yF
          replace xG := keepC hb xG
          replace yG := keepC hb yG
          replace xBB := keepC hb xBB
          replace yBB := keepC hb yBB
          replace zBB := keepC hb zBB
          replace xOW := keepC hb xOW
          replace yOW := keepC hb yOW
          replace zOW := keepC hb zOW
          replace ua := ua.below hb
          replace ub := ub.below hb
          replace uc := uc.below hb
          replace uQQ := uQQ.below hb
          replace vQQ := vQQ.below hb
          replace uF := uF.below hb
          replace uG := uG.below hb
          replace uOW := uOW.below hb
          replace vOW := vOW.below hb
          replace hB := from_ hB hb
          clear hb
          go_wp2_with fail
          refine (checkQ_ok N_q.out uQQ vQQ (by omega) (by omega)).mono ?_
          rintro e w8 ⟨rfl, hb⟩
          replace xa := keepC hb xa
          replace ya := keepC hb ya
          replace xb := keepC hb xb
          replace yb := keepC hb yb
          replace xc := keepC hb xc
          replace yc := keepC hb yc
          replace xQQ := keepC hb xQQ
          replace yQQ := keepC hb yQQ
          replace zQQ := keepC hb zQQ
          replace xF := keepC hb xF
          replace yF := keepC hb yF
          replace xG := keepC hb xG
          replace yG := keepC hb yG
          replace xBB := keepC hb xBB
          replace yBB := keepC hb yBB
          replace zBB := keepC hb zBB
          replace xOW := keepC hb xOW
          replace yOW := keepC hb yOW
          replace zOW := keepC hb zOW
          replace ua := ua.below hb
          replace ub := ub.below hb
          replace uc := uc.below hb
          replace uQQ := uQQ.below hb
          replace vQQ := vQQ.below hb
          replace uF := uF.below hb
          replace uG := uG.below hb
          replace uOW := uOW.below hb
          replace vOW := vOW.below hb
          replace hB := from_ hB hb
          clear hb
          go_wp2
          go_ret
          exact ⟨by first | rfl | trivial, hB⟩
        · have hyv : Y * V ≠ 0 := Int.mul_ne_zero hy hV
          have HYV := Lib.hid hyv
          have hR := Rat.divInt_mul_right (n := X) (d := Y) hV
          have HR := Lib.hid hR
          have hm0 : ((m.length : Int) == 0) = false := beq_eq_false_iff_ne.2 (fun e => by
            have h1 : m = [] := List.length_eq_zero_iff.1 (by omega)
            have h2 := nC.2
            rw [h1] at h2
            have h3 := limbs_eq_nil.1 h2.symm
            omega)
          clear hyv hR hV nA nB nq nC nf ng hy
          go_enter Tryz.func3, Tryz.ntmps3
          go_wp2_with fail
          refine (alive6 (ht.below hB)).mono ?_
          rintro e w1 ⟨rfl, hb⟩
          replace xa := keepC hb xa
          replace ya := keepC hb ya
          replace xb := keepC hb xb
          replace yb := keepC hb yb
          replace xc := keepC hb xc
          replace yc := keepC hb yc
          replace ua := ua.below hb
          replace ub := ub.below hb
          replace uc := uc.below hb
          replace hB := from_ hB hb
          clear hb
          go_wp2_with fail
          refine (ratof_q N_a.out N_b.out HY.out N_q.out rfl (by have := Gb.out; omega) (by have := Gb.out; omega) ua ub).mono ?_
          rintro e w2 ⟨A2, c2, B2, d2, rfl, uQQ, vQQ, hb⟩
          have hal : Below w2.heap.size w2 (w2.alloc (.cells #[.bool sq, .slice A2 lq.length c2, .slice B2 kq.length d2] 28)) := (Below.refl _ _).alloc (Nat.le_refl _) _
          replace uQQ := uQQ.below hal
          replace vQQ := vQQ.below hal
          obtain ⟨xQQ, yQQ, zQQ, _, _, _, _⟩ := Box3.new w2 (.bool sq) (.slice A2 lq.length c2) (.slice B2 kq.length d2) 28
          have hs := from_ hb hal
          replace xa := keepC hs xa
          replace ya := keepC hs ya
          replace xb := keepC hs xb
          replace yb := keepC hs yb
          replace xc := keepC hs xc
          replace yc := keepC hs yc
          replace ua := ua.below hs
          replace ub := ub.below hs
          replace uc := uc.below hs
          replace hB := from_ hB hs
          clear hb hal hs
          go_wp2_with fail
          refine (wmul_n N_a.out N_c.out N_f.out rfl (by have := Gb.out; omega) (by have := Gb.out; omega) ua uc).mono ?_
          rintro e w3 ⟨A3, c3, rfl, uF, hb⟩
          have hal : Below w3.heap.size w3 (w3.alloc (.cells #[.bool sf, .slice A3 lf.length c3] 25)) := (Below.refl _ _).alloc (Nat.le_refl _) _
          replace uF := uF.below hal
          obtain ⟨xF, yF, _, _, _⟩ := Box.new w3 (.bool sf) (.slice A3 lf.length c3) 25
          have hs := from_ hb hal
          replace xa := keepC hs xa
          replace ya := keepC hs ya
          replace xb := keepC hs xb
          replace yb := keepC hs yb
          replace xc := keepC hs xc
          replace yc := keepC hs yc
          replace xQQ := keepC hs xQQ
          replace yQQ := keepC hs yQQ
          replace zQQ := keepC hs zQQ
          replace ua := ua.below hs
          replace ub := ub.below hs
          replace uc := uc.below hs
          replace uQQ := uQQ.below hs
          replace vQQ := vQQ.below hs
          replace hB := from_ hB hs
          clear hb hal hs
          go_wp2_with fail
          refine (wmul_n N_b.out N_c.out N_g.out rfl (by have := Gb.out; omega) (by have := Gb.out; omega) ub uc).mono ?_
          rintro e w4 ⟨A4, c4, rfl, uG, hb⟩
          have hal : Below w4.heap.size w4 (w4.alloc (.cells #[.bool sg, .slice A4 lg.length c4] 25)) := (Below.refl _ _).alloc (Nat.le_refl _) _
          replace uG := uG.below hal
          obtain ⟨xG, yG, _, _, _⟩ := Box.new w4 (.bool sg) (.slice A4 lg.length c4) 25
          have hs := from_ hb hal
          replace xa := keepC hs xa
          replace ya := keepC hs ya
          replace xb := keepC hs xb
          replace yb := keepC hs yb
          replace xc := keepC hs xc
          replace yc := keepC hs yc
          replace xQQ := keepC hs xQQ
          replace yQQ := keepC hs yQQ
          replace zQQ := keepC hs zQQ
          replace xF := keepC hs xF
          replace yF := keepC hs yF
          replace ua := ua.below hs
          replace ub := ub.below hs
          replace uc := uc.below hs
          replace uQQ := uQQ.below hs
          replace vQQ := vQQ.below hs
          replace uF := uF.below hs
          replace hB := from_ hB hs
          clear hb hal hs
          go_wp2_with fail
          refine (ratof_q N_f.out N_g.out HYV.out N_q.out HR.out (by omega) (by omega) uF uG).mono ?_
          rintro e w5 ⟨A5, c5, B5, d5, rfl, uBB, vBB, hb⟩
          have hal : Below w5.heap.size w5 (w5.alloc (.cells #[.bool sq, .slice A5 lq.length c5, .slice B5 kq.length d5] 28)) := (Below.refl _ _).alloc (Nat.le_refl _) _
          replace uBB := uBB.below hal
          replace vBB := vBB.below hal
          obtain ⟨xBB, yBB, zBB, _, _, _, _⟩ := Box3.new w5 (.bool sq) (.slice A5 lq.length c5) (.slice B5 kq.length d5) 28
          have hs := from_ hb hal
          replace xa := keepC hs xa
          replace ya := keepC hs ya
          replace xb := keepC hs xb
          replace yb := keepC hs yb
          replace xc := keepC hs xc
          replace yc := keepC hs yc
          replace xQQ := keepC hs xQQ
          replace yQQ := keepC hs yQQ
          replace zQQ := keepC hs zQQ
          replace xF := keepC hs xF
          replace yF := keepC hs yF
          replace xG := keepC hs xG
          replace yG := keepC hs yG
          replace ua := ua.below hs
          replace ub := ub.below hs
          replace uc := uc.below hs
          replace uQQ := uQQ.below hs
          replace vQQ := vQQ.below hs
          replace uF := uF.below hs
          replace uG := uG.below hs
          replace hB := from_ hB hs
          clear hb hal hs
          go_wp2_with fail
          refine (ratof_q N_q.out.num N_q.out.den Hden.out N_q.out Hown.out (by omega) (by omega) uQQ vQQ).mono ?_
          rintro e w6 ⟨A6, c6, B6, d6, rfl, uOW, vOW, hb⟩
          have hal : Below w6.heap.size w6 (w6.alloc (.cells #[.bool sq, .slice A6 lq.length c6, .slice B6 kq.length d6] 28)) := (Below.refl _ _).alloc (Nat.le_refl _) _
          replace uOW := uOW.below hal
          replace vOW := vOW.below hal
          obtain ⟨xOW, yOW, zOW, _, _, _, _⟩ := Box3.new w6 (.bool sq) (.slice A6 lq.length c6) (.slice B6 kq.length d6) 28
          have hs := from_ hb hal
          replace xa := keepC hs xa
          replace ya := keepC hs ya
          replace xb := keepC hs xb
          replace yb := keepC hs yb
          replace xc := keepC hs xc
          replace yc := keepC hs yc
          replace xQQ := keepC hs xQQ
          replace yQQ := keepC hs yQQ
          replace zQQ := keepC hs zQQ
          replace xF := keepC hs xF
          replace yF := keepC hs yF
          replace xG := keepC hs xG
          replace yG := keepC hs yG
          replace xBB := keepC hs xBB
          replace yBB := keepC hs yBB
          replace zBB := keepC hs zBB
          replace ua := ua.below hs
          replace ub := ub.below hs
          replace uc := uc.below hs
          replace uQQ := uQQ.below hs
          replace vQQ := vQQ.below hs
          replace uF := uF.below hs
          replace uG := uG.below hs
          replace uBB := uBB.below hs
          replace vBB := vBB.below hs
          replace hB := from_ hB hs
          clear hb hal hs
          go_wp2_with fail
          refine (same6_yes uOW vOW uQQ vQQ).mono ?_
          rintro e w7 ⟨rfl, hb⟩
          replace xa := keepC hb xa
          replace ya := keepC hb ya
          replace xb := keepC hb xb
          replace yb := keepC hb yb
          replace xc := keepC hb xc
          replace yc := keepC hb yc
          replace xQQ := keepC hb xQQ
          replace yQQ := keepC hb yQQ
          replace zQQ := keepC hb zQQ
          replace xF := keepC hb xF
          replace yF := keepC hb yF
          replace xG := keepC hb xG
          replace yG := keepC hb yG
          replace xBB := keepC hb xBB
          replace yBB := keepC hb yBB
          replace zBB := keepC hb zBB
          replace xOW := keepC hb xOW
          replace yOW := keepC hb yOW
          replace zOW := keepC hb zOW
          replace ua := ua.below hb
          replace ub := ub.below hb
          replace uc := uc.below hb
          replace uQQ := uQQ.below hb
          replace vQQ := vQQ.below hb
          replace uF := uF.below hb
          replace uG := uG.below hb
          replace uBB := uBB.below hb
          replace vBB := vBB.below hb
          replace uOW := uOW.below hb
          replace vOW := vOW.below hb
          replace hB := from_ hB hb
          clear hb
          go_wp2_with fail
          refine (checkQ_ok N_q.out uQQ vQQ (by omega) (by omega)).mono ?_
          rintro e w8 ⟨rfl, hb⟩
          replace xa := keepC hb xa
          replace ya := keepC hb ya
          replace xb := keepC hb xb
          replace yb := keepC hb yb
          replace xc := keepC hb xc
          replace yc := keepC hb yc
          replace xQQ := keepC hb xQQ
          replace yQQ := keepC hb yQQ
          replace zQQ := keepC hb zQQ
          replace xF := keepC hb xF
          replace yF := keepC hb yF
          replace xG := keepC hb xG
          replace yG := keepC hb yG
          replace xBB := keepC hb xBB
          replace yBB := keepC hb yBB
          replace zBB := keepC hb zBB
          replace xOW := keepC hb xOW
          replace yOW := keepC hb yOW
          replace zOW := keepC hb zOW
          replace ua := ua.below hb
          replace ub := ub.below hb
          replace uc := uc.below hb
          replace uQQ := uQQ.below hb
          replace vQQ := vQQ.below hb
          replace uF := uF.below hb
          replace uG := uG.below hb
          replace uBB := uBB.below hb
          replace vBB := vBB.below hb
          replace uOW := uOW.below hb
          replace vOW := vOW.below hb
          replace hB := from_ hB hb
          clear hb
          go_wp2_with fail
          refine (same6_yes uQQ vQQ uBB vBB).mono ?_
          rintro e w9 ⟨rfl, hb⟩
          replace xa := keepC hb xa
          replace ya := keepC hb ya
          replace xb := keepC hb xb
          replace yb := keepC hb yb
          replace xc := keepC hb xc
          replace yc := keepC hb yc
          replace xQQ := keepC hb xQQ
          replace yQQ := keepC hb yQQ
          replace zQQ := keepC hb zQQ
          replace xF := keepC hb xF
          replace yF := keepC hb yF
          replace xG := keepC hb xG
          replace yG := keepC hb yG
          replace xBB := keepC hb xBB
          replace yBB := keepC hb yBB
          replace zBB := keepC hb zBB
          replace xOW := keepC hb xOW
          replace yOW := keepC hb yOW
          replace zOW := keepC hb zOW
          replace ua := ua.below hb
          replace ub := ub.below hb
          replace uc := uc.below hb
          replace uQQ := uQQ.below hb
          replace vQQ := vQQ.below hb
          replace uF := uF.below hb
          replace uG := uG.below hb
          replace uBB := uBB.below hb
          replace vBB := vBB.below hb
          replace uOW := uOW.below hb
          replace vOW := vOW.below hb
          replace hB := from_ hB hb
          clear hb
          go_wp2
          go_ret
          exact ⟨by first | rfl | trivial, hB⟩
    · have hz : errQ s l t k = 8 ∨ errQ s l t k = 30 := by
        unfold errQ at he ⊢
        split at he
        · rename_i h
          split at he
          · rename_i h2; rw [if_pos h, if_pos h2]; exact .inr rfl
          · exact absurd rfl he
        · rename_i h; rw [if_neg h]; exact .inl rfl
      obtain ⟨S1, hS1⟩ : ∃ S, S = (opP (· * ·) s l r m).1 := ⟨_, rfl⟩
      obtain ⟨M1, hM1⟩ : ∃ M, M = (opP (· * ·) s l r m).2 := ⟨_, rfl⟩
      obtain ⟨E1, hE1⟩ : ∃ E, E = errO s l r m := ⟨_, rfl⟩
      obtain ⟨S2, hS2⟩ : ∃ S, S = (opP (· * ·) t k r m).1 := ⟨_, rfl⟩
      obtain ⟨M2, hM2⟩ : ∃ M, M = (opP (· * ·) t k r m).2 := ⟨_, rfl⟩
      obtain ⟨E2, hE2⟩ : ∃ E, E = errO t k r m := ⟨_, rfl⟩
      have MU1 : Hid (∀ (W : World) Y1 Y2 A1 c1 A2 c2, U64s W Y1 A1 c1 l → U64s W Y2 A2 c2 m → Calls Tryz.prog 9 #[.agg #[.bool s, .slice A1 l.length c1], .agg #[.bool r, .slice A2 m.length c2]] W fun e w' => ∃ Av cv, e = .returned (.tuple #[.agg #[.bool S1, .slice Av M1.length cv], .int .i64 E1]) ∧ U64s w' (new W.heap.size) Av cv M1 ∧ Below W.heap.size W w') := fun W Y1 Y2 A1 c1 A2 c2 h1 h2 => by
        rw [hS1, hM1, hE1]
        exact wmul_x h1 h2 (by have := Gb.out; omega) (by have := Gb.out; omega) rfl
      have MU2 : Hid (∀ (W : World) Y1 Y2 A1 c1 A2 c2, U64s W Y1 A1 c1 k → U64s W Y2 A2 c2 m → Calls Tryz.prog 9 #[.agg #[.bool t, .slice A1 k.length c1], .agg #[.bool r, .slice A2 m.length c2]] W fun e w' => ∃ Av cv, e = .returned (.tuple #[.agg #[.bool S2, .slice Av M2.length cv], .int .i64 E2]) ∧ U64s w' (new W.heap.size) Av cv M2 ∧ Below W.heap.size W w') := fun W Y1 Y2 A1 c1 A2 c2 h1 h2 => by
        rw [hS2, hM2, hE2]
        exact wmul_x h1 h2 (by have := Gb.out; omega) (by have := Gb.out; omega) rfl
      clear hS1 hS2 hM1 hM2 hE1 hE2 he sa sb sc
      rcases hz with hz | hz
      · have HZ := Lib.hid hz
        clear hz
        go_enter Tryz.func3, Tryz.ntmps3
        go_wp2_with fail
        refine (alive6 (ht.below hB)).mono ?_
        rintro e w1 ⟨rfl, hb⟩
        replace xa := keepC hb xa
        replace ya := keepC hb ya
        replace xb := keepC hb xb
        replace yb := keepC hb yb
        replace xc := keepC hb xc
        replace yc := keepC hb yc
        replace ua := ua.below hb
        replace ub := ub.below hb
        replace uc := uc.below hb
        replace hB := from_ hB hb
        clear hb
        go_wp2_with fail
        refine (ratof_e ua ub HZ.out (by omega)).mono ?_
        rintro e w2 ⟨rfl, hb⟩
        have hal : Below w2.heap.size w2 (w2.alloc (.cells #[.bool false, .slice none 0 0, .slice none 0 0] 28)) := (Below.refl _ _).alloc (Nat.le_refl _) _
        obtain ⟨xe, ye, ze, _, _, _, _⟩ := Box3.new w2 (.bool false) (.slice none 0 0) (.slice none 0 0) 28
        have hs := from_ hb hal
        replace xa := keepC hs xa
        replace ya := keepC hs ya
        replace xb := keepC hs xb
        replace yb := keepC hs yb
        replace xc := keepC hs xc
        replace yc := keepC hs yc
        replace ua := ua.below hs
        replace ub := ub.below hs
        replace uc := uc.below hs
        replace hB := from_ hB hs
        clear hb hal hs
        go_wp2_with fail
        refine (MU1.out _ _ _ _ _ _ _ ua uc).mono ?_
        rintro e w3 ⟨A3, c3, rfl, uF, hb⟩
        have hal : Below w3.heap.size w3 (w3.alloc (.cells #[.bool S1, .slice A3 M1.length c3] 25)) := (Below.refl _ _).alloc (Nat.le_refl _) _
        replace uF := uF.below hal
        obtain ⟨xF, yF, _, _, _⟩ := Box.new w3 (.bool S1) (.slice A3 M1.length c3) 25
        have hs := from_ hb hal
        replace xa := keepC hs xa
        replace ya := keepC hs ya
        replace xb := keepC hs xb
        replace yb := keepC hs yb
        replace xc := keepC hs xc
        replace yc := keepC hs yc
        replace xe := keepC hs xe
        replace ye := keepC hs ye
        replace ze := keepC hs ze
        replace ua := ua.below hs
        replace ub := ub.below hs
        replace uc := uc.below hs
        replace hB := from_ hB hs
        clear hb hal hs
        go_wp2_with fail
        refine (MU2.out _ _ _ _ _ _ _ ub uc).mono ?_
        rintro e w4 ⟨A4, c4, rfl, uG, hb⟩
        have hal : Below w4.heap.size w4 (w4.alloc (.cells #[.bool S2, .slice A4 M2.length c4] 25)) := (Below.refl _ _).alloc (Nat.le_refl _) _
        replace uG := uG.below hal
        obtain ⟨xG, yG, _, _, _⟩ := Box.new w4 (.bool S2) (.slice A4 M2.length c4) 25
        have hs := from_ hb hal
        replace xa := keepC hs xa
        replace ya := keepC hs ya
        replace xb := keepC hs xb
        replace yb := keepC hs yb
        replace xc := keepC hs xc
        replace yc := keepC hs yc
        replace xe := keepC hs xe
        replace ye := keepC hs ye
        replace ze := keepC hs ze
        replace xF := keepC hs xF
        replace yF := keepC hs yF
        replace ua := ua.below hs
        replace ub := ub.below hs
        replace uc := uc.below hs
        replace uF := uF.below hs
        replace hB := from_ hB hs
        clear hb hal hs
        go_wp2_with fail
        refine (same6_yes (l := []) (k := []) (U64s.nil _ old) (U64s.nil _ old) (U64s.nil _ old) (U64s.nil _ old)).mono ?_
        rintro e w5 ⟨rfl, hb⟩
        replace xa := keepC hb xa
        replace ya := keepC hb ya
        replace xb := keepC hb xb
        replace yb := keepC hb yb
        replace xc := keepC hb xc
        replace yc := keepC hb yc
        replace xe := keepC hb xe
        replace ye := keepC hb ye
        replace ze := keepC hb ze
        replace xF := keepC hb xF
        replace yF := keepC hb yF
        replace xG := keepC hb xG
        replace yG := keepC hb yG
        replace ua := ua.below hb
        replace ub := ub.below hb
        replace uc := uc.below hb
        replace uF := uF.below hb
        replace uG := uG.below hb
        replace hB := from_ hB hb
        clear hb
        go_wp2
        go_ret
        exact ⟨by first | rfl | trivial, hB⟩
      · have HZ := Lib.hid hz
        clear hz
        go_enter Tryz.func3, Tryz.ntmps3
        go_wp2_with fail
        refine (alive6 (ht.below hB)).mono ?_
        rintro e w1 ⟨rfl, hb⟩
        replace xa := keepC hb xa
        replace ya := keepC hb ya
        replace xb := keepC hb xb
        replace yb := keepC hb yb
        replace xc := keepC hb xc
        replace yc := keepC hb yc
        replace ua := ua.below hb
        replace ub := ub.below hb
        replace uc := uc.below hb
        replace hB := from_ hB hb
        clear hb
        go_wp2_with fail
        refine (ratof_e ua ub HZ.out (by omega)).mono ?_
        rintro e w2 ⟨rfl, hb⟩
        have hal : Below w2.heap.size w2 (w2.alloc (.cells #[.bool false, .slice none 0 0, .slice none 0 0] 28)) := (Below.refl _ _).alloc (Nat.le_refl _) _
        obtain ⟨xe, ye, ze, _, _, _, _⟩ := Box3.new w2 (.bool false) (.slice none 0 0) (.slice none 0 0) 28
        have hs := from_ hb hal
        replace xa := keepC hs xa
        replace ya := keepC hs ya
        replace xb := keepC hs xb
        replace yb := keepC hs yb
        replace xc := keepC hs xc
        replace yc := keepC hs yc
        replace ua := ua.below hs
        replace ub := ub.below hs
        replace uc := uc.below hs
        replace hB := from_ hB hs
        clear hb hal hs
        go_wp2_with fail
        refine (MU1.out _ _ _ _ _ _ _ ua uc).mono ?_
        rintro e w3 ⟨A3, c3, rfl, uF, hb⟩
        have hal : Below w3.heap.size w3 (w3.alloc (.cells #[.bool S1, .slice A3 M1.length c3] 25)) := (Below.refl _ _).alloc (Nat.le_refl _) _
        replace uF := uF.below hal
        obtain ⟨xF, yF, _, _, _⟩ := Box.new w3 (.bool S1) (.slice A3 M1.length c3) 25
        have hs := from_ hb hal
        replace xa := keepC hs xa
        replace ya := keepC hs ya
        replace xb := keepC hs xb
        replace yb := keepC hs yb
        replace xc := keepC hs xc
        replace yc := keepC hs yc
        replace xe := keepC hs xe
        replace ye := keepC hs ye
        replace ze := keepC hs ze
        replace ua := ua.below hs
        replace ub := ub.below hs
        replace uc := uc.below hs
        replace hB := from_ hB hs
        clear hb hal hs
        go_wp2_with fail
        refine (MU2.out _ _ _ _ _ _ _ ub uc).mono ?_
        rintro e w4 ⟨A4, c4, rfl, uG, hb⟩
        have hal : Below w4.heap.size w4 (w4.alloc (.cells #[.bool S2, .slice A4 M2.length c4] 25)) := (Below.refl _ _).alloc (Nat.le_refl _) _
        replace uG := uG.below hal
        obtain ⟨xG, yG, _, _, _⟩ := Box.new w4 (.bool S2) (.slice A4 M2.length c4) 25
        have hs := from_ hb hal
        replace xa := keepC hs xa
        replace ya := keepC hs ya
        replace xb := keepC hs xb
        replace yb := keepC hs yb
        replace xc := keepC hs xc
        replace yc := keepC hs yc
        replace xe := keepC hs xe
        replace ye := keepC hs ye
        replace ze := keepC hs ze
        replace xF := keepC hs xF
        replace yF := keepC hs yF
        replace ua := ua.below hs
        replace ub := ub.below hs
        replace uc := uc.below hs
        replace uF := uF.below hs
        replace hB := from_ hB hs
        clear hb hal hs
        go_wp2_with fail
        refine (same6_yes (l := []) (k := []) (U64s.nil _ old) (U64s.nil _ old) (U64s.nil _ old) (U64s.nil _ old)).mono ?_
        rintro e w5 ⟨rfl, hb⟩
        replace xa := keepC hb xa
        replace ya := keepC hb ya
        replace xb := keepC hb xb
        replace yb := keepC hb yb
        replace xc := keepC hb xc
        replace yc := keepC hb yc
        replace xe := keepC hb xe
        replace ye := keepC hb ye
        replace ze := keepC hb ze
        replace xF := keepC hb xF
        replace yF := keepC hb yF
        replace xG := keepC hb xG
        replace yG := keepC hb yG
        replace ua := ua.below hb
        replace ub := ub.below hb
        replace uc := uc.below hb
        replace uF := uF.below hb
        replace uG := uG.below hb
        replace hB := from_ hB hb
        clear hb
        go_wp2
        go_ret
        exact ⟨by first | rfl | trivial, hB⟩

end Go.Proofs.YtbcplffdoejniaaGreatDoor
