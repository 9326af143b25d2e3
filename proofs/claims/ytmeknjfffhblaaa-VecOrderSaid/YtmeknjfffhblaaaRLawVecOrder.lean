/-
  facetroomlaw07.VecOrder, walked. No conditions.
-/
import Derived.Test.YtmeknjfffhblaaaRVecP
namespace Go.Proofs.Ytmeknjfffhblaaa
open Go.RowKit
set_option linter.unusedVariables false
set_option linter.unusedSimpArgs false

theorem cmpV_vals : ∀ (xs ys : List Int), cmpV xs ys = 0 ∨ cmpV xs ys = 1 ∨ cmpV xs ys = -1 := by
  intro xs
  induction xs with
  | nil => intro ys; exact .inl (by cases ys <;> rfl)
  | cons x xs ih =>
    intro ys
    cases ys with
    | nil => exact .inl rfl
    | cons y ys =>
      simp only [cmpV]
      by_cases h0 : sgn (x - y) = 0
      · rw [if_pos h0]; exact ih ys
      · rw [if_neg h0]
        rcases Int.lt_trichotomy (x - y) 0 with h | h | h
        · exact .inr (.inr (sgnV_neg h))
        · exact absurd (by rw [h]; exact sgnV_zero) h0
        · exact .inr (.inl (sgnV_pos h))

theorem vcmp_any {w : World} {Z Y : Zone} {A B : Option Addr} {c d K : Nat} {ps qs : List (Bool × List Nat)} (ha : VecAt w Z A c ps) (hb : VecAt w Y B d qs) (hK1 : ∀ p ∈ ps, p.2.length ≤ K) (hK2 : ∀ p ∈ qs, p.2.length ≤ K) (hK : K ≤ 20000) :
    Calls Try.prog 16 #[.slice A ps.length c, .slice B qs.length d] w fun e w' => (∃ g, e = .returned (.tuple #[.int .i64 g, .int .i64 (errVs [ps, qs])])) ∧ Below w.heap.size w w' := by
  rcases errVs_vals ps qs with h | h
  · obtain ⟨h1, h2, h3⟩ := errVs_zero h
    refine (vcmp_n ha hb (NmV.ok h1 ha.small) (NmV.ok h2 hb.small) h3 (okV_len h1) hK1 hK2 (by omega) rfl).mono ?_
    rintro e w' ⟨rfl, hb⟩
    rw [h]
    exact ⟨⟨_, rfl⟩, hb⟩
  · refine (vcmp_err ha hb rfl h).mono ?_
    rintro e w' ⟨rfl, hb⟩
    exact ⟨⟨_, rfl⟩, hb⟩

set_option maxRecDepth 100000 in
set_option maxHeartbeats 4000000 in
theorem lawVecOrder {w : World} {a b c : Value} {ps qs rs : List (Bool × List Nat)} (ha : IsVec w old a ps) (hb : IsVec w old b qs) (hc : IsVec w old c rs) :
    Calls Try.prog 3 #[a, b, c] w fun e w' => e = .returned (.bool true) ∧ Below w.heap.size w w' := by
  obtain ⟨A, ca, rfl, va⟩ := ha
  obtain ⟨B, cb, rfl, vb⟩ := hb
  obtain ⟨C, cc, rfl, vc⟩ := hc
  have hB : Below w.heap.size w w := Below.refl _ _
  have hg1 := fun (w1 : World) (Z : Zone) (h : VecAt w1 Z A ca ps) => great_any (M := 20) (K := 10) h (by omega) (by omega)
  have hg2 := fun (w1 : World) (Z : Zone) (h : VecAt w1 Z B cb qs) => great_any (M := 20) (K := 10) h (by omega) (by omega)
  have hg3 := fun (w1 : World) (Z : Zone) (h : VecAt w1 Z C cc rs) => great_any (M := 20) (K := 10) h (by omega) (by omega)
  cases e1 : greatV ps 20 10
  case true =>
    rw [e1] at hg1
    have G1 := Lib.hid hg1
    have G2 := Lib.hid hg2
    have G3 := Lib.hid hg3
    clear hg1 hg2 hg3
    go_enter Try.func3, Try.ntmps3
    go_wp2_with fail
    refine (alive7 _).mono ?_
    rintro e w1 ⟨rfl, hb⟩
    replace va := va.below hb
    replace vb := vb.below hb
    replace vc := vc.below hb
    replace hB := from_ hB hb
    clear hb
    go_wp2_with fail
    refine (G1.out _ _ va).mono ?_
    rintro e _ ⟨rfl, rfl⟩
    go_wp2
    go_ret
    exact ⟨rfl, hB⟩
  case false =>
  cases e2 : greatV qs 20 10
  case true =>
    rw [e1] at hg1
    rw [e2] at hg2
    have G1 := Lib.hid hg1
    have G2 := Lib.hid hg2
    have G3 := Lib.hid hg3
    clear hg1 hg2 hg3
    go_enter Try.func3, Try.ntmps3
    go_wp2_with fail
    refine (alive7 _).mono ?_
    rintro e w1 ⟨rfl, hb⟩
    replace va := va.below hb
    replace vb := vb.below hb
    replace vc := vc.below hb
    replace hB := from_ hB hb
    clear hb
    go_wp2_with fail
    refine (G1.out _ _ va).mono ?_
    rintro e _ ⟨rfl, rfl⟩
    go_wp2_with fail
    refine (G2.out _ _ vb).mono ?_
    rintro e _ ⟨rfl, rfl⟩
    go_wp2
    go_ret
    exact ⟨rfl, hB⟩
  case false =>
  cases e3 : greatV rs 20 10
  case true =>
    rw [e1] at hg1
    rw [e2] at hg2
    rw [e3] at hg3
    have G1 := Lib.hid hg1
    have G2 := Lib.hid hg2
    have G3 := Lib.hid hg3
    clear hg1 hg2 hg3
    go_enter Try.func3, Try.ntmps3
    go_wp2_with fail
    refine (alive7 _).mono ?_
    rintro e w1 ⟨rfl, hb⟩
    replace va := va.below hb
    replace vb := vb.below hb
    replace vc := vc.below hb
    replace hB := from_ hB hb
    clear hb
    go_wp2_with fail
    refine (G1.out _ _ va).mono ?_
    rintro e _ ⟨rfl, rfl⟩
    go_wp2_with fail
    refine (G2.out _ _ vb).mono ?_
    rintro e _ ⟨rfl, rfl⟩
    go_wp2_with fail
    refine (G3.out _ _ vc).mono ?_
    rintro e _ ⟨rfl, rfl⟩
    go_wp2
    go_ret
    exact ⟨rfl, hB⟩
  case false =>
  rw [e1] at hg1
  rw [e2] at hg2
  rw [e3] at hg3
  obtain ⟨la, ka⟩ := greatV_no e1
  obtain ⟨lb, kb⟩ := greatV_no e2
  obtain ⟨lc, kc⟩ := greatV_no e3
  have G1 := Lib.hid hg1
  have G2 := Lib.hid hg2
  have G3 := Lib.hid hg3
  clear hg1 hg2 hg3 e1 e2 e3
  have hC1 := fun (w1 : World) (Z Y : Zone) (h1 : VecAt w1 Z A ca ps) (h2 : VecAt w1 Y B cb qs) => vcmp_any h1 h2 ka kb (by omega)
  have hC2 := fun (w1 : World) (Z Y : Zone) (h1 : VecAt w1 Z B cb qs) (h2 : VecAt w1 Y A ca ps) => vcmp_any h1 h2 kb ka (by omega)
  have hA1 := fun (w1 : World) (Z Y : Zone) (h1 : VecAt w1 Z A ca ps) (h2 : VecAt w1 Y C cc rs) => vadd_any h1 h2 ka kc (by omega)
  have hA2 := fun (w1 : World) (Z Y : Zone) (h1 : VecAt w1 Z B cb qs) (h2 : VecAt w1 Y C cc rs) => vadd_any h1 h2 kb kc (by omega)
  obtain ⟨E1, hE1⟩ : ∃ E, E = errVs [ps, qs] := ⟨_, rfl⟩
  obtain ⟨E2, hE2⟩ : ∃ E, E = errVs [qs, ps] := ⟨_, rfl⟩
  obtain ⟨E3, hE3⟩ : ∃ E, E = errVs [ps, rs] := ⟨_, rfl⟩
  obtain ⟨E4, hE4⟩ : ∃ E, E = errVs [qs, rs] := ⟨_, rfl⟩
  have v1 := errVs_vals ps qs
  have v2 := errVs_vals qs ps
  have v3 := errVs_vals ps rs
  have v4 := errVs_vals qs rs
  rw [← hE1] at hC1 v1
  rw [← hE2] at hC2 v2
  rw [← hE3] at hA1 v3
  rw [← hE4] at hA2 v4
  have H1 := Lib.hid hC1
  have H2 := Lib.hid hC2
  have H3 := Lib.hid hA1
  have H4 := Lib.hid hA2
  clear hC1 hC2 hA1 hA2
  rcases v1 with v1 | v1
  case inr =>
    rcases v1 with rfl | rfl
    all_goals
      clear hE1 hE2 hE3 hE4 ka kb kc la lb lc v2 v3 v4
      go_enter Try.func3, Try.ntmps3
      go_wp2_with fail
      refine (alive7 _).mono ?_
      rintro e w1 ⟨rfl, hb⟩
      replace va := va.below hb
      replace vb := vb.below hb
      replace vc := vc.below hb
      replace hB := from_ hB hb
      clear hb
      go_wp2_with fail
      refine (G1.out _ _ va).mono ?_
      rintro e _ ⟨rfl, rfl⟩
      go_wp2_with fail
      refine (G2.out _ _ vb).mono ?_
      rintro e _ ⟨rfl, rfl⟩
      go_wp2_with fail
      refine (G3.out _ _ vc).mono ?_
      rintro e _ ⟨rfl, rfl⟩
      go_wp2_with fail
      refine (H1.out _ _ _ va vb).mono ?_
      rintro e w5 ⟨⟨g5, rfl⟩, hb⟩
      replace va := va.below hb
      replace vb := vb.below hb
      replace vc := vc.below hb
      replace hB := from_ hB hb
      clear hb
      go_wp2_with fail
      refine (H2.out _ _ _ vb va).mono ?_
      rintro e w6 ⟨⟨g6, rfl⟩, hb⟩
      replace va := va.below hb
      replace vb := vb.below hb
      replace vc := vc.below hb
      replace hB := from_ hB hb
      clear hb
      go_wp2_with fail
      refine (H3.out _ _ _ va vc).mono ?_
      rintro e w7 ⟨⟨A7, n7, c7, rfl⟩, hb⟩
      replace va := va.below hb
      replace vb := vb.below hb
      replace vc := vc.below hb
      replace hB := from_ hB hb
      clear hb
      go_wp2_with fail
      refine (H4.out _ _ _ vb vc).mono ?_
      rintro e w8 ⟨⟨A8, n8, c8, rfl⟩, hb⟩
      replace va := va.below hb
      replace vb := vb.below hb
      replace vc := vc.below hb
      replace hB := from_ hB hb
      clear hb
      go_wp2
      go_ret
      exact ⟨rfl, hB⟩
  case inl =>
  rcases v2 with v2 | v2
  case inr =>
    subst v1
    rcases v2 with rfl | rfl
    all_goals
      clear hE1 hE2 hE3 hE4 ka kb kc la lb lc v3 v4
      go_enter Try.func3, Try.ntmps3
      go_wp2_with fail
      refine (alive7 _).mono ?_
      rintro e w1 ⟨rfl, hb⟩
      replace va := va.below hb
      replace vb := vb.below hb
      replace vc := vc.below hb
      replace hB := from_ hB hb
      clear hb
      go_wp2_with fail
      refine (G1.out _ _ va).mono ?_
      rintro e _ ⟨rfl, rfl⟩
      go_wp2_with fail
      refine (G2.out _ _ vb).mono ?_
      rintro e _ ⟨rfl, rfl⟩
      go_wp2_with fail
      refine (G3.out _ _ vc).mono ?_
      rintro e _ ⟨rfl, rfl⟩
      go_wp2_with fail
      refine (H1.out _ _ _ va vb).mono ?_
      rintro e w5 ⟨⟨g5, rfl⟩, hb⟩
      replace va := va.below hb
      replace vb := vb.below hb
      replace vc := vc.below hb
      replace hB := from_ hB hb
      clear hb
      go_wp2_with fail
      refine (H2.out _ _ _ vb va).mono ?_
      rintro e w6 ⟨⟨g6, rfl⟩, hb⟩
      replace va := va.below hb
      replace vb := vb.below hb
      replace vc := vc.below hb
      replace hB := from_ hB hb
      clear hb
      go_wp2_with fail
      refine (H3.out _ _ _ va vc).mono ?_
      rintro e w7 ⟨⟨A7, n7, c7, rfl⟩, hb⟩
      replace va := va.below hb
      replace vb := vb.below hb
      replace vc := vc.below hb
      replace hB := from_ hB hb
      clear hb
      go_wp2_with fail
      refine (H4.out _ _ _ vb vc).mono ?_
      rintro e w8 ⟨⟨A8, n8, c8, rfl⟩, hb⟩
      replace va := va.below hb
      replace vb := vb.below hb
      replace vc := vc.below hb
      replace hB := from_ hB hb
      clear hb
      go_wp2
      go_ret
      exact ⟨rfl, hB⟩
  case inl =>
  rcases v3 with v3 | v3
  case inr =>
    subst v1 v2
    rcases v3 with rfl | rfl
    all_goals
      clear hE1 hE2 hE3 hE4 ka kb kc la lb lc v4
      go_enter Try.func3, Try.ntmps3
      go_wp2_with fail
      refine (alive7 _).mono ?_
      rintro e w1 ⟨rfl, hb⟩
      replace va := va.below hb
      replace vb := vb.below hb
      replace vc := vc.below hb
      replace hB := from_ hB hb
      clear hb
      go_wp2_with fail
      refine (G1.out _ _ va).mono ?_
      rintro e _ ⟨rfl, rfl⟩
      go_wp2_with fail
      refine (G2.out _ _ vb).mono ?_
      rintro e _ ⟨rfl, rfl⟩
      go_wp2_with fail
      refine (G3.out _ _ vc).mono ?_
      rintro e _ ⟨rfl, rfl⟩
      go_wp2_with fail
      refine (H1.out _ _ _ va vb).mono ?_
      rintro e w5 ⟨⟨g5, rfl⟩, hb⟩
      replace va := va.below hb
      replace vb := vb.below hb
      replace vc := vc.below hb
      replace hB := from_ hB hb
      clear hb
      go_wp2_with fail
      refine (H2.out _ _ _ vb va).mono ?_
      rintro e w6 ⟨⟨g6, rfl⟩, hb⟩
      replace va := va.below hb
      replace vb := vb.below hb
      replace vc := vc.below hb
      replace hB := from_ hB hb
      clear hb
      go_wp2_with fail
      refine (H3.out _ _ _ va vc).mono ?_
      rintro e w7 ⟨⟨A7, n7, c7, rfl⟩, hb⟩
      replace va := va.below hb
      replace vb := vb.below hb
      replace vc := vc.below hb
      replace hB := from_ hB hb
      clear hb
      go_wp2_with fail
      refine (H4.out _ _ _ vb vc).mono ?_
      rintro e w8 ⟨⟨A8, n8, c8, rfl⟩, hb⟩
      replace va := va.below hb
      replace vb := vb.below hb
      replace vc := vc.below hb
      replace hB := from_ hB hb
      clear hb
      go_wp2
      go_ret
      exact ⟨rfl, hB⟩
  case inl =>
  rcases v4 with v4 | v4
  case inr =>
    subst v1 v2 v3
    rcases v4 with rfl | rfl
    all_goals
      clear hE1 hE2 hE3 hE4 ka kb kc la lb lc
      go_enter Try.func3, Try.ntmps3
      go_wp2_with fail
      refine (alive7 _).mono ?_
      rintro e w1 ⟨rfl, hb⟩
      replace va := va.below hb
      replace vb := vb.below hb
      replace vc := vc.below hb
      replace hB := from_ hB hb
      clear hb
      go_wp2_with fail
      refine (G1.out _ _ va).mono ?_
      rintro e _ ⟨rfl, rfl⟩
      go_wp2_with fail
      refine (G2.out _ _ vb).mono ?_
      rintro e _ ⟨rfl, rfl⟩
      go_wp2_with fail
      refine (G3.out _ _ vc).mono ?_
      rintro e _ ⟨rfl, rfl⟩
      go_wp2_with fail
      refine (H1.out _ _ _ va vb).mono ?_
      rintro e w5 ⟨⟨g5, rfl⟩, hb⟩
      replace va := va.below hb
      replace vb := vb.below hb
      replace vc := vc.below hb
      replace hB := from_ hB hb
      clear hb
      go_wp2_with fail
      refine (H2.out _ _ _ vb va).mono ?_
      rintro e w6 ⟨⟨g6, rfl⟩, hb⟩
      replace va := va.below hb
      replace vb := vb.below hb
      replace vc := vc.below hb
      replace hB := from_ hB hb
      clear hb
      go_wp2_with fail
      refine (H3.out _ _ _ va vc).mono ?_
      rintro e w7 ⟨⟨A7, n7, c7, rfl⟩, hb⟩
      replace va := va.below hb
      replace vb := vb.below hb
      replace vc := vc.below hb
      replace hB := from_ hB hb
      clear hb
      go_wp2_with fail
      refine (H4.out _ _ _ vb vc).mono ?_
      rintro e w8 ⟨⟨A8, n8, c8, rfl⟩, hb⟩
      replace va := va.below hb
      replace vb := vb.below hb
      replace vc := vc.below hb
      replace hB := from_ hB hb
      clear hb
      go_wp2
      go_ret
      exact ⟨rfl, hB⟩
  case inl =>
  obtain ⟨o1, o2, l1⟩ := errVs_zero (hE1.symm.trans v1)
  obtain ⟨_, o3, l2⟩ := errVs_zero (hE3.symm.trans v3)
  have nx := NmV.ok o1 va.small
  have ny := NmV.ok o2 vb.small
  have nz := NmV.ok o3 vc.small
  clear hE1 hE2 hE3 hE4 v1 v2 v3 v4 H1 H2 H3 H4 o1 o2 o3 E1 E2 E3 E4
  generalize (ps.map fun p => zof p.1 p.2) = xs at *
  generalize (qs.map fun p => zof p.1 p.2) = ys at *
  generalize (rs.map fun p => zof p.1 p.2) = zs at *
  have kx := nmV_back nx ka
  have ky := nmV_back ny kb
  have kz := nmV_back nz kc
  have lx1 := nx.len
  have ly1 := ny.len
  have lz1 := nz.len
  obtain ⟨pu, n_u⟩ : ∃ p, NmV (List.zipWith (· + ·) xs zs) p := ⟨_, NmV.mk' _⟩
  obtain ⟨pv, n_v⟩ : ∃ p, NmV (List.zipWith (· + ·) ys zs) p := ⟨_, NmV.mk' _⟩
  have ku : ∀ p ∈ pu, p.2.length ≤ 100 := nmV_lens n_u fun z hz => by
    obtain ⟨x, y, h1, h2, rfl⟩ := mem_zip hz
    have h3 := lz_add x y
    have h6 := kx x h1
    have h7 := kz y h2
    omega
  have kv : ∀ p ∈ pv, p.2.length ≤ 100 := nmV_lens n_v fun z hz => by
    obtain ⟨x, y, h1, h2, rfl⟩ := mem_zip hz
    have h3 := lz_add x y
    have h6 := ky x h1
    have h7 := kz y h2
    omega
  have lu1 : pu.length = ps.length := by rw [← n_u.len, List.length_zipWith]; omega
  have lv1 : pv.length = ps.length := by rw [← n_v.len, List.length_zipWith]; omega
  have ht := cmpV_turn xs ys (by omega)
  have had := cmpV_add xs ys zs (by omega) (by omega)
  have hsm := cmpV_same xs ys (by omega)
  have hpq : decide (ps = qs) = decide (cmpV xs ys = 0) := by
    refine decide_eq_decide.2 ?_
    rw [hsm]
    unfold NmV at nx ny
    constructor
    · intro h
      refine List.ext_getElem (by omega) fun j h1 h2 => ?_
      have h3 := (NmV.at (show NmV xs ps from nx) j h1 (by omega))
      have h4 := (NmV.at (show NmV ys qs from ny) j h2 (by omega))
      subst h
      have h5 := zof_z xs[j]
      have h6 := zof_z ys[j]
      rw [← h3.1, ← h3.2] at h5
      rw [← h4.1, ← h4.2] at h6
      rw [← h5, ← h6]
    · intro h; rw [nx, ny, h]
  have huz : decide (pu = ps) = zeroV rs := by
    rw [zeroV_nm nz]
    refine decide_eq_decide.2 ?_
    rw [← add_zero_same xs zs (by omega)]
    constructor
    · intro h
      refine List.ext_getElem (by rw [List.length_zipWith]; omega) fun j h1 h2 => ?_
      have h3 := (NmV.at n_u j h1 (by rw [← n_u.len]; exact h1))
      have h4 := (NmV.at nx j h2 (by omega))
      subst h
      have h5 := zof_z (List.zipWith (· + ·) xs zs)[j]
      have h6 := zof_z xs[j]
      rw [← h3.1, ← h3.2] at h5
      rw [← h4.1, ← h4.2] at h6
      rw [← h5, ← h6]
    · intro h
      have h1 : pu = _ := n_u
      have h2 : ps = _ := nx
      rw [h1, h2, h]
  obtain ⟨R, hR⟩ : ∃ R, R = zeroV rs := ⟨_, rfl⟩
  rw [← hR] at huz
  have cA1 : Hid (∀ w1 Z Y, VecAt w1 Z A ca ps → VecAt w1 Y C cc rs → Calls Try.prog 17 #[.slice A ps.length ca, .slice C rs.length cc] w1 fun e w' => ∃ Av cv, e = .returned (.tuple #[.slice Av pu.length cv, .int .i64 0]) ∧ VecAt w' (new w1.heap.size) Av cv pu ∧ Below w1.heap.size w1 w') := fun w1 Z Y h1 h2 => vadd_n h1 h2 nx nz (by omega) (by omega) ka kc (by omega) n_u
  have cA2 : Hid (∀ w1 Z Y, VecAt w1 Z B cb qs → VecAt w1 Y C cc rs → Calls Try.prog 17 #[.slice B qs.length cb, .slice C rs.length cc] w1 fun e w' => ∃ Av cv, e = .returned (.tuple #[.slice Av pv.length cv, .int .i64 0]) ∧ VecAt w' (new w1.heap.size) Av cv pv ∧ Below w1.heap.size w1 w') := fun w1 Z Y h1 h2 => vadd_n h1 h2 ny nz (by omega) (by omega) kb kc (by omega) n_v
  have hS1 := fun (w1 : World) (Z Y : Zone) (h1 : VecAt w1 Z A ca ps) (h2 : VecAt w1 Y B cb qs) => vsame_any h1 h2
  have hS2 := fun (w1 : World) (Z Y : Zone) (Au : Option Addr) (au : Nat) (h1 : VecAt w1 Z Au au pu) (h2 : VecAt w1 Y A ca ps) => vsame_any h1 h2
  have hZ := fun (w1 : World) (Z : Zone) (h1 : VecAt w1 Z C cc rs) => vzero_any h1 (by omega)
  rw [hpq] at hS1
  rw [huz] at hS2
  rw [← hR] at hZ
  have v0 := cmpV_vals xs ys
  obtain ⟨g, hg⟩ : ∃ g, g = cmpV xs ys := ⟨_, rfl⟩
  rw [← hg] at v0 hS1 ht had
  have cC1 : Hid (∀ w1 Z Y, VecAt w1 Z A ca ps → VecAt w1 Y B cb qs → Calls Try.prog 16 #[.slice A ps.length ca, .slice B qs.length cb] w1 fun e w' => e = .returned (.tuple #[.int .i64 g, .int .i64 0]) ∧ Below w1.heap.size w1 w') := fun w1 Z Y h1 h2 => vcmp_n h1 h2 nx ny (by omega) (by omega) ka kb (by omega) hg.symm
  have cC2 : Hid (∀ w1 Z Y, VecAt w1 Z B cb qs → VecAt w1 Y A ca ps → Calls Try.prog 16 #[.slice B qs.length cb, .slice A ps.length ca] w1 fun e w' => e = .returned (.tuple #[.int .i64 (-g), .int .i64 0]) ∧ Below w1.heap.size w1 w') := fun w1 Z Y h1 h2 => vcmp_n h1 h2 ny nx (by omega) (by omega) kb ka (by omega) ht
  have cC3 : Hid (∀ w1 Z Y Au au Av av, VecAt w1 Z Au au pu → VecAt w1 Y Av av pv → Calls Try.prog 16 #[.slice Au pu.length au, .slice Av pv.length av] w1 fun e w' => e = .returned (.tuple #[.int .i64 g, .int .i64 0]) ∧ Below w1.heap.size w1 w') := fun w1 Z Y Au au Av av h1 h2 => vcmp_n h1 h2 n_u n_v (by omega) (by omega) ku kv (by omega) had
  clear nx ny nz n_u n_v kx ky kz ka kb kc ku kv la lb lc lx1 ly1 lz1 lu1 lv1 l1 l2 ht had hsm hpq huz hR hg
  rcases v0 with rfl | rfl | rfl
  all_goals
    have S1 := Lib.hid hS1
    clear hS1
    cases R
    all_goals
      have S2 := Lib.hid hS2
      have ZZ := Lib.hid hZ
      clear hS2 hZ
      go_enter Try.func3, Try.ntmps3
      go_wp2_with fail
      refine (alive7 _).mono ?_
      rintro e w1 ⟨rfl, hb⟩
      replace va := va.below hb
      replace vb := vb.below hb
      replace vc := vc.below hb
      replace hB := from_ hB hb
      clear hb
      go_wp2_with fail
      refine (G1.out _ _ va).mono ?_
      rintro e _ ⟨rfl, rfl⟩
      go_wp2_with fail
      refine (G2.out _ _ vb).mono ?_
      rintro e _ ⟨rfl, rfl⟩
      go_wp2_with fail
      refine (G3.out _ _ vc).mono ?_
      rintro e _ ⟨rfl, rfl⟩
      go_wp2_with fail
      refine (cC1.out _ _ _ va vb).mono ?_
      rintro e w5 ⟨rfl, hb⟩
      replace va := va.below hb
      replace vb := vb.below hb
      replace vc := vc.below hb
      replace hB := from_ hB hb
      clear hb
      go_wp2_with fail
      refine (cC2.out _ _ _ vb va).mono ?_
      rintro e w6 ⟨rfl, hb⟩
      replace va := va.below hb
      replace vb := vb.below hb
      replace vc := vc.below hb
      replace hB := from_ hB hb
      clear hb
      go_wp2_with fail
      refine (cA1.out _ _ _ va vc).mono ?_
      rintro e w7 ⟨A7, c7, rfl, vU, hb⟩
      replace va := va.below hb
      replace vb := vb.below hb
      replace vc := vc.below hb
      replace hB := from_ hB hb
      clear hb
      go_wp2_with fail
      refine (cA2.out _ _ _ vb vc).mono ?_
      rintro e w8 ⟨A8, c8, rfl, vV, hb⟩
      replace va := va.below hb
      replace vb := vb.below hb
      replace vc := vc.below hb
      replace vU := vU.below hb
      replace hB := from_ hB hb
      clear hb
      go_wp2_with fail
      refine (cC3.out _ _ _ _ _ _ _ vU vV).mono ?_
      rintro e w9 ⟨rfl, hb⟩
      replace va := va.below hb
      replace vb := vb.below hb
      replace vc := vc.below hb
      replace vU := vU.below hb
      replace vV := vV.below hb
      replace hB := from_ hB hb
      clear hb
      go_wp2_with fail
      refine (S1.out _ _ _ va vb).mono ?_
      rintro e w10 ⟨rfl, hb⟩
      replace va := va.below hb
      replace vb := vb.below hb
      replace vc := vc.below hb
      replace vU := vU.below hb
      replace vV := vV.below hb
      replace hB := from_ hB hb
      clear hb
      go_wp2_with fail
      refine (ZZ.out _ _ vc).mono ?_
      rintro e w11 ⟨rfl, hb⟩
      replace va := va.below hb
      replace vb := vb.below hb
      replace vc := vc.below hb
      replace vU := vU.below hb
      replace vV := vV.below hb
      replace hB := from_ hB hb
      clear hb
      go_wp2_with fail
      refine (S2.out _ _ _ _ _ vU va).mono ?_
      rintro e w12 ⟨rfl, hb⟩
      replace va := va.below hb
      replace vb := vb.below hb
      replace vc := vc.below hb
      replace vU := vU.below hb
      replace vV := vV.below hb
      replace hB := from_ hB hb
      clear hb
      go_wp2
      go_ret
      exact ⟨by trivial, hB⟩

end Go.Proofs.Ytmeknjfffhblaaa
