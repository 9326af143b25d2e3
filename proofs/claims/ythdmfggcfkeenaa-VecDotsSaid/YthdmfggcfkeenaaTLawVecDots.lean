/-
  facetroomlaw07.VecDots, walked. No conditions.
-/
import Derived.Test.YthdmfggcfkeenaaTVecK
namespace Go.Proofs.Ythdmfggcfkeenaa
open Go.RowKit
set_option linter.unusedVariables false
set_option linter.unusedSimpArgs false

theorem dot_mix (zm zn : Int) : ∀ (zs xs ys : List Int), xs.length = zs.length → ys.length = zs.length → dotZ zs (List.zipWith (fun x y => zm * x + zn * y) xs ys) = zm * dotZ xs zs + zn * dotZ ys zs := by
  intro zs
  induction zs with
  | nil => intro xs ys h1 h2; simp [dotZ]
  | cons z zs ih =>
    intro xs ys h1 h2
    cases xs with
    | nil => simp at h1
    | cons x xs =>
      cases ys with
      | nil => simp at h2
      | cons y ys =>
        have h := ih xs ys (by simpa using h1) (by simpa using h2)
        unfold dotZ at h ⊢
        simp only [List.zipWith_cons_cons, List.sum_cons]
        rw [h, Int.mul_add, Int.mul_add, Int.mul_add]
        have e1 : z * (zm * x) = zm * (x * z) := by rw [Int.mul_left_comm, Int.mul_comm z x]
        have e2 : z * (zn * y) = zn * (y * z) := by rw [Int.mul_left_comm, Int.mul_comm z y]
        rw [e1, e2]
        omega

theorem scale_mix (zm zn : Int) (xs ys : List Int) : List.zipWith (· + ·) (xs.map fun x => x * zm) (ys.map fun x => x * zn) = List.zipWith (fun x y => zm * x + zn * y) xs ys := by
  rw [List.zipWith_map]
  congr 1
  funext x y
  rw [Int.mul_comm x zm, Int.mul_comm y zn]

theorem errVs_vals (ps qs : List (Bool × List Nat)) : errVs [ps, qs] = 0 ∨ errVs [ps, qs] = 8 ∨ errVs [ps, qs] = 70 := by
  rw [errVs_two]
  split
  · split <;> simp
  · simp
theorem errVs_zero {ps qs : List (Bool × List Nat)} (h : errVs [ps, qs] = 0) : okV ps = true ∧ okV qs = true ∧ ps.length = qs.length := by
  rw [errVs_two] at h
  split at h
  · split at h
    · exact ⟨by simp_all, by simp_all, by assumption⟩
    · cases h
  · cases h
theorem okV_len {ps : List (Bool × List Nat)} (h : okV ps = true) : ps.length ≤ 64 := by
  unfold okV at h
  rw [Bool.and_eq_true] at h
  exact of_decide_eq_true h.1

theorem vdot_any {w : World} {Z Y : Zone} {A B : Option Addr} {c d K : Nat} {ps qs : List (Bool × List Nat)} (ha : VecAt w Z A c ps) (hb : VecAt w Y B d qs) (hK1 : ∀ p ∈ ps, p.2.length ≤ K) (hK2 : ∀ p ∈ qs, p.2.length ≤ K) (hK : K ≤ 20000) :
    Calls Try.prog 62 #[.slice A ps.length c, .slice B qs.length d] w fun e w' => (∃ s Av n cv, e = .returned (.tuple #[.agg #[.bool s, .slice Av n cv], .int .i64 (errVs [ps, qs])])) ∧ Below w.heap.size w w' := by
  rcases errVs_vals ps qs with h | h
  · obtain ⟨h1, h2, h3⟩ := errVs_zero h
    refine (vdot_n ha hb (NmV.ok h1 ha.small) (NmV.ok h2 hb.small) h3 (okV_len h1) hK1 hK2 hK (Nm.mk' _)).mono ?_
    rintro e w' ⟨Av, cv, rfl, _, hb⟩
    rw [h]
    exact ⟨⟨_, _, _, _, rfl⟩, hb⟩
  · refine (vdot_err ha hb rfl h).mono ?_
    rintro e w' ⟨rfl, hb⟩
    exact ⟨⟨_, _, _, _, rfl⟩, hb⟩

theorem vmix_any {w : World} {Z Y Z3 Z4 : Zone} {A B Am An : Option Addr} {c d cm cn K : Nat} {ps qs : List (Bool × List Nat)} {sm sn : Bool} {lm ln : List Nat} (ha : VecAt w Z A c ps) (hb : VecAt w Y B d qs) (um : U64s w Z3 Am cm lm) (un : U64s w Z4 An cn ln) (hK1 : ∀ p ∈ ps, p.2.length ≤ K) (hK2 : ∀ p ∈ qs, p.2.length ≤ K) (hK3 : lm.length ≤ K) (hK4 : ln.length ≤ K) (hK : K ≤ 20000) :
    Calls Try.prog 63 #[.agg #[.bool sm, .slice Am lm.length cm], .slice A ps.length c, .agg #[.bool sn, .slice An ln.length cn], .slice B qs.length d] w fun e w' => (∃ Av n cv, e = .returned (.tuple #[.slice Av n cv, .int .i64 (errM sm lm sn ln ps qs)])) ∧ Below w.heap.size w w' := by
  have hv : errM sm lm sn ln ps qs = 0 ∨ errM sm lm sn ln ps qs = 8 ∨ errM sm lm sn ln ps qs = 70 := by
    unfold errM
    split
    · exact errVs_vals _ _
    · simp
  rcases hv with h | h
  · have h0 := h
    unfold errM at h0
    by_cases hok : okI sm lm = true ∧ okI sn ln = true
    · rw [if_pos hok] at h0
      obtain ⟨h1, h2, h3⟩ := errVs_zero h0
      refine (vmix_n ha hb um un (NmV.ok h1 ha.small) (NmV.ok h2 hb.small) (Nm.ok hok.1 um.small) (Nm.ok hok.2 un.small) h3 (okV_len h1) hK1 hK2 hK3 hK4 (by omega) (NmV.mk' _)).mono ?_
      rintro e w' ⟨Av, cv, rfl, _, hb⟩
      rw [h]
      exact ⟨⟨_, _, _, rfl⟩, hb⟩
    · rw [if_neg hok] at h0
      cases h0
  · refine (vmix_err ha hb um un rfl h).mono ?_
    rintro e w' ⟨rfl, hb⟩
    exact ⟨⟨_, _, _, rfl⟩, hb⟩

theorem nmV_lens {zs : List Int} {ps : List (Bool × List Nat)} {K : Nat} (h : NmV zs ps) (hz : ∀ z ∈ zs, (limbs z.natAbs).length ≤ K) : ∀ p ∈ ps, p.2.length ≤ K := fun p hp => by
  subst h
  obtain ⟨z, hz1, rfl⟩ := List.mem_map.1 hp
  exact hz z hz1
theorem nmV_back {zs : List Int} {ps : List (Bool × List Nat)} {K : Nat} (h : NmV zs ps) (hp : ∀ p ∈ ps, p.2.length ≤ K) : ∀ z ∈ zs, (limbs z.natAbs).length ≤ K := fun z hz => by
  subst h
  exact hp _ (List.mem_map.2 ⟨z, hz, rfl⟩)
theorem mem_zip {f : Int → Int → Int} : ∀ {xs ys : List Int} {z : Int}, z ∈ List.zipWith f xs ys → ∃ x y, x ∈ xs ∧ y ∈ ys ∧ z = f x y := by
  intro xs
  induction xs with
  | nil => intro ys z h; simp at h
  | cons x xs ih =>
    intro ys z h
    cases ys with
    | nil => simp at h
    | cons y ys =>
      rw [List.zipWith_cons_cons, List.mem_cons] at h
      rcases h with rfl | h
      · exact ⟨x, y, List.mem_cons_self, List.mem_cons_self, rfl⟩
      · obtain ⟨a, b, h1, h2, h3⟩ := ih h
        exact ⟨a, b, List.mem_cons_of_mem _ h1, List.mem_cons_of_mem _ h2, h3⟩
theorem dotZ_len {K : Nat} : ∀ (xs ys : List Int), (∀ x ∈ xs, (limbs x.natAbs).length ≤ K) → (∀ y ∈ ys, (limbs y.natAbs).length ≤ K) → (limbs (dotZ xs ys).natAbs).length ≤ 2 * K + xs.length := by
  intro xs
  induction xs with
  | nil => intro ys _ _; simp [dotZ, limbs_eq_nil.2 rfl]
  | cons x xs ih =>
    intro ys h1 h2
    cases ys with
    | nil => simp [dotZ, limbs_eq_nil.2 rfl]
    | cons y ys =>
      have h := ih ys (fun a ha => h1 a (List.mem_cons_of_mem _ ha)) (fun a ha => h2 a (List.mem_cons_of_mem _ ha))
      have e : dotZ (x :: xs) (y :: ys) = x * y + dotZ xs ys := by simp [dotZ]
      rw [e]
      have h3 := lz_add (x * y) (dotZ xs ys)
      have h4 := lz_mul x y
      have h5 := h1 x List.mem_cons_self
      have h6 := h2 y List.mem_cons_self
      rw [List.length_cons]
      omega

theorem greatV_no {ps : List (Bool × List Nat)} {M K : Nat} (h : greatV ps M K = false) : ps.length ≤ M ∧ ∀ p ∈ ps, p.2.length ≤ K := by
  unfold greatV at h
  rw [Bool.or_eq_false_iff] at h
  refine ⟨by have := of_decide_eq_false h.1; omega, fun p hp => ?_⟩
  have := List.any_eq_false.1 h.2 p hp
  simpa using this

set_option maxRecDepth 100000 in
set_option maxHeartbeats 4000000 in
theorem lawVecDots {w : World} {a b c m n : Value} {ps qs rs : List (Bool × List Nat)} {sm sn : Bool} {lm ln : List Nat} (ha : IsVec w old a ps) (hb : IsVec w old b qs) (hc : IsVec w old c rs) (hm : IsI w old m sm lm) (hn : IsI w old n sn ln) :
    Calls Try.prog 14 #[a, b, c, m, n] w fun e w' => e = .returned (.bool true) ∧ Below w.heap.size w w' := by
  obtain ⟨A, ca, rfl, va⟩ := ha
  obtain ⟨B, cb, rfl, vb⟩ := hb
  obtain ⟨C, cc, rfl, vc⟩ := hc
  obtain ⟨_, rfl, M, cm, rfl, um⟩ := hm
  obtain ⟨_, rfl, N, cn, rfl, un⟩ := hn
  obtain ⟨bM, bN, hB⟩ := boxes2 w (.bool sm) (.slice M lm.length cm) (.bool sn) (.slice N ln.length cn) 52
  obtain ⟨m0, m1, _, _, _⟩ := bM
  obtain ⟨n0, n1, _, _, _⟩ := bN
  replace va := va.below hB
  replace vb := vb.below hB
  replace vc := vc.below hB
  replace um := um.below hB
  replace un := un.below hB
  have hlm := um.len
  have hln := un.len
  have hg1 := fun (w1 : World) (Z : Zone) (h : VecAt w1 Z A ca ps) => great_any (M := 20) (K := 10) h (by omega) (by omega)
  have hg2 := fun (w1 : World) (Z : Zone) (h : VecAt w1 Z B cb qs) => great_any (M := 20) (K := 10) h (by omega) (by omega)
  have hg3 := fun (w1 : World) (Z : Zone) (h : VecAt w1 Z C cc rs) => great_any (M := 20) (K := 10) h (by omega) (by omega)
  cases e1 : greatV ps 20 10
  case true =>
    rw [e1] at hg1
    have G1 := Lib.hid hg1
    have G2 := Lib.hid hg2
    have G3 := Lib.hid hg3
    clear hg1 hg2 hg3
    go_enter Try.func14, Try.ntmps14
    go_wp2_with fail
    refine (alive7 _).mono ?_
    rintro e w1 ⟨rfl, hb⟩
    replace m0 := keepC hb m0
    replace m1 := keepC hb m1
    replace n0 := keepC hb n0
    replace n1 := keepC hb n1
    replace va := va.below hb
    replace vb := vb.below hb
    replace vc := vc.below hb
    replace um := um.below hb
    replace un := un.below hb
    replace hB := from_ hB hb
    clear hb
    go_wp2_with fail
    refine (G1.out _ _ va).mono ?_
    rintro e _ ⟨rfl, rfl⟩
    go_wp2
    go_ret
    exact ⟨rfl, hB⟩
  case false =>
  cases e2 : greatV qs 20 10
  case true =>
    rw [e1] at hg1
    rw [e2] at hg2
    have G1 := Lib.hid hg1
    have G2 := Lib.hid hg2
    have G3 := Lib.hid hg3
    clear hg1 hg2 hg3
    go_enter Try.func14, Try.ntmps14
    go_wp2_with fail
    refine (alive7 _).mono ?_
    rintro e w1 ⟨rfl, hb⟩
    replace m0 := keepC hb m0
    replace m1 := keepC hb m1
    replace n0 := keepC hb n0
    replace n1 := keepC hb n1
    replace va := va.below hb
    replace vb := vb.below hb
    replace vc := vc.below hb
    replace um := um.below hb
    replace un := un.below hb
    replace hB := from_ hB hb
    clear hb
    go_wp2_with fail
    refine (G1.out _ _ va).mono ?_
    rintro e _ ⟨rfl, rfl⟩
    go_wp2_with fail
    refine (G2.out _ _ vb).mono ?_
    rintro e _ ⟨rfl, rfl⟩
    go_wp2
    go_ret
    exact ⟨rfl, hB⟩
  case false =>
  cases e3 : greatV rs 20 10
  case true =>
    rw [e1] at hg1
    rw [e2] at hg2
    rw [e3] at hg3
    have G1 := Lib.hid hg1
    have G2 := Lib.hid hg2
    have G3 := Lib.hid hg3
    clear hg1 hg2 hg3
    go_enter Try.func14, Try.ntmps14
    go_wp2_with fail
    refine (alive7 _).mono ?_
    rintro e w1 ⟨rfl, hb⟩
    replace m0 := keepC hb m0
    replace m1 := keepC hb m1
    replace n0 := keepC hb n0
    replace n1 := keepC hb n1
    replace va := va.below hb
    replace vb := vb.below hb
    replace vc := vc.below hb
    replace um := um.below hb
    replace un := un.below hb
    replace hB := from_ hB hb
    clear hb
    go_wp2_with fail
    refine (G1.out _ _ va).mono ?_
    rintro e _ ⟨rfl, rfl⟩
    go_wp2_with fail
    refine (G2.out _ _ vb).mono ?_
    rintro e _ ⟨rfl, rfl⟩
    go_wp2_with fail
    refine (G3.out _ _ vc).mono ?_
    rintro e _ ⟨rfl, rfl⟩
    go_wp2
    go_ret
    exact ⟨rfl, hB⟩
  case false =>
  rw [e1] at hg1
  rw [e2] at hg2
  rw [e3] at hg3
  rcases (show 10 < lm.length ∨ (lm.length ≤ 10 ∧ 10 < ln.length) ∨ (lm.length ≤ 10 ∧ ln.length ≤ 10) by omega) with g1 | ⟨g1, g2⟩ | ⟨g1, g2⟩
  · have G1 := Lib.hid hg1
    have G2 := Lib.hid hg2
    have G3 := Lib.hid hg3
    have d4 : decide ((10 : Int) < (lm.length : Int)) = true := decide_eq_true (by omega)
    clear hg1 hg2 hg3
    go_enter Try.func14, Try.ntmps14
    go_wp2_with fail
    refine (alive7 _).mono ?_
    rintro e w1 ⟨rfl, hb⟩
    replace m0 := keepC hb m0
    replace m1 := keepC hb m1
    replace n0 := keepC hb n0
    replace n1 := keepC hb n1
    replace va := va.below hb
    replace vb := vb.below hb
    replace vc := vc.below hb
    replace um := um.below hb
    replace un := un.below hb
    replace hB := from_ hB hb
    clear hb
    go_wp2_with fail
    refine (G1.out _ _ va).mono ?_
    rintro e _ ⟨rfl, rfl⟩
    go_wp2_with fail
    refine (G2.out _ _ vb).mono ?_
    rintro e _ ⟨rfl, rfl⟩
    go_wp2_with fail
    refine (G3.out _ _ vc).mono ?_
    rintro e _ ⟨rfl, rfl⟩
    go_wp2
    go_ret
    exact ⟨rfl, hB⟩
  · have G1 := Lib.hid hg1
    have G2 := Lib.hid hg2
    have G3 := Lib.hid hg3
    have d4 : decide ((10 : Int) < (lm.length : Int)) = false := decide_eq_false (by omega)
    have d5 : decide ((10 : Int) < (ln.length : Int)) = true := decide_eq_true (by omega)
    clear hg1 hg2 hg3
    go_enter Try.func14, Try.ntmps14
    go_wp2_with fail
    refine (alive7 _).mono ?_
    rintro e w1 ⟨rfl, hb⟩
    replace m0 := keepC hb m0
    replace m1 := keepC hb m1
    replace n0 := keepC hb n0
    replace n1 := keepC hb n1
    replace va := va.below hb
    replace vb := vb.below hb
    replace vc := vc.below hb
    replace um := um.below hb
    replace un := un.below hb
    replace hB := from_ hB hb
    clear hb
    go_wp2_with fail
    refine (G1.out _ _ va).mono ?_
    rintro e _ ⟨rfl, rfl⟩
    go_wp2_with fail
    refine (G2.out _ _ vb).mono ?_
    rintro e _ ⟨rfl, rfl⟩
    go_wp2_with fail
    refine (G3.out _ _ vc).mono ?_
    rintro e _ ⟨rfl, rfl⟩
    go_wp2
    go_ret
    exact ⟨rfl, hB⟩
  · obtain ⟨la, ka⟩ := greatV_no e1
    obtain ⟨lb, kb⟩ := greatV_no e2
    obtain ⟨lc, kc⟩ := greatV_no e3
    have d4 : decide ((10 : Int) < (lm.length : Int)) = false := decide_eq_false (by omega)
    have d5 : decide ((10 : Int) < (ln.length : Int)) = false := decide_eq_false (by omega)
    have G1 := Lib.hid hg1
    have G2 := Lib.hid hg2
    have G3 := Lib.hid hg3
    clear hg1 hg2 hg3 e1 e2 e3
    have hD1 := fun (w1 : World) (Z Y : Zone) (h1 : VecAt w1 Z A ca ps) (h2 : VecAt w1 Y C cc rs) => vdot_any h1 h2 ka kc (by omega)
    have hD2 := fun (w1 : World) (Z Y : Zone) (h1 : VecAt w1 Z B cb qs) (h2 : VecAt w1 Y C cc rs) => vdot_any h1 h2 kb kc (by omega)
    have hM1 := fun (w1 : World) (Z Y Z3 Z4 : Zone) (h1 : VecAt w1 Z A ca ps) (h2 : VecAt w1 Y B cb qs) (h3 : U64s w1 Z3 M cm lm) (h4 : U64s w1 Z4 N cn ln) => vmix_any (sm := sm) (sn := sn) h1 h2 h3 h4 ka kb (by omega) (by omega) (by omega)
    obtain ⟨E1, hE1⟩ : ∃ E, E = errVs [ps, rs] := ⟨_, rfl⟩
    obtain ⟨E2, hE2⟩ : ∃ E, E = errVs [qs, rs] := ⟨_, rfl⟩
    obtain ⟨E3, hE3⟩ : ∃ E, E = errM sm lm sn ln ps qs := ⟨_, rfl⟩
    have v1 := errVs_vals ps rs
    have v2 := errVs_vals qs rs
    have v3 : errM sm lm sn ln ps qs = 0 ∨ errM sm lm sn ln ps qs = 8 ∨ errM sm lm sn ln ps qs = 70 := by
      unfold errM
      split
      · exact errVs_vals _ _
      · simp
    rw [← hE1] at hD1 v1
    rw [← hE2] at hD2 v2
    rw [← hE3] at hM1 v3
    have H1 := Lib.hid hD1
    have H2 := Lib.hid hD2
    have H3 := Lib.hid hM1
    clear hD1 hD2 hM1
    rcases v1 with v1 | v1
    case inr =>
      rcases v1 with rfl | rfl
      all_goals
        clear hE1 hE2 hE3 ka kb kc la lb lc g1 g2 v2 v3
        go_enter Try.func14, Try.ntmps14
        go_wp2_with fail
        refine (alive7 _).mono ?_
        rintro e w1 ⟨rfl, hb⟩
        replace m0 := keepC hb m0
        replace m1 := keepC hb m1
        replace n0 := keepC hb n0
        replace n1 := keepC hb n1
        replace va := va.below hb
        replace vb := vb.below hb
        replace vc := vc.below hb
        replace um := um.below hb
        replace un := un.below hb
        replace hB := from_ hB hb
        clear hb
        go_wp2_with fail
        refine (G1.out _ _ va).mono ?_
        rintro e _ ⟨rfl, rfl⟩
        go_wp2_with fail
        refine (G2.out _ _ vb).mono ?_
        rintro e _ ⟨rfl, rfl⟩
        go_wp2_with fail
        refine (G3.out _ _ vc).mono ?_
        rintro e _ ⟨rfl, rfl⟩
        go_wp2_with fail
        refine (H1.out _ _ _ va vc).mono ?_
        rintro e w5 ⟨⟨s5, A5, n5, c5, rfl⟩, hb⟩
        have hal : Below w5.heap.size w5 (w5.alloc (.cells #[.bool s5, .slice A5 n5 c5] 52)) := (Below.refl _ _).alloc (Nat.le_refl _) _
        have hs := from_ hb hal
        replace m0 := keepC hs m0
        replace m1 := keepC hs m1
        replace n0 := keepC hs n0
        replace n1 := keepC hs n1
        replace va := va.below hs
        replace vb := vb.below hs
        replace vc := vc.below hs
        replace um := um.below hs
        replace un := un.below hs
        replace hB := from_ hB hs
        clear hb hal hs
        go_wp2_with fail
        refine (H2.out _ _ _ vb vc).mono ?_
        rintro e w6 ⟨⟨s6, A6, n6, c6, rfl⟩, hb⟩
        have hal : Below w6.heap.size w6 (w6.alloc (.cells #[.bool s6, .slice A6 n6 c6] 52)) := (Below.refl _ _).alloc (Nat.le_refl _) _
        have hs := from_ hb hal
        replace m0 := keepC hs m0
        replace m1 := keepC hs m1
        replace n0 := keepC hs n0
        replace n1 := keepC hs n1
        replace va := va.below hs
        replace vb := vb.below hs
        replace vc := vc.below hs
        replace um := um.below hs
        replace un := un.below hs
        replace hB := from_ hB hs
        clear hb hal hs
        go_wp2_with fail
        refine (H3.out _ _ _ _ _ va vb um un).mono ?_
        rintro e w7 ⟨⟨A7, n7, c7, rfl⟩, hb⟩
        replace m0 := keepC hb m0
        replace m1 := keepC hb m1
        replace n0 := keepC hb n0
        replace n1 := keepC hb n1
        replace va := va.below hb
        replace vb := vb.below hb
        replace vc := vc.below hb
        replace um := um.below hb
        replace un := un.below hb
        replace hB := from_ hB hb
        clear hb
        go_wp2
        go_ret
        exact ⟨rfl, hB⟩
    case inl =>
    rcases v2 with v2 | v2
    case inr =>
      subst v1
      rcases v2 with rfl | rfl
      all_goals
        clear hE1 hE2 hE3 ka kb kc la lb lc g1 g2 v3
        go_enter Try.func14, Try.ntmps14
        go_wp2_with fail
        refine (alive7 _).mono ?_
        rintro e w1 ⟨rfl, hb⟩
        replace m0 := keepC hb m0
        replace m1 := keepC hb m1
        replace n0 := keepC hb n0
        replace n1 := keepC hb n1
        replace va := va.below hb
        replace vb := vb.below hb
        replace vc := vc.below hb
        replace um := um.below hb
        replace un := un.below hb
        replace hB := from_ hB hb
        clear hb
        go_wp2_with fail
        refine (G1.out _ _ va).mono ?_
        rintro e _ ⟨rfl, rfl⟩
        go_wp2_with fail
        refine (G2.out _ _ vb).mono ?_
        rintro e _ ⟨rfl, rfl⟩
        go_wp2_with fail
        refine (G3.out _ _ vc).mono ?_
        rintro e _ ⟨rfl, rfl⟩
        go_wp2_with fail
        refine (H1.out _ _ _ va vc).mono ?_
        rintro e w5 ⟨⟨s5, A5, n5, c5, rfl⟩, hb⟩
        have hal : Below w5.heap.size w5 (w5.alloc (.cells #[.bool s5, .slice A5 n5 c5] 52)) := (Below.refl _ _).alloc (Nat.le_refl _) _
        have hs := from_ hb hal
        replace m0 := keepC hs m0
        replace m1 := keepC hs m1
        replace n0 := keepC hs n0
        replace n1 := keepC hs n1
        replace va := va.below hs
        replace vb := vb.below hs
        replace vc := vc.below hs
        replace um := um.below hs
        replace un := un.below hs
        replace hB := from_ hB hs
        clear hb hal hs
        go_wp2_with fail
        refine (H2.out _ _ _ vb vc).mono ?_
        rintro e w6 ⟨⟨s6, A6, n6, c6, rfl⟩, hb⟩
        have hal : Below w6.heap.size w6 (w6.alloc (.cells #[.bool s6, .slice A6 n6 c6] 52)) := (Below.refl _ _).alloc (Nat.le_refl _) _
        have hs := from_ hb hal
        replace m0 := keepC hs m0
        replace m1 := keepC hs m1
        replace n0 := keepC hs n0
        replace n1 := keepC hs n1
        replace va := va.below hs
        replace vb := vb.below hs
        replace vc := vc.below hs
        replace um := um.below hs
        replace un := un.below hs
        replace hB := from_ hB hs
        clear hb hal hs
        go_wp2_with fail
        refine (H3.out _ _ _ _ _ va vb um un).mono ?_
        rintro e w7 ⟨⟨A7, n7, c7, rfl⟩, hb⟩
        replace m0 := keepC hb m0
        replace m1 := keepC hb m1
        replace n0 := keepC hb n0
        replace n1 := keepC hb n1
        replace va := va.below hb
        replace vb := vb.below hb
        replace vc := vc.below hb
        replace um := um.below hb
        replace un := un.below hb
        replace hB := from_ hB hb
        clear hb
        go_wp2
        go_ret
        exact ⟨rfl, hB⟩
    case inl =>
    rcases v3 with v3 | v3
    case inr =>
      subst v1 v2
      rcases v3 with rfl | rfl
      all_goals
        clear hE1 hE2 hE3 ka kb kc la lb lc g1 g2
        go_enter Try.func14, Try.ntmps14
        go_wp2_with fail
        refine (alive7 _).mono ?_
        rintro e w1 ⟨rfl, hb⟩
        replace m0 := keepC hb m0
        replace m1 := keepC hb m1
        replace n0 := keepC hb n0
        replace n1 := keepC hb n1
        replace va := va.below hb
        replace vb := vb.below hb
        replace vc := vc.below hb
        replace um := um.below hb
        replace un := un.below hb
        replace hB := from_ hB hb
        clear hb
        go_wp2_with fail
        refine (G1.out _ _ va).mono ?_
        rintro e _ ⟨rfl, rfl⟩
        go_wp2_with fail
        refine (G2.out _ _ vb).mono ?_
        rintro e _ ⟨rfl, rfl⟩
        go_wp2_with fail
        refine (G3.out _ _ vc).mono ?_
        rintro e _ ⟨rfl, rfl⟩
        go_wp2_with fail
        refine (H1.out _ _ _ va vc).mono ?_
        rintro e w5 ⟨⟨s5, A5, n5, c5, rfl⟩, hb⟩
        have hal : Below w5.heap.size w5 (w5.alloc (.cells #[.bool s5, .slice A5 n5 c5] 52)) := (Below.refl _ _).alloc (Nat.le_refl _) _
        have hs := from_ hb hal
        replace m0 := keepC hs m0
        replace m1 := keepC hs m1
        replace n0 := keepC hs n0
        replace n1 := keepC hs n1
        replace va := va.below hs
        replace vb := vb.below hs
        replace vc := vc.below hs
        replace um := um.below hs
        replace un := un.below hs
        replace hB := from_ hB hs
        clear hb hal hs
        go_wp2_with fail
        refine (H2.out _ _ _ vb vc).mono ?_
        rintro e w6 ⟨⟨s6, A6, n6, c6, rfl⟩, hb⟩
        have hal : Below w6.heap.size w6 (w6.alloc (.cells #[.bool s6, .slice A6 n6 c6] 52)) := (Below.refl _ _).alloc (Nat.le_refl _) _
        have hs := from_ hb hal
        replace m0 := keepC hs m0
        replace m1 := keepC hs m1
        replace n0 := keepC hs n0
        replace n1 := keepC hs n1
        replace va := va.below hs
        replace vb := vb.below hs
        replace vc := vc.below hs
        replace um := um.below hs
        replace un := un.below hs
        replace hB := from_ hB hs
        clear hb hal hs
        go_wp2_with fail
        refine (H3.out _ _ _ _ _ va vb um un).mono ?_
        rintro e w7 ⟨⟨A7, n7, c7, rfl⟩, hb⟩
        replace m0 := keepC hb m0
        replace m1 := keepC hb m1
        replace n0 := keepC hb n0
        replace n1 := keepC hb n1
        replace va := va.below hb
        replace vb := vb.below hb
        replace vc := vc.below hb
        replace um := um.below hb
        replace un := un.below hb
        replace hB := from_ hB hb
        clear hb
        go_wp2
        go_ret
        exact ⟨rfl, hB⟩
    case inl =>
    obtain ⟨o1, o3, l1⟩ := errVs_zero (hE1.symm.trans v1)
    obtain ⟨o2, _, l2⟩ := errVs_zero (hE2.symm.trans v2)
    obtain ⟨oM, oN⟩ : okI sm lm = true ∧ okI sn ln = true := by
      have h := hE3.symm.trans v3
      unfold errM at h
      by_cases hok : okI sm lm = true ∧ okI sn ln = true
      · exact hok
      · rw [if_neg hok] at h
        cases h
    have nm := Nm.ok oM um.small
    have nn := Nm.ok oN un.small
    have nx := NmV.ok o1 va.small
    have ny := NmV.ok o2 vb.small
    have nz := NmV.ok o3 vc.small
    clear hE1 hE2 hE3 v1 v2 v3 H1 H2 H3 o1 o2 o3 oM oN E1 E2 E3
    generalize (ps.map fun p => zof p.1 p.2) = xs at *
    generalize (qs.map fun p => zof p.1 p.2) = ys at *
    generalize (rs.map fun p => zof p.1 p.2) = zs at *
    generalize zof sm lm = zm at *
    generalize zof sn ln = zn at *
    have kx := nmV_back nx ka
    have ky := nmV_back ny kb
    have kz := nmV_back nz kc
    obtain ⟨sx, lx, n_x⟩ : ∃ s l, Nm (dotZ xs zs) s l := ⟨_, _, Nm.mk' _⟩
    obtain ⟨sy, ly, n_y⟩ : ∃ s l, Nm (dotZ ys zs) s l := ⟨_, _, Nm.mk' _⟩
    obtain ⟨sp, lp, n_p⟩ : ∃ s l, Nm (zm * dotZ xs zs) s l := ⟨_, _, Nm.mk' _⟩
    obtain ⟨sq, lq, n_q⟩ : ∃ s l, Nm (zn * dotZ ys zs) s l := ⟨_, _, Nm.mk' _⟩
    obtain ⟨sw, lw, n_w⟩ : ∃ s l, Nm (zm * dotZ xs zs + zn * dotZ ys zs) s l := ⟨_, _, Nm.mk' _⟩
    obtain ⟨pm, n_m⟩ : ∃ p, NmV (List.zipWith (fun x y => zm * x + zn * y) xs ys) p := ⟨_, NmV.mk' _⟩
    obtain ⟨pu, n_u⟩ : ∃ p, NmV (xs.map fun x => x * zm) p := ⟨_, NmV.mk' _⟩
    obtain ⟨pv, n_v⟩ : ∃ p, NmV (ys.map fun x => x * zn) p := ⟨_, NmV.mk' _⟩
    have lx1 := nx.len
    have ly1 := ny.len
    have lz1 := nz.len
    have b_m : lm.length ≤ 90000 := by omega
    have b_n : ln.length ≤ 90000 := by omega
    have hzm : (limbs zm.natAbs).length ≤ 10 := by rw [← nm.len]; exact g1
    have hzn : (limbs zn.natAbs).length ≤ 10 := by rw [← nn.len]; exact g2
    have dx := dotZ_len xs zs kx kz
    have dy := dotZ_len ys zs ky kz
    have b_x : lx.length ≤ 90000 := by rw [n_x.len]; omega
    have b_y : ly.length ≤ 90000 := by rw [n_y.len]; omega
    have dp := lz_mul zm (dotZ xs zs)
    have dq := lz_mul zn (dotZ ys zs)
    have b_p : lp.length ≤ 90000 := by rw [n_p.len]; omega
    have b_q : lq.length ≤ 90000 := by rw [n_q.len]; omega
    have km : ∀ p ∈ pm, p.2.length ≤ 100 := nmV_lens n_m fun z hz => by
      obtain ⟨x, y, h1, h2, rfl⟩ := mem_zip hz
      have h3 := lz_add (zm * x) (zn * y)
      have h4 := lz_mul zm x
      have h5 := lz_mul zn y
      have h6 := kx x h1
      have h7 := ky y h2
      omega
    have ku : ∀ p ∈ pu, p.2.length ≤ 100 := nmV_lens n_u fun z hz => by
      obtain ⟨x, h1, rfl⟩ := List.mem_map.1 hz
      have h4 := lz_mul x zm
      have h6 := kx x h1
      omega
    have kv : ∀ p ∈ pv, p.2.length ≤ 100 := nmV_lens n_v fun z hz => by
      obtain ⟨x, h1, rfl⟩ := List.mem_map.1 hz
      have h4 := lz_mul x zn
      have h6 := ky x h1
      omega
    have ka2 : ∀ p ∈ ps, p.2.length ≤ 100 := fun p hp => Nat.le_trans (ka p hp) (by omega)
    have kb2 : ∀ p ∈ qs, p.2.length ≤ 100 := fun p hp => Nat.le_trans (kb p hp) (by omega)
    have kc2 : ∀ p ∈ rs, p.2.length ≤ 100 := fun p hp => Nat.le_trans (kc p hp) (by omega)
    have lm1 : pm.length = ps.length := by rw [← n_m.len, List.length_zipWith]; omega
    have lu1 : pu.length = ps.length := by rw [← n_u.len, List.length_map]; omega
    have lv1 : pv.length = ps.length := by rw [← n_v.len, List.length_map]; omega
    have hz8 : dotZ zs (List.zipWith (fun x y => zm * x + zn * y) xs ys) = zm * dotZ xs zs + zn * dotZ ys zs := dot_mix zm zn zs xs ys (by omega) (by omega)
    have hz9 := scale_mix zm zn xs ys
    have cD1 : Hid (∀ w1 Z Y, VecAt w1 Z A ca ps → VecAt w1 Y C cc rs → Calls Try.prog 62 #[.slice A ps.length ca, .slice C rs.length cc] w1 fun e w' => ∃ Av cv, e = .returned (.tuple #[.agg #[.bool sx, .slice Av lx.length cv], .int .i64 0]) ∧ U64s w' (new w1.heap.size) Av cv lx ∧ Below w1.heap.size w1 w') := fun w1 Z Y h1 h2 => vdot_n h1 h2 nx nz (by omega) (by omega) ka kc (by omega) n_x
    have cD2 : Hid (∀ w1 Z Y, VecAt w1 Z B cb qs → VecAt w1 Y C cc rs → Calls Try.prog 62 #[.slice B qs.length cb, .slice C rs.length cc] w1 fun e w' => ∃ Av cv, e = .returned (.tuple #[.agg #[.bool sy, .slice Av ly.length cv], .int .i64 0]) ∧ U64s w' (new w1.heap.size) Av cv ly ∧ Below w1.heap.size w1 w') := fun w1 Z Y h1 h2 => vdot_n h1 h2 ny nz (by omega) (by omega) kb kc (by omega) n_y
    have cD3 : Hid (∀ w1 Z Y Am am, VecAt w1 Z C cc rs → VecAt w1 Y Am am pm → Calls Try.prog 62 #[.slice C rs.length cc, .slice Am pm.length am] w1 fun e w' => ∃ Av cv, e = .returned (.tuple #[.agg #[.bool sw, .slice Av lw.length cv], .int .i64 0]) ∧ U64s w' (new w1.heap.size) Av cv lw ∧ Below w1.heap.size w1 w') := fun w1 Z Y Am am h1 h2 => vdot_n h1 h2 nz n_m (by omega) (by omega) kc2 km (by omega) (by rw [hz8]; exact n_w)
    have cM : Hid (∀ w1 Z Y Z3 Z4, VecAt w1 Z A ca ps → VecAt w1 Y B cb qs → U64s w1 Z3 M cm lm → U64s w1 Z4 N cn ln → Calls Try.prog 63 #[.agg #[.bool sm, .slice M lm.length cm], .slice A ps.length ca, .agg #[.bool sn, .slice N ln.length cn], .slice B qs.length cb] w1 fun e w' => ∃ Av cv, e = .returned (.tuple #[.slice Av pm.length cv, .int .i64 0]) ∧ VecAt w' (new w1.heap.size) Av cv pm ∧ Below w1.heap.size w1 w') := fun w1 Z Y Z3 Z4 h1 h2 h3 h4 => vmix_n h1 h2 h3 h4 nx ny nm nn (by omega) (by omega) ka kb g1 g2 (by omega) n_m
    have cU : Hid (∀ w1 Z Y, VecAt w1 Z A ca ps → U64s w1 Y M cm lm → Calls Try.prog 64 #[.slice A ps.length ca, .agg #[.bool sm, .slice M lm.length cm]] w1 fun e w' => ∃ Av cv, e = .returned (.tuple #[.slice Av pu.length cv, .int .i64 0]) ∧ VecAt w' (new w1.heap.size) Av cv pu ∧ Below w1.heap.size w1 w') := fun w1 Z Y h1 h2 => vscale_n h1 h2 nx nm (by omega) ka g1 (by omega) n_u
    have cV : Hid (∀ w1 Z Y, VecAt w1 Z B cb qs → U64s w1 Y N cn ln → Calls Try.prog 64 #[.slice B qs.length cb, .agg #[.bool sn, .slice N ln.length cn]] w1 fun e w' => ∃ Av cv, e = .returned (.tuple #[.slice Av pv.length cv, .int .i64 0]) ∧ VecAt w' (new w1.heap.size) Av cv pv ∧ Below w1.heap.size w1 w') := fun w1 Z Y h1 h2 => vscale_n h1 h2 ny nn (by omega) kb g2 (by omega) n_v
    have cA : Hid (∀ w1 Z Y Au au Av av, VecAt w1 Z Au au pu → VecAt w1 Y Av av pv → Calls Try.prog 65 #[.slice Au pu.length au, .slice Av pv.length av] w1 fun e w' => ∃ Av cv, e = .returned (.tuple #[.slice Av pm.length cv, .int .i64 0]) ∧ VecAt w' (new w1.heap.size) Av cv pm ∧ Below w1.heap.size w1 w') := fun w1 Z Y Au au Av av h1 h2 => vadd_n h1 h2 n_u n_v (by omega) (by omega) ku kv (by omega) (by rw [hz9]; exact n_m)
    have Nm_ := Lib.hid nm
    have Nn_ := Lib.hid nn
    have Nx_ := Lib.hid n_x
    have Ny_ := Lib.hid n_y
    have Np_ := Lib.hid n_p
    have Nq_ := Lib.hid n_q
    have Nw_ := Lib.hid n_w
    clear nm nn n_x n_y n_p n_q n_w n_m n_u n_v nx ny nz kx ky kz hz8 hz9 lx1 ly1 lz1 hzm hzn dx dy dp dq km ku kv ka2 kb2 kc2 lm1 lu1 lv1 l1 l2 ka kb kc la lb lc g1 g2
    go_enter Try.func14, Try.ntmps14
    go_wp2_with fail
    refine (alive7 _).mono ?_
    rintro e w1 ⟨rfl, hb⟩
    replace m0 := keepC hb m0
    replace m1 := keepC hb m1
    replace n0 := keepC hb n0
    replace n1 := keepC hb n1
    replace va := va.below hb
    replace vb := vb.below hb
    replace vc := vc.below hb
    replace um := um.below hb
    replace un := un.below hb
    replace hB := from_ hB hb
    clear hb
    go_wp2_with fail
    refine (G1.out _ _ va).mono ?_
    rintro e _ ⟨rfl, rfl⟩
    go_wp2_with fail
    refine (G2.out _ _ vb).mono ?_
    rintro e _ ⟨rfl, rfl⟩
    go_wp2_with fail
    refine (G3.out _ _ vc).mono ?_
    rintro e _ ⟨rfl, rfl⟩
    go_wp2_with fail
    refine (cD1.out _ _ _ va vc).mono ?_
    rintro e w5 ⟨A5, c5, rfl, uX, hb⟩
    have hal : Below w5.heap.size w5 (w5.alloc (.cells #[.bool sx, .slice A5 lx.length c5] 52)) := (Below.refl _ _).alloc (Nat.le_refl _) _
    replace uX := uX.below hal
    obtain ⟨xX, yX, _, _, _⟩ := Box.new w5 (.bool sx) (.slice A5 lx.length c5) 52
    have hs := from_ hb hal
    replace m0 := keepC hs m0
    replace m1 := keepC hs m1
    replace n0 := keepC hs n0
    replace n1 := keepC hs n1
    replace va := va.below hs
    replace vb := vb.below hs
    replace vc := vc.below hs
    replace um := um.below hs
    replace un := un.below hs
    replace hB := from_ hB hs
    clear hb hal hs
    go_wp2_with fail
    refine (cD2.out _ _ _ vb vc).mono ?_
    rintro e w6 ⟨A6, c6, rfl, uY, hb⟩
    have hal : Below w6.heap.size w6 (w6.alloc (.cells #[.bool sy, .slice A6 ly.length c6] 52)) := (Below.refl _ _).alloc (Nat.le_refl _) _
    replace uY := uY.below hal
    obtain ⟨xY, yY, _, _, _⟩ := Box.new w6 (.bool sy) (.slice A6 ly.length c6) 52
    have hs := from_ hb hal
    replace m0 := keepC hs m0
    replace m1 := keepC hs m1
    replace n0 := keepC hs n0
    replace n1 := keepC hs n1
    replace xX := keepC hs xX
    replace yX := keepC hs yX
    replace va := va.below hs
    replace vb := vb.below hs
    replace vc := vc.below hs
    replace um := um.below hs
    replace un := un.below hs
    replace uX := uX.below hs
    replace hB := from_ hB hs
    clear hb hal hs
    go_wp2_with fail
    refine (cM.out _ _ _ _ _ va vb um un).mono ?_
    rintro e w7 ⟨A7, c7, rfl, vM, hb⟩
    replace m0 := keepC hb m0
    replace m1 := keepC hb m1
    replace n0 := keepC hb n0
    replace n1 := keepC hb n1
    replace xX := keepC hb xX
    replace yX := keepC hb yX
    replace xY := keepC hb xY
    replace yY := keepC hb yY
    replace va := va.below hb
    replace vb := vb.below hb
    replace vc := vc.below hb
    replace um := um.below hb
    replace un := un.below hb
    replace uX := uX.below hb
    replace uY := uY.below hb
    replace hB := from_ hB hb
    clear hb
    go_wp2_with fail
    refine (cD3.out _ _ _ _ _ vc vM).mono ?_
    rintro e w8 ⟨A8, c8, rfl, uZ, hb⟩
    have hal : Below w8.heap.size w8 (w8.alloc (.cells #[.bool sw, .slice A8 lw.length c8] 52)) := (Below.refl _ _).alloc (Nat.le_refl _) _
    replace uZ := uZ.below hal
    obtain ⟨xZ, yZ, _, _, _⟩ := Box.new w8 (.bool sw) (.slice A8 lw.length c8) 52
    have hs := from_ hb hal
    replace m0 := keepC hs m0
    replace m1 := keepC hs m1
    replace n0 := keepC hs n0
    replace n1 := keepC hs n1
    replace xX := keepC hs xX
    replace yX := keepC hs yX
    replace xY := keepC hs xY
    replace yY := keepC hs yY
    replace va := va.below hs
    replace vb := vb.below hs
    replace vc := vc.below hs
    replace um := um.below hs
    replace un := un.below hs
    replace uX := uX.below hs
    replace uY := uY.below hs
    replace vM := vM.below hs
    replace hB := from_ hB hs
    clear hb hal hs
    go_wp2_with fail
    refine (wmul_n Nm_.out Nx_.out Np_.out rfl b_m b_x um uX).mono ?_
    rintro e w9 ⟨A9, c9, rfl, uP, hb⟩
    have hal : Below w9.heap.size w9 (w9.alloc (.cells #[.bool sp, .slice A9 lp.length c9] 52)) := (Below.refl _ _).alloc (Nat.le_refl _) _
    replace uP := uP.below hal
    obtain ⟨xP, yP, _, _, _⟩ := Box.new w9 (.bool sp) (.slice A9 lp.length c9) 52
    have hs := from_ hb hal
    replace m0 := keepC hs m0
    replace m1 := keepC hs m1
    replace n0 := keepC hs n0
    replace n1 := keepC hs n1
    replace xX := keepC hs xX
    replace yX := keepC hs yX
    replace xY := keepC hs xY
    replace yY := keepC hs yY
    replace xZ := keepC hs xZ
    replace yZ := keepC hs yZ
    replace va := va.below hs
    replace vb := vb.below hs
    replace vc := vc.below hs
    replace um := um.below hs
    replace un := un.below hs
    replace uX := uX.below hs
    replace uY := uY.below hs
    replace vM := vM.below hs
    replace uZ := uZ.below hs
    replace hB := from_ hB hs
    clear hb hal hs
    go_wp2_with fail
    refine (wmul_n Nn_.out Ny_.out Nq_.out rfl b_n b_y un uY).mono ?_
    rintro e w10 ⟨A10, c10, rfl, uQ, hb⟩
    have hal : Below w10.heap.size w10 (w10.alloc (.cells #[.bool sq, .slice A10 lq.length c10] 52)) := (Below.refl _ _).alloc (Nat.le_refl _) _
    replace uQ := uQ.below hal
    obtain ⟨xQ, yQ, _, _, _⟩ := Box.new w10 (.bool sq) (.slice A10 lq.length c10) 52
    have hs := from_ hb hal
    replace m0 := keepC hs m0
    replace m1 := keepC hs m1
    replace n0 := keepC hs n0
    replace n1 := keepC hs n1
    replace xX := keepC hs xX
    replace yX := keepC hs yX
    replace xY := keepC hs xY
    replace yY := keepC hs yY
    replace xZ := keepC hs xZ
    replace yZ := keepC hs yZ
    replace xP := keepC hs xP
    replace yP := keepC hs yP
    replace va := va.below hs
    replace vb := vb.below hs
    replace vc := vc.below hs
    replace um := um.below hs
    replace un := un.below hs
    replace uX := uX.below hs
    replace uY := uY.below hs
    replace vM := vM.below hs
    replace uZ := uZ.below hs
    replace uP := uP.below hs
    replace hB := from_ hB hs
    clear hb hal hs
    go_wp2_with fail
    refine (wadd_n Np_.out Nq_.out Nw_.out rfl b_p b_q uP uQ).mono ?_
    rintro e w11 ⟨A11, c11, rfl, uWW, hb⟩
    have hal : Below w11.heap.size w11 (w11.alloc (.cells #[.bool sw, .slice A11 lw.length c11] 52)) := (Below.refl _ _).alloc (Nat.le_refl _) _
    replace uWW := uWW.below hal
    obtain ⟨xWW, yWW, _, _, _⟩ := Box.new w11 (.bool sw) (.slice A11 lw.length c11) 52
    have hs := from_ hb hal
    replace m0 := keepC hs m0
    replace m1 := keepC hs m1
    replace n0 := keepC hs n0
    replace n1 := keepC hs n1
    replace xX := keepC hs xX
    replace yX := keepC hs yX
    replace xY := keepC hs xY
    replace yY := keepC hs yY
    replace xZ := keepC hs xZ
    replace yZ := keepC hs yZ
    replace xP := keepC hs xP
    replace yP := keepC hs yP
    replace xQ := keepC hs xQ
    replace yQ := keepC hs yQ
    replace va := va.below hs
    replace vb := vb.below hs
    replace vc := vc.below hs
    replace um := um.below hs
    replace un := un.below hs
    replace uX := uX.below hs
    replace uY := uY.below hs
    replace vM := vM.below hs
    replace uZ := uZ.below hs
    replace uP := uP.below hs
    replace uQ := uQ.below hs
    replace hB := from_ hB hs
    clear hb hal hs
    clear xX yX uX
    clear xY yY uY
    clear xP yP uP
    clear xQ yQ uQ
    go_wp2_with fail
    refine (cU.out _ _ _ va um).mono ?_
    rintro e w12 ⟨A12, c12, rfl, vU, hb⟩
    replace m0 := keepC hb m0
    replace m1 := keepC hb m1
    replace n0 := keepC hb n0
    replace n1 := keepC hb n1
    replace xZ := keepC hb xZ
    replace yZ := keepC hb yZ
    replace xWW := keepC hb xWW
    replace yWW := keepC hb yWW
    replace va := va.below hb
    replace vb := vb.below hb
    replace vc := vc.below hb
    replace um := um.below hb
    replace un := un.below hb
    replace vM := vM.below hb
    replace uZ := uZ.below hb
    replace uWW := uWW.below hb
    replace hB := from_ hB hb
    clear hb
    go_wp2_with fail
    refine (cV.out _ _ _ vb un).mono ?_
    rintro e w13 ⟨A13, c13, rfl, vV, hb⟩
    replace m0 := keepC hb m0
    replace m1 := keepC hb m1
    replace n0 := keepC hb n0
    replace n1 := keepC hb n1
    replace xZ := keepC hb xZ
    replace yZ := keepC hb yZ
    replace xWW := keepC hb xWW
    replace yWW := keepC hb yWW
    replace va := va.below hb
    replace vb := vb.below hb
    replace vc := vc.below hb
    replace um := um.below hb
    replace un := un.below hb
    replace vM := vM.below hb
    replace uZ := uZ.below hb
    replace uWW := uWW.below hb
    replace vU := vU.below hb
    replace hB := from_ hB hb
    clear hb
    go_wp2_with fail
    refine (cA.out _ _ _ _ _ _ _ vU vV).mono ?_
    rintro e w14 ⟨A14, c14, rfl, vS, hb⟩
    replace m0 := keepC hb m0
    replace m1 := keepC hb m1
    replace n0 := keepC hb n0
    replace n1 := keepC hb n1
    replace xZ := keepC hb xZ
    replace yZ := keepC hb yZ
    replace xWW := keepC hb xWW
    replace yWW := keepC hb yWW
    replace va := va.below hb
    replace vb := vb.below hb
    replace vc := vc.below hb
    replace um := um.below hb
    replace un := un.below hb
    replace vM := vM.below hb
    replace uZ := uZ.below hb
    replace uWW := uWW.below hb
    replace vU := vU.below hb
    replace vV := vV.below hb
    replace hB := from_ hB hb
    clear hb
    go_wp2_with fail
    refine (same_n uZ uWW).mono ?_
    rintro e w15 ⟨rfl, hb⟩
    replace m0 := keepC hb m0
    replace m1 := keepC hb m1
    replace n0 := keepC hb n0
    replace n1 := keepC hb n1
    replace xZ := keepC hb xZ
    replace yZ := keepC hb yZ
    replace xWW := keepC hb xWW
    replace yWW := keepC hb yWW
    replace va := va.below hb
    replace vb := vb.below hb
    replace vc := vc.below hb
    replace um := um.below hb
    replace un := un.below hb
    replace vM := vM.below hb
    replace uZ := uZ.below hb
    replace uWW := uWW.below hb
    replace vU := vU.below hb
    replace vV := vV.below hb
    replace vS := vS.below hb
    replace hB := from_ hB hb
    clear hb
    go_wp2_with fail
    refine (same7_n vS vM).mono ?_
    rintro e w16 ⟨rfl, hb⟩
    replace m0 := keepC hb m0
    replace m1 := keepC hb m1
    replace n0 := keepC hb n0
    replace n1 := keepC hb n1
    replace xZ := keepC hb xZ
    replace yZ := keepC hb yZ
    replace xWW := keepC hb xWW
    replace yWW := keepC hb yWW
    replace va := va.below hb
    replace vb := vb.below hb
    replace vc := vc.below hb
    replace um := um.below hb
    replace un := un.below hb
    replace vM := vM.below hb
    replace uZ := uZ.below hb
    replace uWW := uWW.below hb
    replace vU := vU.below hb
    replace vV := vV.below hb
    replace vS := vS.below hb
    replace hB := from_ hB hb
    clear hb
    go_wp2
    go_ret
    exact ⟨rfl, hB⟩

end Go.Proofs.Ythdmfggcfkeenaa
