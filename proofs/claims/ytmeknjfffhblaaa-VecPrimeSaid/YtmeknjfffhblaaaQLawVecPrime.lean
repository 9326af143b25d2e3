/-
  facetroomlaw07.VecPrime, walked. No conditions.
-/
import Derived.Test.YtmeknjfffhblaaaQVecP
import Derived.Test.YtmeknjfffhblaaaQVecO
namespace Go.Proofs.Ytmeknjfffhblaaa
open Go.RowKit
set_option linter.unusedVariables false
set_option linter.unusedSimpArgs false

theorem gcdF_len {K : Nat} : ∀ (xs : List Int) (g0 : Nat), (limbs g0).length ≤ K → (∀ x ∈ xs, (limbs x.natAbs).length ≤ K) → (limbs (xs.foldl (fun g x => Nat.gcd g x.natAbs) g0)).length ≤ K := by
  intro xs
  induction xs with
  | nil => exact fun g0 h _ => h
  | cons x xs ih =>
    intro g0 h h2
    refine ih _ ?_ fun y hy => h2 y (List.mem_cons_of_mem _ hy)
    show (limbs (Nat.gcd g0 x.natAbs)).length ≤ K
    have h3 := len_gcd g0 x.natAbs
    have h4 := h2 x List.mem_cons_self
    omega
theorem gcdV_len {K : Nat} {xs : List Int} (h : ∀ x ∈ xs, (limbs x.natAbs).length ≤ K) : (limbs (gcdV xs)).length ≤ K :=
  gcdF_len xs 0 (by rw [limbs_eq_nil.2 rfl]; simp) h
theorem lowV_lens {K : Nat} {xs : List Int} (h : ∀ x ∈ xs, (limbs x.natAbs).length ≤ K) : ∀ z ∈ lowV xs, (limbs z.natAbs).length ≤ K := fun z hz => by
  unfold lowV at hz
  split at hz
  · exact h z hz
  · obtain ⟨x, hx, rfl⟩ := List.mem_map.1 hz
    rw [tq_abs]
    exact Nat.le_trans (len_div _ _) (h x hx)
theorem lowV_gcd {xs : List Int} : gcdV (lowV xs) = if gcdV xs = 0 then 0 else 1 := by
  unfold lowV
  by_cases h : gcdV xs = 0
  · rw [if_pos h, if_pos h, h]
  · rw [if_neg h, if_neg h]
    exact gcdV_low h

set_option maxRecDepth 100000 in
set_option maxHeartbeats 4000000 in
theorem lawVecPrime {w : World} {a m : Value} {ps : List (Bool × List Nat)} {sn : Bool} {ln : List Nat} (ha : IsVec w old a ps) (hm : IsI w old m sn ln) :
    Calls Try.prog 4 #[a, m] w fun e w' => e = .returned (.bool true) ∧ Below w.heap.size w w' := by
  obtain ⟨A, ca, rfl, va⟩ := ha
  obtain ⟨_, rfl, N, cn, rfl, un⟩ := hm
  have hB : Below w.heap.size w (w.alloc (.cells #[.bool sn, .slice N ln.length cn] 37)) := (Below.refl _ _).alloc (Nat.le_refl _) _
  obtain ⟨n0, n1, _, _, _⟩ := Box.new w (.bool sn) (.slice N ln.length cn) 37
  replace va := va.below hB
  replace un := un.below hB
  have hln := un.len
  have hla := va.len
  have hg1 := fun (w1 : World) (Z : Zone) (h : VecAt w1 Z A ca ps) => great_any (M := 20) (K := 10) h (by omega) (by omega)
  cases e1 : greatV ps 20 10
  case true =>
    rw [e1] at hg1
    have G1 := Lib.hid hg1
    clear hg1
    go_enter Try.func4, Try.ntmps4
    go_wp2_with fail
    refine (alive7 _).mono ?_
    rintro e w1 ⟨rfl, hb⟩
    replace n0 := keepC hb n0
    replace n1 := keepC hb n1
    replace va := va.below hb
    replace un := un.below hb
    replace hB := from_ hB hb
    clear hb
    go_wp2_with fail
    refine (G1.out _ _ va).mono ?_
    rintro e _ ⟨rfl, rfl⟩
    go_wp2
    go_ret
    exact ⟨by first | rfl | trivial, hB⟩
  case false =>
  rw [e1] at hg1
  have G1 := Lib.hid hg1
  clear hg1
  rcases (show 10 < ln.length ∨ ln.length ≤ 10 by omega) with g1 | g1
  · have d4 : decide ((10 : Int) < (ln.length : Int)) = true := decide_eq_true (by omega)
    go_enter Try.func4, Try.ntmps4
    go_wp2_with fail
    refine (alive7 _).mono ?_
    rintro e w1 ⟨rfl, hb⟩
    replace n0 := keepC hb n0
    replace n1 := keepC hb n1
    replace va := va.below hb
    replace un := un.below hb
    replace hB := from_ hB hb
    clear hb
    go_wp2_with fail
    refine (G1.out _ _ va).mono ?_
    rintro e _ ⟨rfl, rfl⟩
    go_wp2
    go_ret
    exact ⟨by first | rfl | trivial, hB⟩
  · have d4 : decide ((10 : Int) < (ln.length : Int)) = false := decide_eq_false (by omega)
    obtain ⟨la, ka⟩ := greatV_no e1
    cases o1 : okV ps
    · have P1 := Lib.hid (fun (w1 : World) (Z : Zone) (h : VecAt w1 Z A ca ps) => vprime_err h o1)
      have C1 := Lib.hid (fun (w1 : World) (Z : Zone) (h : VecAt w1 Z A ca ps) => vcontent_err h o1)
      clear o1 ka la e1
      go_enter Try.func4, Try.ntmps4
      go_wp2_with fail
      refine (alive7 _).mono ?_
      rintro e w1 ⟨rfl, hb⟩
      replace n0 := keepC hb n0
      replace n1 := keepC hb n1
      replace va := va.below hb
      replace un := un.below hb
      replace hB := from_ hB hb
      clear hb
      go_wp2_with fail
      refine (G1.out _ _ va).mono ?_
      rintro e _ ⟨rfl, rfl⟩
      go_wp2_with fail
      refine (P1.out _ _ va).mono ?_
      rintro e w3 ⟨rfl, hb⟩
      replace n0 := keepC hb n0
      replace n1 := keepC hb n1
      replace va := va.below hb
      replace un := un.below hb
      replace hB := from_ hB hb
      clear hb
      go_wp2_with fail
      refine (C1.out _ _ va).mono ?_
      rintro e w4 ⟨rfl, hb⟩
      replace n0 := keepC hb n0
      replace n1 := keepC hb n1
      replace va := va.below hb
      replace un := un.below hb
      replace hB := from_ hB hb
      clear hb
      go_wp2
      go_ret
      exact ⟨by first | rfl | trivial, hB⟩
    · have nx := NmV.ok o1 va.small
      clear o1 e1
      generalize (ps.map fun p => zof p.1 p.2) = xs at *
      have kx := nmV_back nx ka
      have lx := nx.len
      obtain ⟨rs, n_r⟩ : ∃ p, NmV (lowV xs) p := ⟨_, NmV.mk' _⟩
      have kr : ∀ p ∈ rs, p.2.length ≤ 10 := nmV_lens n_r (lowV_lens kx)
      have lr : rs.length = ps.length := by rw [← n_r.len, lowV_length, lx]
      have hgk := gcdV_len kx
      have hlg := lowV_gcd (xs := xs)
      have hback := lowV_back xs
      have hzero : zeroV ps = decide (gcdV xs = 0) := by
        rw [zeroV_nm nx]
        exact decide_eq_decide.2 gcdV_zero.symm
      obtain ⟨n, hn⟩ : ∃ n, n = ps.length := ⟨_, rfl⟩
      have hnr : rs.length = n := by omega
      have hself : ((n : Int) != (n : Int)) = false := bne_self_eq_false _
      have cP : Hid (∀ w1 Z, VecAt w1 Z A ca ps → Calls Try.prog 20 #[.slice A n ca] w1 fun e w' => ∃ Av cv, e = .returned (.tuple #[.slice Av n cv, .int .i64 0]) ∧ VecAt w' (new w1.heap.size) Av cv rs ∧ Below w1.heap.size w1 w') := fun w1 Z h => by
        have := vprime_n h nx (by omega) ka (by omega) n_r
        rwa [hnr, ← hn] at this
      have cZ : Hid (∀ w1 Z, VecAt w1 Z A ca ps → Calls Try.prog 19 #[.slice A n ca] w1 fun e w' => e = .returned (.bool (decide (gcdV xs = 0))) ∧ Below w1.heap.size w1 w') := fun w1 Z h => by
        have := vzero_any h (by omega)
        rwa [← hn, hzero] at this
      by_cases hg : gcdV xs = 0
      · have e0 : limbs 0 = [] := limbs_eq_nil.2 rfl
        have hk0 : limbs (gcdV xs) = [] := by rw [hg, e0]
        obtain ⟨k, hk⟩ : ∃ k, k = limbs (gcdV xs) := ⟨_, rfl⟩
        have cC : Hid (∀ w1 Z, VecAt w1 Z A ca ps → Calls Try.prog 21 #[.slice A n ca] w1 fun e w' => ∃ Av cv, e = .returned (.tuple #[.slice Av 0 cv, .int .i64 0]) ∧ U64s w' (new w1.heap.size) Av cv [] ∧ Below w1.heap.size w1 w') := fun w1 Z h => by
          have h1 := vcontent_n h nx (by omega) ka (by omega)
          rw [← hn] at h1
          refine h1.mono ?_
          rintro e w' ⟨_, rfl, ⟨Av, cv, rfl, hu⟩, hb⟩
          rw [hk0] at hu ⊢
          exact ⟨Av, cv, rfl, hu, hb⟩
        have cD : Hid (∀ w1 Z Ap cp, VecAt w1 Z Ap cp rs → Calls Try.prog 21 #[.slice Ap n cp] w1 fun e w' => ∃ Av cv, e = .returned (.tuple #[.slice Av 0 cv, .int .i64 0]) ∧ U64s w' (new w1.heap.size) Av cv [] ∧ Below w1.heap.size w1 w') := fun w1 Z Ap cp h => by
          have h1 := vcontent_n h n_r (by omega) kr (by omega)
          rw [hnr, hlg, if_pos hg] at h1
          refine h1.mono ?_
          rintro e w' ⟨_, rfl, ⟨Av, cv, rfl, hu⟩, hb⟩
          rw [e0] at hu ⊢
          exact ⟨Av, cv, rfl, hu, hb⟩
        have cB : Hid (∀ w1 Z Y Ap cp Bc bc, VecAt w1 Z Ap cp rs → U64s w1 Y Bc bc [] → Calls Try.prog 22 #[.slice Ap n cp, .agg #[.bool false, .slice Bc 0 bc]] w1 fun e w' => ∃ Av cv, e = .returned (.tuple #[.slice Av n cv, .int .i64 0]) ∧ VecAt w' (new w1.heap.size) Av cv ps ∧ Below w1.heap.size w1 w') := fun w1 Z Y Ap cp Bc bc h1 h2 => by
          have h3 := vscale_n (y := ((gcdV xs : Nat) : Int)) h1 h2 n_r ⟨(decide_eq_false (by omega)).symm, by rw [Int.natAbs_natCast]; exact hk0.symm⟩ (by omega) kr (by simp) (by omega) (by rw [hback]; exact nx)
          rwa [hnr, ← hn] at h3
        
        have hrs : rs = ps := by
          have h1 : rs = _ := n_r
          have h2 : ps = _ := nx
          rw [h1, h2]
          unfold lowV
          rw [if_pos hg]
        subst hrs
        have hdz : decide (gcdV xs = 0) = true := decide_eq_true hg
        rw [hdz] at cZ
        have cS : Hid (∀ w1 Z Y Au au Av av, VecAt w1 Z Au au rs → VecAt w1 Y Av av rs → Calls Try.prog 23 #[.slice Au n au, .slice Av n av] w1 fun e w' => e = .returned (.bool true) ∧ Below w1.heap.size w1 w') := fun w1 Z Y Au au Av av h1 h2 => by
          have := same7_n h1 h2
          rwa [← hn] at this
        rw [← hn] at G1 hla ⊢
        clear hk hk0 e0 hdz hg nx ka kx lx n_r kr lr hgk hlg hback hzero hn hnr k la
        go_enter Try.func4, Try.ntmps4
        go_wp2_with fail
        refine (alive7 _).mono ?_
        rintro e w1 ⟨rfl, hb⟩
        replace n0 := keepC hb n0
        replace n1 := keepC hb n1
        replace va := va.below hb
        replace un := un.below hb
        replace hB := from_ hB hb
        clear hb
        go_wp2_with fail
        refine (G1.out _ _ va).mono ?_
        rintro e _ ⟨rfl, rfl⟩
        go_wp2_with fail
        refine (cP.out _ _ va).mono ?_
        rintro e w3 ⟨A3, c3, rfl, vP, hb⟩
        replace n0 := keepC hb n0
        replace n1 := keepC hb n1
        replace va := va.below hb
        replace un := un.below hb
        replace hB := from_ hB hb
        clear hb
        go_wp2_with fail
        refine (cC.out _ _ va).mono ?_
        rintro e w4 ⟨A4, c4, rfl, vC, hb⟩
        replace n0 := keepC hb n0
        replace n1 := keepC hb n1
        replace va := va.below hb
        replace un := un.below hb
        replace vP := vP.below hb
        replace hB := from_ hB hb
        clear hb
        go_wp2_with fail
        refine (cD.out _ _ _ _ vP).mono ?_
        rintro e w5 ⟨A5, c5, rfl, vD, hb⟩
        replace n0 := keepC hb n0
        replace n1 := keepC hb n1
        replace va := va.below hb
        replace un := un.below hb
        replace vP := vP.below hb
        replace vC := vC.below hb
        replace hB := from_ hB hb
        clear hb
        go_wp2_with fail
        refine (cB.out _ _ _ _ _ _ _ vP vC).mono ?_
        rintro e w6 ⟨A6, c6, rfl, vB, hb⟩
        replace n0 := keepC hb n0
        replace n1 := keepC hb n1
        replace va := va.below hb
        replace un := un.below hb
        replace vP := vP.below hb
        replace vC := vC.below hb
        replace vD := vD.below hb
        replace hB := from_ hB hb
        clear hb
        go_wp2_with fail
        refine (cZ.out _ _ va).mono ?_
        rintro e w7 ⟨rfl, hb⟩
        replace n0 := keepC hb n0
        replace n1 := keepC hb n1
        replace va := va.below hb
        replace un := un.below hb
        replace vP := vP.below hb
        replace vC := vC.below hb
        replace vD := vD.below hb
        replace vB := vB.below hb
        replace hB := from_ hB hb
        clear hb
        go_wp2_with fail
        refine (cS.out _ _ _ _ _ _ _ vP va).mono ?_
        rintro e w8 ⟨rfl, hb⟩
        replace n0 := keepC hb n0
        replace n1 := keepC hb n1
        replace va := va.below hb
        replace un := un.below hb
        replace vP := vP.below hb
        replace vC := vC.below hb
        replace vD := vD.below hb
        replace vB := vB.below hb
        replace hB := from_ hB hb
        clear hb
        go_wp2
        go_ret
        exact ⟨by first | rfl | trivial, hB⟩
      · have e0 : limbs 1 = [1] := limbs_one (by omega) (by omega)
        obtain ⟨k, hk⟩ : ∃ k, k = limbs (gcdV xs) := ⟨_, rfl⟩
        have cC : Hid (∀ w1 Z, VecAt w1 Z A ca ps → Calls Try.prog 21 #[.slice A n ca] w1 fun e w' => ∃ Av cv, e = .returned (.tuple #[.slice Av k.length cv, .int .i64 0]) ∧ U64s w' (new w1.heap.size) Av cv k ∧ Below w1.heap.size w1 w') := fun w1 Z h => by
          have h1 := vcontent_n h nx (by omega) ka (by omega)
          rw [← hn] at h1
          refine h1.mono ?_
          rintro e w' ⟨_, rfl, ⟨Av, cv, rfl, hu⟩, hb⟩
          rw [← hk] at hu ⊢
          exact ⟨Av, cv, rfl, hu, hb⟩
        have cD : Hid (∀ w1 Z Ap cp, VecAt w1 Z Ap cp rs → Calls Try.prog 21 #[.slice Ap n cp] w1 fun e w' => ∃ Av cv, e = .returned (.tuple #[.slice Av 1 cv, .int .i64 0]) ∧ U64s w' (new w1.heap.size) Av cv [1] ∧ Below w1.heap.size w1 w') := fun w1 Z Ap cp h => by
          have h1 := vcontent_n h n_r (by omega) kr (by omega)
          rw [hnr, hlg, if_neg hg] at h1
          refine h1.mono ?_
          rintro e w' ⟨_, rfl, ⟨Av, cv, rfl, hu⟩, hb⟩
          rw [e0] at hu ⊢
          exact ⟨Av, cv, rfl, hu, hb⟩
        have cB : Hid (∀ w1 Z Y Ap cp Bc bc, VecAt w1 Z Ap cp rs → U64s w1 Y Bc bc k → Calls Try.prog 22 #[.slice Ap n cp, .agg #[.bool false, .slice Bc k.length bc]] w1 fun e w' => ∃ Av cv, e = .returned (.tuple #[.slice Av n cv, .int .i64 0]) ∧ VecAt w' (new w1.heap.size) Av cv ps ∧ Below w1.heap.size w1 w') := fun w1 Z Y Ap cp Bc bc h1 h2 => by
          have h3 := vscale_n (y := ((gcdV xs : Nat) : Int)) h1 h2 n_r ⟨(decide_eq_false (by omega)).symm, by rw [Int.natAbs_natCast]; exact hk⟩ (by omega) kr (by rw [hk]; exact hgk) (by omega) (by rw [hback]; exact nx)
          rwa [hnr, ← hn] at h3
        
        have hdz : decide (gcdV xs = 0) = false := decide_eq_false hg
        rw [hdz] at cZ
        have hkl : 0 < k.length := by rw [hk]; exact len_pos.2 hg
        have z1 : ((k.length : Int) == 0) = false := beq_eq_false_iff_ne.2 (by omega)
        have hk9 : k.length ≤ 10 := by rw [hk]; exact hgk
        have cS : Hid (∀ w1 Z Y Au au Av av, VecAt w1 Z Au au ps → VecAt w1 Y Av av ps → Calls Try.prog 23 #[.slice Au n au, .slice Av n av] w1 fun e w' => e = .returned (.bool true) ∧ Below w1.heap.size w1 w') := fun w1 Z Y Au au Av av h1 h2 => by
          have := same7_n h1 h2
          rwa [← hn] at this
        have c1 : Hid (∀ w1 Z Ad cd, U64s w1 Z Ad cd [1] → Calls Try.prog 24 #[.slice Ad 1 cd, .slice (some ⟨w1.heap.size, 0, none⟩) 1 1] (w1.alloc (.cells #[.int .u64 1] 43)) fun e w' => e = .returned (.bool true) ∧ Below (w1.alloc (.cells #[.int .u64 1] 43)).heap.size (w1.alloc (.cells #[.int .u64 1] 43)) w') := fun w1 Z Ad cd h => same_yes (l := [1]) ⟨Ad, cd, rfl, h.below ((Below.refl _ _).alloc (Nat.le_refl _) _)⟩ (isU_one (x := 1) (by omega) (cell_newest rfl rfl))
        cases o2 : okI sn ln
        · have cE : Hid (∀ w1 Z Y, VecAt w1 Z A ca ps → U64s w1 Y N cn ln → Calls Try.prog 22 #[.slice A n ca, .agg #[.bool sn, .slice N ln.length cn]] w1 fun e w' => e = .returned (.tuple #[.slice none 0 0, .int .i64 8]) ∧ Below w1.heap.size w1 w') := fun w1 Z Y h1 h2 => by
            have := vscale_err (t := sn) h1 h2 (by rw [o2]; simp)
            rwa [← hn] at this
          rw [← hn] at G1 hla ⊢
          clear hk e0 hdz hg nx ka kx lx n_r kr lr hgk hlg hback hzero hn hnr hkl hk9 la o2
          go_enter Try.func4, Try.ntmps4
          go_wp2_with fail
          refine (alive7 _).mono ?_
          rintro e w1 ⟨rfl, hb⟩
          replace n0 := keepC hb n0
          replace n1 := keepC hb n1
          replace va := va.below hb
          replace un := un.below hb
          replace hB := from_ hB hb
          clear hb
          go_wp2_with fail
          refine (G1.out _ _ va).mono ?_
          rintro e _ ⟨rfl, rfl⟩
          go_wp2_with fail
          refine (cP.out _ _ va).mono ?_
          rintro e w3 ⟨A3, c3, rfl, vP, hb⟩
          replace n0 := keepC hb n0
          replace n1 := keepC hb n1
          replace va := va.below hb
          replace un := un.below hb
          replace hB := from_ hB hb
          clear hb
          go_wp2_with fail
          refine (cC.out _ _ va).mono ?_
          rintro e w4 ⟨A4, c4, rfl, vC, hb⟩
          replace n0 := keepC hb n0
          replace n1 := keepC hb n1
          replace va := va.below hb
          replace un := un.below hb
          replace vP := vP.below hb
          replace hB := from_ hB hb
          clear hb
          go_wp2_with fail
          refine (cD.out _ _ _ _ vP).mono ?_
          rintro e w5 ⟨A5, c5, rfl, vD, hb⟩
          replace n0 := keepC hb n0
          replace n1 := keepC hb n1
          replace va := va.below hb
          replace un := un.below hb
          replace vP := vP.below hb
          replace vC := vC.below hb
          replace hB := from_ hB hb
          clear hb
          go_wp2_with fail
          refine (cB.out _ _ _ _ _ _ _ vP vC).mono ?_
          rintro e w6 ⟨A6, c6, rfl, vB, hb⟩
          replace n0 := keepC hb n0
          replace n1 := keepC hb n1
          replace va := va.below hb
          replace un := un.below hb
          replace vP := vP.below hb
          replace vC := vC.below hb
          replace vD := vD.below hb
          replace hB := from_ hB hb
          clear hb
          go_wp2_with fail
          refine (cZ.out _ _ va).mono ?_
          rintro e w7 ⟨rfl, hb⟩
          replace n0 := keepC hb n0
          replace n1 := keepC hb n1
          replace va := va.below hb
          replace un := un.below hb
          replace vP := vP.below hb
          replace vC := vC.below hb
          replace vD := vD.below hb
          replace vB := vB.below hb
          replace hB := from_ hB hb
          clear hb
          go_wp2_with fail
          refine (cS.out _ _ _ _ _ _ _ vB va).mono ?_
          rintro e w8 ⟨rfl, hb⟩
          replace n0 := keepC hb n0
          replace n1 := keepC hb n1
          replace va := va.below hb
          replace un := un.below hb
          replace vP := vP.below hb
          replace vC := vC.below hb
          replace vD := vD.below hb
          replace vB := vB.below hb
          replace hB := from_ hB hb
          clear hb
          go_wp2_with fail
          refine (c1.out _ _ _ _ vD).mono ?_
          rintro e w9 ⟨rfl, hb0⟩
          have hb := from_ ((Below.refl _ _).alloc (Nat.le_refl _) (.cells #[.int .u64 1] 43)) hb0
          replace n0 := keepC hb n0
          replace n1 := keepC hb n1
          replace va := va.below hb
          replace un := un.below hb
          replace vP := vP.below hb
          replace vC := vC.below hb
          replace vD := vD.below hb
          replace vB := vB.below hb
          replace hB := from_ hB hb
          clear hb hb0
          go_wp2_with fail
          refine (cE.out _ _ _ va un).mono ?_
          rintro e w10 ⟨rfl, hb⟩
          replace n0 := keepC hb n0
          replace n1 := keepC hb n1
          replace va := va.below hb
          replace un := un.below hb
          replace vP := vP.below hb
          replace vC := vC.below hb
          replace vD := vD.below hb
          replace vB := vB.below hb
          replace hB := from_ hB hb
          clear hb
          go_wp2
          go_ret
          exact ⟨by first | rfl | trivial, hB⟩
        · have nn := Nm.ok o2 un.small
          generalize zof sn ln = y at *
          obtain ⟨px, n_x⟩ : ∃ p, NmV (xs.map fun x => x * y) p := ⟨_, NmV.mk' _⟩
          obtain ⟨pq, n_q⟩ : ∃ p, NmV (lowV (xs.map fun x => x * y)) p := ⟨_, NmV.mk' _⟩
          have n_q2 : NmV ((lowV xs).map fun x => x * sgn y) pq := by rw [← lowV_scale]; exact n_q
          have kp : ∀ p ∈ px, p.2.length ≤ 20 := nmV_lens n_x fun z hz => by
            obtain ⟨x, h1, rfl⟩ := List.mem_map.1 hz
            have h4 := lz_mul x y
            have h6 := kx x h1
            rw [← nn.len] at h4
            omega
          have lpx : px.length = n := by rw [← n_x.len, List.length_map]; omega
          have lpq : pq.length = n := by rw [← n_q.len, lowV_length, List.length_map]; omega
          obtain ⟨gs, hgs⟩ : ∃ g, sgn y = g := ⟨_, rfl⟩
          rw [hgs] at n_q2
          have hgb : gs = 0 ∨ gs = -1 ∨ gs = 1 := by
            rw [← hgs]
            unfold sgn
            split
            · simp
            · split <;> simp
          obtain ⟨ss, ls, n_s⟩ : ∃ s l, Nm gs s l := ⟨_, _, Nm.mk' _⟩
          have kls : ls.length ≤ 10 := by rw [n_s.2]; exact Nat.le_trans (len_limbs_le (k := 1) (by omega)) (by omega)
          have cE : Hid (∀ w1 Z Y, VecAt w1 Z A ca ps → U64s w1 Y N cn ln → Calls Try.prog 22 #[.slice A n ca, .agg #[.bool sn, .slice N ln.length cn]] w1 fun e w' => ∃ Av cv, e = .returned (.tuple #[.slice Av n cv, .int .i64 0]) ∧ VecAt w' (new w1.heap.size) Av cv px ∧ Below w1.heap.size w1 w') := fun w1 Z Y h1 h2 => by
            have := vscale_n h1 h2 nx nn (by omega) ka g1 (by omega) n_x
            rwa [← hn, lpx] at this
          have cQ : Hid (∀ w1 Z Ap cp, VecAt w1 Z Ap cp px → Calls Try.prog 20 #[.slice Ap n cp] w1 fun e w' => ∃ Av cv, e = .returned (.tuple #[.slice Av n cv, .int .i64 0]) ∧ VecAt w' (new w1.heap.size) Av cv pq ∧ Below w1.heap.size w1 w') := fun w1 Z Ap cp h => by
            have := vprime_n h n_x (by omega) kp (by omega) n_q
            rwa [lpx, lpq] at this
          have cT : Hid (∀ w1 Z Y Ap cp Bc bc, VecAt w1 Z Ap cp rs → U64s w1 Y Bc bc ls → Calls Try.prog 22 #[.slice Ap n cp, .agg #[.bool ss, .slice Bc ls.length bc]] w1 fun e w' => ∃ Av cv, e = .returned (.tuple #[.slice Av n cv, .int .i64 0]) ∧ VecAt w' (new w1.heap.size) Av cv pq ∧ Below w1.heap.size w1 w') := fun w1 Z Y Ap cp Bc bc h1 h2 => by
            have h3 := vscale_n h1 h2 n_r n_s (by omega) kr kls (by omega) n_q2
            rwa [hnr, lpq] at h3
          have cU : Hid (∀ w1 Z Y Au au Av av, VecAt w1 Z Au au pq → VecAt w1 Y Av av pq → Calls Try.prog 23 #[.slice Au n au, .slice Av n av] w1 fun e w' => e = .returned (.bool true) ∧ Below w1.heap.size w1 w') := fun w1 Z Y Au au Av av h1 h2 => by
            have := same7_n h1 h2
            rwa [lpq] at this
          have Nn_ := Lib.hid nn
          have Ns_ := Lib.hid n_s
          have Hgs := Lib.hid hgs
          have Hgb := Lib.hid hgb
          rw [← hn] at G1 hla ⊢
          clear hk e0 hdz hg nx ka kx lx n_r kr lr hgk hlg hback hzero hn hnr hkl hk9 la o2 nn n_x n_q n_q2 kp lpx lpq hgs hgb n_s kls
          go_enter Try.func4, Try.ntmps4
          go_wp2_with fail
          refine (alive7 _).mono ?_
          rintro e w1 ⟨rfl, hb⟩
          replace n0 := keepC hb n0
          replace n1 := keepC hb n1
          replace va := va.below hb
          replace un := un.below hb
          replace hB := from_ hB hb
          clear hb
          go_wp2_with fail
          refine (G1.out _ _ va).mono ?_
          rintro e _ ⟨rfl, rfl⟩
          go_wp2_with fail
          refine (cP.out _ _ va).mono ?_
          rintro e w3 ⟨A3, c3, rfl, vP, hb⟩
          replace n0 := keepC hb n0
          replace n1 := keepC hb n1
          replace va := va.below hb
          replace un := un.below hb
          replace hB := from_ hB hb
          clear hb
          go_wp2_with fail
          refine (cC.out _ _ va).mono ?_
          rintro e w4 ⟨A4, c4, rfl, vC, hb⟩
          replace n0 := keepC hb n0
          replace n1 := keepC hb n1
          replace va := va.below hb
          replace un := un.below hb
          replace vP := vP.below hb
          replace hB := from_ hB hb
          clear hb
          go_wp2_with fail
          refine (cD.out _ _ _ _ vP).mono ?_
          rintro e w5 ⟨A5, c5, rfl, vD, hb⟩
          replace n0 := keepC hb n0
          replace n1 := keepC hb n1
          replace va := va.below hb
          replace un := un.below hb
          replace vP := vP.below hb
          replace vC := vC.below hb
          replace hB := from_ hB hb
          clear hb
          go_wp2_with fail
          refine (cB.out _ _ _ _ _ _ _ vP vC).mono ?_
          rintro e w6 ⟨A6, c6, rfl, vB, hb⟩
          replace n0 := keepC hb n0
          replace n1 := keepC hb n1
          replace va := va.below hb
          replace un := un.below hb
          replace vP := vP.below hb
          replace vC := vC.below hb
          replace vD := vD.below hb
          replace hB := from_ hB hb
          clear hb
          go_wp2_with fail
          refine (cZ.out _ _ va).mono ?_
          rintro e w7 ⟨rfl, hb⟩
          replace n0 := keepC hb n0
          replace n1 := keepC hb n1
          replace va := va.below hb
          replace un := un.below hb
          replace vP := vP.below hb
          replace vC := vC.below hb
          replace vD := vD.below hb
          replace vB := vB.below hb
          replace hB := from_ hB hb
          clear hb
          go_wp2_with fail
          refine (cS.out _ _ _ _ _ _ _ vB va).mono ?_
          rintro e w8 ⟨rfl, hb⟩
          replace n0 := keepC hb n0
          replace n1 := keepC hb n1
          replace va := va.below hb
          replace un := un.below hb
          replace vP := vP.below hb
          replace vC := vC.below hb
          replace vD := vD.below hb
          replace vB := vB.below hb
          replace hB := from_ hB hb
          clear hb
          go_wp2_with fail
          refine (c1.out _ _ _ _ vD).mono ?_
          rintro e w9 ⟨rfl, hb0⟩
          have hb := from_ ((Below.refl _ _).alloc (Nat.le_refl _) (.cells #[.int .u64 1] 43)) hb0
          replace n0 := keepC hb n0
          replace n1 := keepC hb n1
          replace va := va.below hb
          replace un := un.below hb
          replace vP := vP.below hb
          replace vC := vC.below hb
          replace vD := vD.below hb
          replace vB := vB.below hb
          replace hB := from_ hB hb
          clear hb hb0
          go_wp2_with fail
          refine (cE.out _ _ _ va un).mono ?_
          rintro e w10 ⟨A10, c10, rfl, vS, hb⟩
          replace n0 := keepC hb n0
          replace n1 := keepC hb n1
          replace va := va.below hb
          replace un := un.below hb
          replace vP := vP.below hb
          replace vC := vC.below hb
          replace vD := vD.below hb
          replace vB := vB.below hb
          replace hB := from_ hB hb
          clear hb
          go_wp2_with fail
          refine (cQ.out _ _ _ _ vS).mono ?_
          rintro e w11 ⟨A11, c11, rfl, vQ, hb⟩
          replace n0 := keepC hb n0
          replace n1 := keepC hb n1
          replace va := va.below hb
          replace un := un.below hb
          replace vP := vP.below hb
          replace vC := vC.below hb
          replace vD := vD.below hb
          replace vB := vB.below hb
          replace vS := vS.below hb
          replace hB := from_ hB hb
          clear hb
          go_wp2_with fail
          refine (sign_n Nn_.out Hgs.out un).mono ?_
          rintro e w12 ⟨rfl, hb⟩
          replace n0 := keepC hb n0
          replace n1 := keepC hb n1
          replace va := va.below hb
          replace un := un.below hb
          replace vP := vP.below hb
          replace vC := vC.below hb
          replace vD := vD.below hb
          replace vB := vB.below hb
          replace vS := vS.below hb
          replace vQ := vQ.below hb
          replace hB := from_ hB hb
          clear hb
          go_wp2_with fail
          refine (wof_n Ns_.out (by have := Hgb.out; omega)).mono ?_
          rintro e w13 ⟨A13, c13, rfl, vO, hb⟩
          replace n0 := keepC hb n0
          replace n1 := keepC hb n1
          replace va := va.below hb
          replace un := un.below hb
          replace vP := vP.below hb
          replace vC := vC.below hb
          replace vD := vD.below hb
          replace vB := vB.below hb
          replace vS := vS.below hb
          replace vQ := vQ.below hb
          replace hB := from_ hB hb
          clear hb
          go_wp2_with fail
          refine (cT.out _ _ _ _ _ _ _ vP vO).mono ?_
          rintro e w14 ⟨A14, c14, rfl, vT, hb⟩
          replace n0 := keepC hb n0
          replace n1 := keepC hb n1
          replace va := va.below hb
          replace un := un.below hb
          replace vP := vP.below hb
          replace vC := vC.below hb
          replace vD := vD.below hb
          replace vB := vB.below hb
          replace vS := vS.below hb
          replace vQ := vQ.below hb
          replace vO := vO.below hb
          replace hB := from_ hB hb
          clear hb
          go_wp2_with fail
          refine (cU.out _ _ _ _ _ _ _ vQ vT).mono ?_
          rintro e w15 ⟨rfl, hb⟩
          replace n0 := keepC hb n0
          replace n1 := keepC hb n1
          replace va := va.below hb
          replace un := un.below hb
          replace vP := vP.below hb
          replace vC := vC.below hb
          replace vD := vD.below hb
          replace vB := vB.below hb
          replace vS := vS.below hb
          replace vQ := vQ.below hb
          replace vO := vO.below hb
          replace vT := vT.below hb
          replace hB := from_ hB hb
          clear hb
          go_wp2
          go_ret
          exact ⟨by first | rfl | trivial, hB⟩

end Go.Proofs.Ytmeknjfffhblaaa
