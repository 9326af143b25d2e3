/-
  facetroomlaw18.RowsSame, walked. No conditions.
-/
import Derived.Deep.RegionHeld3
import Derived.Test.YtajmijnoikkffaaRRowY
import Derived.Test.YtajmijnoikkffaaRVecM
namespace Go.Proofs.Ytajmijnoikkffaa
open Go.RowKit
set_option linter.unusedVariables false
set_option linter.unusedSimpArgs false

/-- The list, with one row scaled by a number that is not 0. -/
def scL (L : List (List Int)) (i : Nat) (t : Int) : List (List Int) := if t = 0 then L else L.set i ((L.getD i []).map fun a => a * t)
theorem scL_length (L : List (List Int)) (i : Nat) (t : Int) : (scL L i t).length = L.length := by unfold scL; split <;> simp
theorem scL_off {L : List (List Int)} {i j : Nat} {t : Int} (hj : j < L.length) (h : j = i → t = 0) : (scL L i t)[j]'(by rw [scL_length]; exact hj) = L[j] := by
  apply Option.some.inj
  rw [← List.getElem?_eq_getElem, ← List.getElem?_eq_getElem]
  unfold scL
  split
  · rfl
  · rename_i ht
    rw [List.getElem?_set_ne (fun e => ht (h e.symm))]
theorem scL_on {L : List (List Int)} {i : Nat} {t : Int} (hi : i < L.length) (h : t ≠ 0) : (scL L i t)[i]'(by rw [scL_length]; exact hi) = L[i].map fun a => a * t := by
  apply Option.some.inj
  rw [← List.getElem?_eq_getElem]
  unfold scL
  rw [if_neg h, List.getElem?_set_self hi, List.getD_eq_getElem?_getD, List.getElem?_eq_getElem hi]
  rfl
theorem scL_mem {L : List (List Int)} {i : Nat} {t : Int} {x : List Int} (hx : x ∈ scL L i t) : x ∈ L ∨ ∃ y ∈ L, x = y.map fun a => a * t := by
  obtain ⟨j, hj, rfl⟩ := List.getElem_of_mem hx
  have hj2 : j < L.length := by rw [← scL_length L i t]; exact hj
  by_cases h : j = i → t = 0
  · left
    rw [scL_off hj2 h]
    exact List.getElem_mem hj2
  · right
    have e : j = i ∧ t ≠ 0 := ⟨Classical.byContradiction fun hn => h fun e => absurd e hn, fun e => h fun _ => e⟩
    obtain ⟨rfl, ht⟩ := e
    exact ⟨_, List.getElem_mem hj2, scL_on hj2 ht⟩
theorem other_len {n i k : Nat} {L : List (List Int)} {m t : Int} (hL : ∀ r ∈ L, r.length = n) (hi : i < L.length) (hk : k < L.length) : ∀ r ∈ mixV m L[i] t L[k] :: (scL L i t).reverse, r.length = n := fun r hr => by
  rcases List.mem_cons.1 hr with rfl | hr
  · exact mixV_length (hL _ (List.getElem_mem hi)) (hL _ (List.getElem_mem hk))
  · rcases scL_mem (List.mem_reverse.1 hr) with h | ⟨y, hy, rfl⟩
    · exact hL r h
    · rw [List.length_map]; exact hL y hy
theorem other_form {n i k : Nat} {L : List (List Int)} {m t : Int} (hL : ∀ r ∈ L, r.length = n) (hi : i < L.length) (hk : k < L.length) : formF n (mixV m L[i] t L[k] :: (scL L i t).reverse) = formF n L := by
  have ho := other_len (m := m) (t := t) hL hi hk
  refine formF_same ho hL (fun x hx => ?_) fun x hx => ?_
  · rcases List.mem_cons.1 hx with rfl | hx
    · exact .mix _ _ (.mem (List.getElem_mem hi)) (.mem (List.getElem_mem hk))
    · rcases scL_mem (List.mem_reverse.1 hx) with h | ⟨y, hy, rfl⟩
      · exact .mem h
      · exact (Sp.mem hy).scale hL t
  · obtain ⟨j, hj, rfl⟩ := List.getElem_of_mem hx
    have hin : ∀ (j : Nat) (hj : j < (scL L i t).length), Sp n (mixV m L[i] t L[k] :: (scL L i t).reverse) (scL L i t)[j] := fun j hj =>
      .mem (List.mem_cons_of_mem _ (List.mem_reverse.2 (List.getElem_mem hj)))
    have h1 := hin j (by rw [scL_length]; exact hj)
    by_cases h : j = i → t = 0
    · rwa [scL_off hj h] at h1
    · have e : j = i ∧ t ≠ 0 := ⟨Classical.byContradiction fun hn => h fun e => absurd e hn, fun e => h fun _ => e⟩
      obtain ⟨rfl, ht⟩ := e
      rw [scL_on hj ht] at h1
      exact .div t ht (hL _ (List.getElem_mem hj)) h1
theorem other_size {i k : Nat} {L : List (List Int)} {m t : Int} (hi : i < L.length) (hk : k < L.length) (hs : ∀ r ∈ L, SzV 2 r) (hm : (limbs m.natAbs).length ≤ 2) (ht : (limbs t.natAbs).length ≤ 2) : ∀ r ∈ mixV m L[i] t L[k] :: (scL L i t).reverse, SzV 5 r := fun r hr => by
  rcases List.mem_cons.1 hr with rfl | hr
  · exact szv_mix (hs _ (List.getElem_mem hi)) (hs _ (List.getElem_mem hk)) hm ht
  · rcases scL_mem (List.mem_reverse.1 hr) with h | ⟨y, hy, rfl⟩
    · exact szv_mono (hs r h) (by omega)
    · intro a ha
      obtain ⟨b, hb, rfl⟩ := List.mem_map.1 ha
      have h1 := lz_mul b t
      have h2 := hs y hy b hb
      omega
theorem other_part {L : List (List Int)} {q : Nat} (hq : q < L.length) : (L.drop q).reverse = (L.drop (q + 1)).reverse ++ [L[q]] := by
  rw [List.drop_eq_getElem_cons hq, List.reverse_cons]
theorem tmod_nat (a b : Nat) : Int.tmod (a : Int) (b : Int) = ((a % b : Nat) : Int) := by
  rw [Int.tmod_eq_emod_of_nonneg (by omega)]
  rfl

set_option maxRecDepth 100000 in
set_option maxHeartbeats 8000000 in
theorem lawRowsSame {w : World} {l m n : Value} {pss : Vecs} {ta tb : Int} {sm sn : Bool} {lm ln : List Nat} (hl : IsMat w old l pss) (hta : 0 ≤ ta ∧ ta ≤ 255) (htb : 0 ≤ tb ∧ tb ≤ 255) (hm : IsI w old m sm lm) (hn : IsI w old n sn ln) :
    Calls Try.prog 4 #[l, .int .u8 ta, .int .u8 tb, m, n] w fun e w' => e = .returned (.bool true) ∧ Below w.heap.size w w' := by
  obtain ⟨A, c, rfl, hl⟩ := hl
  obtain ⟨_, rfl, Bm, cm, rfl, um⟩ := hm
  obtain ⟨_, rfl, Bn, cn, rfl, un⟩ := hn
  obtain ⟨ta, rfl⟩ : ∃ k : Nat, ta = k := ⟨ta.toNat, by omega⟩
  obtain ⟨tb, rfl⟩ : ∃ k : Nat, tb = k := ⟨tb.toNat, by omega⟩
  obtain ⟨bA, bB, hB0⟩ := boxes2 w (.bool sm) (.slice Bm lm.length cm) (.bool sn) (.slice Bn ln.length cn) 39
  have HA : Hid (∀ W, Calls Try.prog 7 #[] W fun e w' => e = .returned (.bool true) ∧ Below W.heap.size W w') := fun W => alive18 W
  have k1 : greatM pss 7 7 2 = true ∨ greatM pss 7 7 2 = false := by cases greatM pss 7 7 2 <;> simp
  have G1 : Hid (∀ w1, Below w.heap.size w w1 → Calls Try.prog 8 #[.slice A pss.length c, .int .i64 7, .int .i64 7, .int .i64 2] w1 fun e w' => e = .returned (.bool (greatM pss 7 7 2)) ∧ w1 = w') := fun w1 h => r18great_any (M := 7) (L := 7) (K := 2) (hl.below h) (by omega) (by omega) (by omega)
  have hlen := hl.len
  have hlm := um.len
  have hln := un.len
  rcases k1 with k1 | k1
  · rw [k1] at G1
    clear k1 hl um un
    generalize pss.length = P at *
    generalize lm.length = Lm at *
    generalize ln.length = Ln at *
    go_enter Try.func4, Try.ntmps4
    go_wp2_with fail
    refine (HA.out _).mono ?_
    rintro e w1 ⟨rfl, hb⟩
    obtain ⟨x0, x1, _, _, _⟩ := bA.below hb
    obtain ⟨y0, y1, _, _, _⟩ := bB.below hb
    have hB := from_ hB0 hb
    clear hb bA bB hB0 HA
    go_wp2_with fail
    refine (G1.out _ hB).mono ?_
    rintro e _ ⟨rfl, rfl⟩
    clear G1
    go_wp2
    go_ret
    exact ⟨by first | rfl | trivial, hB⟩
  rw [k1] at G1
  by_cases h2 : 2 < lm.length
  · have t2 : decide ((2 : Int) < (lm.length : Int)) = true := decide_eq_true (by omega)
    have t3 : decide (2 < lm.length) = true := decide_eq_true h2
    clear k1 hl um un h2
    generalize pss.length = P at *
    generalize lm.length = Lm at *
    generalize ln.length = Ln at *
    go_enter Try.func4, Try.ntmps4
    go_wp2_with fail
    refine (HA.out _).mono ?_
    rintro e w1 ⟨rfl, hb⟩
    obtain ⟨x0, x1, _, _, _⟩ := bA.below hb
    obtain ⟨y0, y1, _, _, _⟩ := bB.below hb
    have hB := from_ hB0 hb
    clear hb bA bB hB0 HA
    go_wp2_with fail
    refine (G1.out _ hB).mono ?_
    rintro e _ ⟨rfl, rfl⟩
    clear G1
    go_wp2
    go_ret
    exact ⟨by first | rfl | trivial, hB⟩
  have t2 : decide ((2 : Int) < (lm.length : Int)) = false := decide_eq_false (by omega)
  have t3 : decide (2 < lm.length) = false := decide_eq_false h2
  by_cases h4 : 2 < ln.length
  · have t4 : decide ((2 : Int) < (ln.length : Int)) = true := decide_eq_true (by omega)
    have t5 : decide (2 < ln.length) = true := decide_eq_true h4
    clear k1 hl um un h2 h4
    generalize pss.length = P at *
    generalize lm.length = Lm at *
    generalize ln.length = Ln at *
    go_enter Try.func4, Try.ntmps4
    go_wp2_with fail
    refine (HA.out _).mono ?_
    rintro e w1 ⟨rfl, hb⟩
    obtain ⟨x0, x1, _, _, _⟩ := bA.below hb
    obtain ⟨y0, y1, _, _, _⟩ := bB.below hb
    have hB := from_ hB0 hb
    clear hb bA bB hB0 HA
    go_wp2_with fail
    refine (G1.out _ hB).mono ?_
    rintro e _ ⟨rfl, rfl⟩
    clear G1
    go_wp2
    go_ret
    exact ⟨by first | rfl | trivial, hB⟩
  have t4 : decide ((2 : Int) < (ln.length : Int)) = false := decide_eq_false (by omega)
  have t5 : decide (2 < ln.length) = false := decide_eq_false h4
  obtain ⟨n7, b1⟩ := greatM_no k1
  by_cases hE : errR pss = 0
  · obtain ⟨_, hgood⟩ := errR_zero hE
    obtain ⟨L, hL, hsz, hmat⟩ := mat_nums hl hE (K := 2) fun ps hp => (greatV_lims (b1 ps hp)).2
    have eL : pss.length = L.length := by rw [hL, List.length_map]
    by_cases hP : 0 < pss.length
    · have hmem0 := List.getElem_mem hP
      have hg0 := hgood _ hmem0
      obtain ⟨q, hq⟩ : ∃ q, q = (pss.headD []).length := ⟨_, rfl⟩
      have h0 : 0 < q := by rw [hq, ← hg0.2.2]; exact hg0.2.1
      have hq7 : q ≤ 7 := by rw [hq, ← hg0.2.2]; exact (greatV_lims (b1 _ hmem0)).1
      have hM := hmat q fun _ => hq.symm
      rw [eL] at G1 hlen n7 hP ⊢
      obtain ⟨i, hid⟩ : ∃ i, i = ta % L.length := ⟨_, rfl⟩
      obtain ⟨k, hkd⟩ : ∃ k, k = tb % L.length := ⟨_, rfl⟩
      have hiL : i < L.length := by rw [hid]; exact Nat.mod_lt _ hP
      have hkL : k < L.length := by rw [hkd]; exact Nat.mod_lt _ hP
      have hw1 : IntKind.i64.wrap (ta : Int) = (ta : Int) := by rw [IntKind.wrap_i64]; omega
      have hw2 : IntKind.i64.wrap (tb : Int) = (tb : Int) := by rw [IntKind.wrap_i64]; omega
      have hr1 : Int.tmod (ta : Int) (L.length : Int) = (i : Int) := by rw [tmod_nat, hid]
      have hr2 : Int.tmod (tb : Int) (L.length : Int) = (k : Int) := by rw [tmod_nat, hkd]
      have hP0 : ((L.length : Int) == 0) = false := beq_eq_false_iff_ne.2 (by omega)
      obtain ⟨F, hF⟩ : ∃ F, F = formF q L := ⟨_, rfl⟩
      have hi : Inv q F := by rw [hF]; exact formF_inv hM.1
      have hFq := hi.le
      have hFL : F.length ≤ L.length := by rw [hF]; exact formF_length L
      have HE1 : Hid (∀ W, Below w.heap.size w W → Calls Try.prog 9 #[.slice A L.length c] W fun e w' => ∃ A2 c2, e = .returned (.tuple #[.slice A2 F.length c2, .int .i64 0]) ∧ MatN w' old A2 c2 q F ∧ Below W.heap.size W w') := fun W h => by
        rw [hF]
        exact echelon_ok (B := 2) (hM.below h) h0 (by omega) (by omega) hsz (by rw [← hF]; exact bigF_down (C := 2) (m := 7) (by unfold bigF; decide +kernel) (Nat.le_refl _) (by omega))
      have HM : Hid (∀ W, Below w.heap.size w W → MatN W (Z := (old).upto w.heap.size) A c q L) := fun W h => hM.bound.below h
      have HUM : Hid (∀ W, Below w.heap.size w W → U64s W old Bm cm lm) := fun W h => um.below h
      have HUN : Hid (∀ W, Below w.heap.size w W → U64s W old Bn cn ln) := fun W h => un.below h
      have HID := Lib.hid hid
      have HKD := Lib.hid hkd
      by_cases hok : okI sm lm = true ∧ okI sn ln = true
      · obtain ⟨zm, hzm⟩ : ∃ z, Nm z sm lm := ⟨_, Nm.ok hok.1 um.small⟩
        obtain ⟨zn, hzn⟩ : ∃ z, Nm z sn ln := ⟨_, Nm.ok hok.2 un.small⟩
        have hz2 : (limbs zm.natAbs).length ≤ 2 := by rw [← hzm.2]; omega
        have hz3 : (limbs zn.natAbs).length ≤ 2 := by rw [← hzn.2]; omega
        obtain ⟨X, hX⟩ : ∃ X, X = mixV zm L[i] zn L[k] := ⟨_, rfl⟩
        obtain ⟨S, hS⟩ : ∃ S, S = scL L i zn := ⟨_, rfl⟩
        have hSl : S.length = L.length := by rw [hS, scL_length]
        have hof : formF q (X :: S.reverse) = F := by rw [hX, hS, hF]; exact other_form hM.1 hiL hkL
        have hos : ∀ r ∈ X :: S.reverse, SzV 5 r := by rw [hX, hS]; exact other_size hiL hkL hsz hz2 hz3
        have hszF : ∀ r ∈ F, SzV (szF 2 7) r := fun r hr => by
          rw [hF] at hr hFq
          exact szv_mono (szv_formF hsz r hr) (szF_mono (by omega))
        have hFF : formF q F = F := formF_form hi
        have HMIX : Hid (∀ W Z Y B1 d1 B2 d2, Below w.heap.size w W → RowAt W Z B1 d1 q L[i] → RowAt W Y B2 d2 q L[k] → Calls Try.prog 14 #[.agg #[.bool sm, .slice Bm lm.length cm], .slice B1 q d1, .agg #[.bool sn, .slice Bn ln.length cn], .slice B2 q d2] W fun e w' => ∃ Av cv, e = .returned (.tuple #[.slice Av q cv, .int .i64 0]) ∧ RowAt w' (new W.heap.size) Av cv q X ∧ Below W.heap.size W w') := fun W Z Y B1 d1 B2 d2 g g1 g2 => by
          rw [hX]
          exact rmix (K := 2) g1 g2 (um.below g) (un.below g) hzm hzn (by omega) (hsz _ (List.getElem_mem hiL)) (hsz _ (List.getElem_mem hkL)) (by omega) (by omega) (by omega)
        have HSC : Hid (∀ W Z B1 d1, Below w.heap.size w W → zn ≠ 0 → RowAt W Z B1 d1 q L[i] → Calls Try.prog 16 #[.slice B1 q d1, .agg #[.bool sn, .slice Bn ln.length cn]] W fun e w' => ∃ Av cv, e = .returned (.tuple #[.slice Av q cv, .int .i64 0]) ∧ RowAt w' (new W.heap.size) Av cv q (S[i]'(by rw [hSl]; exact hiL)) ∧ Below W.heap.size W w') := fun W Z B1 d1 g hz g1 => by
          have h1 := rscale (K := 2) g1 (un.below g) hzn (by omega) (hsz _ (List.getElem_mem hiL)) (by omega) (by omega)
          have e : S[i]'(by rw [hSl]; exact hiL) = L[i].map fun x => x * zn := by
            subst hS
            exact scL_on hiL hz
          rw [e]
          exact h1
        have HOFF : Hid (∀ j (hj : j < L.length), (j = i → zn = 0) → S[j]'(by rw [hSl]; exact hj) = L[j]) := fun j hj h => by
          subst hS
          exact scL_off hj h
        have HE2 : Hid (∀ W A1 c1, MatN W old A1 c1 q (X :: S.reverse) → Calls Try.prog 9 #[.slice A1 (L.length + 1) c1] W fun e w' => ∃ A2 c2, e = .returned (.tuple #[.slice A2 F.length c2, .int .i64 0]) ∧ MatN w' old A2 c2 q F ∧ Below W.heap.size W w') := fun W A1 c1 h => by
          have h1 := echelon_ok (B := 5) h h0 (by omega) (by rw [List.length_cons, List.length_reverse, hSl]; omega) hos (by rw [hof]; exact bigF_down (C := 5) (m := 7) (by unfold bigF; decide +kernel) (Nat.le_refl _) (by omega))
          rwa [hof, List.length_cons, List.length_reverse, hSl] at h1
        have hbF : bigF (szF 2 7) F.length := bigF_down (C := szF 2 7) (m := 7) (by unfold bigF; decide +kernel) (Nat.le_refl _) (by omega)
        have hmul : F.length * (szF 2 7 + 1) ≤ 7 * (szF 2 7 + 1) := Nat.mul_le_mul_right _ (by omega)
        have hc1 : 2 + 7 * (szF 2 7 + 1) + szF 2 7 + 1 ≤ 10000000000 := by decide +kernel
        have HE3 : Hid (∀ W A1 c1, MatN W old A1 c1 q F → Calls Try.prog 9 #[.slice A1 F.length c1] W fun e w' => ∃ A2 c2, e = .returned (.tuple #[.slice A2 F.length c2, .int .i64 0]) ∧ MatN w' old A2 c2 q F ∧ Below W.heap.size W w') := fun W A1 c1 h => by
          have h1 := echelon_ok (B := szF 2 7) h h0 (by omega) (by omega) hszF (by rw [hFF]; exact hbF)
          rwa [hFF] at h1
        have HS18 : Hid (∀ W A1 c1 A2 c2, MatN W old A1 c1 q F → MatN W old A2 c2 q F → Calls Try.prog 17 #[.slice A1 F.length c1, .slice A2 F.length c2] W fun e w' => e = .returned (.bool true) ∧ Below W.heap.size W w') := fun W A1 c1 A2 c2 h1 h2 => by
          have h3 := r18same_n h1 h2
          rwa [decide_eq_true rfl] at h3
        have HIN : Hid (∀ W j (hj : j < L.length) Z B1 d1 A1 c1, RowAt W Z B1 d1 q L[j] → MatN W old A1 c1 q F → Calls Try.prog 18 #[.slice B1 q d1, .slice A1 F.length c1] W fun e w' => e = .returned (.tuple #[.bool true, .int .i64 0]) ∧ Below W.heap.size W w') := fun W j hj Z B1 d1 A1 c1 h1 h2 => by
          have h3 := rin_ok (K := 2) (B0 := szF 2 7) (M := szF 2 7) h2 h1 h0 (by omega) (by omega) hszF (by rw [hFF]; exact hbF) (hsz _ (List.getElem_mem hj)) (by rw [hFF]; exact hszF) (by rw [hFF]; omega)
          have e : pk q (restF q F L[j]) = 0 := (rest_zero hi (hM.1 _ (List.getElem_mem hj))).2 (by rw [hF]; exact (formF_span hM.1).2 _ (List.getElem_mem hj))
          rw [hFF, e] at h3
          exact h3
        have hznl := nm_zero hzn
        have HZN := Lib.hid hznl
        have HSL := Lib.hid hSl
        have tF1 : decide ((F.length : Int) ≤ (L.length : Int)) = true := decide_eq_true (by omega)
        have tF2 : decide (F.length ≤ L.length) = true := decide_eq_true hFL
        have tF3 : decide ((F.length : Int) ≤ (q : Int)) = true := decide_eq_true (by omega)
        have tF4 : decide (F.length ≤ q) = true := decide_eq_true hFq
        have hqS : S.length ≤ 7 := by omega
        obtain ⟨P, hPd⟩ : ∃ P, L.length = P := ⟨_, rfl⟩
        rw [hPd] at G1 HE1 HE2 hlen n7 hP hiL hkL hr1 hr2 hP0 hFL tF1 tF2 ⊢
        have HPL := Lib.hid hPd
        have hwp : IntKind.i64.wrap ((P : Int) - 1) = (P : Int) - 1 := by rw [IntKind.wrap_i64]; omega
        clear k1 hl hL hsz hmat eL hE hgood hmem0 hg0 hq b1 hM hid hkd hF hi hok hzm hzn hz2 hz3 hX hS hof hos hszF hFF hbF hmul hc1 hznl hPd um un h2 h4
        go_enter Try.func4, Try.ntmps4
        go_wp2_with fail
        refine (HA.out _).mono ?_
        rintro e w1 ⟨rfl, hb⟩
        obtain ⟨x0, x1, _, _, _⟩ := bA.below hb
        obtain ⟨y0, y1, _, _, _⟩ := bB.below hb
        have hB := from_ hB0 hb
        clear hb bA bB hB0 HA
        go_wp2_with fail
        refine (G1.out _ hB).mono ?_
        rintro e _ ⟨rfl, rfl⟩
        clear G1
        go_wp2_with fail
        refine (HE1.out _ hB).mono ?_
        rintro e w2 ⟨A2, c2, rfl, hm2, hb⟩
        replace hB := from_ hB hb
        replace x0 := keepC hb x0
        replace x1 := keepC hb x1
        replace y0 := keepC hb y0
        replace y1 := keepC hb y1
        clear hb HE1
        obtain ⟨b3, o3, B3, d3, hA3, hb3, z3, hr3⟩ := (HM.out _ hB).at (by rw [HPL.out]; exact hiL)
        obtain ⟨b4, o4, B4, d4, hA4, hb4, z4, hr4⟩ := (HM.out _ hB).at (by rw [HPL.out]; exact hkL)
        subst hA3
        injection hA4 with hA4
        injection hA4 with e1_ e2_ _
        subst e1_ e2_
        have hdr : Below w2.heap.size w2 w2.drew := (Below.refl _ _).drew
        have HMX := Lib.hid (HMIX.out w2.drew _ _ _ _ _ _ (from_ hB hdr) (hr3.below hdr) (hr4.below hdr))
        have s0 := keepC hdr x0
        have s1 := keepC hdr x1
        have s2 := keepC hdr y0
        have s3 := keepC hdr y1
        have s4 := keepC hdr z3
        have s5 := keepC hdr z4
        have HBD := Lib.hid (from_ hB hdr)
        clear hr3 hr4 hdr hB x0 x1 y0 y1 z3 z4 hb3 hb4 HMIX
        go_wp2
        first | go_region_held3 (fun w' => ((w'.cell? ⟨w.heap.size, 0, none⟩ = some (.bool sm) ∧ w'.cell? ⟨w.heap.size, 1, none⟩ = some (.slice Bm lm.length cm)) ∧ (w'.cell? ⟨w.heap.size + 1, 0, none⟩ = some (.bool sn) ∧ w'.cell? ⟨w.heap.size + 1, 1, none⟩ = some (.slice Bn ln.length cn))) ∧ (w'.cell? ⟨b3, o3 + i, none⟩ = some (.slice B3 q d3) ∧ w'.cell? ⟨b3, o3 + k, none⟩ = some (.slice B4 q d4)))
          (first
            | (go_keep; done)
            | with_reducible exact ⟨⟨⟨s0, s1⟩, s2, s3⟩, s4, s5⟩
            | with_reducible exact ⟨⟨⟨t10, t11⟩, t12, t13⟩, t14, t15⟩)
          ((go_at_call 14; with_reducible refine HMX.out.mono ?_; rintro e w3 ⟨AX, cX, rfl, hx, hc⟩; have t10 := keepC hc s0; have t11 := keepC hc s1; have t12 := keepC hc s2; have t13 := keepC hc s3; have t14 := keepC hc s4; have t15 := keepC hc s5)) | fail
        have hB := from_ HBD.out hc
        have HMA := Lib.hid ((hm2.below (Below.refl _ w2).drew).below hc)
        have HT12 := Lib.hid t12
        have HT13 := Lib.hid t13
        clear s0 s1 s2 s3 s4 s5 t10 t11 t12 t13 t14 t15 hm2 HMX HBD
        have hnil := OwnM.nil (w3.alloc (.cells #[.slice AX q cX] 32)) w3.heap.size q
        have hone := matN_one 32 hx
        have HNIL := Lib.hid hnil
        have HONE := Lib.hid hone
        have HW2 := Lib.hid hc.size
        have hsz3 : w.heap.size ≤ w3.heap.size := hB.size
        clear hc hnil hone hx
        go_upto_region 14 with (at_builtin; go_loud (refine wpList_appM _ rfl _ _ rfl rfl rfl HNIL.out HONE.out rfl ⟨fun b _ e => (by cases e), fun h => h.elim⟩ (by simp) (by simp) ?_); intro v1 w4 xs1 hown hgrow hfresh)
        have hb4 : Below w3.heap.size w3 w4 := ((Below.refl w3.heap.size w3).alloc (Nat.le_refl _) _).grown hgrow (by simp) (fun k h => by cases h)
        clear hgrow hfresh HNIL HONE
        go_wp2
        go_loopw [18, 19] (fun s18 s19 wr => ∃ (r : Nat) (v : Value) (xs : List Value), r ≤ P ∧ s18 = v ∧ s19 = .int .i64 ((r : Int) - 1) ∧ OwnM wr w3.heap.size v q (X :: (S.drop r).reverse) xs ∧ Below w3.heap.size w3 wr) (fun _ s19 _ => (intOf s19 + 1).toNat)
        case atStart =>
          refine ⟨P, _, xs1, Nat.le_refl _, rfl, by first | rfl | simp, ?_, hb4⟩
          rw [List.drop_eq_nil_of_le (by rw [HSL.out, HPL.out]; exact Nat.le_refl _)]
          exact hown
        case round =>
          clear hown hb4
          obtain ⟨r, v, xs, hr, hv, rfl, hown, hbel⟩ := hrel
          obtain rfl := hv.symm
          rcases Nat.eq_zero_or_pos r with hr0 | hr0
          · subst hr0
            obtain ⟨A6, c6, rfl, hm6⟩ := hown.matN (N := P + 1) (by rw [List.length_cons, List.length_reverse, List.drop_zero, HSL.out, HPL.out])
            rw [List.drop_zero] at hm6
            have hB6 := from_ hB hbel
            have hm3 := HMA.out.below hbel
            clear hown hr hB hbel
            go_wp2_with fail
            refine (HE2.out _ _ _ hm6).mono ?_
            rintro e w5 ⟨A7, c7, rfl, hm7, hb⟩
            replace hB6 := from_ hB6 hb
            replace hm3 := hm3.below hb
            clear hb hm6 HE2
            go_wp2_with fail
            refine (HE3.out _ _ _ hm3).mono ?_
            rintro e w6 ⟨A8, c8, rfl, hm8, hb⟩
            replace hB6 := from_ hB6 hb
            replace hm3 := hm3.below hb
            replace hm7 := hm7.below hb
            clear hb HE3
            go_wp2_with fail
            refine (HS18.out _ _ _ _ _ hm3 hm7).mono ?_
            rintro e w7 ⟨rfl, hb⟩
            replace hB6 := from_ hB6 hb
            replace hm3 := hm3.below hb
            replace hm8 := hm8.below hb
            clear hb hm7
            go_wp2_with fail
            refine (HS18.out _ _ _ _ _ hm3 hm8).mono ?_
            rintro e w8 ⟨rfl, hb⟩
            replace hB6 := from_ hB6 hb
            replace hm3 := hm3.below hb
            clear hb hm8 HS18
            have HB6 := Lib.hid hB6
            have HM3 := Lib.hid hm3
            clear hB6 hm3
            go_wp2
            go_loopw [25] (fun s25 wr => ∃ j : Nat, j ≤ P ∧ s25 = .int .i64 (j : Int) ∧ Below w8.heap.size w8 wr) (fun s25 _ => P - (intOf s25).toNat)
            case atStart => exact ⟨0, Nat.zero_le _, rfl, Below.refl _ _⟩
            case round =>
              obtain ⟨j, hj, rfl, hbz⟩ := hrel
              have hBz := from_ HB6.out hbz
              by_cases hlj : j < P
              · have hjL : j < L.length := by rw [HPL.out]; exact hlj
                obtain ⟨b, o, B5, d5, hA5, hb5, z5, hr5⟩ := (HM.out _ hBz).at hjL
                injection hA5 with hA5
                injection hA5 with ea eb _
                subst ea eb
                have CI := Lib.hid (HIN.out _ j hjL _ _ _ _ _ hr5 (HM3.out.below hbz))
                have HBZ := Lib.hid hbz
                clear hr5 hb5 hBz hbz
                go_wp2_with fail
                refine CI.out.mono ?_
                rintro e w9 ⟨rfl, hb⟩
                have hb9 := from_ HBZ.out hb
                clear hb
                go_wp2
                go_roundw
                case rel => exact ⟨j + 1, by omega, by go_num, hb9⟩
                case measure => simp [intOf]; omega
              · obtain rfl : j = P := by omega
                obtain ⟨b, o, B5, d5, hA5, hb5, z5, _⟩ := (HM.out _ hBz).at (j := 0) (by rw [HPL.out]; exact hP)
                injection hA5 with hA5
                injection hA5 with ea eb _
                subst ea eb
                rw [Nat.add_zero] at z5
                have HBZ := Lib.hid hBz
                clear hb5 hBz hbz hlj
                go_wp2
                go_ret
                exact ⟨by first | rfl | trivial, HBZ.out⟩
          · obtain ⟨j, rfl⟩ : ∃ j, r = j + 1 := ⟨r - 1, by omega⟩
            have ej : (((j + 1 : Nat) : Int) - 1) = (j : Int) := by omega
            rw [ej]
            have hjP : j < P := by omega
            have hjL : j < L.length := by rw [HPL.out]; exact hjP
            have hwj : IntKind.i64.wrap ((j : Int) - 1) = (j : Int) - 1 := by rw [IntKind.wrap_i64]; omega
            have tj : decide ((0 : Int) ≤ (j : Int)) = true := decide_eq_true (by omega)
            have hBr := from_ hB hbel
            obtain ⟨b, o, B5, d5, hA5, hb5, z5, hr5⟩ := (HM.out _ hBr).at hjL
            injection hA5 with hA5
            injection hA5 with ea eb _
            subst ea eb
            have hjS : j < S.length := by rw [HSL.out]; exact hjL
            have hpart := other_part hjS
            have HPART := Lib.hid hpart
            have holt := hown.own.lt
            have HOWN := Lib.hid hown
            have HBEL := Lib.hid hbel
            have HBR := Lib.hid hBr
            have t12 := keepC hbel HT12.out
            have t13 := keepC hbel HT13.out
            have hcase : (j = i ∧ zn ≠ 0) ∨ (j = i → zn = 0) := by
              by_cases h1 : j = i
              · by_cases h2 : zn = 0
                · exact .inr fun _ => h2
                · exact .inl ⟨h1, h2⟩
              · exact .inr fun h => absurd h h1
            clear hpart hown hbel hBr ej hr hr0
            rcases hcase with ⟨rfl, hz⟩ | hz
            · have hl0 : ln.length ≠ 0 := fun e => hz (HZN.out.2 e)
              have tg : decide ((0 : Int) < (ln.length : Int)) = true := decide_eq_true (by omega)
              have tg2 : decide (0 < ln.length) = true := decide_eq_true (by omega)
              have tjj : ((j : Int) == (j : Int)) = true := beq_self_eq_true _
              have CS := Lib.hid (HSC.out _ _ _ _ HBR.out hz hr5)
              clear hr5 hl0 hz
              go_wp2_with fail
              refine CS.out.mono ?_
              rintro e w5 ⟨A9, c9, rfl, hr9, hb⟩
              have hb9 := from_ HBEL.out hb
              have ho9 := HOWN.out.below hb
              have HO9 := Lib.hid (ho9.below ((Below.refl _ w5).alloc (Nat.le_refl _) (.cells #[.slice A9 q c9] 32)))
              have HL9 := Lib.hid (matN_one 32 hr9)
              have hz9 : (new wr.heap.size).le (offV v) := ⟨fun b hb' e => by have h9 := holt b e; have h8 : wr.heap.size ≤ b := hb'; omega, fun h => h.elim⟩
              have HZ9 := Lib.hid hz9
              have HB9 := Lib.hid hb9
              have hs9 : w3.heap.size ≤ w5.heap.size := hb9.size
              have hl9 := ho9.own.lt
              have HLT := Lib.hid hl9
              clear ho9 hr9 hb hb9 hz9 hl9 holt t12 t13 z5
              go_wp2_with (at_builtin; go_loud (refine wpList_appM _ rfl _ _ rfl rfl rfl HO9.out HL9.out rfl HZ9.out (by simp only [List.length_cons, List.length_nil, List.length_reverse, List.length_drop]; omega) (by simp; omega) ?_); intro v2 w6 xs2 hown2 hgrow hfresh)
              have hb6 : Below w3.heap.size w3 w6 := (HB9.out.trans (((Below.refl w5.heap.size w5).alloc (Nat.le_refl _) _).mono hs9)).grown hgrow (by simp; omega) (fun k h => (HLT.out k h).1)
              have hf6 : OwnM w6 w3.heap.size v2 q (X :: (S.drop j).reverse) xs2 := by
                rw [HPART.out]
                exact hown2
              have HF6 := Lib.hid hf6
              have HB6 := Lib.hid hb6
              clear hown2 hgrow hfresh hf6 hb6 HO9 HL9 HZ9
              go_wp2
              go_roundw
              case rel => exact ⟨j, _, _, by omega, rfl, by first | rfl | go_num, HF6.out, HB6.out⟩
              case measure => first | (simp [intOf]; done) | (simp [intOf]; omega)
            · have htest : ((j : Int) == (i : Int)) = false ∨ (((j : Int) == (i : Int)) = true ∧ ln.length = 0) := by
                by_cases h1 : j = i
                · exact .inr ⟨by rw [h1]; exact beq_self_eq_true _, HZN.out.1 (hz h1)⟩
                · exact .inl (beq_eq_false_iff_ne.2 (by omega))
              have hrow : RowAt wr (Zone.upto old w.heap.size) B5 d5 q S[j] := by rw [HOFF.out j hjL hz]; exact hr5
              have HO9 := Lib.hid (HOWN.out.below ((Below.refl _ wr).alloc (Nat.le_refl _) (.cells #[.slice B5 q d5] 32)))
              have HL9 := Lib.hid (matN_one 32 hrow)
              have hz9 : (Zone.upto old w.heap.size).le (offV v) := ⟨fun b hb' e => by have h9 := (holt b e).1; have h8 := hb'.2; omega, fun h => h.elim⟩
              have HZ9 := Lib.hid hz9
              have HLT := Lib.hid holt
              have hs9 : w3.heap.size ≤ wr.heap.size := HBEL.out.size
              clear hr5 hrow hz hz9 holt
              rcases htest with h1 | ⟨h1, h2⟩
              · go_wp2_with (at_builtin; go_loud (refine wpList_appM _ rfl _ _ rfl rfl rfl HO9.out HL9.out rfl HZ9.out (by simp only [List.length_cons, List.length_nil, List.length_reverse, List.length_drop]; omega) (by simp; omega) ?_); intro v2 w6 xs2 hown2 hgrow hfresh)
                have hb6 : Below w3.heap.size w3 w6 := (HBEL.out.trans (((Below.refl wr.heap.size wr).alloc (Nat.le_refl _) _).mono hs9)).grown hgrow (by simp; omega) (fun k h => (HLT.out k h).1)
                have hf6 : OwnM w6 w3.heap.size v2 q (X :: (S.drop j).reverse) xs2 := by
                  rw [HPART.out]
                  exact hown2
                have HF6 := Lib.hid hf6
                have HB6 := Lib.hid hb6
                clear hown2 hgrow hfresh hf6 hb6 HO9 HL9 HZ9 t12 t13 z5
                go_wp2
                go_roundw
                case rel => exact ⟨j, _, _, by omega, rfl, by first | rfl | go_num, HF6.out, HB6.out⟩
                case measure => first | (simp [intOf]; done) | (simp [intOf]; omega)
              · rw [h2] at t13
                clear h2
                go_wp2_with (at_builtin; go_loud (refine wpList_appM _ rfl _ _ rfl rfl rfl HO9.out HL9.out rfl HZ9.out (by simp only [List.length_cons, List.length_nil, List.length_reverse, List.length_drop]; omega) (by simp; omega) ?_); intro v2 w6 xs2 hown2 hgrow hfresh)
                have hb6 : Below w3.heap.size w3 w6 := (HBEL.out.trans (((Below.refl wr.heap.size wr).alloc (Nat.le_refl _) _).mono hs9)).grown hgrow (by simp; omega) (fun k h => (HLT.out k h).1)
                have hf6 : OwnM w6 w3.heap.size v2 q (X :: (S.drop j).reverse) xs2 := by
                  rw [HPART.out]
                  exact hown2
                have HF6 := Lib.hid hf6
                have HB6 := Lib.hid hb6
                clear hown2 hgrow hfresh hf6 hb6 HO9 HL9 HZ9 t12 t13 z5
                go_wp2
                go_roundw
                case rel => exact ⟨j, _, _, by omega, rfl, by first | rfl | go_num, HF6.out, HB6.out⟩
                case measure => first | (simp [intOf]; done) | (simp [intOf]; omega)
      · have HCM : Hid (∀ W, Below w.heap.size w W → Calls Try.prog 15 #[.agg #[.bool sm, .slice Bm lm.length cm]] W fun e w' => e = .returned (.int .i64 (errC sm lm)) ∧ Below W.heap.size W w') := fun W h => wcheck_any ⟨_, rfl, Bm, cm, rfl, um.below h⟩
        have HCN : Hid (∀ W, Below w.heap.size w W → Calls Try.prog 15 #[.agg #[.bool sn, .slice Bn ln.length cn]] W fun e w' => e = .returned (.int .i64 (errC sn ln)) ∧ Below W.heap.size W w') := fun W h => wcheck_any ⟨_, rfl, Bn, cn, rfl, un.below h⟩
        have HMIX : Hid (∀ W Z Y B1 d1 B2 d2, Below w.heap.size w W → RowAt W Z B1 d1 q L[i] → RowAt W Y B2 d2 q L[k] → Calls Try.prog 14 #[.agg #[.bool sm, .slice Bm lm.length cm], .slice B1 q d1, .agg #[.bool sn, .slice Bn ln.length cn], .slice B2 q d2] W fun e w' => e = .returned (.tuple #[.slice none 0 0, .int .i64 8]) ∧ Below W.heap.size W w') := fun W Z Y B1 d1 B2 d2 g g1 g2 => by
          have h1 := vmix_err (E := 8) g1.2 g2.2 (um.below g) (un.below g) (by unfold errM; rw [if_neg hok]) (.inl rfl)
          rwa [encR_length, encR_length, g1.1, g2.1] at h1
        have hcm : errC sm lm = 8 ∨ (errC sm lm = 0 ∧ errC sn ln = 8) := by
          unfold errC
          by_cases h1 : okI sm lm = true
          · right
            rw [if_pos h1, if_neg (fun h => hok ⟨h1, h⟩)]
            exact ⟨rfl, rfl⟩
          · left
            rw [if_neg h1]
        obtain ⟨P, hPd⟩ : ∃ P, L.length = P := ⟨_, rfl⟩
        rw [hPd] at G1 HE1 hlen n7 hP hr1 hr2 hP0 hFL ⊢
        have HIL := Lib.hid hiL
        have HKL := Lib.hid hkL
        have HPL := Lib.hid hPd
        have hiP : i < P := by omega
        have hkP : k < P := by omega
        have tP0 : ((P : Int) == 0) = false := hP0
        have tP1 : (P == 0) = false := beq_eq_false_iff_ne.2 (by omega)
        clear k1 hl hL hsz hmat eL hE hgood hmem0 hg0 hq b1 hM hid hkd hF hi hok um un h2 h4 hPd
        generalize lm.length = Lm at *
        generalize ln.length = Ln at *
        generalize errC sm lm = e1 at *
        generalize errC sn ln = e2 at *
        go_enter Try.func4, Try.ntmps4
        go_wp2_with fail
        refine (HA.out _).mono ?_
        rintro e w1 ⟨rfl, hb⟩
        obtain ⟨x0, x1, _, _, _⟩ := bA.below hb
        obtain ⟨y0, y1, _, _, _⟩ := bB.below hb
        have hB := from_ hB0 hb
        clear hb bA bB hB0 HA
        go_wp2_with fail
        refine (G1.out _ hB).mono ?_
        rintro e _ ⟨rfl, rfl⟩
        clear G1
        go_wp2_with fail
        refine (HE1.out _ hB).mono ?_
        rintro e w2 ⟨A2, c2, rfl, hm2, hb⟩
        replace hB := from_ hB hb
        replace x0 := keepC hb x0
        replace x1 := keepC hb x1
        replace y0 := keepC hb y0
        replace y1 := keepC hb y1
        clear hb HE1
        obtain ⟨b3, o3, B3, d3, hA3, hb3, z3, hr3⟩ := (HM.out _ hB).at HIL.out
        obtain ⟨b4, o4, B4, d4, hA4, hb4, z4, hr4⟩ := (HM.out _ hB).at HKL.out
        subst hA3
        injection hA4 with hA4
        injection hA4 with e1_ e2_ _
        subst e1_ e2_
        have hdr : Below w2.heap.size w2 w2.drew := (Below.refl _ _).drew
        have HMX := Lib.hid (HMIX.out w2.drew _ _ _ _ _ _ (from_ hB hdr) (hr3.below hdr) (hr4.below hdr))
        have s0 := keepC hdr x0
        have s1 := keepC hdr x1
        have s2 := keepC hdr y0
        have s3 := keepC hdr y1
        have s4 := keepC hdr z3
        have s5 := keepC hdr z4
        have HBD := Lib.hid (from_ hB hdr)
        clear hr3 hr4 hdr hB x0 x1 y0 y1 z3 z4 hb3 hb4 HMIX
        go_wp2
        first | go_region_held3 (fun w' => ((w'.cell? ⟨w.heap.size, 0, none⟩ = some (.bool sm) ∧ w'.cell? ⟨w.heap.size, 1, none⟩ = some (.slice Bm Lm cm)) ∧ (w'.cell? ⟨w.heap.size + 1, 0, none⟩ = some (.bool sn) ∧ w'.cell? ⟨w.heap.size + 1, 1, none⟩ = some (.slice Bn Ln cn))) ∧ (w'.cell? ⟨b3, o3 + i, none⟩ = some (.slice B3 q d3) ∧ w'.cell? ⟨b3, o3 + k, none⟩ = some (.slice B4 q d4)))
          (first
            | (go_keep; done)
            | with_reducible exact ⟨⟨⟨s0, s1⟩, s2, s3⟩, s4, s5⟩
            | with_reducible exact ⟨⟨⟨t10, t11⟩, t12, t13⟩, t14, t15⟩)
          ((go_at_call 14; with_reducible refine HMX.out.mono ?_; rintro e w3 ⟨rfl, hc⟩; have t10 := keepC hc s0; have t11 := keepC hc s1; have t12 := keepC hc s2; have t13 := keepC hc s3; have t14 := keepC hc s4; have t15 := keepC hc s5)) | fail
        all_goals
          have hB := from_ HBD.out hc
          clear s0 s1 s2 s3 s4 s5 hc
          go_wp2_with fail
          refine (HCM.out _ hB).mono ?_
          rintro e w4 ⟨rfl, hb⟩
          replace hB := from_ hB hb
          replace t12 := keepC hb t12
          replace t13 := keepC hb t13
          clear hb HCM t10 t11 t14 t15
          rcases hcm with rfl | ⟨rfl, rfl⟩
          · go_wp2
            go_ret
            exact ⟨by first | rfl | trivial, hB⟩
          · go_wp2_with fail
            refine (HCN.out _ hB).mono ?_
            rintro e w5 ⟨rfl, hb⟩
            replace hB := from_ hB hb
            clear hb
            go_wp2
            go_ret
            exact ⟨by first | rfl | trivial, hB⟩
    · have hL0 : L = [] := List.eq_nil_of_length_eq_zero (by omega)
      have hp0 : pss.length = 0 := by omega
      have hM := hmat 1 (fun h => absurd h hP)
      have HE1 : Hid (∀ W, Below w.heap.size w W → Calls Try.prog 9 #[.slice A 0 c] W fun e w' => ∃ A2 c2, e = .returned (.tuple #[.slice A2 0 c2, .int .i64 0]) ∧ Below W.heap.size W w') := fun W h => by
        subst hL0
        refine (echelon_ok (B := 2) (hM.below h) (by omega) (by omega) (by simp) (by simp) (by unfold bigF; decide +kernel)).mono ?_
        rintro e w' ⟨A2, c2, rfl, _, hb⟩
        exact ⟨A2, c2, rfl, hb⟩
      rw [hp0] at G1 ⊢
      clear k1 hl hL hsz hmat eL hE hgood b1 hM um un h2 h4 hL0 hp0 hP n7 hlen
      generalize lm.length = Lm at *
      generalize ln.length = Ln at *
      go_enter Try.func4, Try.ntmps4
      go_wp2_with fail
      refine (HA.out _).mono ?_
      rintro e w1 ⟨rfl, hb⟩
      obtain ⟨x0, x1, _, _, _⟩ := bA.below hb
      obtain ⟨y0, y1, _, _, _⟩ := bB.below hb
      have hB := from_ hB0 hb
      clear hb bA bB hB0 HA
      go_wp2_with fail
      refine (G1.out _ hB).mono ?_
      rintro e _ ⟨rfl, rfl⟩
      clear G1
      go_wp2_with fail
      refine (HE1.out _ hB).mono ?_
      rintro e w2 ⟨A2, c2, rfl, hb⟩
      replace hB := from_ hB hb
      clear hb
      go_wp2
      go_ret
      exact ⟨by first | rfl | trivial, hB⟩
  · obtain ⟨E, hE2⟩ : ∃ E, E = errR pss := ⟨_, rfl⟩
    rw [← hE2] at hE
    have hE3 : E = 4 ∨ E = 8 ∨ E = 70 := by
      rcases errR_vals pss with h | h | h | h
      · exact absurd (hE2.trans h) hE
      all_goals (rw [hE2, h]; simp)
    have HE : Hid (∀ W, Below w.heap.size w W → Calls Try.prog 9 #[.slice A pss.length c] W fun e w' => e = .returned (.tuple #[.slice none 0 0, .int .i64 E]) ∧ Below W.heap.size W w') := fun W h => echelon_err (hl.below h) hE2.symm hE3
    clear hl hE hE2 k1 b1 n7 um un h2 h4
    generalize pss.length = P at *
    generalize lm.length = Lm at *
    generalize ln.length = Ln at *
    rcases hE3 with rfl | rfl | rfl
    all_goals
      go_enter Try.func4, Try.ntmps4
      go_wp2_with fail
      refine (HA.out _).mono ?_
      rintro e w1 ⟨rfl, hb⟩
      obtain ⟨x0, x1, _, _, _⟩ := bA.below hb
      obtain ⟨y0, y1, _, _, _⟩ := bB.below hb
      have hB := from_ hB0 hb
      clear hb bA bB hB0 HA
      go_wp2_with fail
      refine (G1.out _ hB).mono ?_
      rintro e _ ⟨rfl, rfl⟩
      clear G1
      go_wp2_with fail
      refine (HE.out _ hB).mono ?_
      rintro e w2 ⟨rfl, hb⟩
      replace hB := from_ hB hb
      clear hb
      go_wp2
      go_ret
      exact ⟨by first | rfl | trivial, hB⟩

end Go.Proofs.Ytajmijnoikkffaa
