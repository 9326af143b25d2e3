/-
  facetroomlaw18.RowsRest, walked. No conditions.
-/
import Derived.Test.YtajmijnoikkffaaRRowY
import Derived.Test.YtajmijnoikkffaaRRowZ
import Derived.Test.YtajmijnoikkffaaRVecM
namespace Go.Proofs.Ytajmijnoikkffaa
open Go.RowKit
set_option linter.unusedVariables false
set_option linter.unusedSimpArgs false

theorem errRw_zero {ps : List (Bool × List Nat)} {pss : Vecs} (h : errRw ps pss = 0) : errR pss = 0 ∧ errR [ps] = 0 ∧ (0 < pss.length → (pss.headD []).length = ps.length) := by
  unfold errRw at h
  split at h
  · rename_i h1
    split at h
    · rename_i h2
      split at h
      · cases h
      · rename_i h3
        exact ⟨h1, h2, fun hp => Classical.byContradiction fun hn => h3 ⟨hp, hn⟩⟩
    · rename_i h2
      exact absurd h h2
  · rename_i h1
    exact absurd h h1
theorem errRw_vals (ps : List (Bool × List Nat)) (pss : Vecs) : errRw ps pss = 0 ∨ errRw ps pss = 4 ∨ errRw ps pss = 8 ∨ errRw ps pss = 70 := by
  unfold errRw
  split
  · split
    · split
      · simp
      · simp
    · rcases errR_one ps with h | h <;> simp [h]
  · exact errR_vals pss
/-- How long the numbers of a row's rest are. -/
theorem rest_size {n : Nat} {F : List (List Int)} {x : List Int} (hi : Inv n F) (hx : x.length = n) (hn : n ≤ 7) (hF : ∀ r ∈ F, SzV (szF 2 F.length) r) (hs : SzV 2 x) : SzV (2 + 6 * (szF 2 6 + 1)) (restF n F x) := by
  by_cases h : pk n (restF n F x) = 0
  · have e : restF n F x = List.replicate n 0 := all_zero (restF_length hi.len hx) fun k h1 h2 => pk_zero h h1 h2
    rw [e]
    exact szv_mono (szv_nought n) (by omega)
  · have hlt : F.length ≤ 6 := by
      refine Classical.byContradiction fun hge => ?_
      have hle := hi.le
      have hk := pk_le (n := n) (x := restF n F x)
      obtain ⟨r, hr, e⟩ := hi.full (by omega) (k := pk n (restF n F x)) (by omega) hk
      have h1 := restF_pivots hi hx r hr
      rw [e] at h1
      exact pk_at h h1
    refine szv_mono (szv_restF hs fun r hr => szv_mono (hF r hr) (szF_mono hlt)) ?_
    have := Nat.mul_le_mul_right (szF 2 6 + 1) hlt
    omega
theorem big7 {K m : Nat} (h : m ≤ 7) (hK : K ≤ 2 + 6 * (szF 2 6 + 1)) : bigF K m := bigF_down (C := 2 + 6 * (szF 2 6 + 1)) (m := 7) (by unfold bigF; decide +kernel) hK h

set_option maxRecDepth 100000 in
set_option maxHeartbeats 4000000 in
theorem lawRowsRest {w : World} {l a : Value} {pss : Vecs} {ps : List (Bool × List Nat)} (hl : IsMat w old l pss) (ha : IsVec w old a ps) :
    Calls Try.prog 5 #[l, a] w fun e w' => e = .returned (.bool true) ∧ Below w.heap.size w w' := by
  obtain ⟨A, c, rfl, hl⟩ := hl
  obtain ⟨D, d, rfl, ha⟩ := ha
  have HA := Lib.hid (alive18 w)
  have k1 : greatM pss 7 7 2 = true ∨ greatM pss 7 7 2 = false := by cases greatM pss 7 7 2 <;> simp
  have k2 : greatV ps 7 2 = true ∨ greatV ps 7 2 = false := by cases greatV ps 7 2 <;> simp
  have G1 : Hid (∀ w1, Below w.heap.size w w1 → Calls Try.prog 8 #[.slice A pss.length c, .int .i64 7, .int .i64 7, .int .i64 2] w1 fun e w' => e = .returned (.bool (greatM pss 7 7 2)) ∧ w1 = w') := fun w1 h => r18great_any (M := 7) (L := 7) (K := 2) (hl.below h) (by omega) (by omega) (by omega)
  have G2 : Hid (∀ w1, Below w.heap.size w w1 → Calls Try.prog 19 #[.slice D ps.length d, .int .i64 7, .int .i64 2] w1 fun e w' => e = .returned (.bool (greatV ps 7 2)) ∧ w1 = w') := fun w1 h => great_any (M := 7) (K := 2) (ha.below h) (by omega) (by omega)
  have hlen := hl.len
  have hlen2 := ha.len
  rcases k1 with k1 | k1
  · rw [k1] at G1
    clear k1 k2 hl ha G2
    generalize pss.length = P at *
    generalize ps.length = Q at *
    go_enter Try.func5, Try.ntmps5
    go_wp2_with fail
    refine HA.out.mono ?_
    rintro e w1 ⟨rfl, hB⟩
    go_wp2_with fail
    refine (G1.out _ hB).mono ?_
    rintro e _ ⟨rfl, rfl⟩
    go_wp2
    go_ret
    exact ⟨by first | rfl | trivial, hB⟩
  rw [k1] at G1
  rcases k2 with k2 | k2
  · rw [k2] at G2
    clear k1 k2 hl ha
    generalize pss.length = P at *
    generalize ps.length = Q at *
    go_enter Try.func5, Try.ntmps5
    go_wp2_with fail
    refine HA.out.mono ?_
    rintro e w1 ⟨rfl, hB⟩
    go_wp2_with fail
    refine (G1.out _ hB).mono ?_
    rintro e _ ⟨rfl, rfl⟩
    go_wp2_with fail
    refine (G2.out _ hB).mono ?_
    rintro e _ ⟨rfl, rfl⟩
    go_wp2
    go_ret
    exact ⟨by first | rfl | trivial, hB⟩
  rw [k2] at G2
  obtain ⟨n7, b1⟩ := greatM_no k1
  by_cases hE : errRw ps pss = 0
  · obtain ⟨e1, e2, e3⟩ := errRw_zero hE
    obtain ⟨_, hgood⟩ := errR_zero e2
    have hps := hgood ps (by simp)
    obtain ⟨L, hL, hsz, hmat⟩ := mat_nums hl e1 (K := 2) fun ps hp => (greatV_lims (b1 ps hp)).2
    obtain ⟨n, hn⟩ : ∃ n, n = ps.length := ⟨_, rfl⟩
    have hM := hmat n (fun h => by rw [e3 h, hn])
    have hn7 : n ≤ 7 := by rw [hn]; exact (greatV_lims k2).1
    have h0 : 0 < n := by rw [hn]; exact hps.2.1
    obtain ⟨x, hx⟩ : ∃ x, x = numR ps := ⟨_, rfl⟩
    have hxe : encR x = ps := by rw [hx]; exact numR_enc hps.1 ha.small
    have hrow : RowAt w old D d n x := ⟨by rw [hx, numR_length, hn], by rw [hxe]; exact ha⟩
    have hxs : SzV 2 x := enc_szv (by rw [hxe]; exact (greatV_lims k2).2)
    have eL : pss.length = L.length := by rw [hL, List.length_map]
    rw [eL] at G1 hlen n7 ⊢
    rw [← hn] at G2 hlen2 ⊢
    obtain ⟨F, hF⟩ : ∃ F, F = formF n L := ⟨_, rfl⟩
    have hi : Inv n F := by rw [hF]; exact formF_inv hM.1
    have hFn := hi.le
    have hlx := hrow.1
    obtain ⟨r, hr⟩ : ∃ r, r = restF n F x := ⟨_, rfl⟩
    have hrl : r.length = n := by rw [hr]; exact restF_length hi.len hlx
    have hszF : ∀ q ∈ F, SzV (szF 2 F.length) q := fun q hq => by rw [hF] at hq ⊢; exact szv_formF hsz q hq
    have hszF7 : ∀ q ∈ F, SzV (szF 2 7) q := fun q hq => szv_mono (hszF q hq) (szF_mono (by omega))
    have hrs : SzV (2 + 6 * (szF 2 6 + 1)) r := by rw [hr]; exact rest_size hi hlx hn7 hszF hxs
    have hbF : bigF 2 F.length := big7 (by omega) (by omega)
    have hmul : F.length * (szF 2 7 + 1) ≤ 7 * (szF 2 7 + 1) := Nat.mul_le_mul_right _ (by omega)
    have hc1 : 2 + 6 * (szF 2 6 + 1) + 7 * (szF 2 7 + 1) + szF 2 7 + 1 ≤ 10000000000 := by decide +kernel
    have HR1 : Hid (∀ W, Below w.heap.size w W → Calls Try.prog 20 #[.slice D n d, .slice A L.length c] W fun e w' => ∃ A2 c2, e = .returned (.tuple #[.slice A2 n c2, .int .i64 0]) ∧ RowAt w' (new W.heap.size) A2 c2 n r ∧ Below W.heap.size W w') := fun W h => by
      have h1 := reduce_ok (K := 2) (M := szF 2 7) (hM.below h) (hrow.below h) h0 (by omega) (by omega) hsz (by rw [← hF]; exact hbF) hxs (by rw [← hF]; exact hszF7) (by rw [← hF]; omega)
      rwa [← hF, ← hr] at h1
    have HI : Hid (∀ W, Below w.heap.size w W → Calls Try.prog 18 #[.slice D n d, .slice A L.length c] W fun e w' => e = .returned (.tuple #[.bool (decide (pk n r = 0)), .int .i64 0]) ∧ Below W.heap.size W w') := fun W h => by
      have h1 := rin_ok (K := 2) (M := szF 2 7) (hM.below h) (hrow.below h) h0 (by omega) (by omega) hsz (by rw [← hF]; exact hbF) hxs (by rw [← hF]; exact hszF7) (by rw [← hF]; omega)
      rwa [← hF, ← hr] at h1
    have HR2 : Hid (∀ W Z A1 c1, Below w.heap.size w W → RowAt W Z A1 c1 n r → Calls Try.prog 20 #[.slice A1 n c1, .slice A L.length c] W fun e w' => ∃ A2 c2, e = .returned (.tuple #[.slice A2 n c2, .int .i64 0]) ∧ RowAt w' (new W.heap.size) A2 c2 n r ∧ Below W.heap.size W w') := fun W Z A1 c1 h hr1 => by
      have h1 := reduce_ok (K := 2 + 6 * (szF 2 6 + 1)) (M := szF 2 7) (hM.below h) hr1 h0 (by omega) (by omega) hsz (by rw [← hF]; exact hbF) hrs (by rw [← hF]; exact hszF7) (by rw [← hF]; omega)
      have e : restF n F r = r := by rw [hr]; exact rest_rest hi hlx
      rwa [← hF, e] at h1
    obtain ⟨G, hG⟩ : ∃ G, G = formF n (x :: L) := ⟨_, rfl⟩
    have hGr : formF n (r :: L) = G := by rw [hG, hr, hF]; exact (form_rest hM.1 hlx).symm
    have hGl : G.length ≤ 7 := by
      have h1 : (formF n (x :: L)).length ≤ n := (formF_inv (cons_len hlx hM.1)).le
      rw [← hG] at h1
      omega
    have HE1 : Hid (∀ W A1 c1, MatN W old A1 c1 n (x :: L) → Calls Try.prog 9 #[.slice A1 (L.length + 1) c1] W fun e w' => ∃ A2 c2, e = .returned (.tuple #[.slice A2 G.length c2, .int .i64 0]) ∧ MatN w' old A2 c2 n G ∧ Below W.heap.size W w') := fun W A1 c1 h => by
      have h1 := echelon_ok (B := 2) h h0 (by omega) (by rw [List.length_cons]; omega) (fun y hy => by
        rcases List.mem_cons.1 hy with rfl | hy
        · exact hxs
        · exact hsz y hy) (by rw [← hG]; exact big7 hGl (by omega))
      rwa [← hG] at h1
    have HE2 : Hid (∀ W A1 c1, MatN W old A1 c1 n (r :: L) → Calls Try.prog 9 #[.slice A1 (L.length + 1) c1] W fun e w' => ∃ A2 c2, e = .returned (.tuple #[.slice A2 G.length c2, .int .i64 0]) ∧ MatN w' old A2 c2 n G ∧ Below W.heap.size W w') := fun W A1 c1 h => by
      have h1 := echelon_ok (B := 2 + 6 * (szF 2 6 + 1)) h h0 (by omega) (by rw [List.length_cons]; omega) (fun y hy => by
        rcases List.mem_cons.1 hy with rfl | hy
        · exact hrs
        · exact szv_mono (hsz y hy) (by omega)) (by rw [hGr]; exact big7 hGl (Nat.le_refl _))
      rwa [hGr] at h1
    have HS7 : Hid (∀ W Z Y A1 c1 A2 c2, RowAt W Z A1 c1 n r → RowAt W Y A2 c2 n r → Calls Try.prog 13 #[.slice A1 n c1, .slice A2 n c2] W fun e w' => e = .returned (.bool true) ∧ Below W.heap.size W w') := fun W Z Y A1 c1 A2 c2 h1 h2 => by
      have h3 := r07same_n h1 h2
      rwa [decide_eq_true rfl] at h3
    have HS18 : Hid (∀ W A1 c1 A2 c2, MatN W old A1 c1 n G → MatN W old A2 c2 n G → Calls Try.prog 17 #[.slice A1 G.length c1, .slice A2 G.length c2] W fun e w' => e = .returned (.bool true) ∧ Below W.heap.size W w') := fun W A1 c1 A2 c2 h1 h2 => by
      have h3 := r18same_n h1 h2
      rwa [decide_eq_true rfl] at h3
    have HZ : Hid (∀ W Z A1 c1, RowAt W Z A1 c1 n r → Calls Try.prog 21 #[.slice A1 n c1] W fun e w' => e = .returned (.bool (decide (pk n r = 0))) ∧ Below W.heap.size W w') := fun W Z A1 c1 g => by
      have h1 := vzero_any g.2 (by rw [encR_length, hrl]; omega)
      rw [zero_pk hrl, encR_length, hrl] at h1
      exact h1
    have hd : decide (pk n r = 0) = true ∨ decide (pk n r = 0) = false := by cases decide (pk n r = 0) <;> simp
    have HM : Hid (∀ W, Below w.heap.size w W → MatN W old A c n L) := fun W h => hM.below h
    have HX : Hid (∀ W, Below w.heap.size w W → RowAt W old D d n x) := fun W h => hrow.below h
    clear k1 k2 hl ha hE e1 e2 e3 hgood hps hL hsz hmat hn hM hx hxe hrow hxs eL b1 hF hi hlx hr hrl hszF hszF7 hrs hbF hmul hc1 hG hGr
    generalize decide (pk n r = 0) = R at *
    obtain ⟨P, hP⟩ : ∃ P, L.length = P := ⟨_, rfl⟩
    rw [hP] at G1 HR1 HI HR2 HE1 HE2 hlen n7 ⊢
    have HPL := Lib.hid hP
    clear hP
    go_enter Try.func5, Try.ntmps5
    go_wp2_with fail
    refine HA.out.mono ?_
    rintro e w1 ⟨rfl, hB⟩
    go_wp2_with fail
    refine (G1.out _ hB).mono ?_
    rintro e _ ⟨rfl, rfl⟩
    go_wp2_with fail
    refine (G2.out _ hB).mono ?_
    rintro e _ ⟨rfl, rfl⟩
    go_wp2_with fail
    refine (HR1.out _ hB).mono ?_
    rintro e w2 ⟨Ar, cr, rfl, hr, hb⟩
    replace hB := from_ hB hb
    clear hb
    go_wp2_with fail
    refine (HI.out _ hB).mono ?_
    rintro e w3 ⟨rfl, hb⟩
    replace hB := from_ hB hb
    replace hr := hr.below hb
    clear hb
    go_wp2_with fail
    refine (HR2.out _ _ _ _ hB hr).mono ?_
    rintro e w4 ⟨Aa, ca, rfl, ha, hb⟩
    replace hB := from_ hB hb
    replace hr := hr.below hb
    clear hb HA G1 G2 HR1 HI HR2
    go_upto_region 9 with fail
    rename World => w5
    obtain ⟨hO1, ZL1, hL1, hZ1⟩ := own_two (HX.out _ hB) (HM.out _ hB)
    have HO1 := Lib.hid hO1
    have HL1 := Lib.hid hL1
    have HZ1 := Lib.hid hZ1
    have hwn1 := hB.size
    clear hO1 hL1 hZ1
    go_upto_region 10 with (at_builtin; go_loud (refine wpList_appM _ rfl _ _ rfl rfl rfl HO1.out HL1.out HPL.out HZ1.out (by have h9 := HPL.out; simp only [List.length_cons, List.length_nil]; omega) (by simp) ?_); intro v1 wb1 xs1 hown hgrow hfresh; have hbl1 := own_below2 hgrow; obtain ⟨W1, d1, rfl, hm1⟩ := hown.matN (N := P + 1) (by have h9 := HPL.out; simp only [List.length_append, List.length_cons, List.length_nil]; omega); clear hown hgrow hfresh HO1 HL1 HZ1)
    replace hB := from_ hB hbl1
    replace hr := hr.below hbl1
    replace ha := ha.below hbl1
    clear hbl1 hwn1
    obtain ⟨hO2, ZL2, hL2, hZ2⟩ := own_two (hr) (HM.out _ hB)
    have HO2 := Lib.hid hO2
    have HL2 := Lib.hid hL2
    have HZ2 := Lib.hid hZ2
    have hwn2 := hB.size
    clear hO2 hL2 hZ2
    go_upto_region 11 with (at_builtin; go_loud (refine wpList_appM _ rfl _ _ rfl rfl rfl HO2.out HL2.out HPL.out HZ2.out (by have h9 := HPL.out; simp only [List.length_cons, List.length_nil]; omega) (by simp) ?_); intro v2 wb2 xs2 hown hgrow hfresh; have hbl2 := own_below2 hgrow; obtain ⟨W2, d2, rfl, hm2⟩ := hown.matN (N := P + 1) (by have h9 := HPL.out; simp only [List.length_append, List.length_cons, List.length_nil]; omega); clear hown hgrow hfresh HO2 HL2 HZ2)
    replace hB := from_ hB hbl2
    replace hr := hr.below hbl2
    replace ha := ha.below hbl2
    replace hm1 := hm1.below hbl2
    clear hbl2 hwn2 HX HM
    go_wp2_with fail
    refine (HE1.out _ _ _ hm1).mono ?_
    rintro e w6 ⟨A6, c6, rfl, hx6, hb⟩
    replace hB := from_ hB hb
    replace hr := hr.below hb
    replace ha := ha.below hb
    replace hm2 := hm2.below hb
    clear hb hm1
    go_wp2_with fail
    refine (HE2.out _ _ _ hm2).mono ?_
    rintro e w7 ⟨A7, c7, rfl, hx7, hb⟩
    replace hB := from_ hB hb
    replace hr := hr.below hb
    replace ha := ha.below hb
    replace hx6 := hx6.below hb
    clear hb hm2 HE1 HE2
    go_wp2_with fail
    refine (HS7.out _ _ _ _ _ _ _ hr ha).mono ?_
    rintro e w8 ⟨rfl, hb⟩
    replace hB := from_ hB hb
    replace hr := hr.below hb
    replace hx6 := hx6.below hb
    replace hx7 := hx7.below hb
    clear hb ha HS7
    go_wp2_with fail
    refine (HS18.out _ _ _ _ _ hx6 hx7).mono ?_
    rintro e w9 ⟨rfl, hb⟩
    replace hB := from_ hB hb
    replace hr := hr.below hb
    clear hb hx6 hx7 HS18
    have tR : (R == R) = true := beq_self_eq_true R
    go_wp2_with fail
    refine (HZ.out _ _ _ _ hr).mono ?_
    rintro e w10 ⟨rfl, hb⟩
    replace hB := from_ hB hb
    clear hb hr HZ
    rcases hd with rfl | rfl
    all_goals
      go_wp2
      go_ret
      exact ⟨by first | rfl | trivial, hB⟩
  · obtain ⟨E, hE2⟩ : ∃ E, E = errRw ps pss := ⟨_, rfl⟩
    rw [← hE2] at hE
    have hE3 : E = 4 ∨ E = 8 ∨ E = 70 := by
      rcases errRw_vals ps pss with h | h | h | h
      · exact absurd (hE2.trans h) hE
      all_goals (rw [hE2, h]; simp)
    have HE : Hid (∀ W, Below w.heap.size w W → Calls Try.prog 20 #[.slice D ps.length d, .slice A pss.length c] W fun e w' => e = .returned (.tuple #[.slice none 0 0, .int .i64 E]) ∧ Below W.heap.size W w') := fun W h => reduce_err (ha.below h) (hl.below h) hE2.symm hE
    have HR : Hid (∀ W, Below w.heap.size w W → Calls Try.prog 18 #[.slice D ps.length d, .slice A pss.length c] W fun e w' => e = .returned (.tuple #[.bool false, .int .i64 E]) ∧ Below W.heap.size W w') := fun W h => rin_err (ha.below h) (hl.below h) hE2.symm hE
    clear hl ha hE hE2 k1 k2 b1 n7
    generalize pss.length = P at *
    generalize ps.length = Q at *
    rcases hE3 with rfl | rfl | rfl
    all_goals
      go_enter Try.func5, Try.ntmps5
      go_wp2_with fail
      refine HA.out.mono ?_
      rintro e w1 ⟨rfl, hB⟩
      go_wp2_with fail
      refine (G1.out _ hB).mono ?_
      rintro e _ ⟨rfl, rfl⟩
      go_wp2_with fail
      refine (G2.out _ hB).mono ?_
      rintro e _ ⟨rfl, rfl⟩
      go_wp2_with fail
      refine (HE.out _ hB).mono ?_
      rintro e w2 ⟨rfl, hb⟩
      replace hB := from_ hB hb
      clear hb
      go_wp2_with fail
      refine (HR.out _ hB).mono ?_
      rintro e w3 ⟨rfl, hb⟩
      replace hB := from_ hB hb
      clear hb
      go_wp2
      go_ret
      exact ⟨by first | rfl | trivial, hB⟩

end Go.Proofs.Ytajmijnoikkffaa
