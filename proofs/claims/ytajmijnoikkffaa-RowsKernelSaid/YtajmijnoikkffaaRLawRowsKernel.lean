/-
  facetroomlaw18.RowsKernel, walked. No conditions.
-/
import Derived.Deep.RegionHeld3
import Derived.Test.YtajmijnoikkffaaRRowY
import Derived.Test.YtajmijnoikkffaaRRowN
import Derived.Test.YtajmijnoikkffaaRVecM
namespace Go.Proofs.Ytajmijnoikkffaa
open Go.RowKit
set_option linter.unusedVariables false
set_option linter.unusedSimpArgs false

theorem ker_big : ∀ n, n < 8 → ∀ r, r < 8 → r ≤ n →
    (2 + r * (szF 2 r + 1) + szF 2 r + 1 ≤ 10000000000) ∧
    ((1 + (r + 1) * szF 2 r) + (n - r) * (szF (1 + (r + 1) * szF 2 r) (n - r) + 1) + szF (1 + (r + 1) * szF 2 r) (n - r) + 1 ≤ 10000000000) ∧
    (szF (1 + (r + 1) * szF 2 r) (n - r) + (n - r) * (szF (szF (1 + (r + 1) * szF 2 r) (n - r)) (n - r) + 1) + szF (szF (1 + (r + 1) * szF 2 r) (n - r)) (n - r) + 1 ≤ 10000000000) ∧
    ((1 + ((n - r) + 1) * szF (1 + (r + 1) * szF 2 r) (n - r)) + r * (szF (1 + ((n - r) + 1) * szF (1 + (r + 1) * szF 2 r) (n - r)) r + 1) + szF (1 + ((n - r) + 1) * szF (1 + (r + 1) * szF 2 r) (n - r)) r + 1 ≤ 10000000000) := by decide +kernel

theorem rdot_zero {w : World} {Z Y : Zone} {A B : Option Addr} {c d n K : Nat} {xs ys : List Int} (ha : RowAt w Z A c n xs) (hb : RowAt w Y B d n ys) (hn : n ≤ 64) (h1 : SzV K xs) (h2 : SzV K ys) (hK : K ≤ 20000000000) (h0 : dotZ xs ys = 0) :
    Calls Try.prog 23 #[.slice A n c, .slice B n d] w fun e w' => ∃ Av cv, e = .returned (.tuple #[.agg #[.bool false, .slice Av 0 cv], .int .i64 0]) ∧ U64s w' (new w.heap.size) Av cv [] ∧ Below w.heap.size w w' := by
  have e0 : limbs (0 : Int).natAbs = [] := limbs_eq_nil.2 rfl
  have h3 : Nm (dotZ xs ys) false [] := by rw [h0]; exact ⟨rfl, e0.symm⟩
  have h4 := vdot_n ha.2 hb.2 (encR_nm xs) (encR_nm ys) (by rw [encR_length, encR_length, ha.1, hb.1]) (by rw [encR_length, ha.1]; exact hn) (encR_sz h1) (encR_sz h2) hK h3
  rw [encR_length, encR_length, ha.1, hb.1] at h4
  exact h4

set_option maxRecDepth 100000 in
set_option maxHeartbeats 4000000 in
theorem lawRowsKernel {w : World} {l : Value} {pss : Vecs} {long : Int} (hb : -9223372036854775808 ≤ long ∧ long ≤ 9223372036854775807) (hl : IsMat w old l pss) :
    Calls Try.prog 6 #[.int .i64 long, l] w fun e w' => e = .returned (.bool true) ∧ Below w.heap.size w w' := by
  obtain ⟨A, c, rfl, hl⟩ := hl
  have HA := Lib.hid (alive18 w)
  have k1 : greatM pss 7 7 2 = true ∨ greatM pss 7 7 2 = false := by cases greatM pss 7 7 2 <;> simp
  have G1 : Hid (∀ w1, Below w.heap.size w w1 → Calls Try.prog 8 #[.slice A pss.length c, .int .i64 7, .int .i64 7, .int .i64 2] w1 fun e w' => e = .returned (.bool (greatM pss 7 7 2)) ∧ w1 = w') := fun w1 h => r18great_any (M := 7) (L := 7) (K := 2) (hl.below h) (by omega) (by omega) (by omega)
  have hlen := hl.len
  rcases k1 with k1 | k1
  · rw [k1] at G1
    clear k1 hl
    generalize pss.length = P at *
    go_enter Try.func6, Try.ntmps6
    go_wp2_with fail
    refine HA.out.mono ?_
    rintro e w1 ⟨rfl, hB⟩
    go_wp2_with fail
    refine (G1.out _ hB).mono ?_
    rintro e _ ⟨rfl, rfl⟩
    go_wp2
    go_ret
    exact ⟨by first | rfl | trivial, hB⟩
  rw [k1] at G1
  by_cases h7 : (7 : Int) < long
  · have t7 : decide ((7 : Int) < long) = true := decide_eq_true h7
    clear k1 hl
    generalize pss.length = P at *
    go_enter Try.func6, Try.ntmps6
    go_wp2_with fail
    refine HA.out.mono ?_
    rintro e w1 ⟨rfl, hB⟩
    go_wp2_with fail
    refine (G1.out _ hB).mono ?_
    rintro e _ ⟨rfl, rfl⟩
    go_wp2
    go_ret
    exact ⟨by first | rfl | trivial, hB⟩
  have t7 : decide ((7 : Int) < long) = false := decide_eq_false h7
  obtain ⟨n7, b1⟩ := greatM_no k1
  by_cases hE : errK long pss = 0
  · have hEs : errR pss = 0 ∧ ¬ (long < 1 ∨ 64 < long) ∧ (0 < pss.length → ((pss.headD []).length : Int) = long) := by
      unfold errK at hE
      split at hE
      · rename_i h1
        split at hE
        · cases hE
        · rename_i h2
          split at hE
          · cases hE
          · rename_i h3
            exact ⟨h1, h2, fun hp => Classical.byContradiction fun hn => h3 ⟨hp, hn⟩⟩
      · rename_i h1
        exact absurd hE h1
    obtain ⟨e1, e2, e3⟩ := hEs
    obtain ⟨n, rfl⟩ : ∃ n : Nat, long = (n : Int) := ⟨long.toNat, by omega⟩
    have hn7 : n ≤ 7 := by omega
    have h0 : 0 < n := by omega
    obtain ⟨L, hL, hsz, hmat⟩ := mat_nums hl e1 (K := 2) fun ps hp => (greatV_lims (b1 ps hp)).2
    have hM := hmat n (fun h => by have := e3 h; omega)
    have eL : pss.length = L.length := by rw [hL, List.length_map]
    rw [eL] at G1 hlen n7 ⊢
    obtain ⟨F, hF⟩ : ∃ F, F = formF n L := ⟨_, rfl⟩
    have hi : Inv n F := by rw [hF]; exact formF_inv hM.1
    have hFn := hi.le
    obtain ⟨q1, q2, q3, q4⟩ := ker_big n (by omega) F.length (by omega) hFn
    obtain ⟨G, hG⟩ : ∃ G, G = kerF n F := ⟨_, rfl⟩
    have hGl : G.length = n - F.length := by
      have := ker_length hi
      rw [← hG] at this
      omega
    have hszF : ∀ q ∈ F, SzV (szF 2 F.length) q := fun q hq => by rw [hF] at hq ⊢; exact szv_formF hsz q hq
    have hszG : ∀ q ∈ G, SzV (szF (1 + (F.length + 1) * szF 2 F.length) (n - F.length)) q := fun q hq => by
      rw [← hGl]
      rw [hG] at hq ⊢
      exact szv_formF (szv_acL hszF) q hq
    have HK1 : Hid (∀ W, Below w.heap.size w W → Calls Try.prog 22 #[.int .i64 (n : Int), .slice A L.length c] W fun e w' => ∃ A2 c2, e = .returned (.tuple #[.slice A2 G.length c2, .int .i64 0]) ∧ MatN w' old A2 c2 n G ∧ Below W.heap.size W w') := fun W h => by
      have h1 := kernel_ok (B0 := 2) (M := szF 2 F.length) (hM.below h) h0 (by omega) (by omega) hsz (by rw [← hF]; exact q1) (by rw [← hF]; exact hszF) (by rw [← hF]; exact q2)
      rwa [← hF, ← hG] at h1
    have HR : Hid (∀ W, Below w.heap.size w W → Calls Try.prog 10 #[.slice A L.length c] W fun e w' => e = .returned (.tuple #[.int .i64 (F.length : Int), .int .i64 0]) ∧ Below W.heap.size W w') := fun W h => by
      rw [hF]
      exact rank_ok (B := 2) (hM.below h) h0 (by omega) (by omega) hsz (by rw [← hF]; exact q1)
    have eG : formF n G = G := by rw [hG]; exact formF_form ker_inv
    have eGG : kerF n G = F := by rw [hG]; exact ker_ker hi
    have HK2 : Hid (∀ W A1 c1, MatN W old A1 c1 n G → Calls Try.prog 22 #[.int .i64 (n : Int), .slice A1 G.length c1] W fun e w' => ∃ A2 c2, e = .returned (.tuple #[.slice A2 F.length c2, .int .i64 0]) ∧ MatN w' old A2 c2 n F ∧ Below W.heap.size W w') := fun W A1 c1 h => by
      have h1 := kernel_ok (B0 := szF (1 + (F.length + 1) * szF 2 F.length) (n - F.length)) (M := szF (1 + (F.length + 1) * szF 2 F.length) (n - F.length)) h h0 (by omega) (by omega) hszG (by rw [eG, hGl]; exact q3) (by rw [eG]; exact hszG) (by rw [eG, hGl, show n - (n - F.length) = F.length by omega]; exact q4)
      rwa [eG, eGG] at h1
    have HE : Hid (∀ W, Below w.heap.size w W → Calls Try.prog 9 #[.slice A L.length c] W fun e w' => ∃ A2 c2, e = .returned (.tuple #[.slice A2 F.length c2, .int .i64 0]) ∧ MatN w' old A2 c2 n F ∧ Below W.heap.size W w') := fun W h => by
      rw [hF]
      exact echelon_ok (B := 2) (hM.below h) h0 (by omega) (by omega) hsz (by rw [← hF]; exact q1)
    have HS18 : Hid (∀ W A1 c1 A2 c2, MatN W old A1 c1 n F → MatN W old A2 c2 n F → Calls Try.prog 17 #[.slice A1 F.length c1, .slice A2 F.length c2] W fun e w' => e = .returned (.bool true) ∧ Below W.heap.size W w') := fun W A1 c1 A2 c2 h1 h2 => by
      have h3 := r18same_n h1 h2
      rwa [decide_eq_true rfl] at h3
    have HDOT : Hid (∀ W i j (hi : i < G.length) (hj : j < L.length) Z Y A1 c1 A2 c2, RowAt W Z A1 c1 n G[i] → RowAt W Y A2 c2 n L[j] → Calls Try.prog 23 #[.slice A1 n c1, .slice A2 n c2] W fun e w' => ∃ Av cv, e = .returned (.tuple #[.agg #[.bool false, .slice Av 0 cv], .int .i64 0]) ∧ U64s w' (new W.heap.size) Av cv [] ∧ Below W.heap.size W w') := fun W i j hi' hj Z Y A1 c1 A2 c2 h1 h2 => by
      refine rdot_zero (K := szF (1 + (F.length + 1) * szF 2 F.length) (n - F.length) + 2) h1 h2 (by omega) (szv_mono (hszG _ (List.getElem_mem hi')) (by omega)) (szv_mono (hsz _ (List.getElem_mem hj)) (by omega)) (by omega) ?_
      refine ker_dot hi (.mem (by rw [← hG]; exact List.getElem_mem hi')) ?_
      rw [hF]
      exact (formF_span hM.1).2 _ (List.getElem_mem hj)
    have CSM : Hid (∀ W Z Av cv, U64s W Z Av cv [] → Calls Try.prog 24 #[.agg #[.bool false, .slice Av 0 cv], .agg #[.bool false, .slice none 0 0]] W fun e w' => e = .returned (.bool true) ∧ Below W.heap.size W w') := fun W Z Av cv h => by
      have := same_n (s := false) h (U64s.nil W old)
      exact this
    have HM : Hid (∀ W, Below w.heap.size w W → MatN W old A c n L) := fun W h => hM.below h
    have tK : ((n : Int) != (n : Int)) = false := bne_self_eq_false _
    have hsum : (F.length : Int) + (G.length : Int) = (n : Int) := by omega
    have hwr : IntKind.i64.wrap ((F.length : Int) + (G.length : Int)) = (n : Int) := by rw [IntKind.wrap_i64]; omega
    have hGL : G.length ≤ 7 := by omega
    clear k1 hl hE e1 e2 e3 hL hsz hmat hM eL b1 hF hi q1 q2 q3 q4 hG hGl hszF hszG eG eGG
    go_enter Try.func6, Try.ntmps6
    go_wp2_with fail
    refine HA.out.mono ?_
    rintro e w1 ⟨rfl, hB⟩
    go_wp2_with fail
    refine (G1.out _ hB).mono ?_
    rintro e _ ⟨rfl, rfl⟩
    go_wp2_with fail
    refine (HK1.out _ hB).mono ?_
    rintro e w2 ⟨A2, c2, rfl, hm2, hb⟩
    replace hB := from_ hB hb
    clear hb
    go_wp2_with fail
    refine (HR.out _ hB).mono ?_
    rintro e w3 ⟨rfl, hb⟩
    replace hB := from_ hB hb
    replace hm2 := hm2.below hb
    clear hb
    go_wp2_with fail
    refine (HK2.out _ _ _ hm2).mono ?_
    rintro e w4 ⟨A4, c4, rfl, hm4, hb⟩
    replace hB := from_ hB hb
    replace hm2 := hm2.below hb
    clear hb
    go_wp2_with fail
    refine (HE.out _ hB).mono ?_
    rintro e w5 ⟨A5, c5, rfl, hm5, hb⟩
    replace hB := from_ hB hb
    replace hm2 := hm2.below hb
    replace hm4 := hm4.below hb
    clear hb
    go_wp2_with fail
    refine (HS18.out _ _ _ _ _ hm4 hm5).mono ?_
    rintro e w6 ⟨rfl, hb⟩
    replace hB := from_ hB hb
    replace hm2 := hm2.below hb
    clear hb hm4 hm5 HA G1 HK1 HR HK2 HE HS18 hsum hwr
    have HB6 := Lib.hid hB
    have HM2 := Lib.hid hm2
    clear hB hm2
    go_wp2
    go_loopw [14] (fun s14 wr => ∃ i : Nat, i ≤ G.length ∧ s14 = .int .i64 (i : Int) ∧ Below w6.heap.size w6 wr) (fun s14 _ => G.length - (intOf s14).toNat)
    case atStart => exact ⟨0, Nat.zero_le _, rfl, Below.refl _ _⟩
    case round =>
      obtain ⟨i, hi, rfl, hbel⟩ := hrel
      by_cases hlt : i < G.length
      · rename World => wv
        go_wp2
        go_loopw [15] (fun s15 wr => ∃ j : Nat, j ≤ L.length ∧ s15 = .int .i64 (j : Int) ∧ Below w6.heap.size w6 wr) (fun s15 _ => L.length - (intOf s15).toNat)
        case atStart => exact ⟨0, Nat.zero_le _, rfl, hbel⟩
        case round =>
          clear hbel
          obtain ⟨j, hj, rfl, hbz⟩ := hrel
          by_cases hlj : j < L.length
          · obtain ⟨b4, o4, B4, d4, rfl, hb4, c4', hr4⟩ := (HM2.out.below hbz).at hlt
            obtain ⟨b5, o5, B5, d5, rfl, hb5, c5', hr5⟩ := (HM.out _ (from_ HB6.out hbz)).at hlj
            have Hd2 : Hid (∀ W, Below wr.heap.size wr W → Calls Try.prog 23 #[.slice B4 n d4, .slice B5 n d5] W fun e w' => ∃ Av cv, e = .returned (.tuple #[.agg #[.bool false, .slice Av 0 cv], .int .i64 0]) ∧ U64s w' (new W.heap.size) Av cv [] ∧ Below W.heap.size W w') := fun W g => HDOT.out W i j hlt hlj _ _ _ _ _ _ (hr4.below g) (hr5.below g)
            have HBZ := Lib.hid hbz
            have s0 := (show wr.drew.cell? ⟨b4, o4 + i, none⟩ = _ from c4')
            have s1 := (show wr.drew.cell? ⟨b5, o5 + j, none⟩ = _ from c5')
            have hdr : Below wr.heap.size wr (wr.alloc (.cells #[.bool false, .slice none 0 0] 39)).drew := ((Below.refl _ _).alloc (Nat.le_refl _) _).drew
            have sa0 := keepC hdr c4'
            have sa1 := keepC hdr c5'
            have hdr0 : Below wr.heap.size wr wr.drew := (Below.refl _ _).drew
            have bN := (Box.new wr (.bool false) (.slice none 0 0) 39).below (W' := (wr.alloc (.cells #[.bool false, .slice none 0 0] 39)).drew) ((Below.refl _ _).drew)
            have l4 := lt_of_cell c4'
            have l5 := lt_of_cell c5'
            simp only at l4 l5
            have n4 : ¬ (wr.heap.size = b4) := by omega
            have n5 : ¬ (wr.heap.size = b5) := by omega
            have n4' : ¬ (b4 = wr.heap.size) := by omega
            have n5' : ¬ (b5 = wr.heap.size) := by omega
            clear hr4 hr5 c4' c5' hbz hb4 hb5
            go_wp2
            first | go_region_held3 (fun w' => w'.cell? ⟨b4, o4 + i, none⟩ = some (.slice B4 n d4) ∧ w'.cell? ⟨b5, o5 + j, none⟩ = some (.slice B5 n d5))
              (first
                | (go_keep; done)
                | with_reducible exact ⟨s0, s1⟩
                | with_reducible exact ⟨sa0, sa1⟩
                | with_reducible exact ⟨t5, t6⟩
                | with_reducible exact ⟨cell_two t5 n4', cell_two t6 n5'⟩)
              (first
                | (go_at_call 23; with_reducible refine (Hd2.out _ hdr0).mono ?_; rintro e w7 ⟨Av, cv, rfl, hu, hc⟩; have t5 := keepC hc s0; have t6 := keepC hc s1; obtain ⟨q0, q1, f0, f1, _⟩ := Box.new w7 (.bool false) (.slice none 0 0) 39)
                | (go_at_call 23; with_reducible refine (Hd2.out _ hdr).mono ?_; rintro e w7 ⟨Av, cv, rfl, hu, hc⟩; have t5 := keepC hc sa0; have t6 := keepC hc sa1; obtain ⟨q0, q1, f0, f1, _⟩ := bN.below hc)) | fail
            · have hX := Lib.hid ((from_ hdr0 hc).alloc (from_ hdr0 hc).size (.cells #[.bool false, .slice Av 0 cv] 39))
              have uX := Lib.hid (hu.below ((Below.refl _ w7).alloc (Nat.le_refl _) (.cells #[.bool false, .slice Av 0 cv] 39)))
              clear s0 s1 sa0 sa1 t5 t6 q0 q1 f0 f1 hu hc bN hdr hdr0
              go_wp2_with fail
              refine (CSM.out _ _ _ _ uX.out).mono ?_
              rintro e w8 ⟨rfl, hb⟩
              have hb9 := HBZ.out.trans ((from_ hX.out hb).mono HBZ.out.size)
              clear hb
              go_wp2
              go_roundw
              case rel => exact ⟨j + 1, by omega, by go_num, hb9⟩
              case measure => simp [intOf]; omega
            · have hP := (bN.below hc).put (from_ hdr hc) (Nat.le_refl _) (.bool false) (.slice Av 0 cv)
              have hX := Lib.hid hP.bel
              have hs2 : wr.heap.size + 1 ≤ (wr.alloc (.cells #[.bool false, .slice none 0 0] 39)).drew.heap.size := by simp
              have uX := Lib.hid (hu.keep (w' := (w7.setCell ⟨wr.heap.size, 0, none⟩ (.bool false)).setCell ⟨wr.heap.size, 1, none⟩ (.slice Av 0 cv)) fun b hb _ => by
                have hb' := Nat.le_trans hs2 hb
                rw [Below.heap_setCell _ _ _ _ (show b ≠ wr.heap.size by omega), Below.heap_setCell _ _ _ _ (show b ≠ wr.heap.size by omega)])
              have c0 := hP.c0
              have c1 := hP.c1
              clear s0 s1 sa0 sa1 t5 t6 q0 q1 f0 f1 hu hc bN hdr hdr0 hP hs2
              go_wp2_with fail
              refine (CSM.out _ _ _ _ uX.out).mono ?_
              rintro e w8 ⟨rfl, hb⟩
              have hb9 := HBZ.out.trans ((from_ hX.out hb).mono HBZ.out.size)
              clear hb
              go_wp2
              go_roundw
              case rel => exact ⟨j + 1, by omega, by go_num, hb9⟩
              case measure => simp [intOf]; omega
          · obtain rfl : j = L.length := by omega
            clear hlj
            go_wp2
            go_roundw
            case rel => exact ⟨i + 1, by omega, by go_num, hbz⟩
            case measure => simp [intOf]; omega
      · go_wp2
        go_ret
        exact ⟨by first | rfl | trivial, from_ HB6.out hbel⟩
  · obtain ⟨E, hE2⟩ : ∃ E, E = errK long pss := ⟨_, rfl⟩
    rw [← hE2] at hE
    have tE : (E != 0) = true := bne_iff_ne.2 hE
    have HK : Hid (∀ W, Below w.heap.size w W → Calls Try.prog 22 #[.int .i64 long, .slice A pss.length c] W fun e w' => e = .returned (.tuple #[.slice none 0 0, .int .i64 E]) ∧ Below W.heap.size W w') := fun W h => kernel_err (hl.below h) hE2.symm hE
    clear hl hE hE2 k1 b1 n7 h7
    generalize pss.length = P at *
    go_enter Try.func6, Try.ntmps6
    go_wp2_with fail
    refine HA.out.mono ?_
    rintro e w1 ⟨rfl, hB⟩
    go_wp2_with fail
    refine (G1.out _ hB).mono ?_
    rintro e _ ⟨rfl, rfl⟩
    go_wp2_with fail
    refine (HK.out _ hB).mono ?_
    rintro e w2 ⟨rfl, hb⟩
    replace hB := from_ hB hb
    clear hb
    go_wp2
    go_ret
    exact ⟨by first | rfl | trivial, hB⟩

end Go.Proofs.Ytajmijnoikkffaa
