/-
  facetroomlaw18.RowsForm, walked. No conditions.
-/
import Derived.BigQuiet
import Derived.Test.YtajmijnoikkffaaRRowY
import Derived.Test.YtajmijnoikkffaaRVecM
namespace Go.Proofs.Ytajmijnoikkffaa
open Go.RowKit
set_option linter.unusedVariables false
set_option linter.unusedSimpArgs false

set_option maxRecDepth 100000 in
set_option maxHeartbeats 1000000 in
theorem lpivot_any {w : World} {Z : Zone} {A : Option Addr} {c n : Nat} {x : List Int} (h : RowAt w Z A c n x) (hn : n ≤ 64) :
    Calls Try.prog 11 #[.slice A n c] w fun e w' => e = .returned (.int .i64 (pvI n x)) ∧ Below w.heap.size w w' := by
  go_enter Try.func11, Try.ntmps11
  go_wp2
  go_loopw [3] (fun i wr => ∃ q : Nat, 1 ≤ q ∧ q ≤ n + 1 ∧ i = .int .i64 (q : Int) ∧ w = wr ∧ Hid (∀ k, 1 ≤ k → k < q → co n x k = 0)) (fun i _ => n + 1 - (intOf i).toNat)
  case atStart => exact ⟨1, Nat.le_refl _, by omega, rfl, rfl, fun k h1 h2 => absurd h2 (by omega)⟩
  case round =>
    obtain ⟨q, q1, q2, rfl, rfl, hz⟩ := hrel
    by_cases hle : q ≤ n
    · have hin : q % n < n := Nat.mod_lt _ (by omega)
      obtain ⟨b, o, B, d, s, l, rfl, hbb, c0, c1, hu, hnm⟩ := h.at hin
      rw [← co_get] at hnm
      have hz2 := nm_zero hnm
      obtain ⟨p, hp⟩ : ∃ p, p = q % n := ⟨_, rfl⟩
      have hrem : Int.tmod (q : Int) (n : Int) = (p : Int) := by rw [Int.tmod_eq_emod_of_nonneg (by omega), hp]; rfl
      rw [← hp] at c0 c1 hin
      have hn0 : ((n : Int) == 0) = false := beq_eq_false_iff_ne.2 (by omega)
      have hd : decide ((q : Int) ≤ (n : Int)) = true := decide_eq_true (by omega)
      have hd1 : decide (q ≤ n) = true := decide_eq_true hle
      have HP := Lib.hid hp
      have HZ2 := Lib.hid hz2
      clear hu hnm hp hz2 h
      by_cases hl : l.length = 0
      · have hx := HZ2.out.2 hl
        have HX := Lib.hid hx
        rw [hl] at c1
        clear hl hx HZ2
        go_wp2
        go_roundw
        case rel =>
          refine ⟨q + 1, by omega, by omega, by go_num, by first | rfl | trivial, fun k h1 h2 => ?_⟩
          rcases Nat.lt_or_ge k q with h3 | h3
          · exact hz.out k h1 h3
          · have e : k = q := by omega
            rw [e]
            exact HX.out
        case measure => simp [intOf]; omega
      · have hx : co n x q ≠ 0 := fun e => hl (HZ2.out.1 e)
        have hg : decide ((0 : Int) < (l.length : Int)) = true := decide_eq_true (by omega)
        have hg2 : decide (0 < l.length) = true := decide_eq_true (by omega)
        have hpk : pvI n x = (p : Int) := by
          have e : pk n x = q := pk_of q1 hle hx fun j h1 h2 => hz.out j h1 h2
          unfold pvI
          rw [e, if_neg (by omega), HP.out]
        have HPK := Lib.hid hpk
        clear hl hx HZ2 hpk
        generalize l.length = L at *
        go_wp2
        go_ret
        exact ⟨by rw [HPK.out]; rfl, Below.refl _ _⟩
    · obtain rfl : q = n + 1 := by omega
      have hpk : pvI n x = -1 := by
        unfold pvI
        rw [if_pos (pk_none fun k h1 h2 => hz.out k h1 (by omega))]
      have HPK := Lib.hid hpk
      have hd : decide (((n + 1 : Nat) : Int) ≤ (n : Int)) = false := decide_eq_false (by omega)
      have hd1 : decide (n + 1 ≤ n) = false := decide_eq_false (by omega)
      clear hpk hle hz
      go_wp2
      go_ret
      exact ⟨by rw [HPK.out]; rfl, Below.refl _ _⟩

theorem big27 {m : Nat} (h : m ≤ 7) : bigF 2 m := bigF_down (C := 2) (m := 7) (by unfold bigF; decide +kernel) (Nat.le_refl _) h

/-- The last row's place in the order. -/
def lastF (n : Nat) (F : List (List Int)) (k : Nat) : Nat := if k = 0 then 0 else pk n (F.getD (k - 1) [])
theorem lastF_lt {n k : Nat} {F : List (List Int)} (h : Inv n F) (hk : k < F.length) : lastF n F k < pk n F[k] := by
  unfold lastF
  split
  · have := h.piv F[k] (List.getElem_mem hk)
    omega
  · rename_i h0
    have hk1 : k - 1 < F.length := by omega
    rw [List.getD_eq_getElem?_getD, List.getElem?_eq_getElem hk1]
    exact List.pairwise_iff_getElem.1 h.sorted (k - 1) k hk1 hk (by omega)
theorem lastF_succ {n k : Nat} {F : List (List Int)} (hk : k < F.length) : lastF n F (k + 1) = pk n F[k] := by
  unfold lastF
  rw [if_neg (by omega), Nat.add_sub_cancel, List.getD_eq_getElem?_getD, List.getElem?_eq_getElem hk]
  rfl

set_option maxRecDepth 100000 in
set_option maxHeartbeats 4000000 in
theorem lawRowsForm {w : World} {l : Value} {pss : Vecs} (hl : IsMat w old l pss) :
    Calls Try.prog 3 #[l] w fun e w' => e = .returned (.bool true) ∧ Below w.heap.size w w' := by
  obtain ⟨A, c, rfl, hl⟩ := hl
  have HA := Lib.hid (alive18 w)
  have k1 : greatM pss 7 7 2 = true ∨ greatM pss 7 7 2 = false := by cases greatM pss 7 7 2 <;> simp
  have G1 : Hid (∀ w1, Below w.heap.size w w1 → Calls Try.prog 8 #[.slice A pss.length c, .int .i64 7, .int .i64 7, .int .i64 2] w1 fun e w' => e = .returned (.bool (greatM pss 7 7 2)) ∧ w1 = w') := fun w1 h => r18great_any (M := 7) (L := 7) (K := 2) (hl.below h) (by omega) (by omega) (by omega)
  have hlen := hl.len
  rcases k1 with k1 | k1
  · rw [k1] at G1
    clear k1 hl
    generalize pss.length = P at *
    go_enter Try.func3, Try.ntmps3
    go_wp2_with fail
    refine HA.out.mono ?_
    rintro e w1 ⟨rfl, hB⟩
    go_wp2_with fail
    refine (G1.out _ hB).mono ?_
    rintro e _ ⟨rfl, rfl⟩
    go_wp2
    go_ret
    exact ⟨by first | rfl | trivial, hB⟩
  rw [k1] at G1
  obtain ⟨n7, b1⟩ := greatM_no k1
  by_cases hE : errR pss = 0
  · obtain ⟨hm24, hgood⟩ := errR_zero hE
    obtain ⟨L, hL, hsz, hmat⟩ := mat_nums hl hE (K := 2) fun ps hp => (greatV_lims (b1 ps hp)).2
    obtain ⟨n, h0, hn7, hnn⟩ : ∃ n, 0 < n ∧ n ≤ 7 ∧ (0 < pss.length → (pss.headD []).length = n) := by
      by_cases h : 0 < pss.length
      · have hmem := List.getElem_mem h
        have h1 := hgood _ hmem
        refine ⟨_, ?_, ?_, fun _ => rfl⟩
        · rw [← h1.2.2]; exact h1.2.1
        · rw [← h1.2.2]; exact (greatV_lims (b1 _ hmem)).1
      · exact ⟨1, by omega, by omega, fun h' => absurd h' h⟩
    have hM := hmat n hnn
    have eL : pss.length = L.length := by rw [hL, List.length_map]
    rw [eL] at G1 hlen n7 ⊢
    obtain ⟨F, hF⟩ : ∃ F, F = formF n L := ⟨_, rfl⟩
    have hi : Inv n F := by rw [hF]; exact formF_inv hM.1
    have hFn := hi.le
    have HE : Hid (∀ W, Below w.heap.size w W → Calls Try.prog 9 #[.slice A L.length c] W fun e w' => ∃ A2 c2, e = .returned (.tuple #[.slice A2 F.length c2, .int .i64 0]) ∧ MatN w' old A2 c2 n F ∧ Below W.heap.size W w') := fun W h => by
      rw [hF]
      exact echelon_ok (hM.below h) h0 (by omega) (by omega) hsz (by rw [← hF]; exact big27 (by omega))
    have HR : Hid (∀ W, Below w.heap.size w W → Calls Try.prog 10 #[.slice A L.length c] W fun e w' => e = .returned (.tuple #[.int .i64 (F.length : Int), .int .i64 0]) ∧ Below W.heap.size W w') := fun W h => by
      rw [hF]
      exact rank_ok (hM.below h) h0 (by omega) (by omega) hsz (by rw [← hF]; exact big27 (by omega))
    have hszF : ∀ r ∈ F, SzV (szF 2 7) r := fun r hr => by
      rw [hF] at hr hFn
      exact szv_mono (szv_formF hsz r hr) (szF_mono (by omega))
    have hbnd : szF 2 7 ≤ 10000000000 := by decide +kernel
    have CP : Hid (∀ W Z B d k (hk : k < F.length), RowAt W Z B d n F[k] → Calls Try.prog 11 #[.slice B n d] W fun e w' => e = .returned (.int .i64 ((pk n F[k] % n : Nat) : Int)) ∧ Below W.heap.size W w') := fun W Z B d k hk h => by
      have h1 := lpivot_any h (by omega)
      rwa [show pvI n F[k] = ((pk n F[k] % n : Nat) : Int) from if_neg (hi.piv _ (List.getElem_mem hk))] at h1
    have CL : Hid (∀ W Z B d k (hk : k < F.length), RowAt W Z B d n F[k] → Calls Try.prog 12 #[.slice B n d] W fun e w' => ∃ Av cv, e = .returned (.tuple #[.slice Av n cv, .int .i64 0]) ∧ RowAt w' (new W.heap.size) Av cv n F[k] ∧ Below W.heap.size W w') := fun W Z B d k hk h => by
      have h1 := rprime h (by omega) (hszF _ (List.getElem_mem hk)) hbnd
      rwa [lowV_one (hi.prim _ (List.getElem_mem hk))] at h1
    have CS : Hid (∀ W Z Y A1 c1 B d k (hk : k < F.length), RowAt W Z A1 c1 n F[k] → RowAt W Y B d n F[k] → Calls Try.prog 13 #[.slice A1 n c1, .slice B n d] W fun e w' => e = .returned (.bool true) ∧ Below W.heap.size W w') := fun W Z Y A1 c1 B d k hk h1 h2 => by
      have h3 := r07same_n h1 h2
      rwa [decide_eq_true rfl] at h3
    have tFF : ((F.length : Int) == (F.length : Int)) = true := beq_self_eq_true _
    have hFl : F.length ≤ 9223372036854775807 := by omega
    have HI := Lib.hid hi
    clear k1 hl hE hm24 hgood hL hsz hmat hnn hM eL b1 hszF hbnd hF hi
    generalize L.length = P at *
    go_enter Try.func3, Try.ntmps3
    go_wp2_with fail
    refine HA.out.mono ?_
    rintro e w1 ⟨rfl, hB⟩
    go_wp2_with fail
    refine (G1.out _ hB).mono ?_
    rintro e _ ⟨rfl, rfl⟩
    go_wp2_with fail
    refine (HE.out _ hB).mono ?_
    rintro e w2 ⟨A2, c2, rfl, hm, hb⟩
    replace hB := from_ hB hb
    clear hb
    go_wp2_with fail
    refine (HR.out _ hB).mono ?_
    rintro e w3 ⟨rfl, hb⟩
    replace hB := from_ hB hb
    have hm3 := hm.below hb
    clear hb hm HA G1 HE HR
    have HB3 := Lib.hid hB
    have HM3 := Lib.hid hm3
    clear hB hm3
    go_wp2
    go_loopw [8, 9] (fun s8 s9 wr => ∃ k : Nat, k ≤ F.length ∧ s9 = .int .i64 (k : Int) ∧ s8 = .int .i64 (lastF n F k : Int) ∧ Below w3.heap.size w3 wr) (fun _ s9 _ => F.length - (intOf s9).toNat)
    case atStart => exact ⟨0, Nat.zero_le _, rfl, rfl, Below.refl _ _⟩
    case round =>
      obtain ⟨k, hk, rfl, rfl, hbel⟩ := hrel
      by_cases hlt : k < F.length
      · obtain ⟨b, o, B, d, rfl, hbb, x0, hr⟩ := (HM3.out.below hbel).at hlt
        have hmem := List.getElem_mem hlt
        have hpk0 := HI.out.piv _ hmem
        have hpl := pk_le (n := n) (x := F[k])
        have hpn : pk n F[k] % n < n := Nat.mod_lt _ (by omega)
        have hll := lastF_lt HI.out hlt
        have hls := lastF_succ (n := n) hlt
        have C1 := Lib.hid (CP.out wr _ _ _ k hlt hr)
        have HR0 := Lib.hid hr
        have hpos := HI.out.pos _ hmem
        have hat : ∀ W, Below wr.heap.size wr W → ∃ b1 o1 B1 d1 l, B = some ⟨b1, o1, none⟩ ∧ W.cell? ⟨b1, o1 + pk n F[k] % n * 2, none⟩ = some (.bool false) ∧ W.cell? ⟨b1, o1 + pk n F[k] % n * 2 + 1, none⟩ = some (.slice B1 (l : List Nat).length d1) := fun W g => by
          obtain ⟨b1, o1, B1, d1, s, l, e, hb1, y0, y1, hu1, hnm1⟩ := (hr.below g).at hpn
          rw [← co_get] at hnm1
          have hs : s = false := by rw [hnm1.1]; exact decide_eq_false (by omega)
          subst hs
          exact ⟨b1, o1, B1, d1, l, e, y0, y1⟩
        have HAT := Lib.hid hat
        have hoff : ∀ j (hj : j < F.length), j ≠ k → co n F[j] (pk n F[k]) = 0 := fun j hj hne => by
          refine HI.out.off _ hmem _ (List.getElem_mem hj) fun e => ?_
          rcases Nat.lt_or_ge j k with h1 | h1
          · have := List.pairwise_iff_getElem.1 HI.out.sorted j k hj hlt h1
            omega
          · have := List.pairwise_iff_getElem.1 HI.out.sorted k j hlt hj (by omega)
            omega
        have HOFF := Lib.hid hoff
        have hcell : ∀ W, Below w3.heap.size w3 W → ∀ j (hj : j < F.length), j ≠ k → ∃ B0 d0 b1 o1 B1 d1, W.cell? ⟨b, o + j, none⟩ = some (.slice B0 n d0) ∧ B0 = some ⟨b1, o1, none⟩ ∧ W.cell? ⟨b1, o1 + pk n F[k] % n * 2 + 1, none⟩ = some (.slice B1 0 d1) := fun W g j hj hne => by
          obtain ⟨b', o', B0, d0, e, _, y0, hr0⟩ := (HM3.out.below g).at hj
          injection e with e
          injection e with e1 e2 _
          subst e1 e2
          obtain ⟨b1, o1, B1, d1, s, l, e, hb1, z0, z1, hu1, hnm1⟩ := hr0.at hpn
          rw [← co_get] at hnm1
          have hl0 := (nm_zero hnm1).1 (hoff j hj hne)
          rw [hl0] at z1
          exact ⟨B0, d0, b1, o1, B1, d1, y0, e, z1⟩
        have HCELL := Lib.hid hcell
        have hx0 := HM3.out.below hbel
        have CL1 : Hid (∀ W, Below wr.heap.size wr W → Calls Try.prog 12 #[.slice B n d] W fun e w' => ∃ Av cv, e = .returned (.tuple #[.slice Av n cv, .int .i64 0]) ∧ RowAt w' (new W.heap.size) Av cv n F[k] ∧ Below W.heap.size W w') := fun W g => CL.out W _ _ _ k hlt (hr.below g)
        have CS1 : Hid (∀ W Y A1 c1, Below wr.heap.size wr W → RowAt W Y A1 c1 n F[k] → Calls Try.prog 13 #[.slice A1 n c1, .slice B n d] W fun e w' => e = .returned (.bool true) ∧ Below W.heap.size W w') := fun W Y A1 c1 g h1 => CS.out W _ _ _ _ _ _ k hlt h1 (hr.below g)
        have hkey : (pk n F[k] = n ∧ pk n F[k] % n = 0) ∨ (pk n F[k] < n ∧ pk n F[k] % n = pk n F[k]) := by
          rcases Nat.lt_or_ge (pk n F[k]) n with h1 | h1
          · exact .inr ⟨h1, Nat.mod_eq_of_lt h1⟩
          · have e : pk n F[k] = n := by omega
            exact .inl ⟨e, by rw [e, Nat.mod_self]⟩
        have HROW : Hid (∀ W, Below w3.heap.size w3 W → ∃ B d, W.cell? ⟨b, o + k, none⟩ = some (.slice B n d)) := fun W g => by
          obtain ⟨b', o', B0, d0, e, _, y0, _⟩ := (HM3.out.below g).at hlt
          injection e with e
          injection e with e1 e2 _
          subst e1 e2
          exact ⟨_, _, y0⟩
        have HLS := Lib.hid hls
        clear hr hpos hat hoff hcell hmem hx0 hbb hls
        generalize pk n F[k] = key at *
        generalize lastF n F k = la at *
        have hle1 : decide ((key : Int) ≤ (la : Int)) = false := decide_eq_false (by omega)
        have hle2 : decide (key ≤ la) = false := decide_eq_false (by omega)
        rcases hkey with ⟨rfl, hmod⟩ | ⟨hkn, hmod⟩
        · rw [hmod] at C1 HAT HCELL
          simp only [Nat.zero_mul, Nat.add_zero] at HAT HCELL
          rw [show ((0 : Nat) : Int) = 0 from rfl] at C1
          have tnn : ((key : Int) != (key : Int)) = false := bne_self_eq_false _
          clear hmod
          go_wp2_with fail
          refine C1.out.mono ?_
          rintro e w4 ⟨rfl, hb4⟩
          have x4 := keepC hb4 x0
          clear x0 C1
          go_wp2_with fail
          refine (CL1.out _ hb4).mono ?_
          rintro e w5 ⟨A5, c5, rfl, h5, hb⟩
          have hb5 := from_ hb4 hb
          have x5 := keepC hb x4
          clear hb hb4 x4
          go_wp2_with fail
          refine (CS1.out _ _ _ _ hb5 h5).mono ?_
          rintro e w6 ⟨rfl, hb⟩
          have hb6 := from_ hb5 hb
          have x6 := keepC hb x5
          clear hb hb5 x5 h5
          obtain ⟨b1, o1, B1, d1, l1, rfl, y0, y1⟩ := HAT.out _ hb6
          have hB6 := Lib.hid (from_ hbel hb6)
          clear hbel hb6 y1 CL1 CS1 HAT
          go_wp2
          rename World => wv
          go_loopw [14] (fun s14 wz => ∃ j : Nat, j ≤ F.length ∧ s14 = .int .i64 (j : Int) ∧ Below w3.heap.size w3 wz) (fun s14 _ => F.length - (intOf s14).toNat)
          case atStart => exact ⟨0, Nat.zero_le _, rfl, hB6.out⟩
          case round =>
            clear x6 y0
            obtain ⟨j, hj, rfl, hbz⟩ := hrel
            by_cases hlj : j < F.length
            · by_cases hjk : j = k
              · subst hjk
                have t0 : ((j : Int) != (j : Int)) = false := bne_self_eq_false _
                have hbd := fun q => below_drewN hbz q
                have HBD := Lib.hid hbd
                clear hbd hbz
                go_wp2
                first | go_quiet (fail) | fail
                go_wp2
                go_roundw
                case rel => exact ⟨j + 1, by omega, by go_num, HBD.out _⟩
                case measure => simp [intOf]; omega
              · have t0 : ((j : Int) != (k : Int)) = true := bne_iff_ne.2 (by omega)
                obtain ⟨B0, d0, b2, o2, B2, d2, z0, rfl, z1⟩ := HCELL.out _ hbz j hlj hjk
                obtain ⟨B3, d3, z3⟩ := HROW.out _ hbz
                have hbd := fun q => below_drewN hbz q
                have HBD := Lib.hid hbd
                clear hbd hbz
                go_wp2
                first | go_quiet (fail) | fail
                go_wp2
                go_roundw
                case rel => exact ⟨j + 1, by omega, by go_num, HBD.out _⟩
                case measure => simp [intOf]; omega
            · obtain rfl : j = F.length := by omega
              clear hlj
              go_wp2
              go_roundw
              case rel => exact ⟨k + 1, by omega, by go_num, by rw [HLS.out], hbz⟩
              case measure => simp [intOf]; omega
        · rw [hmod] at C1 HAT HCELL
          have tk0 : ((key : Int) == 0) = false := beq_eq_false_iff_ne.2 (by omega)
          have tk1 : decide ((key : Int) < 0) = false := decide_eq_false (by omega)
          have tnn : ((n : Int) != (n : Int)) = false := bne_self_eq_false _
          clear hmod
          go_wp2_with fail
          refine C1.out.mono ?_
          rintro e w4 ⟨rfl, hb4⟩
          have x4 := keepC hb4 x0
          clear x0 C1
          go_wp2_with fail
          refine (CL1.out _ hb4).mono ?_
          rintro e w5 ⟨A5, c5, rfl, h5, hb⟩
          have hb5 := from_ hb4 hb
          have x5 := keepC hb x4
          clear hb hb4 x4
          go_wp2_with fail
          refine (CS1.out _ _ _ _ hb5 h5).mono ?_
          rintro e w6 ⟨rfl, hb⟩
          have hb6 := from_ hb5 hb
          have x6 := keepC hb x5
          clear hb hb5 x5 h5
          obtain ⟨b1, o1, B1, d1, l1, rfl, y0, y1⟩ := HAT.out _ hb6
          have hB6 := Lib.hid (from_ hbel hb6)
          clear hbel hb6 y1 CL1 CS1 HAT
          go_wp2
          rename World => wv
          go_loopw [14] (fun s14 wz => ∃ j : Nat, j ≤ F.length ∧ s14 = .int .i64 (j : Int) ∧ Below w3.heap.size w3 wz) (fun s14 _ => F.length - (intOf s14).toNat)
          case atStart => exact ⟨0, Nat.zero_le _, rfl, hB6.out⟩
          case round =>
            clear x6 y0
            obtain ⟨j, hj, rfl, hbz⟩ := hrel
            by_cases hlj : j < F.length
            · by_cases hjk : j = k
              · subst hjk
                have t0 : ((j : Int) != (j : Int)) = false := bne_self_eq_false _
                have hbd := fun q => below_drewN hbz q
                have HBD := Lib.hid hbd
                clear hbd hbz
                go_wp2
                first | go_quiet (fail) | fail
                go_wp2
                go_roundw
                case rel => exact ⟨j + 1, by omega, by go_num, HBD.out _⟩
                case measure => simp [intOf]; omega
              · have t0 : ((j : Int) != (k : Int)) = true := bne_iff_ne.2 (by omega)
                obtain ⟨B0, d0, b2, o2, B2, d2, z0, rfl, z1⟩ := HCELL.out _ hbz j hlj hjk
                obtain ⟨B3, d3, z3⟩ := HROW.out _ hbz
                have hbd := fun q => below_drewN hbz q
                have HBD := Lib.hid hbd
                clear hbd hbz
                go_wp2
                first | go_quiet (fail) | fail
                go_wp2
                go_roundw
                case rel => exact ⟨j + 1, by omega, by go_num, HBD.out _⟩
                case measure => simp [intOf]; omega
            · obtain rfl : j = F.length := by omega
              clear hlj
              go_wp2
              go_roundw
              case rel => exact ⟨k + 1, by omega, by go_num, by rw [HLS.out], hbz⟩
              case measure => simp [intOf]; omega
      · obtain rfl : k = F.length := by omega
        have hB9 := from_ HB3.out hbel
        clear hlt
        go_wp2
        go_ret
        exact ⟨by first | rfl | trivial, hB9⟩
  · obtain ⟨E, hE2⟩ : ∃ E, E = errR pss := ⟨_, rfl⟩
    rw [← hE2] at hE
    have hE3 : E = 4 ∨ E = 8 ∨ E = 70 := by
      rcases errR_vals pss with h | h | h | h
      · exact absurd (hE2.trans h) hE
      all_goals (rw [hE2, h]; simp)
    have HE : Hid (∀ W, Below w.heap.size w W → Calls Try.prog 9 #[.slice A pss.length c] W fun e w' => e = .returned (.tuple #[.slice none 0 0, .int .i64 E]) ∧ Below W.heap.size W w') := fun W h => echelon_err (hl.below h) hE2.symm hE3
    have HR : Hid (∀ W, Below w.heap.size w W → Calls Try.prog 10 #[.slice A pss.length c] W fun e w' => e = .returned (.tuple #[.int .i64 0, .int .i64 E]) ∧ Below W.heap.size W w') := fun W h => rank_err (hl.below h) hE2.symm hE3
    clear hl hE hE2 k1 b1 n7
    generalize pss.length = P at *
    rcases hE3 with rfl | rfl | rfl
    all_goals
      go_enter Try.func3, Try.ntmps3
      go_wp2_with fail
      refine HA.out.mono ?_
      rintro e w1 ⟨rfl, hB⟩
      go_wp2_with fail
      refine (G1.out _ hB).mono ?_
      rintro e _ ⟨rfl, rfl⟩
      go_wp2_with fail
      refine (HE.out _ hB).mono ?_
      rintro e w2 ⟨rfl, hb⟩
      replace hB := from_ hB hb
      clear hb
      go_wp2_with fail
      refine (HR.out _ hB).mono ?_
      rintro e w3 ⟨rfl, hb⟩
      replace hB := from_ hB hb
      clear hb
      go_wp2
      go_ret
      exact ⟨by first | rfl | trivial, hB⟩

end Go.Proofs.Ytajmijnoikkffaa
