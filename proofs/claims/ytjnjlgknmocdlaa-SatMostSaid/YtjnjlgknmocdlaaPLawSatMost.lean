/-
  facetroomlaw19.SatMost, walked. No conditions.
-/
import Derived.Deep.QuietTactic
import Derived.BigQuiet
import Derived.Test.YtjnjlgknmocdlaaPSatL
import Derived.Test.YtjnjlgknmocdlaaPSatM
namespace Go.Proofs.Ytjnjlgknmocdlaa
open Go.RowKit
set_option linter.unusedVariables false
set_option linter.unusedSimpArgs false

set_option maxRecDepth 100000 in
set_option maxHeartbeats 4000000 in
theorem lawSatMost {w : World} {v : Value} {ms : List Nat} (hm : IsU w old v ms) :
    Calls Try.prog 7 #[v] w fun e w' => e = .returned (.bool true) ∧ Below w.heap.size w w' := by
  obtain ⟨A, c, rfl, hu⟩ := hm
  have hlen := hu.len
  have HA := Lib.hid (alive19 w)
  by_cases h80 : ms.length ≤ 80
  · have m0 : decide ((80 : Int) < (ms.length : Int)) = false := decide_eq_false (by omega)
    have HM : Hid (∀ w1, Below w.heap.size w w1 → Calls Try.prog 21 #[.slice A ms.length c] w1 fun e w' => ∃ Al cl, e = .returned (.tuple #[.slice Al (mostL ms).length cl, .int .i64 0]) ∧ IsInts w' old (.slice Al (mostL ms).length cl) ((mostL ms).map fun x : Nat => (x : Int)) ∧ Below w1.heap.size w1 w') := fun w1 hb => by
      have h := satmost_any (w := w1) ⟨A, c, rfl, hu.below hb⟩
      have e1 : errK ms = 0 := by unfold errK; rw [if_pos (by omega)]
      have e2 : mostI ms = (mostL ms).map fun x : Nat => (x : Int) := by unfold mostI; rw [if_pos (by omega)]
      rw [e1, e2] at h
      refine h.mono ?_
      rintro e w' ⟨u, rfl, hi, hb'⟩
      obtain ⟨Al, cl, rfl, hr⟩ := hi
      have hl : ((mostL ms).map fun x : Nat => (x : Int)).length = (mostL ms).length := by simp
      exact ⟨Al, cl, by rw [hl], ⟨Al, cl, by rw [hl], hr⟩, hb'⟩
    have HU := Lib.hid hu
    have Hat : Hid (∀ j, j < (mostL ms).length → (mostL ms).getD j 0 < ms.length) := fun j hj => (mostL_at hj).1
    have Hup : Hid (∀ i k, k < (mostL ms).length → i < k → (mostL ms).getD i 0 < (mostL ms).getD k 0) := fun i k hk h => mostL_up hk h
    have Hap : Hid (∀ i k, i < (mostL ms).length → k < (mostL ms).length → i ≠ k → inB (ms.getD ((mostL ms).getD i 0) 0) (ms.getD ((mostL ms).getD k 0) 0) = false) := fun i k hi hk h => mostL_apart hu.small hi hk h
    have Hth : Hid (∀ i, i < ms.length → thereTo ms i (mostL ms).length = true) := fun i hi => thereTo_all hu.small hi
    have hLl : (mostL ms).length ≤ ms.length := mostTo_len ms ms.length
    clear hu
    go_enter Try.func7, Try.ntmps7
    go_wp2_with fail
    refine HA.out.mono ?_
    rintro e w1 ⟨rfl, hB⟩
    go_wp2_with fail
    refine (HM.out _ hB).mono ?_
    rintro e w2 ⟨Al, cl, rfl, hl, hb⟩
    replace hB := from_ hB hb
    have HB2 := Lib.hid hB
    have HL := Lib.hid hl
    clear hb hl HM HA hB
    go_wp2
    go_loopw [6] (fun s6 wr => ∃ i : Nat, i ≤ ms.length ∧ s6 = .int .i64 (i : Int) ∧ Below w2.heap.size w2 wr) (fun s6 _ => ms.length - (intOf s6).toNat)
    case atStart => exact ⟨0, Nat.zero_le _, rfl, Below.refl _ _⟩
    case round =>
      obtain ⟨i, hi, rfl, hbel⟩ := hrel
      by_cases hlt : i < ms.length
      · obtain ⟨b, o, rfl, hb, x1, y1⟩ := (HU.out.below (from_ HB2.out hbel)).getD hlt
        have hth := Hth.out i hlt
        have HT := Lib.hid hth
        have hbel0 := hbel
        clear hth
        obtain ⟨xi, exi⟩ : ∃ x, x = ms.getD i 0 := ⟨_, rfl⟩
        rw [← exi] at x1 y1
        have Exi := Lib.hid exi
        clear exi
        go_wp2
        obtain ⟨w0, rfl⟩ : ∃ w0, w0 = wr := ⟨_, rfl⟩
        go_loopw [7, 8] (fun s7 s8 wr => ∃ (j : Nat) (tb : Bool), j ≤ (mostL ms).length ∧ s8 = .int .i64 (j : Int) ∧ s7 = .bool tb ∧ Hid (tb = thereTo ms i j) ∧ Below w0.heap.size w0 wr) (fun _ s8 _ => (mostL ms).length - (intOf s8).toNat)
        case atStart => exact ⟨0, false, Nat.zero_le _, rfl, rfl, Lib.hid rfl, Below.refl _ _⟩
        case round =>
          clear hbel
          obtain ⟨j, tb, hj, rfl, rfl, htb, hbq⟩ := hrel
          have hbel := from_ hbel0 hbq
          have hB3 := from_ HB2.out hbel
          replace x1 := keepC hbq x1
          by_cases hjl : j < (mostL ms).length
          · obtain ⟨bl, ol, rfl, hbl, x2⟩ := ints_getN (isInts_below HL.out hbel) hjl
            have hq := Hat.out j hjl
            have hst := thereTo_succ ms i j
            rw [← Exi.out] at hst
            obtain ⟨q, eq⟩ : ∃ q, q = (mostL ms).getD j 0 := ⟨_, rfl⟩
            rw [← eq] at x2 hq hst
            obtain ⟨_, _, e, _, x3, y3⟩ := (HU.out.below hB3).getD hq
            cases e
            generalize ms.getD q 0 = xq at *
            have t1 : decide ((q : Int) < 0) = false := decide_eq_false (by omega)
            have t2 : decide (ms.length ≤ q) = false := decide_eq_false (by omega)
            have hin := andNot_in y1 y3
            clear eq
            cases tb
            · have hv : inB xi xq = true ∨ inB xi xq = false := by cases inB xi xq <;> simp
              rcases hv with hv | hv
              all_goals
                rw [hv] at hin hst
                have hst2 := hst
                rw [← htb.out] at hst2
                have HST := Lib.hid hst2.symm
                clear hst hst2 hv htb
                go_wp2
                go_quiet (fail)
                go_wp2
                go_roundw
                case rel => exact ⟨j + 1, _, by omega, by go_num, by first | rfl | trivial, Lib.hid (by simpa using HST.out), below_drewN' hbq _⟩
                case measure => simp [intOf]; omega
            · rw [← htb.out, Bool.true_or] at hst
              have HST := Lib.hid hst.symm
              clear hst htb hin
              go_wp2
              go_quiet (fail)
              go_wp2
              go_roundw
              case rel => exact ⟨j + 1, true, by omega, by go_num, by first | rfl | trivial, HST, below_drewN' hbq _⟩
              case measure => simp [intOf]; omega
          · obtain rfl : j = (mostL ms).length := by omega
            have htt : tb = true := htb.out.trans HT.out
            subst htt
            clear htb
            go_wp2
            go_roundw
            case rel => exact ⟨i + 1, by omega, by go_num, hbel⟩
            case measure => simp [intOf]; omega
      · have hbel0 := hbel
        go_wp2
        go_loopw [9] (fun s9 wr => ∃ i : Nat, i ≤ (mostL ms).length ∧ s9 = .int .i64 (i : Int) ∧ Below w2.heap.size w2 wr) (fun s9 _ => (mostL ms).length - (intOf s9).toNat)
        case atStart => exact ⟨0, Nat.zero_le _, rfl, hbel0⟩
        case round =>
          clear hbel hbel0
          obtain ⟨i, hi, rfl, hbel⟩ := hrel
          by_cases hlt : i < (mostL ms).length
          · obtain ⟨bl, ol, rfl, hbl, x1⟩ := ints_getN (isInts_below HL.out hbel) hlt
            have hp := Hat.out i hlt
            obtain ⟨p, ep⟩ : ∃ p, p = (mostL ms).getD i 0 := ⟨_, rfl⟩
            rw [← ep] at x1 hp
            obtain ⟨b, o, rfl, hb, x2, y2⟩ := (HU.out.below (from_ HB2.out hbel)).getD hp
            have Ep := Lib.hid ep
            clear ep
            obtain ⟨xp, exp⟩ : ∃ x, x = ms.getD p 0 := ⟨_, rfl⟩
            rw [← exp] at x2 y2
            have Exp := Lib.hid exp
            clear exp
            have hbel0 := hbel
            go_wp2
            obtain ⟨w0, rfl⟩ : ∃ w0, w0 = wr := ⟨_, rfl⟩
            go_loopw [10] (fun s10 wr => ∃ k : Nat, k ≤ (mostL ms).length ∧ s10 = .int .i64 (k : Int) ∧ Below w0.heap.size w0 wr) (fun s10 _ => (mostL ms).length - (intOf s10).toNat)
            case atStart => exact ⟨0, Nat.zero_le _, rfl, Below.refl _ _⟩
            case round =>
              clear hbel
              obtain ⟨k, hk, rfl, hbq⟩ := hrel
              have hbel := from_ hbel0 hbq
              replace x1 := keepC hbq x1
              replace x2 := keepC hbq x2
              by_cases hkl : k < (mostL ms).length
              · obtain ⟨_, _, e, _, x3⟩ := ints_getN (isInts_below HL.out hbel) hkl
                cases e
                have hq := Hat.out k hkl
                by_cases hik : i = k
                · subst hik
                  have t1 : ((i : Int) != (i : Int)) = false := bne_self_eq_false _
                  have t2 : decide (i < i) = false := decide_eq_false (by omega)
                  clear x3
                  go_wp2
                  go_quiet (fail)
                  go_wp2
                  go_roundw
                  case rel => exact ⟨i + 1, by omega, by go_num, below_drewN' hbq _⟩
                  case measure => simp [intOf]; omega
                · have hap := Hap.out i k hlt hkl hik
                  rw [← Ep.out, ← Exp.out] at hap
                  obtain ⟨q, eq⟩ : ∃ q, q = (mostL ms).getD k 0 := ⟨_, rfl⟩
                  rw [← eq] at x3 hq hap
                  obtain ⟨_, _, e, _, x4, y4⟩ := (HU.out.below (from_ HB2.out hbel)).getD hq
                  cases e
                  generalize ms.getD q 0 = xq at *
                  have hin := andNot_in y2 y4
                  rw [hap] at hin
                  have t1 : ((i : Int) != (k : Int)) = true := by simp; omega
                  by_cases hlk : i < k
                  · have hup := Hup.out i k hkl hlk
                    rw [← Ep.out, ← eq] at hup
                    have t2 : decide (i < k) = true := decide_eq_true hlk
                    have t3 : decide (q ≤ p) = false := decide_eq_false (by omega)
                    clear eq hap hup hik
                    go_wp2
                    go_quiet (fail)
                    go_wp2
                    go_roundw
                    case rel => exact ⟨k + 1, by omega, by go_num, below_drewN' hbq _⟩
                    case measure => simp [intOf]; omega
                  · have t2 : decide (i < k) = false := decide_eq_false hlk
                    clear eq hap hik
                    go_wp2
                    go_quiet (fail)
                    go_wp2
                    go_roundw
                    case rel => exact ⟨k + 1, by omega, by go_num, below_drewN' hbq _⟩
                    case measure => simp [intOf]; omega
              · go_wp2
                go_roundw
                case rel => exact ⟨i + 1, by omega, by go_num, hbel⟩
                case measure => simp [intOf]; omega
          · go_wp2
            go_ret
            exact ⟨by first | rfl | trivial, from_ HB2.out hbel⟩
  · have m0 : decide ((80 : Int) < (ms.length : Int)) = true := decide_eq_true (by omega)
    clear hu
    generalize ms.length = L at *
    go_enter Try.func7, Try.ntmps7
    go_wp2_with fail
    refine HA.out.mono ?_
    rintro e w1 ⟨rfl, hB⟩
    go_wp2
    go_ret
    exact ⟨by first | rfl | trivial, hB⟩

end Go.Proofs.Ytjnjlgknmocdlaa
