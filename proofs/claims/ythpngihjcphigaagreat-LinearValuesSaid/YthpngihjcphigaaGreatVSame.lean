/- The contract of facetroomref01.Same: two slices of words are the same, or not. No conditions. -/
import Derived.Deep.Draws
import Derived.Test.YthpngihjcphigaaGreatVNatA
set_option linter.unusedVariables false
set_option linter.unusedSimpArgs false
set_option maxRecDepth 100000
set_option maxHeartbeats 40000000
namespace Go.Proofs.YthpngihjcphigaaGreat
open Go.Lib (hid)
open Go.RowKit
variable {w : World}
theorem below_drewN' {B : Nat} {a : World} (h : Below B a w) (n : Nat) : Below B a (w.drewN n) := ⟨h.os, h.tape, h.output, h.size, h.block⟩
theorem same_dec {Z Y : Zone} {a b : Value} {la lb : List Nat} (ha : IsU w Z a la) (hb : IsU w Y b lb) :
  Calls Tryz.prog 100 #[a, b] w fun e w' => e = .returned (.bool (decide (la = lb))) ∧ Below w.heap.size w w' := by
 obtain ⟨A, ca, rfl, ha⟩ := ha
 obtain ⟨A', cb, rfl, hb⟩ := hb
 have h1 := ha.len
 have h2 := hb.len
 by_cases hl : la.length = lb.length
 · have hne : ((la.length : Int) != (lb.length : Int)) = false := by simp [hl]
   have Hl := hid hl
   have hl1 : la.length ≤ lb.length := by omega
   have hl2 : lb.length ≤ la.length := by omega
   clear hl
   go_enter Tryz.func100, Tryz.ntmps100
   go_wp2
   go_loopw [5] (fun i wr => ∃ k : Nat, k ≤ la.length ∧ i = .int .i64 k ∧ la.take k = lb.take k ∧ Below w.heap.size w wr) (fun i _ => la.length - (intOf i).toNat)
   case atStart => exact ⟨0, Nat.zero_le _, rfl, by simp, Below.refl _ _⟩
   case round =>
    obtain ⟨k, hk, rfl, htk, hbel⟩ := hrel
    have Htk := hid htk
    clear htk
    by_cases hlt : k < la.length
    · have hlt' : k < lb.length := by omega
      obtain ⟨b1, o1, rfl, _, hb1, _, hc1⟩ := ha.open (by omega)
      obtain ⟨b2, o2, rfl, _, hb2, _, hc2⟩ := hb.open (by omega)
      have x1 := (hbel.cell (p := ⟨b1, o1 + k, none⟩) hb1).trans (hc1 k hlt)
      have x2 := (hbel.cell (p := ⟨b2, o2 + k, none⟩) hb2).trans (hc2 k hlt')
      have hs1 : la.take (k + 1) = la.take k ++ [la[k]] := by rw [List.take_succ_eq_append_getElem hlt]
      have hs2 : lb.take (k + 1) = lb.take k ++ [lb[k]] := by rw [List.take_succ_eq_append_getElem hlt']
      obtain ⟨Hs1, Hs2⟩ := hid2 hs1 hs2
      clear hs1 hs2 hc1 hc2
      by_cases he : la[k] = lb[k]
      · have hx : ((la[k] : Int) != (lb[k] : Int)) = false := by simp [he]
        have He := hid he
        clear he
        go_wp2
        go_quiet (fail)
        go_wp2
        go_roundw
        case rel => exact ⟨k + 1, by omega, by go_num, by rw [Hs1.out, Hs2.out, Htk.out, He.out], below_drewN' hbel _⟩
        case measure => simp [intOf]; omega
      · have hx : ((la[k] : Int) != (lb[k] : Int)) = true := by simp; omega
        have hn : la ≠ lb := fun e => he (by subst e; rfl)
        have Hn := hid (decide_eq_false hn)
        clear he hn
        go_wp2
        go_quiet (fail)
        go_wp2
        go_ret
        rw [Hn.out]
        exact ⟨rfl, below_drewN' hbel _⟩
    · obtain rfl : k = la.length := by omega
      go_wp2
      go_ret
      have e := Htk.out
      rw [List.take_length, Hl.out, List.take_length] at e
      rw [decide_eq_true e]
      exact ⟨rfl, hbel⟩
 · have hne : ((la.length : Int) != (lb.length : Int)) = true := by simp; omega
   have hn : la ≠ lb := fun e => hl (by rw [e])
   have Hn := hid (decide_eq_false hn)
   clear hl hn
   go_enter Tryz.func100, Tryz.ntmps100
   go_wp2
   go_ret
   rw [Hn.out]
   exact ⟨rfl, Below.refl _ _⟩
end Go.Proofs.YthpngihjcphigaaGreat
