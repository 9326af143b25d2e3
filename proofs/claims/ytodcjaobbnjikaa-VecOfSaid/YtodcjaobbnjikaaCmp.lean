/-
  The contracts of cmp.Compare at int and at uint64, of slices.Backward at numbers, and of nat.compare. No conditions.
-/
import Derived.RangeFuncNested
import Derived.RangeFuncBound
import Derived.RangeFuncCalls
import Derived.RangeFuncLeaves
import Derived.RangeFuncBox
import Derived.Shelf.Abstract
import Derived.Shelf.RegionOpen
import Derived.WalkKit
import Derived.OwnWalkIn
import Derived.TacticsInMore
import Derived.LoopNIn
import Derived.LoopIn
import Derived.Maps.AppendAt
import Derived.Test.YtodcjaobbnjikaaNatB
namespace Go.Proofs.Ytodcjaobbnjikaa
open Go.RowKit Go.Shelf
set_option linter.unusedVariables false
set_option linter.unusedSimpArgs false

/-- -1, 0 or 1. -/
def cmp3 (x y : Int) : Int := if x < y then -1 else if y < x then 1 else 0

set_option maxHeartbeats 400000 in
theorem cmp_int (x y : Int) (w : World) : Calls Try.prog 90 #[.int .i64 x, .int .i64 y] w fun e w' => e = .returned (.int .i64 (cmp3 x y)) ∧ w = w' := by
  unfold cmp3
  rcases Int.lt_trichotomy x y with h | h | h
  · rw [if_pos h]
    go_enter Try.func90, Try.ntmps90
    go_wp2
    go_ret
    exact ⟨rfl, rfl⟩
  · subst h
    rw [if_neg (by omega), if_neg (by omega)]
    go_enter Try.func90, Try.ntmps90
    go_wp2
    go_ret
    exact ⟨rfl, rfl⟩
  · have h' : ¬ x < y := by omega
    rw [if_neg h', if_pos h]
    go_enter Try.func90, Try.ntmps90
    go_wp2
    go_ret
    exact ⟨rfl, rfl⟩

set_option maxHeartbeats 400000 in
theorem cmp_u64 (x y : Int) (w : World) : Calls Try.prog 92 #[.int .u64 x, .int .u64 y] w fun e w' => e = .returned (.int .i64 (cmp3 x y)) ∧ w = w' := by
  unfold cmp3
  rcases Int.lt_trichotomy x y with h | h | h
  · rw [if_pos h]
    go_enter Try.func92, Try.ntmps92
    go_wp2
    go_ret
    exact ⟨rfl, rfl⟩
  · subst h
    rw [if_neg (by omega), if_neg (by omega)]
    go_enter Try.func92, Try.ntmps92
    go_wp2
    go_ret
    exact ⟨rfl, rfl⟩
  · have h' : ¬ x < y := by omega
    rw [if_neg h', if_pos h]
    go_enter Try.func92, Try.ntmps92
    go_wp2
    go_ret
    exact ⟨rfl, rfl⟩

section
attribute [local go_sem] Oper.semAt_some

/-- A place of a list. -/
abbrev Place (l : List Nat) := { i : Nat // i < l.length }
abbrev encB (l : List Nat) (i : Place l) : Array Value := #[.int .i64 (i.1 : Int), .int .u64 ((l[i.1]'i.2 : Nat) : Int)]
/-- The first k places, from the last one on. -/
def backs (n k : Nat) : List Nat := upto (fun j => n - 1 - j) k
theorem backs_succ (n k : Nat) : backs n (k + 1) = backs n k ++ [n - 1 - k] := upto_succ _ _

set_option maxRecDepth 100000 in
set_option maxHeartbeats 1000000 in
theorem back1_in (F : Fence) (n : Nat) (h8 : F.fn 106) (hro : F.round = none) (hn : 1 ≤ n) (L Ba : Nat) (S : Nat → Prop) (hSa : S Ba) (A : Option Addr) (c : Nat) (l : List Nat)
    (J Jx : List (Place l) → World → Prop)
    (hY : ∀ pre x W, J pre W → pre.length < l.length → YieldAt F (n - 1) Try.prog L #[.int .i64 (x.1 : Int), .int .u64 ((l[x.1]'x.2 : Nat) : Int)] W fun e W' =>
      (e = .returned (.bool true) ∧ J (pre ++ [x]) W' ∧ KeptAt S W W') ∨ (e = .returned (.bool false) ∧ Jx (pre ++ [x]) W'))
    (W : World) (hBa : W.cell? ⟨Ba, 0, none⟩ = some (.slice A l.length c)) (ha : U64s W ⟨S, False⟩ A c l) (h0 : J [] W) :
    CallsIn F n Try.prog 106 #[.func (.yield L) #[] #[], .pointer (some ⟨Ba, 0, none⟩)] W fun e W' => (∃ v, e = .returned v) ∧
      ((∃ ys : List (Place l), ys.map (·.1) = backs l.length l.length ∧ J ys W') ∨ (∃ pre : List (Place l), (∃ k, k ≤ l.length ∧ pre.map (·.1) = backs l.length k) ∧ Jx pre W')) := by
  have hl := ha.len
  refine callsIn_of_wp Try.func106 rfl h8 ?_ hro
  simp only [Try.ntmps106, List.size_toArray, List.length_cons, List.length_nil, Nat.reduceAdd, Nat.reduceSub, Array.replicate_succ, Array.replicate_zero, List.push_toArray, List.append_toArray, List.nil_append, List.cons_append]
  gi_wp2
  gi_loopw [3] (fun i wr => ∃ (k : Nat) (pre : List (Place l)), k ≤ l.length ∧ i = .int .i64 ((l.length : Int) - 1 - k) ∧ Hid (pre.map (·.1) = backs l.length k) ∧ pre.length = k ∧ J pre wr ∧ KeptAt S W wr)
    (fun i _ => (intOf i + 1).toNat)
  case atStart => exact ⟨0, [], Nat.zero_le _, by simp, rfl, rfl, h0, KeptAt.refl _ _⟩
  case round =>
    obtain ⟨k, pre, hk, rfl, hpre, hpl, hJs, hnx⟩ := hrel
    have Hpl := Lib.hid hpl
    have hBa' := (hnx.cell (p := ⟨Ba, 0, none⟩) hSa).trans hBa
    by_cases hlt : k < l.length
    · obtain ⟨⟨i, hi⟩, hii⟩ : ∃ y : Place l, y.1 = l.length - 1 - k := ⟨⟨l.length - 1 - k, by omega⟩, rfl⟩
      dsimp only at hii
      obtain ⟨fn, tmps, assign, body, hy, hR⟩ := hY pre ⟨i, hi⟩ wr hJs (by omega)
      dsimp only at hy
      obtain ⟨b, o, rfl, hS, _, _, hc⟩ := ha.open (by omega)
      have hx := (hnx.cell (p := ⟨b, o + i, none⟩) hS).trans (hc _ hi)
      have hik : (l.length : Int) - 1 - k = i := by omega
      have hnext : (i : Int) - 1 = (l.length : Int) - 1 - ((k + 1 : Nat) : Int) := by omega
      have hp' : (pre ++ [(⟨i, hi⟩ : Place l)]).map (·.1) = backs l.length (k + 1) := by rw [List.map_append, hpre.out, backs_succ, ← hii]; rfl
      have Hp' := Lib.hid hp'
      have hmeas : (intOf (.int .i64 ((i : Int) - 1)) + 1).toNat < (intOf (.int .i64 (i : Int)) + 1).toNat := by simp only [intOf]; omega
      have HR := Lib.hid hR
      have Hnext := Lib.hid hnext
      have Hmeas := Lib.hid hmeas
      clear hR hY h0 hpl hc hp' hnext hii hpre hmeas
      generalize l[i] = x at *
      rw [hik]
      clear hik
      gi_wp2
      refine HR.out.mono ?_
      rintro e W3 (⟨rfl, hJ3, hk3⟩ | ⟨rfl, hJx3⟩)
      · gi_wp2
        go_roundw
        case rel => exact ⟨k + 1, pre ++ [⟨i, hi⟩], by omega, by first | rw [← Hnext.out] | rfl, Hp', by simp [Hpl.out], hJ3, hnx.trans hk3⟩
        case measure => exact Hmeas.out
      · gi_wp2
        refine bodyPost_ret (results_none rfl _ _ _) rfl ?_
        exact ⟨⟨_, rfl⟩, .inr ⟨_, ⟨k + 1, by omega, Hp'.out⟩, hJx3⟩⟩
    · obtain rfl : k = l.length := by omega
      have hm1 : (l.length : Int) - 1 - (l.length : Int) = -1 := by omega
      rw [hm1]
      clear hm1 hpl
      gi_wp2
      go_end0
      exact ⟨⟨_, rfl⟩, .inl ⟨pre, hpre.out, hJs⟩⟩
end
end Go.Proofs.Ytodcjaobbnjikaa
