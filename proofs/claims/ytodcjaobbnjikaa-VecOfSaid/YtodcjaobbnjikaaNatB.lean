/-
  The contracts of nat.pairs and nat.joined: limbs of two numbers come in pairs, and are joined with a carry. No conditions.
-/
import Derived.RangeFuncNested
import Derived.RangeFuncBound
import Derived.RangeFuncCalls
import Derived.RangeFuncLeaves
import Derived.RangeFuncBox
import Derived.Shelf.Abstract
import Derived.Shelf.RegionOpen
import Derived.WalkKit
import Derived.OwnWalkIn
import Derived.TacticsInMore
import Derived.LoopNIn
import Derived.LoopIn
import Derived.Maps.AppendAt
import Derived.Test.YtodcjaobbnjikaaNatA
namespace Go.Proofs.Ytodcjaobbnjikaa
open Go.RowKit Go.Shelf
set_option linter.unusedVariables false
set_option linter.unusedSimpArgs false
attribute [local go_sem] Oper.semAt_some

/-- What lies in the blocks of S lies as it lay. -/
def KeptAt (S : Nat → Prop) (W W' : World) : Prop := ∀ k, S k → W'.heap[k]? = W.heap[k]?
theorem KeptAt.refl (S : Nat → Prop) (W : World) : KeptAt S W W := fun _ _ => rfl
theorem KeptAt.trans {S : Nat → Prop} {A B C : World} (h : KeptAt S A B) (k : KeptAt S B C) : KeptAt S A C := fun i hi => (k i hi).trans (h i hi)
theorem KeptAt.cell {S : Nat → Prop} {W W' : World} (h : KeptAt S W W') {p : Addr} (hp : S p.block) : W'.cell? p = W.cell? p := World.cell?_of_block (w := W) (h p.block hp)

/-- The first k values of f. -/
def upto {α : Type} (f : Nat → α) (k : Nat) : List α := (List.range k).map f
theorem upto_succ {α : Type} (f : Nat → α) (k : Nat) : upto f (k + 1) = upto f k ++ [f k] := by simp [upto, List.range_succ]
theorem upto_length {α : Type} (f : Nat → α) (k : Nat) : (upto f k).length = k := by simp [upto]

abbrev encP (p : Nat × Nat) : Array Value := #[.int .u64 ((p.1 % 18446744073709551616 : Nat) : Int), .int .u64 ((p.2 % 18446744073709551616 : Nat) : Int)]

set_option maxRecDepth 100000 in
set_option maxHeartbeats 1000000 in
/-- The closure of nat.pairs: the limbs of two, place by place, 0 where one has none. -/
theorem pairs1_in (F : Fence) (n : Nat) (h8 : F.fn 104) (hro : F.round = none) (hn : 1 ≤ n) (l Ba Bb : Nat) (S : Nat → Prop) (hSa : S Ba) (hSb : S Bb)
    (A A' : Option Addr) (ca cb : Nat) (la lb : List Nat) (J Jx : List (Nat × Nat) → World → Prop)
    (hY : ∀ pre x W, J pre W → pre.length < max la.length lb.length → YieldAt F (n - 1) Try.prog l #[.int .u64 ((x.1 % 18446744073709551616 : Nat) : Int), .int .u64 ((x.2 % 18446744073709551616 : Nat) : Int)] W fun e W' =>
      (e = .returned (.bool true) ∧ J (pre ++ [x]) W' ∧ KeptAt S W W') ∨ (e = .returned (.bool false) ∧ Jx (pre ++ [x]) W'))
    (W : World) (hBa : W.cell? ⟨Ba, 0, none⟩ = some (.slice A la.length ca)) (hBb : W.cell? ⟨Bb, 0, none⟩ = some (.slice A' lb.length cb))
    (ha : U64s W ⟨S, False⟩ A ca la) (hb : U64s W ⟨S, False⟩ A' cb lb) (h0 : J [] W) :
    CallsIn F n Try.prog 104 #[.func (.yield l) #[] #[], .pointer (some ⟨Ba, 0, none⟩), .pointer (some ⟨Bb, 0, none⟩)] W fun e W' => (∃ v, e = .returned v) ∧
      ((∃ ys, ys = upto (fun j => (la[j]?.getD 0, lb[j]?.getD 0)) (max la.length lb.length) ∧ J ys W') ∨ (∃ pre : List (Nat × Nat), Jx pre W')) := by
  have hla := ha.len
  have hlb := hb.len
  refine callsIn_of_wp Try.func104 rfl h8 ?_ hro
  simp only [Try.ntmps104, List.size_toArray, List.length_cons, List.length_nil, Nat.reduceAdd, Nat.reduceSub, Array.replicate_succ, Array.replicate_zero, List.push_toArray, List.append_toArray, List.nil_append, List.cons_append]
  rcases Nat.lt_or_ge la.length lb.length with hm | hm
  all_goals
    gi_wp2
    gi_loopw [12] (fun i wr => ∃ k : Nat, k ≤ max la.length lb.length ∧ i = .int .i64 k ∧ J (upto (fun j => (la[j]?.getD 0, lb[j]?.getD 0)) k) wr ∧ KeptAt S W wr)
      (fun i _ => max la.length lb.length - (intOf i).toNat)
    case atStart => exact ⟨0, Nat.zero_le _, rfl, h0, KeptAt.refl _ _⟩
    case round =>
      obtain ⟨k, hk, rfl, hJs, hnx⟩ := hrel
      have hBa' := (hnx.cell (p := ⟨Ba, 0, none⟩) hSa).trans hBa
      have hBb' := (hnx.cell (p := ⟨Bb, 0, none⟩) hSb).trans hBb
      by_cases hlt : k < max la.length lb.length
      · have hsu := upto_succ (fun j => (la[j]?.getD 0, lb[j]?.getD 0)) k
        have hlk : (upto (fun j => (la[j]?.getD 0, lb[j]?.getD 0)) k).length < max la.length lb.length := by rw [upto_length]; exact hlt
        obtain ⟨x, hx⟩ : ∃ x, x = la[k]?.getD 0 := ⟨_, rfl⟩
        obtain ⟨y, hy'⟩ : ∃ y, y = lb[k]?.getD 0 := ⟨_, rfl⟩
        have hax : (∃ b o, A = some ⟨b, o, none⟩ ∧ wr.cell? ⟨b, o + k, none⟩ = some (.int .u64 (x : Int)) ∧ k < la.length) ∨ (la.length ≤ k ∧ x = 0) := by
          rcases Nat.lt_or_ge k la.length with hka | hka
          · obtain ⟨b, o, e, hS, _, _, hc⟩ := ha.open (by omega)
            exact .inl ⟨b, o, e, by rw [hnx.cell (p := ⟨b, o + k, none⟩) hS, hc k hka, hx]; simp [hka], hka⟩
          · exact .inr ⟨hka, by simp [hx, hka]⟩
        have hbx : (∃ b o, A' = some ⟨b, o, none⟩ ∧ wr.cell? ⟨b, o + k, none⟩ = some (.int .u64 (y : Int)) ∧ k < lb.length) ∨ (lb.length ≤ k ∧ y = 0) := by
          rcases Nat.lt_or_ge k lb.length with hka | hka
          · obtain ⟨b, o, e, hS, _, _, hc⟩ := hb.open (by omega)
            exact .inl ⟨b, o, e, by rw [hnx.cell (p := ⟨b, o + k, none⟩) hS, hc k hka, hy']; simp [hka], hka⟩
          · exact .inr ⟨hka, by simp [hy', hka]⟩
        rw [← hx, ← hy'] at hsu
        have hxw : x % 18446744073709551616 = x := Nat.mod_eq_of_lt (by rw [hx]; exact ha.small.getD k)
        have hyw : y % 18446744073709551616 = y := Nat.mod_eq_of_lt (by rw [hy']; exact hb.small.getD k)
        clear hx hy' ha hb
        obtain ⟨fn, tmps, assign, body, hy, hR⟩ := hY _ (x, y) wr hJs hlk
        dsimp only at hy
        rw [hxw, hyw] at hy
        clear hxw hyw
        have Hsu := Lib.hid hsu
        clear hsu hlk hJs hY h0 hBa hBb
        rcases hax with ⟨b, o, rfl, hca, hka⟩ | ⟨hka, rfl⟩ <;> rcases hbx with ⟨b', o', rfl, hcb, hkb⟩ | ⟨hkb, rfl⟩
        all_goals try (exfalso; omega)
        all_goals
          try simp only [Int.natCast_zero] at hy
          gi_wp2
          refine hR.mono ?_
          rintro e W3 (⟨rfl, hJ3, hk3⟩ | ⟨rfl, hJx3⟩)
          · gi_wp2
            go_roundw
            case rel => exact ⟨k + 1, by omega, by simp, by rw [Hsu.out]; exact hJ3, hnx.trans hk3⟩
            case measure => simp [intOf]; omega
          · gi_wp2
            refine bodyPost_ret (results_none rfl _ _ _) rfl ?_
            exact ⟨⟨_, rfl⟩, .inr ⟨_, hJx3⟩⟩
      · obtain rfl : k = max la.length lb.length := by omega
        have hd : decide (((max la.length lb.length : Nat) : Int) < (la.length : Int)) = false := by simp; omega
        have hd' : decide (((max la.length lb.length : Nat) : Int) < (lb.length : Int)) = false := by simp; omega
        gi_wp2
        go_end0
        exact ⟨⟨_, rfl⟩, .inl ⟨_, rfl, hJs⟩⟩

set_option maxHeartbeats 1000000 in
/-- nat.pairs: both are boxed; the function value captures the boxes. -/
theorem pairs_in (F : Fence) (n : Nat) (h6 : F.fn 88) (hro : F.round = none) (a b : Option Addr) (na ca nb cb : Nat) (w : World) :
    CallsIn F n Try.prog 88 #[.slice a na ca, .slice b nb cb] w fun e w' => e = .returned (.func (.func 104) #[] #[.pointer (some ⟨w.heap.size, 0, none⟩), .pointer (some ⟨w.heap.size + 1, 0, none⟩)]) ∧
      w' = (w.alloc (.cells #[.slice a na ca] 46)).alloc (.cells #[.slice b nb cb] 46) := by
  refine callsIn_of_wp Try.func88 rfl h6 ?_ hro
  simp only [Try.ntmps88, List.size_toArray, List.length_cons, List.length_nil, Nat.reduceAdd, Nat.reduceSub, Array.replicate_succ, Array.replicate_zero, List.push_toArray, List.append_toArray, List.nil_append, List.cons_append]
  gi_wp2
  go_ret
  exact ⟨rfl, rfl⟩

/-- nat.pairs hands back a value that gives the pairs of limbs, one behind the other. -/
theorem pairs_stops (F : Fence) (n : Nat) (h8 : F.fn 104) (hro : F.round = none) (hn : 1 ≤ n) (Ba Bb : Nat) (S : Nat → Prop) (hSa : S Ba) (hSb : S Bb) (A A' : Option Addr) (ca cb : Nat) (la lb : List Nat) (w : World)
    (hS : ∀ k, S k → k < w.heap.size) (hBa : w.cell? ⟨Ba, 0, none⟩ = some (.slice A la.length ca)) (hBb : w.cell? ⟨Bb, 0, none⟩ = some (.slice A' lb.length cb))
    (ha : U64s w ⟨S, False⟩ A ca la) (hb : U64s w ⟨S, False⟩ A' cb lb) :
    SeqStopsK F n Try.prog 104 #[.pointer (some ⟨Ba, 0, none⟩), .pointer (some ⟨Bb, 0, none⟩)] encP (KeptAt S) (fun ys => ys = upto (fun j => (la[j]?.getD 0, lb[j]?.getD 0)) (max la.length lb.length))
      (fun _ => True) (max la.length lb.length) w := fun l J Jx W hW _ _ hY h0 => by
  refine (pairs1_in F n h8 hro hn l Ba Bb S hSa hSb A A' ca cb la lb J Jx hY W ?_ ?_ (ha.below hW) (hb.below hW) h0).mono ?_
  · exact (hW.cell (p := ⟨Ba, 0, none⟩) (hS _ hSa)).trans hBa
  · exact (hW.cell (p := ⟨Bb, 0, none⟩) (hS _ hSb)).trans hBb
  · rintro e W' ⟨he, h | ⟨pre, hp⟩⟩
    · exact ⟨he, .inl h⟩
    · exact ⟨he, .inr ⟨pre, trivial, hp⟩⟩

end Go.Proofs.Ytodcjaobbnjikaa
