/- The contract of nat.compare. No conditions. -/
import Derived.RangeFuncNested
import Derived.RangeFuncBound
import Derived.RangeFuncCalls
import Derived.RangeFuncLeaves
import Derived.RangeFuncBox
import Derived.Shelf.Abstract
import Derived.Shelf.RegionOpen
import Derived.WalkKit
import Derived.OwnWalkIn
import Derived.TacticsInMore
import Derived.LoopNIn
import Derived.LoopIn
import Derived.Maps.AppendAt
import Derived.Test.YtcheajjjdbllfaaGreatNNatA
set_option linter.unusedVariables false
set_option linter.unusedSimpArgs false
set_option maxRecDepth 100000
set_option maxHeartbeats 40000000
namespace Go.Proofs.YtcheajjjdbllfaaGreat
open Go.Lib (hid)
open Go.RowKit Go.Shelf
attribute [local go_sem] Oper.semAt_some
variable {B m : Nat} {W : World}
def KeptAt (S : Nat → Prop) (W W' : World) : Prop := ∀ k, S k → W'.heap[k]? = W.heap[k]?
theorem KeptAt.refl (S : Nat → Prop) (W : World) : KeptAt S W W := fun _ _ => rfl
theorem KeptAt.trans {S : Nat → Prop} {A B C : World} (h : KeptAt S A B) (k : KeptAt S B C) : KeptAt S A C := fun i hi => (k i hi).trans (h i hi)
theorem KeptAt.cell {S : Nat → Prop} {W' : World} (h : KeptAt S W W') {p : Addr} (hp : S p.block) : W'.cell? p = W.cell? p := World.cell?_of_block (w := W) (h p.block hp)
def upto {α : Type} (f : Nat → α) (k : Nat) : List α := (List.range k).map f
theorem upto_succ {α : Type} (f : Nat → α) (k : Nat) : upto f (k + 1) = upto f k ++ [f k] := by simp [upto, List.range_succ]
theorem upto_length {α : Type} (f : Nat → α) (k : Nat) : (upto f k).length = k := by simp [upto]
abbrev encP (p : Nat × Nat) : Array Value := #[.int .u64 ((p.1 % 18446744073709551616 : Nat) : Int), .int .u64 ((p.2 % 18446744073709551616 : Nat) : Int)]
theorem pairs1_in (F : Fence) (n : Nat) (h8 : F.fn 160) (hro : F.round = none) (hn : 1 ≤ n) (l Ba Bb : Nat) (S : Nat → Prop) (hSa : S Ba) (hSb : S Bb)
  (A A' : Option Addr) (ca cb : Nat) (la lb : List Nat) (J Jx : List (Nat × Nat) → World → Prop)
  (hY : ∀ pre x W, J pre W → pre.length < max la.length lb.length → YieldAt F (n - 1) Tryz.prog l #[.int .u64 ((x.1 % 18446744073709551616 : Nat) : Int), .int .u64 ((x.2 % 18446744073709551616 : Nat) : Int)] W fun e W' =>
   (e = .returned (.bool true) ∧ J (pre ++ [x]) W' ∧ KeptAt S W W') ∨ (e = .returned (.bool false) ∧ Jx (pre ++ [x]) W'))
  (W : World) (hBa : W.cell? ⟨Ba, 0, none⟩ = some (.slice A la.length ca)) (hBb : W.cell? ⟨Bb, 0, none⟩ = some (.slice A' lb.length cb))
  (ha : U64s W ⟨S, False⟩ A ca la) (hb : U64s W ⟨S, False⟩ A' cb lb) (h0 : J [] W) :
  CallsIn F n Tryz.prog 160 #[.func (.yield l) #[] #[], .pointer (some ⟨Ba, 0, none⟩), .pointer (some ⟨Bb, 0, none⟩)] W fun e W' => (∃ v, e = .returned v) ∧
   ((∃ ys, ys = upto (fun j => (la[j]?.getD 0, lb[j]?.getD 0)) (max la.length lb.length) ∧ J ys W') ∨ (∃ pre : List (Nat × Nat), Jx pre W')) := by
 have hla := ha.len
 have hlb := hb.len
 refine callsIn_of_wp Tryz.func160 rfl h8 ?_ hro
 simp only [Tryz.ntmps160, List.size_toArray, List.length_cons, List.length_nil, Nat.reduceAdd, Nat.reduceSub, Array.replicate_succ, Array.replicate_zero, List.push_toArray, List.append_toArray, List.nil_append, List.cons_append]
 rcases Nat.lt_or_ge la.length lb.length with hm | hm
 all_goals
  gi_wp2
  gi_loopw [12] (fun i wr => ∃ k : Nat, k ≤ max la.length lb.length ∧ i = .int .i64 k ∧ J (upto (fun j => (la[j]?.getD 0, lb[j]?.getD 0)) k) wr ∧ KeptAt S W wr)
   (fun i _ => max la.length lb.length - (intOf i).toNat)
  case atStart => exact ⟨0, Nat.zero_le _, rfl, h0, KeptAt.refl _ _⟩
  case round =>
   obtain ⟨k, hk, rfl, hJs, hnx⟩ := hrel
   have hBa' := (hnx.cell (p := ⟨Ba, 0, none⟩) hSa).trans hBa
   have hBb' := (hnx.cell (p := ⟨Bb, 0, none⟩) hSb).trans hBb
   by_cases hlt : k < max la.length lb.length
   · have hsu := upto_succ (fun j => (la[j]?.getD 0, lb[j]?.getD 0)) k
     have hlk : (upto (fun j => (la[j]?.getD 0, lb[j]?.getD 0)) k).length < max la.length lb.length := by rw [upto_length]; exact hlt
     obtain ⟨x, hx⟩ : ∃ x, x = la[k]?.getD 0 := ⟨_, rfl⟩
     obtain ⟨y, hy'⟩ : ∃ y, y = lb[k]?.getD 0 := ⟨_, rfl⟩
     have hax : (∃ b o, A = some ⟨b, o, none⟩ ∧ wr.cell? ⟨b, o + k, none⟩ = some (.int .u64 (x : Int)) ∧ k < la.length) ∨ (la.length ≤ k ∧ x = 0) := by
      rcases Nat.lt_or_ge k la.length with hka | hka
      · obtain ⟨b, o, e, hS, _, _, hc⟩ := ha.open (by omega)
        exact .inl ⟨b, o, e, by rw [hnx.cell (p := ⟨b, o + k, none⟩) hS, hc k hka, hx]; simp [hka], hka⟩
      · exact .inr ⟨hka, by simp [hx, hka]⟩
     have hbx : (∃ b o, A' = some ⟨b, o, none⟩ ∧ wr.cell? ⟨b, o + k, none⟩ = some (.int .u64 (y : Int)) ∧ k < lb.length) ∨ (lb.length ≤ k ∧ y = 0) := by
      rcases Nat.lt_or_ge k lb.length with hka | hka
      · obtain ⟨b, o, e, hS, _, _, hc⟩ := hb.open (by omega)
        exact .inl ⟨b, o, e, by rw [hnx.cell (p := ⟨b, o + k, none⟩) hS, hc k hka, hy']; simp [hka], hka⟩
      · exact .inr ⟨hka, by simp [hy', hka]⟩
     rw [← hx, ← hy'] at hsu
     have hxw : x % 18446744073709551616 = x := Nat.mod_eq_of_lt (by rw [hx]; exact ha.small.getD k)
     have hyw : y % 18446744073709551616 = y := Nat.mod_eq_of_lt (by rw [hy']; exact hb.small.getD k)
     clear hx hy' ha hb
     obtain ⟨fn, tmps, assign, body, hy, hR⟩ := hY _ (x, y) wr hJs hlk
     dsimp only at hy
     rw [hxw, hyw] at hy
     clear hxw hyw
     have Hsu := hid hsu
     clear hsu hlk hJs hY h0 hBa hBb
     rcases hax with ⟨b, o, rfl, hca, hka⟩ | ⟨hka, rfl⟩ <;> rcases hbx with ⟨b', o', rfl, hcb, hkb⟩ | ⟨hkb, rfl⟩
     all_goals try (exfalso; omega)
     all_goals
      try simp only [Int.natCast_zero] at hy
      gi_wp2
      refine hR.mono ?_
      rintro e W3 (⟨rfl, hJ3, hk3⟩ | ⟨rfl, hJx3⟩)
      · gi_wp2
        go_roundw
        case rel => exact ⟨k + 1, by omega, by simp, by rw [Hsu.out]; exact hJ3, hnx.trans hk3⟩
        case measure => simp [intOf]; omega
      · gi_wp2
        refine bodyPost_ret (results_none rfl _ _ _) rfl ?_
        exact ⟨⟨_, rfl⟩, .inr ⟨_, hJx3⟩⟩
   · obtain rfl : k = max la.length lb.length := by omega
     have hd : decide (((max la.length lb.length : Nat) : Int) < (la.length : Int)) = false := by simp; omega
     have hd' : decide (((max la.length lb.length : Nat) : Int) < (lb.length : Int)) = false := by simp; omega
     gi_wp2
     go_end0
     exact ⟨⟨_, rfl⟩, .inl ⟨_, rfl, hJs⟩⟩
theorem pairs_in (F : Fence) (n : Nat) (h6 : F.fn 148) (hro : F.round = none) (a b : Option Addr) (na ca nb cb : Nat) (w : World) :
  CallsIn F n Tryz.prog 148 #[.slice a na ca, .slice b nb cb] w fun e w' => e = .returned (.func (.func 160) #[] #[.pointer (some ⟨w.heap.size, 0, none⟩), .pointer (some ⟨w.heap.size + 1, 0, none⟩)]) ∧
   w' = (w.alloc (.cells #[.slice a na ca] 23)).alloc (.cells #[.slice b nb cb] 23) := by
 refine callsIn_of_wp Tryz.func148 rfl h6 ?_ hro
 simp only [Tryz.ntmps148, List.size_toArray, List.length_cons, List.length_nil, Nat.reduceAdd, Nat.reduceSub, Array.replicate_succ, Array.replicate_zero, List.push_toArray, List.append_toArray, List.nil_append, List.cons_append]
 gi_wp2
 go_ret
 exact ⟨rfl, rfl⟩
theorem pairs_stops (F : Fence) (n : Nat) (h8 : F.fn 160) (hro : F.round = none) (hn : 1 ≤ n) (Ba Bb : Nat) (S : Nat → Prop) (hSa : S Ba) (hSb : S Bb) (A A' : Option Addr) (ca cb : Nat) (la lb : List Nat) (w : World)
  (hS : ∀ k, S k → k < w.heap.size) (hBa : w.cell? ⟨Ba, 0, none⟩ = some (.slice A la.length ca)) (hBb : w.cell? ⟨Bb, 0, none⟩ = some (.slice A' lb.length cb))
  (ha : U64s w ⟨S, False⟩ A ca la) (hb : U64s w ⟨S, False⟩ A' cb lb) :
  SeqStopsK F n Tryz.prog 160 #[.pointer (some ⟨Ba, 0, none⟩), .pointer (some ⟨Bb, 0, none⟩)] encP (KeptAt S) (fun ys => ys = upto (fun j => (la[j]?.getD 0, lb[j]?.getD 0)) (max la.length lb.length))
   (fun _ => True) (max la.length lb.length) w := fun l J Jx W hW _ _ hY h0 => by
 refine (pairs1_in F n h8 hro hn l Ba Bb S hSa hSb A A' ca cb la lb J Jx hY W ?_ ?_ (ha.below hW) (hb.below hW) h0).mono ?_
 · exact (hW.cell (p := ⟨Ba, 0, none⟩) (hS _ hSa)).trans hBa
 · exact (hW.cell (p := ⟨Bb, 0, none⟩) (hS _ hSb)).trans hBb
 · rintro e W' ⟨he, h | ⟨pre, hp⟩⟩
   · exact ⟨he, .inl h⟩
   · exact ⟨he, .inr ⟨pre, trivial, hp⟩⟩
section
attribute [local go_sem] Oper.semAt_some
abbrev Place (l : List Nat) := { i : Nat // i < l.length }
abbrev encB (l : List Nat) (i : Place l) : Array Value := #[.int .i64 (i.1 : Int), .int .u64 ((l[i.1]'i.2 : Nat) : Int)]
def backs (n k : Nat) : List Nat := upto (fun j => n - 1 - j) k
theorem backs_succ (n k : Nat) : backs n (k + 1) = backs n k ++ [n - 1 - k] := upto_succ _ _
theorem back1_in (F : Fence) (n : Nat) (h8 : F.fn 164) (hro : F.round = none) (hn : 1 ≤ n) (L Ba : Nat) (S : Nat → Prop) (hSa : S Ba) (A : Option Addr) (c : Nat) (l : List Nat)
  (J Jx : List (Place l) → World → Prop)
  (hY : ∀ pre x W, J pre W → pre.length < l.length → YieldAt F (n - 1) Tryz.prog L #[.int .i64 (x.1 : Int), .int .u64 ((l[x.1]'x.2 : Nat) : Int)] W fun e W' =>
   (e = .returned (.bool true) ∧ J (pre ++ [x]) W' ∧ KeptAt S W W') ∨ (e = .returned (.bool false) ∧ Jx (pre ++ [x]) W'))
  (W : World) (hBa : W.cell? ⟨Ba, 0, none⟩ = some (.slice A l.length c)) (ha : U64s W ⟨S, False⟩ A c l) (h0 : J [] W) :
  CallsIn F n Tryz.prog 164 #[.func (.yield L) #[] #[], .pointer (some ⟨Ba, 0, none⟩)] W fun e W' => (∃ v, e = .returned v) ∧
   ((∃ ys : List (Place l), ys.map (·.1) = backs l.length l.length ∧ J ys W') ∨ (∃ pre : List (Place l), (∃ k, k ≤ l.length ∧ pre.map (·.1) = backs l.length k) ∧ Jx pre W')) := by
 have hl := ha.len
 refine callsIn_of_wp Tryz.func164 rfl h8 ?_ hro
 simp only [Tryz.ntmps164, List.size_toArray, List.length_cons, List.length_nil, Nat.reduceAdd, Nat.reduceSub, Array.replicate_succ, Array.replicate_zero, List.push_toArray, List.append_toArray, List.nil_append, List.cons_append]
 gi_wp2
 gi_loopw [3] (fun i wr => ∃ (k : Nat) (pre : List (Place l)), k ≤ l.length ∧ i = .int .i64 ((l.length : Int) - 1 - k) ∧ Hid (pre.map (·.1) = backs l.length k) ∧ pre.length = k ∧ J pre wr ∧ KeptAt S W wr)
  (fun i _ => (intOf i + 1).toNat)
 case atStart => exact ⟨0, [], Nat.zero_le _, by simp, rfl, rfl, h0, KeptAt.refl _ _⟩
 case round =>
  obtain ⟨k, pre, hk, rfl, hpre, hpl, hJs, hnx⟩ := hrel
  have Hpl := hid hpl
  have hBa' := (hnx.cell (p := ⟨Ba, 0, none⟩) hSa).trans hBa
  by_cases hlt : k < l.length
  · obtain ⟨⟨i, hi⟩, hii⟩ : ∃ y : Place l, y.1 = l.length - 1 - k := ⟨⟨l.length - 1 - k, by omega⟩, rfl⟩
    dsimp only at hii
    obtain ⟨fn, tmps, assign, body, hy, hR⟩ := hY pre ⟨i, hi⟩ wr hJs (by omega)
    dsimp only at hy
    obtain ⟨b, o, rfl, hS, _, _, hc⟩ := ha.open (by omega)
    have hx := (hnx.cell (p := ⟨b, o + i, none⟩) hS).trans (hc _ hi)
    have hik : (l.length : Int) - 1 - k = i := by omega
    have hnext : (i : Int) - 1 = (l.length : Int) - 1 - ((k + 1 : Nat) : Int) := by omega
    have hp' : (pre ++ [(⟨i, hi⟩ : Place l)]).map (·.1) = backs l.length (k + 1) := by rw [List.map_append, hpre.out, backs_succ, ← hii]; rfl
    have Hp' := hid hp'
    have hmeas : (intOf (.int .i64 ((i : Int) - 1)) + 1).toNat < (intOf (.int .i64 (i : Int)) + 1).toNat := by simp only [intOf]; omega
    obtain ⟨HR, Hnext, Hmeas⟩ := hid3 hR hnext hmeas
    clear hR hY h0 hpl hc hp' hnext hii hpre hmeas
    generalize l[i] = x at *
    rw [hik]
    clear hik
    gi_wp2
    refine HR.out.mono ?_
    rintro e W3 (⟨rfl, hJ3, hk3⟩ | ⟨rfl, hJx3⟩)
    · gi_wp2
      go_roundw
      case rel => exact ⟨k + 1, pre ++ [⟨i, hi⟩], by omega, by first | rw [← Hnext.out] | rfl, Hp', by simp [Hpl.out], hJ3, hnx.trans hk3⟩
      case measure => exact Hmeas.out
    · gi_wp2
      refine bodyPost_ret (results_none rfl _ _ _) rfl ?_
      exact ⟨⟨_, rfl⟩, .inr ⟨_, ⟨k + 1, by omega, Hp'.out⟩, hJx3⟩⟩
  · obtain rfl : k = l.length := by omega
    have hm1 : (l.length : Int) - 1 - (l.length : Int) = -1 := by omega
    rw [hm1]
    clear hm1 hpl
    gi_wp2
    go_end0
    exact ⟨⟨_, rfl⟩, .inl ⟨pre, hpre.out, hJs⟩⟩
end
attribute [local go_sem] Oper.semAt_some
def joinO (fz fc : Nat → Nat → Nat → Nat) (ps : List (Nat × Nat)) : List Nat × Nat := ps.foldl (fun s p => (s.1 ++ [fz (p.1 % 18446744073709551616) (p.2 % 18446744073709551616) s.2], fc (p.1 % 18446744073709551616) (p.2 % 18446744073709551616) s.2)) ([], 0)
theorem joinO_snoc (fz fc : Nat → Nat → Nat → Nat) (ps : List (Nat × Nat)) (p : Nat × Nat) : joinO fz fc (ps ++ [p]) = ((joinO fz fc ps).1 ++ [fz (p.1 % 18446744073709551616) (p.2 % 18446744073709551616) (joinO fz fc ps).2], fc (p.1 % 18446744073709551616) (p.2 % 18446744073709551616) (joinO fz fc ps).2) := by simp [joinO]
theorem snoc_ind {α : Type} {P : List α → Prop} (h0 : P []) (h1 : ∀ l x, P l → P (l ++ [x])) (l : List α) : P l := by
 have h : ∀ m : List α, P m.reverse := by
  intro m
  induction m with
  | nil => exact h0
  | cons x m ih => rw [List.reverse_cons]; exact h1 _ _ ih
 simpa using h l.reverse
theorem joinO_length (fz fc : Nat → Nat → Nat → Nat) (ps : List (Nat × Nat)) : (joinO fz fc ps).1.length = ps.length := by
 induction ps using snoc_ind with
 | h0 => rfl
 | h1 ps p ih => rw [joinO_snoc]; simp [ih]
theorem joinO_carry (fz fc : Nat → Nat → Nat → Nat) (hfc : ∀ x y c, x < 18446744073709551616 → y < 18446744073709551616 → c ≤ 1 → fc x y c ≤ 1) (ps : List (Nat × Nat)) : (joinO fz fc ps).2 ≤ 1 := by
 induction ps using snoc_ind with
 | h0 => exact Nat.zero_le _
 | h1 ps p ih => rw [joinO_snoc]; exact hfc _ _ _ (Nat.mod_lt _ (by omega)) (Nat.mod_lt _ (by omega)) ih
theorem box_appended {w1 : World} {n₁ : Nat} {t e : TypeId} {size : Nat} {v v' : Value} {k : Nat} {xs ys : List Value} {tmp : Obj}
  (hv : Boxed W B t v) (hte : t ≠ e) (hrow : W.ownsRow n₁ e size v k xs) (hn₁ : n₁ ≤ W.heap.size) (hB : B < n₁)
  (hown' : w1.ownsRow n₁ e size v' m ys) (hgrow : (W.alloc tmp).grownBy w1 v.ownBlock) :
  Boxed w1 B t v ∧ Boxed (w1.setCell ⟨B, 0, none⟩ v') B t v' ∧ (w1.setCell ⟨B, 0, none⟩ v').ownsRow n₁ e size v' m ys ∧ KeepsOthers W (w1.setCell ⟨B, 0, none⟩ v') ∧
   (∀ j, j < n₁ → w1.heap[j]? = W.heap[j]?) := by
 have hv1 : Boxed w1 B t v := (hv.alloc tmp).kept hgrow (hv.not_row hte hrow)
 refine ⟨hv1, hv1.set v', hown'.kept (grownBy_setCell' w1 B v') (.inr (hv1.not_row hte hown').symm), ?_, ?_⟩
 · refine ((KeepsOthers.alloc W tmp).trans (KeepsOthers.of_grownBy hgrow fun j o ej hj => ?_)).trans (KeepsOthers.setCell _ _ _)
   rcases (hrow.alloc tmp).2 with ⟨rfl, _⟩ | ⟨g, cap, cur, rfl, _, hgb, _⟩
   · simp [Value.ownBlock] at ej
   · obtain rfl : g = j := by simpa [Value.ownBlock] using ej
     rw [hgb] at hj; cases hj; rfl
 · intro j hj
   refine (hgrow.block j (by simp; omega) (fun e => ?_)).trans (Below.heap_alloc W tmp j (by omega))
   rcases hrow.2 with ⟨rfl, _⟩ | ⟨g, cap, cur, rfl, hb, _, _⟩
   · simp [Value.ownBlock] at e
   · obtain rfl : j = g := by simpa [Value.ownBlock] using e
     omega
theorem keptAt_own {β : Type} {S : Nat → Prop} {W0 : World} (hS : ∀ k, S k → k < W0.heap.size ∧ k < B) : OwnFrom B (fun (_ : β) W => KeptAt S W0 W ∧ W0.heap.size ≤ W.heap.size) := fun _ X Y row hs hg hr => by
 refine ⟨fun k hk => ?_, Nat.le_trans hs.2 hg.size⟩
 have := hS k hk
 exact (hg.block k (by omega) (fun e => by have := (hr k e.symm).1; omega)).trans (hs.1 k hk)
theorem Tryz.info76 : (Tryz.prog.info? 76).map (fun i => (i.zero, i.size, i.bytes)) = some (some (.int .u64 0), 1, 8) := by kernel_rfl
theorem joined_in (F : Fence) (n : Nat) (h3 : F.fn 139) (h5 : F.fn 148) (h6 : F.fn 160) (hro : F.round = none) (hn : 3 ≤ n) (g : FuncId) (hgF : F.fn g) (fz fc : Nat → Nat → Nat → Nat)
  (hof : ∀ (x y c : Nat) (w : World), x < 18446744073709551616 → y < 18446744073709551616 → c ≤ 1 → (callFunc g #[.int .u64 (x : Int), .int .u64 (y : Int), .int .u64 (c : Int)]).run Tryz.prog w = .ok (.value (.tuple #[.int .u64 (fz x y c : Int), .int .u64 (fc x y c : Int)])) w)
  (hfc : ∀ x y c, x < 18446744073709551616 → y < 18446744073709551616 → c ≤ 1 → fc x y c ≤ 1) {Z : Zone} {A A' : Option Addr} {ca cb : Nat} {la lb : List Nat} (w : World) (ha : U64s w Z A ca la) (hb : U64s w Z A' cb lb) (hla : la.length ≤ 1000000000000) (hlb : lb.length ≤ 1000000000000) :
  CallsIn F n Tryz.prog 139 #[.slice A la.length ca, .slice A' lb.length cb, .func (.func g) #[] #[]] w fun e W' => ∃ v, e = .returned (.tuple #[v, .int .u64 ((joinO fz fc (upto (fun j => (la[j]?.getD 0, lb[j]?.getD 0)) (max la.length lb.length))).2 : Int)]) ∧
   W'.ownsRow w.heap.size 76 1 v (max la.length lb.length) ((joinO fz fc (upto (fun j => (la[j]?.getD 0, lb[j]?.getD 0)) (max la.length lb.length))).1.map fun x : Nat => Value.int .u64 (x : Int)) ∧ Below w.heap.size w W' := by
 have h1 : 1 ≤ n := by omega
 obtain ⟨i0, hi, hz0, hz1, hz2⟩ := info_parts Tryz.info76
 refine callsIn_of_wp_marks Tryz.func139 rfl h3 ?_ hro
 simp only [Tryz.ntmps139, List.size_toArray, List.length_cons, List.length_nil, Nat.reduceAdd, Nat.reduceSub, Array.replicate_succ, Array.replicate_zero, List.push_toArray, List.append_toArray, List.nil_append, List.cons_append]
 gi_wp2_with (gi_at_call 148; refine (pairs_in F (n - 1) h5 hro _ _ _ _ _ _ _).mono ?_; rintro e w' ⟨rfl, rfl⟩)
 obtain ⟨hoff, hfcc⟩ := hid2 hof hfc
 clear hof hfc
 have hB0 : Below w.heap.size w (((((w.alloc (.cells #[.func (.func g) #[] #[]] 185)).alloc (.cells #[.slice none 0 0] 23)).alloc (.cells #[.int .u64 0] 76)).alloc (.cells #[.slice A la.length ca] 23)).alloc (.cells #[.slice A' lb.length cb] 23)) :=
  ((((((Below.refl _ w).alloc (Nat.le_refl _) _).alloc (by simp) _).alloc (by simp; omega) _).alloc (by simp; omega) _).alloc (by simp; omega) _)
 have bF := ((((Boxed.new w 185 (.func (.func g) #[] #[])).alloc (.cells #[.slice none 0 0] 23)).alloc (.cells #[.int .u64 0] 76)).alloc (.cells #[.slice A la.length ca] 23)).alloc (.cells #[.slice A' lb.length cb] 23)
 have bO := (((Boxed.new (w.alloc (.cells #[.func (.func g) #[] #[]] 185)) 23 (.slice none 0 0)).alloc (.cells #[.int .u64 0] 76)).alloc (.cells #[.slice A la.length ca] 23)).alloc (.cells #[.slice A' lb.length cb] 23)
 have bC := ((Boxed.new ((w.alloc (.cells #[.func (.func g) #[] #[]] 185)).alloc (.cells #[.slice none 0 0] 23)) 76 (.int .u64 0)).alloc (.cells #[.slice A la.length ca] 23)).alloc (.cells #[.slice A' lb.length cb] 23)
 have bA := (Boxed.new (((w.alloc (.cells #[.func (.func g) #[] #[]] 185)).alloc (.cells #[.slice none 0 0] 23)).alloc (.cells #[.int .u64 0] 76)) 23 (.slice A la.length ca)).alloc (.cells #[.slice A' lb.length cb] 23)
 have bB := Boxed.new ((((w.alloc (.cells #[.func (.func g) #[] #[]] 185)).alloc (.cells #[.slice none 0 0] 23)).alloc (.cells #[.int .u64 0] 76)).alloc (.cells #[.slice A la.length ca] 23)) 23 (.slice A' lb.length cb)
 have hsz : (((((w.alloc (.cells #[.func (.func g) #[] #[]] 185)).alloc (.cells #[.slice none 0 0] 23)).alloc (.cells #[.int .u64 0] 76)).alloc (.cells #[.slice A la.length ca] 23)).alloc (.cells #[.slice A' lb.length cb] 23)).heap.size = w.heap.size + 5 := by simp
 simp only [World.size_alloc] at bO bC bA bB
 generalize (((((w.alloc (.cells #[.func (.func g) #[] #[]] 185)).alloc (.cells #[.slice none 0 0] 23)).alloc (.cells #[.int .u64 0] 76)).alloc (.cells #[.slice A la.length ca] 23)).alloc (.cells #[.slice A' lb.length cb] 23)) = W0 at *
 obtain ⟨S, hS⟩ : ∃ S : Nat → Prop, S = fun k => k < w.heap.size + 5 ∧ k ≠ w.heap.size + 1 ∧ k ≠ w.heap.size + 1 + 1 := ⟨_, rfl⟩
 have hSi : ∀ k, S k ↔ (k < w.heap.size + 5 ∧ k ≠ w.heap.size + 1 ∧ k ≠ w.heap.size + 1 + 1) := fun k => by rw [hS]
 clear hS
 have hS0 : S w.heap.size := (hSi _).2 ⟨by omega, by omega, by omega⟩
 have Hsz := hid hsz
 have hszle : W0.heap.size ≤ w.heap.size + 5 := by omega
 have hszge : w.heap.size + 5 ≤ W0.heap.size := by omega
 clear hsz
 have hkK : ∀ (W : World) (l : Nat) (o o' : Obj), W0.heap.size ≤ l → W.heap[l]? = some o → o.isCells = false → o.isWalk = false → KeptAt S W (W.putObj l o') := fun W l o o' hl _ _ _ k hk =>
  World.putObj_heap_other (fun e => by have := (hSi k).1 hk; omega)
 have ua : U64s W0 ⟨S, False⟩ A ca la := ⟨ha.small, ha.cap, ha.max, ha.nul, fun h0 => by
  obtain ⟨b, o, e, _, _, hc⟩ := ha.row h0
  have hlt := lt_of_cell (hc 0 _ (List.getElem?_eq_getElem h0))
  have hlt' : b < w.heap.size := hlt
  exact ⟨b, o, e, (hSi b).2 ⟨by omega, by omega, by omega⟩, fun h => h.elim, fun j u hu => (hB0.cell (p := ⟨b, o + j, none⟩) hlt').trans (hc j u hu)⟩⟩
 have ub : U64s W0 ⟨S, False⟩ A' cb lb := ⟨hb.small, hb.cap, hb.max, hb.nul, fun h0 => by
  obtain ⟨b, o, e, _, _, hc⟩ := hb.row h0
  have hlt := lt_of_cell (hc 0 _ (List.getElem?_eq_getElem h0))
  have hlt' : b < w.heap.size := hlt
  exact ⟨b, o, e, (hSi b).2 ⟨by omega, by omega, by omega⟩, fun h => h.elim, fun j u hu => (hB0.cell (p := ⟨b, o + j, none⟩) hlt').trans (hc j u hu)⟩⟩
 refine wpIn_rangeFunc_ownG hro h1 (gf := 160) (lb := #[.pointer (some ⟨w.heap.size + 1 + 1 + 1, 0, none⟩), .pointer (some ⟨w.heap.size + 1 + 1 + 1 + 1, 0, none⟩)]) rfl h6 (enters_of Tryz.func160 (by kernel_rfl) rfl)
  (pairs_stops F (n - 1) h6 hro (by omega) (w.heap.size + 1 + 1 + 1) (w.heap.size + 1 + 1 + 1 + 1) S ((hSi _).2 ⟨by omega, by omega, by omega⟩) ((hSi _).2 ⟨by omega, by omega, by omega⟩) A A' ca cb la lb W0 (fun k hk => by have := (hSi k).1 hk; omega) bA.cell bB.cell ua ub)
  (fun h k => KeptAt.trans h k) hkK (Below.refl _ _) (fun _ => rfl)
  (fun pre W => (∃ v, Boxed W (w.heap.size + 1) 23 v ∧ W.ownsRow (w.heap.size + 5) 76 1 v (joinO fz fc pre).1.length ((joinO fz fc pre).1.map fun x : Nat => Value.int .u64 (x : Int)) ∧ True) ∧
   (Boxed W (w.heap.size + 1 + 1) 76 (.int .u64 ((joinO fz fc pre).2 : Int)) ∧ ((KeptAt S W0 W ∧ W0.heap.size ≤ W.heap.size) ∧ Below w.heap.size w W)))
  (fun _ _ _ => False)
  (OwnFrom.and (Own.from (holdsRow_own (w.heap.size + 5) (w.heap.size + 1) 23 76 1 (fun pre => (joinO fz fc pre).1.length) (fun pre => (joinO fz fc pre).1.map fun x : Nat => Value.int .u64 (x : Int)) (fun _ _ => True)) _)
   (OwnFrom.and (Own.from (boxed_own _ _ _) _) (OwnFrom.and (keptAt_own (fun k hk => by have := (hSi k).1 hk; omega)) (ownFrom_below (Nat.le_refl _) (by omega)))))
  (fun _ _ _ _ _ hs _ _ => hs)
  ⟨⟨_, bO, World.ownsRow_nil _ _ _ _, trivial⟩, bC, ⟨KeptAt.refl _ _, Nat.le_refl _⟩, hB0⟩
  (fun x => { tmps := #[.slice A la.length ca, .slice A' lb.length cb, .func (.func g) #[] #[], undef, undef, .pointer (some ⟨w.heap.size, 0, none⟩), .pointer (some ⟨w.heap.size + 1, 0, none⟩), .pointer (some ⟨w.heap.size + 1 + 1, 0, none⟩), .int .u64 ((x.1 % 18446744073709551616 : Nat) : Int), .int .u64 ((x.2 % 18446744073709551616 : Nat) : Int), undef,
   .slice A la.length ca, .slice A' lb.length cb, .func (.func 160) #[] #[.pointer (some ⟨w.heap.size + 1 + 1 + 1, 0, none⟩), .pointer (some ⟨w.heap.size + 1 + 1 + 1 + 1, 0, none⟩)], .int .u64 ((x.1 % 18446744073709551616 : Nat) : Int), .int .u64 ((x.2 % 18446744073709551616 : Nat) : Int), undef, undef, undef, undef, undef, undef, undef, undef, undef, undef, undef, undef], defers := [] }) ?assign ?body ?done ?stop
 case assign =>
  intro l x W K hK
  gi_wp2
  exact hK
 case body =>
  rintro l pre x W ⟨⟨v, hv, hrow, _⟩, hc, ⟨hk, hle⟩, hB⟩ hlt
  have hcv := hv.cell
  have hcc := hc.cell
  have hcf := hc.frozen
  have hF : W.cell? ⟨w.heap.size, 0, none⟩ = some (.func (.func g) #[] #[]) := (hk.cell (p := ⟨w.heap.size, 0, none⟩) hS0).trans bF.cell
  have hlo := hid (joinO_length fz fc pre)
  have hlt' : (joinO fz fc pre).1.length ≤ 1000000000000 := by have := hlo.out; omega
  have hsn := hid (joinO_snoc fz fc pre x)
  have hcar := joinO_carry fz fc hfcc.out pre
  generalize (joinO fz fc pre).2 = cy at *
  have hx1 : x.1 % 18446744073709551616 < 18446744073709551616 := Nat.mod_lt _ (by omega)
  have hx2 : x.2 % 18446744073709551616 < 18446744073709551616 := Nat.mod_lt _ (by omega)
  generalize x.1 % 18446744073709551616 = X1 at *
  generalize x.2 % 18446744073709551616 = X2 at *
  have hrun := fun w => hoff.out X1 X2 cy w hx1 hx2 hcar
  generalize fz X1 X2 cy = z1 at *
  generalize fc X1 X2 cy = c1 at *
  have hv1 : Boxed (W.setCell ⟨w.heap.size + 1 + 1, 0, none⟩ (.int .u64 (c1 : Int))) (w.heap.size + 1) 23 v := hv.other (by omega) _
  have hc1 : Boxed (W.setCell ⟨w.heap.size + 1 + 1, 0, none⟩ (.int .u64 (c1 : Int))) (w.heap.size + 1 + 1) 76 (.int .u64 (c1 : Int)) := hc.set _
  have hrow1 := ownsRow_setCell_below hrow (a := ⟨w.heap.size + 1 + 1, 0, none⟩) (by simp) (.int .u64 (c1 : Int))
  have hcv1 := hv1.cell
  have hb1 : ∀ k, k ≠ w.heap.size + 1 + 1 → (W.setCell ⟨w.heap.size + 1 + 1, 0, none⟩ (.int .u64 (c1 : Int))).heap[k]? = W.heap[k]? := fun k hk => Below.heap_setCell _ _ _ _ hk
  have Hb1 := hid hb1
  have hz1' : (W.setCell ⟨w.heap.size + 1 + 1, 0, none⟩ (.int .u64 (c1 : Int))).heap.size = W.heap.size := by simp [World.setCell]
  have Hz1 := hid hz1'
  clear hb1 hz1'
  gi_wp2_with (gi_at_builtin; go_loud (refine wpListIn_append_own _ rfl _ _ 23 rfl (w.heap.size + 5) 76 i0 (.int .u64 0) 1 8 Tryz.underlying23 hi hz0 hz1 hz2 rfl (by decide) _ _ _ rfl (hrow1.alloc _) ⟨W.heap.size, 0, none⟩ 1 1 [.int .u64 (z1 : Int)] rfl rfl (by simpa [World.setCell] using cell_one_new (W.setCell ⟨w.heap.size + 1 + 1, 0, none⟩ (.int .u64 (c1 : Int))) _ _) (by simp [Value.oneCell']) (by simp only [maxLen]; omega) (by omega) (by simp; omega) ?_); intro v' w1 hown' hgrow _; obtain ⟨g', cap', rfl⟩ := ownsRow_succ hown'; obtain ⟨hv3, hv2, hr2, hk2, hb2⟩ := box_appended hv1 (by decide) hrow1 (by simp; omega) (by omega) hown' hgrow; have hcv3 := hv3.cell; have hcf3 := hv3.frozen)
  have hkeep : ∀ k, k < w.heap.size + 5 → k ≠ w.heap.size + 1 → k ≠ w.heap.size + 1 + 1 → (w1.setCell ⟨w.heap.size + 1, 0, none⟩ (.slice (some ⟨g', 0, none⟩) ((joinO fz fc pre).1.length + 1) cap')).heap[k]? = W.heap[k]? :=
   fun k h1 h2 h3 => (Below.heap_setCell _ _ _ _ h2).trans ((hb2 k h1).trans (Hb1.out k h3))
  have hk3 : KeptAt S W (w1.setCell ⟨w.heap.size + 1, 0, none⟩ (.slice (some ⟨g', 0, none⟩) ((joinO fz fc pre).1.length + 1) cap')) := fun k hk => by have := (hSi k).1 hk; exact hkeep k this.1 this.2.1 this.2.2
  have hgw : W.heap.size ≤ w1.heap.size := by have := hgrow.size; simp at this; omega
  have hsz3 : W.heap.size ≤ (w1.setCell ⟨w.heap.size + 1, 0, none⟩ (.slice (some ⟨g', 0, none⟩) ((joinO fz fc pre).1.length + 1) cap')).heap.size := by simp [World.setCell]; exact hgw
  refine ⟨((KeepsOthers.setCell _ _ _).trans hk2).from _, hk3, ⟨_, hv2, ?_, trivial⟩, ?_, ⟨hk.trans hk3, Nat.le_trans hle hsz3⟩, ?_⟩
  · rw [hsn.out]; simpa using hr2
  · rw [hsn.out]
    refine Boxed.other ?_ (by omega) _
    exact (hb2 _ (by omega)).trans hc1
  · refine hB.trans ⟨?_, ?_, ?_, hsz3, fun k hk => hkeep k (by omega) (by omega) (by omega)⟩
    · exact hgrow.os
    · exact hgrow.tape
    · exact hgrow.output
 case done =>
  rintro D ys W hD rfl ⟨⟨v, hv, hrow, _⟩, hc, ⟨hk, hle⟩, hB⟩ hK
  have hcv := hv.cell
  have hcc := hc.cell
  gi_wp2
  refine ⟨by simp, .inl ⟨_, _, rfl, run_takeDeferred hK, ?_⟩⟩
  have hlo := joinO_length fz fc (upto (fun j => (la[j]?.getD 0, lb[j]?.getD 0)) (max la.length lb.length))
  rw [upto_length] at hlo
  rw [hlo] at hrow
  have hcv5 := cell_kept hcv (grownBy_putObj' _ D (.deferred none)) (fun r e => by cases e; exact ⟨_, hK, rfl⟩)
  have hcc5 := cell_kept hcc (grownBy_putObj' _ D (.deferred none)) (fun r e => by cases e; exact ⟨_, hK, rfl⟩)
  have hrow5 := ownsRow_putObj hrow (.deferred none) hK rfl
  have hb5 := hB.trans (belowK_b (w := w) (Nat.le_refl _) W D _ (.deferred none) (by omega) hK rfl rfl)
  generalize joinO fz fc (upto (fun j => (la[j]?.getD 0, lb[j]?.getD 0)) (max la.length lb.length)) = R at *
  refine ⟨.tuple #[v, .int .u64 (R.2 : Int)], ?_, v, rfl, ?_, hb5⟩
  · simp [results, Tryz.f139, go_sem, hcv5, hcc5]
  · refine ⟨hrow5.1, ?_⟩
    rcases hrow5.2 with h | ⟨g, cap, cur, h1, h2, h3⟩
    · exact .inl h
    · exact .inr ⟨g, cap, cur, h1, by omega, h3⟩
 case stop =>
  rintro D c pre W _ _ h _
  exact h.elim
theorem limbs_len_lt {n : Nat} (h : (limbs m).length < (limbs n).length) : m < n := by
 rcases Nat.lt_or_ge m n with h1 | h1
 · exact h1
 · have := len_mono h1
   omega
section
attribute [local go_sem] Oper.semAt_some
theorem back_any (a : Option Addr) (na ca : Nat) (w : World) :
  Calls Tryz.prog 161 #[.slice a na ca] w fun e w' => e = .returned (.func (.func 164) #[] #[.pointer (some ⟨w.heap.size, 0, none⟩)]) ∧
   w' = w.alloc (.cells #[.slice a na ca] 23) := by
 go_enter Tryz.func161, Tryz.ntmps161
 go_wp2
 go_ret
 exact ⟨rfl, rfl⟩
theorem back_stops (F : Fence) (n : Nat) (h8 : F.fn 164) (hro : F.round = none) (hn : 1 ≤ n) (Ba : Nat) (S : Nat → Prop) (hSa : S Ba) (A : Option Addr) (c : Nat) (l : List Nat) (w : World)
  (hS : ∀ k, S k → k < w.heap.size) (hBa : w.cell? ⟨Ba, 0, none⟩ = some (.slice A l.length c)) (ha : U64s w ⟨S, False⟩ A c l) :
  SeqStopsK F n Tryz.prog 164 #[.pointer (some ⟨Ba, 0, none⟩)] (encB l) (KeptAt S) (fun ys => ys.map (·.1) = backs l.length l.length)
   (fun pre => ∃ k, k ≤ l.length ∧ pre.map (·.1) = backs l.length k) l.length w := fun L J Jx W hW _ _ hY h0 => by
 refine (back1_in F n h8 hro hn L Ba S hSa A c l J Jx hY W ?_ (ha.below hW) h0).mono ?_
 · exact (hW.cell (p := ⟨Ba, 0, none⟩) (hS _ hSa)).trans hBa
 · rintro e W' ⟨he, h | ⟨pre, hp, hx⟩⟩
   · exact ⟨he, .inl h⟩
   · exact ⟨he, .inr ⟨pre, hp, hx⟩⟩
end
end Go.Proofs.YtcheajjjdbllfaaGreat
