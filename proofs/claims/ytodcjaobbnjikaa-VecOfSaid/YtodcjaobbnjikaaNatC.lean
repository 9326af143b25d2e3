/-
  The contract of nat.joined: limbs of two numbers, joined with a carry. No conditions.
-/
import Derived.RangeFuncNested
import Derived.RangeFuncBound
import Derived.RangeFuncCalls
import Derived.RangeFuncLeaves
import Derived.RangeFuncBox
import Derived.Shelf.Abstract
import Derived.Shelf.RegionOpen
import Derived.WalkKit
import Derived.OwnWalkIn
import Derived.TacticsInMore
import Derived.LoopNIn
import Derived.LoopIn
import Derived.Maps.AppendAt
import Derived.Test.YtodcjaobbnjikaaNatB
namespace Go.Proofs.Ytodcjaobbnjikaa
open Go.RowKit Go.Shelf
set_option linter.unusedVariables false
set_option linter.unusedSimpArgs false
attribute [local go_sem] Oper.semAt_some

/-- What comes of pairs of limbs, joined with a carry: the limbs, and the carry in the end. -/
def joinO (fz fc : Nat → Nat → Nat → Nat) (ps : List (Nat × Nat)) : List Nat × Nat := ps.foldl (fun s p => (s.1 ++ [fz (p.1 % 18446744073709551616) (p.2 % 18446744073709551616) s.2], fc (p.1 % 18446744073709551616) (p.2 % 18446744073709551616) s.2)) ([], 0)
theorem joinO_snoc (fz fc : Nat → Nat → Nat → Nat) (ps : List (Nat × Nat)) (p : Nat × Nat) : joinO fz fc (ps ++ [p]) = ((joinO fz fc ps).1 ++ [fz (p.1 % 18446744073709551616) (p.2 % 18446744073709551616) (joinO fz fc ps).2], fc (p.1 % 18446744073709551616) (p.2 % 18446744073709551616) (joinO fz fc ps).2) := by simp [joinO]
theorem snoc_ind {α : Type} {P : List α → Prop} (h0 : P []) (h1 : ∀ l x, P l → P (l ++ [x])) (l : List α) : P l := by
  have h : ∀ m : List α, P m.reverse := by
    intro m
    induction m with
    | nil => exact h0
    | cons x m ih => rw [List.reverse_cons]; exact h1 _ _ ih
  simpa using h l.reverse
theorem joinO_length (fz fc : Nat → Nat → Nat → Nat) (ps : List (Nat × Nat)) : (joinO fz fc ps).1.length = ps.length := by
  induction ps using snoc_ind with
  | h0 => rfl
  | h1 ps p ih => rw [joinO_snoc]; simp [ih]
theorem joinO_carry (fz fc : Nat → Nat → Nat → Nat) (hfc : ∀ x y c, x < 18446744073709551616 → y < 18446744073709551616 → c ≤ 1 → fc x y c ≤ 1) (ps : List (Nat × Nat)) : (joinO fz fc ps).2 ≤ 1 := by
  induction ps using snoc_ind with
  | h0 => exact Nat.zero_le _
  | h1 ps p ih => rw [joinO_snoc]; exact hfc _ _ _ (Nat.mod_lt _ (by omega)) (Nat.mod_lt _ (by omega)) ih

/-- 'out = append(out, v)': the box, the row and the rest behind it. -/
theorem box_appended {W w1 : World} {n₁ B : Nat} {t e : TypeId} {size : Nat} {v v' : Value} {k m : Nat} {xs ys : List Value} {tmp : Obj}
    (hv : Boxed W B t v) (hte : t ≠ e) (hrow : W.ownsRow n₁ e size v k xs) (hn₁ : n₁ ≤ W.heap.size) (hB : B < n₁)
    (hown' : w1.ownsRow n₁ e size v' m ys) (hgrow : (W.alloc tmp).grownBy w1 v.ownBlock) :
    Boxed w1 B t v ∧ Boxed (w1.setCell ⟨B, 0, none⟩ v') B t v' ∧ (w1.setCell ⟨B, 0, none⟩ v').ownsRow n₁ e size v' m ys ∧ KeepsOthers W (w1.setCell ⟨B, 0, none⟩ v') ∧
      (∀ j, j < n₁ → w1.heap[j]? = W.heap[j]?) := by
  have hv1 : Boxed w1 B t v := (hv.alloc tmp).kept hgrow (hv.not_row hte hrow)
  refine ⟨hv1, hv1.set v', hown'.kept (grownBy_setCell' w1 B v') (.inr (hv1.not_row hte hown').symm), ?_, ?_⟩
  · refine ((KeepsOthers.alloc W tmp).trans (KeepsOthers.of_grownBy hgrow fun j o ej hj => ?_)).trans (KeepsOthers.setCell _ _ _)
    rcases (hrow.alloc tmp).2 with ⟨rfl, _⟩ | ⟨g, cap, cur, rfl, _, hgb, _⟩
    · simp [Value.ownBlock] at ej
    · obtain rfl : g = j := by simpa [Value.ownBlock] using ej
      rw [hgb] at hj; cases hj; rfl
  · intro j hj
    refine (hgrow.block j (by simp; omega) (fun e => ?_)).trans (Below.heap_alloc W tmp j (by omega))
    rcases hrow.2 with ⟨rfl, _⟩ | ⟨g, cap, cur, rfl, hb, _, _⟩
    · simp [Value.ownBlock] at e
    · obtain rfl : j = g := by simpa [Value.ownBlock] using e
      omega
theorem keptAt_own {β : Type} {S : Nat → Prop} {B : Nat} {W0 : World} (hS : ∀ k, S k → k < W0.heap.size ∧ k < B) : OwnFrom B (fun (_ : β) W => KeptAt S W0 W ∧ W0.heap.size ≤ W.heap.size) := fun _ X Y row hs hg hr => by
  refine ⟨fun k hk => ?_, Nat.le_trans hs.2 hg.size⟩
  have := hS k hk
  exact (hg.block k (by omega) (fun e => by have := (hr k e.symm).1; omega)).trans (hs.1 k hk)

theorem Try.info62 : (Try.prog.info? 62).map (fun i => (i.zero, i.size, i.bytes)) = some (some (.int .u64 0), 1, 8) := by kernel_rfl

set_option maxRecDepth 100000 in
set_option maxHeartbeats 2000000 in
theorem joined_in (F : Fence) (n : Nat) (h3 : F.fn 64) (h5 : F.fn 88) (h6 : F.fn 104) (hro : F.round = none) (hn : 3 ≤ n) (g : FuncId) (hgF : F.fn g) (fz fc : Nat → Nat → Nat → Nat)
    (hof : ∀ (x y c : Nat) (w : World), x < 18446744073709551616 → y < 18446744073709551616 → c ≤ 1 → (callFunc g #[.int .u64 (x : Int), .int .u64 (y : Int), .int .u64 (c : Int)]).run Try.prog w = .ok (.value (.tuple #[.int .u64 (fz x y c : Int), .int .u64 (fc x y c : Int)])) w)
    (hfc : ∀ x y c, x < 18446744073709551616 → y < 18446744073709551616 → c ≤ 1 → fc x y c ≤ 1) {Z : Zone} {A A' : Option Addr} {ca cb : Nat} {la lb : List Nat} (w : World) (ha : U64s w Z A ca la) (hb : U64s w Z A' cb lb) (hla : la.length ≤ 1000000) (hlb : lb.length ≤ 1000000) :
    CallsIn F n Try.prog 64 #[.slice A la.length ca, .slice A' lb.length cb, .func (.func g) #[] #[]] w fun e W' => ∃ v, e = .returned (.tuple #[v, .int .u64 ((joinO fz fc (upto (fun j => (la[j]?.getD 0, lb[j]?.getD 0)) (max la.length lb.length))).2 : Int)]) ∧
      W'.ownsRow w.heap.size 62 1 v (max la.length lb.length) ((joinO fz fc (upto (fun j => (la[j]?.getD 0, lb[j]?.getD 0)) (max la.length lb.length))).1.map fun x : Nat => Value.int .u64 (x : Int)) ∧ Below w.heap.size w W' := by
  have h1 : 1 ≤ n := by omega
  obtain ⟨i0, hi, hz0, hz1, hz2⟩ := info_parts Try.info62
  refine callsIn_of_wp_marks Try.func64 rfl h3 ?_ hro
  simp only [Try.ntmps64, List.size_toArray, List.length_cons, List.length_nil, Nat.reduceAdd, Nat.reduceSub, Array.replicate_succ, Array.replicate_zero, List.push_toArray, List.append_toArray, List.nil_append, List.cons_append]
  gi_wp2_with (gi_at_call 88; refine (pairs_in F (n - 1) h5 hro _ _ _ _ _ _ _).mono ?_; rintro e w' ⟨rfl, rfl⟩)
  have hoff := Lib.hid hof
  have hfcc := Lib.hid hfc
  clear hof hfc
  have hB0 : Below w.heap.size w (((((w.alloc (.cells #[.func (.func g) #[] #[]] 88)).alloc (.cells #[.slice none 0 0] 46)).alloc (.cells #[.int .u64 0] 62)).alloc (.cells #[.slice A la.length ca] 46)).alloc (.cells #[.slice A' lb.length cb] 46)) :=
    ((((((Below.refl _ w).alloc (Nat.le_refl _) _).alloc (by simp) _).alloc (by simp; omega) _).alloc (by simp; omega) _).alloc (by simp; omega) _)
  have bF := ((((Boxed.new w 88 (.func (.func g) #[] #[])).alloc (.cells #[.slice none 0 0] 46)).alloc (.cells #[.int .u64 0] 62)).alloc (.cells #[.slice A la.length ca] 46)).alloc (.cells #[.slice A' lb.length cb] 46)
  have bO := (((Boxed.new (w.alloc (.cells #[.func (.func g) #[] #[]] 88)) 46 (.slice none 0 0)).alloc (.cells #[.int .u64 0] 62)).alloc (.cells #[.slice A la.length ca] 46)).alloc (.cells #[.slice A' lb.length cb] 46)
  have bC := ((Boxed.new ((w.alloc (.cells #[.func (.func g) #[] #[]] 88)).alloc (.cells #[.slice none 0 0] 46)) 62 (.int .u64 0)).alloc (.cells #[.slice A la.length ca] 46)).alloc (.cells #[.slice A' lb.length cb] 46)
  have bA := (Boxed.new (((w.alloc (.cells #[.func (.func g) #[] #[]] 88)).alloc (.cells #[.slice none 0 0] 46)).alloc (.cells #[.int .u64 0] 62)) 46 (.slice A la.length ca)).alloc (.cells #[.slice A' lb.length cb] 46)
  have bB := Boxed.new ((((w.alloc (.cells #[.func (.func g) #[] #[]] 88)).alloc (.cells #[.slice none 0 0] 46)).alloc (.cells #[.int .u64 0] 62)).alloc (.cells #[.slice A la.length ca] 46)) 46 (.slice A' lb.length cb)
  have hsz : (((((w.alloc (.cells #[.func (.func g) #[] #[]] 88)).alloc (.cells #[.slice none 0 0] 46)).alloc (.cells #[.int .u64 0] 62)).alloc (.cells #[.slice A la.length ca] 46)).alloc (.cells #[.slice A' lb.length cb] 46)).heap.size = w.heap.size + 5 := by simp
  simp only [World.size_alloc] at bO bC bA bB
  generalize (((((w.alloc (.cells #[.func (.func g) #[] #[]] 88)).alloc (.cells #[.slice none 0 0] 46)).alloc (.cells #[.int .u64 0] 62)).alloc (.cells #[.slice A la.length ca] 46)).alloc (.cells #[.slice A' lb.length cb] 46)) = W0 at *
  obtain ⟨S, hS⟩ : ∃ S : Nat → Prop, S = fun k => k < w.heap.size + 5 ∧ k ≠ w.heap.size + 1 ∧ k ≠ w.heap.size + 1 + 1 := ⟨_, rfl⟩
  have hSi : ∀ k, S k ↔ (k < w.heap.size + 5 ∧ k ≠ w.heap.size + 1 ∧ k ≠ w.heap.size + 1 + 1) := fun k => by rw [hS]
  clear hS
  have hS0 : S w.heap.size := (hSi _).2 ⟨by omega, by omega, by omega⟩
  have Hsz := Lib.hid hsz
  have hszle : W0.heap.size ≤ w.heap.size + 5 := by omega
  have hszge : w.heap.size + 5 ≤ W0.heap.size := by omega
  clear hsz
  have hkK : ∀ (W : World) (l : Nat) (o o' : Obj), W0.heap.size ≤ l → W.heap[l]? = some o → o.isCells = false → o.isWalk = false → KeptAt S W (W.putObj l o') := fun W l o o' hl _ _ _ k hk =>
    World.putObj_heap_other (fun e => by have := (hSi k).1 hk; omega)
  have ua : U64s W0 ⟨S, False⟩ A ca la := ⟨ha.small, ha.cap, ha.max, ha.nul, fun h0 => by
    obtain ⟨b, o, e, _, _, hc⟩ := ha.row h0
    have hlt := lt_of_cell (hc 0 _ (List.getElem?_eq_getElem h0))
    have hlt' : b < w.heap.size := hlt
    exact ⟨b, o, e, (hSi b).2 ⟨by omega, by omega, by omega⟩, fun h => h.elim, fun j u hu => (hB0.cell (p := ⟨b, o + j, none⟩) hlt').trans (hc j u hu)⟩⟩
  have ub : U64s W0 ⟨S, False⟩ A' cb lb := ⟨hb.small, hb.cap, hb.max, hb.nul, fun h0 => by
    obtain ⟨b, o, e, _, _, hc⟩ := hb.row h0
    have hlt := lt_of_cell (hc 0 _ (List.getElem?_eq_getElem h0))
    have hlt' : b < w.heap.size := hlt
    exact ⟨b, o, e, (hSi b).2 ⟨by omega, by omega, by omega⟩, fun h => h.elim, fun j u hu => (hB0.cell (p := ⟨b, o + j, none⟩) hlt').trans (hc j u hu)⟩⟩
  refine wpIn_rangeFunc_ownG hro h1 (gf := 104) (lb := #[.pointer (some ⟨w.heap.size + 1 + 1 + 1, 0, none⟩), .pointer (some ⟨w.heap.size + 1 + 1 + 1 + 1, 0, none⟩)]) rfl h6 (enters_of Try.func104 (by kernel_rfl) rfl)
    (pairs_stops F (n - 1) h6 hro (by omega) (w.heap.size + 1 + 1 + 1) (w.heap.size + 1 + 1 + 1 + 1) S ((hSi _).2 ⟨by omega, by omega, by omega⟩) ((hSi _).2 ⟨by omega, by omega, by omega⟩) A A' ca cb la lb W0 (fun k hk => by have := (hSi k).1 hk; omega) bA.cell bB.cell ua ub)
    (fun h k => KeptAt.trans h k) hkK (Below.refl _ _) (fun _ => rfl)
    (fun pre W => (∃ v, Boxed W (w.heap.size + 1) 46 v ∧ W.ownsRow (w.heap.size + 5) 62 1 v (joinO fz fc pre).1.length ((joinO fz fc pre).1.map fun x : Nat => Value.int .u64 (x : Int)) ∧ True) ∧
      (Boxed W (w.heap.size + 1 + 1) 62 (.int .u64 ((joinO fz fc pre).2 : Int)) ∧ ((KeptAt S W0 W ∧ W0.heap.size ≤ W.heap.size) ∧ Below w.heap.size w W)))
    (fun _ _ _ => False)
    (OwnFrom.and (Own.from (holdsRow_own (w.heap.size + 5) (w.heap.size + 1) 46 62 1 (fun pre => (joinO fz fc pre).1.length) (fun pre => (joinO fz fc pre).1.map fun x : Nat => Value.int .u64 (x : Int)) (fun _ _ => True)) _)
      (OwnFrom.and (Own.from (boxed_own _ _ _) _) (OwnFrom.and (keptAt_own (fun k hk => by have := (hSi k).1 hk; omega)) (ownFrom_below (Nat.le_refl _) (by omega)))))
    (fun _ _ _ _ _ hs _ _ => hs)
    ⟨⟨_, bO, World.ownsRow_nil _ _ _ _, trivial⟩, bC, ⟨KeptAt.refl _ _, Nat.le_refl _⟩, hB0⟩
    (fun x => { tmps := #[.slice A la.length ca, .slice A' lb.length cb, .func (.func g) #[] #[], undef, undef, .pointer (some ⟨w.heap.size, 0, none⟩), .pointer (some ⟨w.heap.size + 1, 0, none⟩), .pointer (some ⟨w.heap.size + 1 + 1, 0, none⟩), .int .u64 ((x.1 % 18446744073709551616 : Nat) : Int), .int .u64 ((x.2 % 18446744073709551616 : Nat) : Int), undef,
      .slice A la.length ca, .slice A' lb.length cb, .func (.func 104) #[] #[.pointer (some ⟨w.heap.size + 1 + 1 + 1, 0, none⟩), .pointer (some ⟨w.heap.size + 1 + 1 + 1 + 1, 0, none⟩)], .int .u64 ((x.1 % 18446744073709551616 : Nat) : Int), .int .u64 ((x.2 % 18446744073709551616 : Nat) : Int), undef, undef, undef, undef, undef, undef, undef, undef, undef, undef, undef, undef], defers := [] }) ?assign ?body ?done ?stop
  case assign =>
    intro l x W K hK
    gi_wp2
    exact hK
  case body =>
    rintro l pre x W ⟨⟨v, hv, hrow, _⟩, hc, ⟨hk, hle⟩, hB⟩ hlt
    have hcv := hv.cell
    have hcc := hc.cell
    have hcf := hc.frozen
    have hF : W.cell? ⟨w.heap.size, 0, none⟩ = some (.func (.func g) #[] #[]) := (hk.cell (p := ⟨w.heap.size, 0, none⟩) hS0).trans bF.cell
    have hlo := Lib.hid (joinO_length fz fc pre)
    have hlt' : (joinO fz fc pre).1.length ≤ 1000000 := by have := hlo.out; omega
    have hsn := Lib.hid (joinO_snoc fz fc pre x)
    have hcar := joinO_carry fz fc hfcc.out pre
    generalize (joinO fz fc pre).2 = cy at *
    have hx1 : x.1 % 18446744073709551616 < 18446744073709551616 := Nat.mod_lt _ (by omega)
    have hx2 : x.2 % 18446744073709551616 < 18446744073709551616 := Nat.mod_lt _ (by omega)
    generalize x.1 % 18446744073709551616 = X1 at *
    generalize x.2 % 18446744073709551616 = X2 at *
    have hrun := fun w => hoff.out X1 X2 cy w hx1 hx2 hcar
    generalize fz X1 X2 cy = z1 at *
    generalize fc X1 X2 cy = c1 at *
    have hv1 : Boxed (W.setCell ⟨w.heap.size + 1 + 1, 0, none⟩ (.int .u64 (c1 : Int))) (w.heap.size + 1) 46 v := hv.other (by omega) _
    have hc1 : Boxed (W.setCell ⟨w.heap.size + 1 + 1, 0, none⟩ (.int .u64 (c1 : Int))) (w.heap.size + 1 + 1) 62 (.int .u64 (c1 : Int)) := hc.set _
    have hrow1 := ownsRow_setCell_below hrow (a := ⟨w.heap.size + 1 + 1, 0, none⟩) (by simp) (.int .u64 (c1 : Int))
    have hcv1 := hv1.cell
    have hb1 : ∀ k, k ≠ w.heap.size + 1 + 1 → (W.setCell ⟨w.heap.size + 1 + 1, 0, none⟩ (.int .u64 (c1 : Int))).heap[k]? = W.heap[k]? := fun k hk => Below.heap_setCell _ _ _ _ hk
    have Hb1 := Lib.hid hb1
    have hz1' : (W.setCell ⟨w.heap.size + 1 + 1, 0, none⟩ (.int .u64 (c1 : Int))).heap.size = W.heap.size := by simp [World.setCell]
    have Hz1 := Lib.hid hz1'
    clear hb1 hz1'
    gi_wp2_with (gi_at_builtin; go_loud (refine wpListIn_append_own _ rfl _ _ 46 rfl (w.heap.size + 5) 62 i0 (.int .u64 0) 1 8 Try.underlying46 hi hz0 hz1 hz2 rfl (by decide) _ _ _ rfl (hrow1.alloc _) ⟨W.heap.size, 0, none⟩ 1 1 [.int .u64 (z1 : Int)] rfl rfl (by simpa [World.setCell] using cell_one_new (W.setCell ⟨w.heap.size + 1 + 1, 0, none⟩ (.int .u64 (c1 : Int))) _ _) (by simp [Value.oneCell']) (by simp only [maxLen]; omega) (by omega) (by simp; omega) ?_); intro v' w1 hown' hgrow _; obtain ⟨g', cap', rfl⟩ := ownsRow_succ hown'; obtain ⟨hv3, hv2, hr2, hk2, hb2⟩ := box_appended hv1 (by decide) hrow1 (by simp; omega) (by omega) hown' hgrow; have hcv3 := hv3.cell; have hcf3 := hv3.frozen)
    have hkeep : ∀ k, k < w.heap.size + 5 → k ≠ w.heap.size + 1 → k ≠ w.heap.size + 1 + 1 → (w1.setCell ⟨w.heap.size + 1, 0, none⟩ (.slice (some ⟨g', 0, none⟩) ((joinO fz fc pre).1.length + 1) cap')).heap[k]? = W.heap[k]? :=
      fun k h1 h2 h3 => (Below.heap_setCell _ _ _ _ h2).trans ((hb2 k h1).trans (Hb1.out k h3))
    have hk3 : KeptAt S W (w1.setCell ⟨w.heap.size + 1, 0, none⟩ (.slice (some ⟨g', 0, none⟩) ((joinO fz fc pre).1.length + 1) cap')) := fun k hk => by have := (hSi k).1 hk; exact hkeep k this.1 this.2.1 this.2.2
    have hgw : W.heap.size ≤ w1.heap.size := by have := hgrow.size; simp at this; omega
    have hsz3 : W.heap.size ≤ (w1.setCell ⟨w.heap.size + 1, 0, none⟩ (.slice (some ⟨g', 0, none⟩) ((joinO fz fc pre).1.length + 1) cap')).heap.size := by simp [World.setCell]; exact hgw
    refine ⟨((KeepsOthers.setCell _ _ _).trans hk2).from _, hk3, ⟨_, hv2, ?_, trivial⟩, ?_, ⟨hk.trans hk3, Nat.le_trans hle hsz3⟩, ?_⟩
    · rw [hsn.out]; simpa using hr2
    · rw [hsn.out]
      refine Boxed.other ?_ (by omega) _
      exact (hb2 _ (by omega)).trans hc1
    · refine hB.trans ⟨?_, ?_, ?_, hsz3, fun k hk => hkeep k (by omega) (by omega) (by omega)⟩
      · exact hgrow.os
      · exact hgrow.tape
      · exact hgrow.output
  case done =>
    rintro D ys W hD rfl ⟨⟨v, hv, hrow, _⟩, hc, ⟨hk, hle⟩, hB⟩ hK
    have hcv := hv.cell
    have hcc := hc.cell
    gi_wp2
    refine ⟨by simp, .inl ⟨_, _, rfl, run_takeDeferred hK, ?_⟩⟩
    have hlo := joinO_length fz fc (upto (fun j => (la[j]?.getD 0, lb[j]?.getD 0)) (max la.length lb.length))
    rw [upto_length] at hlo
    rw [hlo] at hrow
    have hcv5 := cell_kept hcv (grownBy_putObj' _ D (.deferred none)) (fun r e => by cases e; exact ⟨_, hK, rfl⟩)
    have hcc5 := cell_kept hcc (grownBy_putObj' _ D (.deferred none)) (fun r e => by cases e; exact ⟨_, hK, rfl⟩)
    have hrow5 := ownsRow_putObj hrow (.deferred none) hK rfl
    have hb5 := hB.trans (belowK_b (w := w) (Nat.le_refl _) W D _ (.deferred none) (by omega) hK rfl rfl)
    generalize joinO fz fc (upto (fun j => (la[j]?.getD 0, lb[j]?.getD 0)) (max la.length lb.length)) = R at *
    refine ⟨.tuple #[v, .int .u64 (R.2 : Int)], ?_, v, rfl, ?_, hb5⟩
    · simp [results, Try.f64, go_sem, hcv5, hcc5]
    · refine ⟨hrow5.1, ?_⟩
      rcases hrow5.2 with h | ⟨g, cap, cur, h1, h2, h3⟩
      · exact .inl h
      · exact .inr ⟨g, cap, cur, h1, by omega, h3⟩
  case stop =>
    rintro D c pre W _ _ h _
    exact h.elim
end Go.Proofs.Ytodcjaobbnjikaa
