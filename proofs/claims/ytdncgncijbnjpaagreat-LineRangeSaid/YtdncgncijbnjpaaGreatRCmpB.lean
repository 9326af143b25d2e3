/- The contract of nat.compare. No conditions. -/
import Derived.RangeFuncNested
import Derived.RangeFuncBound
import Derived.RangeFuncCalls
import Derived.RangeFuncLeaves
import Derived.RangeFuncBox
import Derived.Shelf.Abstract
import Derived.Shelf.RegionOpen
import Derived.WalkKit
import Derived.OwnWalkIn
import Derived.TacticsInMore
import Derived.LoopNIn
import Derived.LoopIn
import Derived.Maps.AppendAt
import Derived.Test.YtdncgncijbnjpaaGreatRNatA
set_option linter.unusedVariables false
set_option linter.unusedSimpArgs false
set_option maxRecDepth 100000
set_option maxHeartbeats 40000000
namespace Go.Proofs.YtdncgncijbnjpaaGreat
open Go.Lib (hid)
open Go.RowKit Go.Shelf
attribute [local go_sem] Oper.semAt_some
variable {B m : Nat} {W : World}
def KeptAt (S : Nat → Prop) (W W' : World) : Prop := ∀ k, S k → W'.heap[k]? = W.heap[k]?
theorem KeptAt.refl (S : Nat → Prop) (W : World) : KeptAt S W W := fun _ _ => rfl
theorem KeptAt.trans {S : Nat → Prop} {A B C : World} (h : KeptAt S A B) (k : KeptAt S B C) : KeptAt S A C := fun i hi => (k i hi).trans (h i hi)
theorem KeptAt.cell {S : Nat → Prop} {W' : World} (h : KeptAt S W W') {p : Addr} (hp : S p.block) : W'.cell? p = W.cell? p := World.cell?_of_block (w := W) (h p.block hp)
def upto {α : Type} (f : Nat → α) (k : Nat) : List α := (List.range k).map f
theorem upto_succ {α : Type} (f : Nat → α) (k : Nat) : upto f (k + 1) = upto f k ++ [f k] := by simp [upto, List.range_succ]
theorem upto_length {α : Type} (f : Nat → α) (k : Nat) : (upto f k).length = k := by simp [upto]
abbrev encP (p : Nat × Nat) : Array Value := #[.int .u64 ((p.1 % 18446744073709551616 : Nat) : Int), .int .u64 ((p.2 % 18446744073709551616 : Nat) : Int)]
theorem pairs1_in (F : Fence) (n : Nat) (h8 : F.fn 279) (hro : F.round = none) (hn : 1 ≤ n) (l Ba Bb : Nat) (S : Nat → Prop) (hSa : S Ba) (hSb : S Bb)
  (A A' : Option Addr) (ca cb : Nat) (la lb : List Nat) (J Jx : List (Nat × Nat) → World → Prop)
  (hY : ∀ pre x W, J pre W → pre.length < max la.length lb.length → YieldAt F (n - 1) Tryz.prog l #[.int .u64 ((x.1 % 18446744073709551616 : Nat) : Int), .int .u64 ((x.2 % 18446744073709551616 : Nat) : Int)] W fun e W' =>
   (e = .returned (.bool true) ∧ J (pre ++ [x]) W' ∧ KeptAt S W W') ∨ (e = .returned (.bool false) ∧ Jx (pre ++ [x]) W'))
  (W : World) (hBa : W.cell? ⟨Ba, 0, none⟩ = some (.slice A la.length ca)) (hBb : W.cell? ⟨Bb, 0, none⟩ = some (.slice A' lb.length cb))
  (ha : U64s W ⟨S, False⟩ A ca la) (hb : U64s W ⟨S, False⟩ A' cb lb) (h0 : J [] W) :
  CallsIn F n Tryz.prog 279 #[.func (.yield l) #[] #[], .pointer (some ⟨Ba, 0, none⟩), .pointer (some ⟨Bb, 0, none⟩)] W fun e W' => (∃ v, e = .returned v) ∧
   ((∃ ys, ys = upto (fun j => (la[j]?.getD 0, lb[j]?.getD 0)) (max la.length lb.length) ∧ J ys W') ∨ (∃ pre : List (Nat × Nat), Jx pre W')) := by
 have X := ha.len
 have Y := hb.len
 refine callsIn_of_wp Tryz.func279 rfl h8 ?_ hro
 simp only [Tryz.ntmps279, List.size_toArray, List.length_cons, List.length_nil, Nat.reduceAdd, Nat.reduceSub, Array.replicate_succ, Array.replicate_zero, List.push_toArray, List.append_toArray, List.nil_append, List.cons_append]
 rcases Nat.lt_or_ge la.length lb.length with hm | hm
 all_goals
  gi_wp2
  gi_loopw [12] (fun i wr => ∃ k : Nat, k ≤ max la.length lb.length ∧ i = .int .i64 k ∧ J (upto (fun j => (la[j]?.getD 0, lb[j]?.getD 0)) k) wr ∧ KeptAt S W wr)
   (fun i _ => max la.length lb.length - (intOf i).toNat)
  case atStart => exact ⟨0, Nat.zero_le _, rfl, h0, KeptAt.refl _ _⟩
  case round =>
   obtain ⟨k, g, rfl, G, B⟩ := hrel
   have Z := (B.cell (p := ⟨Ba, 0, none⟩) hSa).trans hBa
   have a := (B.cell (p := ⟨Bb, 0, none⟩) hSb).trans hBb
   by_cases hlt : k < max la.length lb.length
   · have E := upto_succ (fun j => (la[j]?.getD 0, lb[j]?.getD 0)) k
     have L : (upto (fun j => (la[j]?.getD 0, lb[j]?.getD 0)) k).length < max la.length lb.length := by rw [upto_length]; exact hlt
     obtain ⟨x, C⟩ : ∃ x, x = la[k]?.getD 0 := ⟨_, rfl⟩
     obtain ⟨y, D⟩ : ∃ y, y = lb[k]?.getD 0 := ⟨_, rfl⟩
     have O : (∃ b o, A = some ⟨b, o, none⟩ ∧ wr.cell? ⟨b, o + k, none⟩ = some (.int .u64 (x : Int)) ∧ k < la.length) ∨ (la.length ≤ k ∧ x = 0) := by
      rcases Nat.lt_or_ge k la.length with hka | hka
      · obtain ⟨b, o, e, H, _, _, I⟩ := ha.open (by omega)
        exact .inl ⟨b, o, e, by rw [B.cell (p := ⟨b, o + k, none⟩) H, I k hka, C]; simp [hka], hka⟩
      · exact .inr ⟨hka, by simp [C, hka]⟩
     have P : (∃ b o, A' = some ⟨b, o, none⟩ ∧ wr.cell? ⟨b, o + k, none⟩ = some (.int .u64 (y : Int)) ∧ k < lb.length) ∨ (lb.length ≤ k ∧ y = 0) := by
      rcases Nat.lt_or_ge k lb.length with hka | hka
      · obtain ⟨b, o, e, H, _, _, I⟩ := hb.open (by omega)
        exact .inl ⟨b, o, e, by rw [B.cell (p := ⟨b, o + k, none⟩) H, I k hka, D]; simp [hka], hka⟩
      · exact .inr ⟨hka, by simp [D, hka]⟩
     rw [← C, ← D] at E
     have M : x % 18446744073709551616 = x := Nat.mod_eq_of_lt (by rw [C]; exact ha.small.getD k)
     have N : y % 18446744073709551616 = y := Nat.mod_eq_of_lt (by rw [D]; exact hb.small.getD k)
     clear C D ha hb
     obtain ⟨fn, h, m, q, K, R⟩ := hY _ (x, y) wr G L
     dsimp only at K
     rw [M, N] at K
     clear M N
     have Q := hid E
     clear E L G hY h0 hBa hBb
     rcases O with ⟨b, o, rfl, hca, hka⟩ | ⟨hka, rfl⟩ <;> rcases P with ⟨b', o', rfl, hcb, hkb⟩ | ⟨hkb, rfl⟩
     all_goals try (exfalso; omega)
     all_goals
      try simp only [Int.natCast_zero] at K
      gi_wp2
      refine R.mono ?_
      rintro e r (⟨rfl, T, U⟩ | ⟨rfl, V⟩)
      · gi_wp2
        go_roundw
        case rel => exact ⟨k + 1, by omega, by simp, by rw [Q.out]; exact T, B.trans U⟩
        case measure => simp [intOf]; omega
      · gi_wp2
        refine bodyPost_ret (results_none rfl _ _ _) rfl ?_
        exact ⟨⟨_, rfl⟩, .inr ⟨_, V⟩⟩
   · obtain rfl : k = max la.length lb.length := by omega
     have c : decide (((max la.length lb.length : Nat) : Int) < (la.length : Int)) = false := by simp; omega
     have d : decide (((max la.length lb.length : Nat) : Int) < (lb.length : Int)) = false := by simp; omega
     gi_wp2
     go_end0
     exact ⟨⟨_, rfl⟩, .inl ⟨_, rfl, G⟩⟩
theorem pairs_in (F : Fence) (n : Nat) (h6 : F.fn 269) (hro : F.round = none) (a b : Option Addr) (na ca nb cb : Nat) (w : World) :
  CallsIn F n Tryz.prog 269 #[.slice a na ca, .slice b nb cb] w fun e w' => e = .returned (.func (.func 279) #[] #[.pointer (some ⟨w.heap.size, 0, none⟩), .pointer (some ⟨w.heap.size + 1, 0, none⟩)]) ∧
   w' = (w.alloc (.cells #[.slice a na ca] 33)).alloc (.cells #[.slice b nb cb] 33) := by
 refine callsIn_of_wp Tryz.func269 rfl h6 ?_ hro
 simp only [Tryz.ntmps269, List.size_toArray, List.length_cons, List.length_nil, Nat.reduceAdd, Nat.reduceSub, Array.replicate_succ, Array.replicate_zero, List.push_toArray, List.append_toArray, List.nil_append, List.cons_append]
 gi_wp2
 go_ret
 exact ⟨rfl, rfl⟩
theorem pairs_stops (F : Fence) (n : Nat) (h8 : F.fn 279) (hro : F.round = none) (hn : 1 ≤ n) (Ba Bb : Nat) (S : Nat → Prop) (hSa : S Ba) (hSb : S Bb) (A A' : Option Addr) (ca cb : Nat) (la lb : List Nat) (w : World)
  (hS : ∀ k, S k → k < w.heap.size) (hBa : w.cell? ⟨Ba, 0, none⟩ = some (.slice A la.length ca)) (hBb : w.cell? ⟨Bb, 0, none⟩ = some (.slice A' lb.length cb))
  (ha : U64s w ⟨S, False⟩ A ca la) (hb : U64s w ⟨S, False⟩ A' cb lb) :
  SeqStopsK F n Tryz.prog 279 #[.pointer (some ⟨Ba, 0, none⟩), .pointer (some ⟨Bb, 0, none⟩)] encP (KeptAt S) (fun ys => ys = upto (fun j => (la[j]?.getD 0, lb[j]?.getD 0)) (max la.length lb.length))
   (fun _ => True) (max la.length lb.length) w := fun l J Jx W hW _ _ hY h0 => by
 refine (pairs1_in F n h8 hro hn l Ba Bb S hSa hSb A A' ca cb la lb J Jx hY W ?_ ?_ (ha.below hW) (hb.below hW) h0).mono ?_
 · exact (hW.cell (p := ⟨Ba, 0, none⟩) (hS _ hSa)).trans hBa
 · exact (hW.cell (p := ⟨Bb, 0, none⟩) (hS _ hSb)).trans hBb
 · rintro e E ⟨B, h | ⟨C, D⟩⟩
   · exact ⟨B, .inl h⟩
   · exact ⟨B, .inr ⟨C, trivial, D⟩⟩
section
attribute [local go_sem] Oper.semAt_some
abbrev Place (l : List Nat) := { i : Nat // i < l.length }
abbrev encB (l : List Nat) (i : Place l) : Array Value := #[.int .i64 (i.1 : Int), .int .u64 ((l[i.1]'i.2 : Nat) : Int)]
def backs (n k : Nat) : List Nat := upto (fun j => n - 1 - j) k
theorem backs_succ (n k : Nat) : backs n (k + 1) = backs n k ++ [n - 1 - k] := upto_succ _ _
theorem back1_in (F : Fence) (n : Nat) (h8 : F.fn 295) (hro : F.round = none) (hn : 1 ≤ n) (L Ba : Nat) (S : Nat → Prop) (hSa : S Ba) (A : Option Addr) (c : Nat) (l : List Nat)
  (J Jx : List (Place l) → World → Prop)
  (hY : ∀ pre x W, J pre W → pre.length < l.length → YieldAt F (n - 1) Tryz.prog L #[.int .i64 (x.1 : Int), .int .u64 ((l[x.1]'x.2 : Nat) : Int)] W fun e W' =>
   (e = .returned (.bool true) ∧ J (pre ++ [x]) W' ∧ KeptAt S W W') ∨ (e = .returned (.bool false) ∧ Jx (pre ++ [x]) W'))
  (W : World) (hBa : W.cell? ⟨Ba, 0, none⟩ = some (.slice A l.length c)) (ha : U64s W ⟨S, False⟩ A c l) (h0 : J [] W) :
  CallsIn F n Tryz.prog 295 #[.func (.yield L) #[] #[], .pointer (some ⟨Ba, 0, none⟩)] W fun e W' => (∃ v, e = .returned v) ∧
   ((∃ ys : List (Place l), ys.map (·.1) = backs l.length l.length ∧ J ys W') ∨ (∃ pre : List (Place l), (∃ k, k ≤ l.length ∧ pre.map (·.1) = backs l.length k) ∧ Jx pre W')) := by
 have g := ha.len
 refine callsIn_of_wp Tryz.func295 rfl h8 ?_ hro
 simp only [Tryz.ntmps295, List.size_toArray, List.length_cons, List.length_nil, Nat.reduceAdd, Nat.reduceSub, Array.replicate_succ, Array.replicate_zero, List.push_toArray, List.append_toArray, List.nil_append, List.cons_append]
 gi_wp2
 gi_loopw [3] (fun i wr => ∃ (k : Nat) (pre : List (Place l)), k ≤ l.length ∧ i = .int .i64 ((l.length : Int) - 1 - k) ∧ Hid (pre.map (·.1) = backs l.length k) ∧ pre.length = k ∧ J pre wr ∧ KeptAt S W wr)
  (fun i _ => (intOf i + 1).toNat)
 case atStart => exact ⟨0, [], Nat.zero_le _, by simp, rfl, rfl, h0, KeptAt.refl _ _⟩
 case round =>
  obtain ⟨k, pre, m, rfl, B, C, O, D⟩ := hrel
  have R := hid C
  have h := (D.cell (p := ⟨Ba, 0, none⟩) hSa).trans hBa
  by_cases hlt : k < l.length
  · obtain ⟨⟨i, hi⟩, E⟩ : ∃ y : Place l, y.1 = l.length - 1 - k := ⟨⟨l.length - 1 - k, by omega⟩, rfl⟩
    dsimp only at E
    obtain ⟨fn, q, r, s, T, P⟩ := hY pre ⟨i, hi⟩ wr O (by omega)
    dsimp only at T
    obtain ⟨b, o, rfl, U, _, _, Q⟩ := ha.open (by omega)
    have j := (D.cell (p := ⟨b, o + i, none⟩) U).trans (Q _ hi)
    have G : (l.length : Int) - 1 - k = i := by omega
    have H : (i : Int) - 1 = (l.length : Int) - 1 - ((k + 1 : Nat) : Int) := by omega
    have I : (pre ++ [(⟨i, hi⟩ : Place l)]).map (·.1) = backs l.length (k + 1) := by rw [List.map_append, B.out, backs_succ, ← E]; rfl
    have K := hid I
    have M : (intOf (.int .i64 ((i : Int) - 1)) + 1).toNat < (intOf (.int .i64 (i : Int)) + 1).toNat := by simp only [intOf]; omega
    obtain ⟨V, X, Y⟩ := hid3 P H M
    clear P hY h0 C Q I H E B M
    generalize l[i] = x at *
    rw [G]
    clear G
    gi_wp2
    refine V.out.mono ?_
    rintro e t (⟨rfl, Z, a⟩ | ⟨rfl, d⟩)
    · gi_wp2
      go_roundw
      case rel => exact ⟨k + 1, pre ++ [⟨i, hi⟩], by omega, by first | rw [← X.out] | rfl, K, by simp [R.out], Z, D.trans a⟩
      case measure => exact Y.out
    · gi_wp2
      refine bodyPost_ret (results_none rfl _ _ _) rfl ?_
      exact ⟨⟨_, rfl⟩, .inr ⟨_, ⟨k + 1, by omega, K.out⟩, d⟩⟩
  · obtain rfl : k = l.length := by omega
    have N : (l.length : Int) - 1 - (l.length : Int) = -1 := by omega
    rw [N]
    clear N C
    gi_wp2
    go_end0
    exact ⟨⟨_, rfl⟩, .inl ⟨pre, B.out, O⟩⟩
end
attribute [local go_sem] Oper.semAt_some
def joinO (fz fc : Nat → Nat → Nat → Nat) (ps : List (Nat × Nat)) : List Nat × Nat := ps.foldl (fun s p => (s.1 ++ [fz (p.1 % 18446744073709551616) (p.2 % 18446744073709551616) s.2], fc (p.1 % 18446744073709551616) (p.2 % 18446744073709551616) s.2)) ([], 0)
theorem joinO_snoc (fz fc : Nat → Nat → Nat → Nat) (ps : List (Nat × Nat)) (p : Nat × Nat) : joinO fz fc (ps ++ [p]) = ((joinO fz fc ps).1 ++ [fz (p.1 % 18446744073709551616) (p.2 % 18446744073709551616) (joinO fz fc ps).2], fc (p.1 % 18446744073709551616) (p.2 % 18446744073709551616) (joinO fz fc ps).2) := by simp [joinO]
theorem snoc_ind {α : Type} {P : List α → Prop} (h0 : P []) (h1 : ∀ l x, P l → P (l ++ [x])) (l : List α) : P l := by
 have h : ∀ m : List α, P m.reverse := by
  intro m
  induction m with
  | nil => exact h0
  | cons x m ih => rw [List.reverse_cons]; exact h1 _ _ ih
 simpa using h l.reverse
theorem joinO_length (fz fc : Nat → Nat → Nat → Nat) (ps : List (Nat × Nat)) : (joinO fz fc ps).1.length = ps.length := by
 induction ps using snoc_ind with
 | h0 => rfl
 | h1 ps p ih => rw [joinO_snoc]; simp [ih]
theorem joinO_carry (fz fc : Nat → Nat → Nat → Nat) (hfc : ∀ x y c, x < 18446744073709551616 → y < 18446744073709551616 → c ≤ 1 → fc x y c ≤ 1) (ps : List (Nat × Nat)) : (joinO fz fc ps).2 ≤ 1 := by
 induction ps using snoc_ind with
 | h0 => exact Nat.zero_le _
 | h1 ps p ih => rw [joinO_snoc]; exact hfc _ _ _ (Nat.mod_lt _ (by omega)) (Nat.mod_lt _ (by omega)) ih
theorem box_appended {w1 : World} {n₁ : Nat} {t e : TypeId} {size : Nat} {v v' : Value} {k : Nat} {xs ys : List Value} {tmp : Obj}
  (hv : Boxed W B t v) (hte : t ≠ e) (hrow : W.ownsRow n₁ e size v k xs) (hn₁ : n₁ ≤ W.heap.size) (hB : B < n₁)
  (hown' : w1.ownsRow n₁ e size v' m ys) (hgrow : (W.alloc tmp).grownBy w1 v.ownBlock) :
  Boxed w1 B t v ∧ Boxed (w1.setCell ⟨B, 0, none⟩ v') B t v' ∧ (w1.setCell ⟨B, 0, none⟩ v').ownsRow n₁ e size v' m ys ∧ KeepsOthers W (w1.setCell ⟨B, 0, none⟩ v') ∧
   (∀ j, j < n₁ → w1.heap[j]? = W.heap[j]?) := by
 have A : Boxed w1 B t v := (hv.alloc tmp).kept hgrow (hv.not_row hte hrow)
 refine ⟨A, A.set v', hown'.kept (grownBy_setCell' w1 B v') (.inr (A.not_row hte hown').symm), ?_, ?_⟩
 · refine ((KeepsOthers.alloc W tmp).trans (KeepsOthers.of_grownBy hgrow fun j o ej hj => ?_)).trans (KeepsOthers.setCell _ _ _)
   rcases (hrow.alloc tmp).2 with ⟨rfl, _⟩ | ⟨g, cap, cur, rfl, _, hgb, _⟩
   · simp [Value.ownBlock] at ej
   · obtain rfl : g = j := by simpa [Value.ownBlock] using ej
     rw [hgb] at hj; cases hj; rfl
 · intro j hj
   refine (hgrow.block j (by simp; omega) (fun e => ?_)).trans (Below.heap_alloc W tmp j (by omega))
   rcases hrow.2 with ⟨rfl, _⟩ | ⟨g, cap, cur, rfl, hb, _, _⟩
   · simp [Value.ownBlock] at e
   · obtain rfl : j = g := by simpa [Value.ownBlock] using e
     omega
theorem keptAt_own {β : Type} {S : Nat → Prop} {W0 : World} (hS : ∀ k, S k → k < W0.heap.size ∧ k < B) : OwnFrom B (fun (_ : β) W => KeptAt S W0 W ∧ W0.heap.size ≤ W.heap.size) := fun _ X Y row hs hg hr => by
 refine ⟨fun k hk => ?_, Nat.le_trans hs.2 hg.size⟩
 have := hS k hk
 exact (hg.block k (by omega) (fun e => by have := (hr k e.symm).1; omega)).trans (hs.1 k hk)
theorem Tryz.info143 : (Tryz.prog.info? 143).map (fun i => (i.zero, i.size, i.bytes)) = some (some (.int .u64 0), 1, 8) := by kernel_rfl
theorem joined_in (F : Fence) (n : Nat) (h3 : F.fn 252) (h5 : F.fn 269) (h6 : F.fn 279) (hro : F.round = none) (hn : 3 ≤ n) (g : FuncId) (hgF : F.fn g) (fz fc : Nat → Nat → Nat → Nat)
  (hof : ∀ (x y c : Nat) (w : World), x < 18446744073709551616 → y < 18446744073709551616 → c ≤ 1 → (callFunc g #[.int .u64 (x : Int), .int .u64 (y : Int), .int .u64 (c : Int)]).run Tryz.prog w = .ok (.value (.tuple #[.int .u64 (fz x y c : Int), .int .u64 (fc x y c : Int)])) w)
  (hfc : ∀ x y c, x < 18446744073709551616 → y < 18446744073709551616 → c ≤ 1 → fc x y c ≤ 1) {Z : Zone} {A A' : Option Addr} {ca cb : Nat} {la lb : List Nat} (w : World) (ha : U64s w Z A ca la) (hb : U64s w Z A' cb lb) (hla : la.length ≤ 1000000000000) (hlb : lb.length ≤ 1000000000000) :
  CallsIn F n Tryz.prog 252 #[.slice A la.length ca, .slice A' lb.length cb, .func (.func g) #[] #[]] w fun e W' => ∃ v, e = .returned (.tuple #[v, .int .u64 ((joinO fz fc (upto (fun j => (la[j]?.getD 0, lb[j]?.getD 0)) (max la.length lb.length))).2 : Int)]) ∧
   W'.ownsRow w.heap.size 143 1 v (max la.length lb.length) ((joinO fz fc (upto (fun j => (la[j]?.getD 0, lb[j]?.getD 0)) (max la.length lb.length))).1.map fun x : Nat => Value.int .u64 (x : Int)) ∧ Below w.heap.size w W' := by
 have I : 1 ≤ n := by omega
 obtain ⟨i0, hi, Kw, Kx, Ky⟩ := info_parts Tryz.info143
 refine callsIn_of_wp_marks Tryz.func252 rfl h3 ?_ hro
 simp only [Tryz.ntmps252, List.size_toArray, List.length_cons, List.length_nil, Nat.reduceAdd, Nat.reduceSub, Array.replicate_succ, Array.replicate_zero, List.push_toArray, List.append_toArray, List.nil_append, List.cons_append]
 gi_wp2_with (gi_at_call 269; refine (pairs_in F (n - 1) h5 hro _ _ _ _ _ _ _).mono ?_; rintro e w' ⟨rfl, rfl⟩)
 obtain ⟨Kz, KA⟩ := hid2 hof hfc
 clear hof hfc
 have P : Below w.heap.size w (((((w.alloc (.cells #[.func (.func g) #[] #[]] 265)).alloc (.cells #[.slice none 0 0] 33)).alloc (.cells #[.int .u64 0] 143)).alloc (.cells #[.slice A la.length ca] 33)).alloc (.cells #[.slice A' lb.length cb] 33)) :=
  ((((((Below.refl _ w).alloc (Nat.le_refl _) _).alloc (by simp) _).alloc (by simp; omega) _).alloc (by simp; omega) _).alloc (by simp; omega) _)
 have bF := ((((Boxed.new w 265 (.func (.func g) #[] #[])).alloc (.cells #[.slice none 0 0] 33)).alloc (.cells #[.int .u64 0] 143)).alloc (.cells #[.slice A la.length ca] 33)).alloc (.cells #[.slice A' lb.length cb] 33)
 have V := (((Boxed.new (w.alloc (.cells #[.func (.func g) #[] #[]] 265)) 33 (.slice none 0 0)).alloc (.cells #[.int .u64 0] 143)).alloc (.cells #[.slice A la.length ca] 33)).alloc (.cells #[.slice A' lb.length cb] 33)
 have X := ((Boxed.new ((w.alloc (.cells #[.func (.func g) #[] #[]] 265)).alloc (.cells #[.slice none 0 0] 33)) 143 (.int .u64 0)).alloc (.cells #[.slice A la.length ca] 33)).alloc (.cells #[.slice A' lb.length cb] 33)
 have Y := (Boxed.new (((w.alloc (.cells #[.func (.func g) #[] #[]] 265)).alloc (.cells #[.slice none 0 0] 33)).alloc (.cells #[.int .u64 0] 143)) 33 (.slice A la.length ca)).alloc (.cells #[.slice A' lb.length cb] 33)
 have d := Boxed.new ((((w.alloc (.cells #[.func (.func g) #[] #[]] 265)).alloc (.cells #[.slice none 0 0] 33)).alloc (.cells #[.int .u64 0] 143)).alloc (.cells #[.slice A la.length ca] 33)) 33 (.slice A' lb.length cb)
 have i : (((((w.alloc (.cells #[.func (.func g) #[] #[]] 265)).alloc (.cells #[.slice none 0 0] 33)).alloc (.cells #[.int .u64 0] 143)).alloc (.cells #[.slice A la.length ca] 33)).alloc (.cells #[.slice A' lb.length cb] 33)).heap.size = w.heap.size + 5 := by simp
 simp only [World.size_alloc] at V X Y d
 generalize (((((w.alloc (.cells #[.func (.func g) #[] #[]] 265)).alloc (.cells #[.slice none 0 0] 33)).alloc (.cells #[.int .u64 0] 143)).alloc (.cells #[.slice A la.length ca] 33)).alloc (.cells #[.slice A' lb.length cb] 33)) = W0 at *
 obtain ⟨S, hS⟩ : ∃ S : Nat → Prop, S = fun k => k < w.heap.size + 5 ∧ k ≠ w.heap.size + 1 ∧ k ≠ w.heap.size + 1 + 1 := ⟨_, rfl⟩
 have G : ∀ k, S k ↔ (k < w.heap.size + 5 ∧ k ≠ w.heap.size + 1 ∧ k ≠ w.heap.size + 1 + 1) := fun k => by rw [hS]
 clear hS
 have Kk : S w.heap.size := (G _).2 ⟨by omega, by omega, by omega⟩
 have KE := hid i
 have KF : W0.heap.size ≤ w.heap.size + 5 := by omega
 have KG : w.heap.size + 5 ≤ W0.heap.size := by omega
 clear i
 have Kl : ∀ (W : World) (l : Nat) (o o' : Obj), W0.heap.size ≤ l → W.heap[l]? = some o → o.isCells = false → o.isWalk = false → KeptAt S W (W.putObj l o') := fun W l o o' hl _ _ _ k C =>
  World.putObj_heap_other (fun e => by have := (G k).1 C; omega)
 have ua : U64s W0 ⟨S, False⟩ A ca la := ⟨ha.small, ha.cap, ha.max, ha.nul, fun h0 => by
  obtain ⟨b, o, e, _, _, E⟩ := ha.row h0
  have J := lt_of_cell (E 0 _ (List.getElem?_eq_getElem h0))
  have L : b < w.heap.size := J
  exact ⟨b, o, e, (G b).2 ⟨by omega, by omega, by omega⟩, fun h => h.elim, fun j u hu => (P.cell (p := ⟨b, o + j, none⟩) L).trans (E j u hu)⟩⟩
 have ub : U64s W0 ⟨S, False⟩ A' cb lb := ⟨hb.small, hb.cap, hb.max, hb.nul, fun h0 => by
  obtain ⟨b, o, e, _, _, E⟩ := hb.row h0
  have J := lt_of_cell (E 0 _ (List.getElem?_eq_getElem h0))
  have L : b < w.heap.size := J
  exact ⟨b, o, e, (G b).2 ⟨by omega, by omega, by omega⟩, fun h => h.elim, fun j u hu => (P.cell (p := ⟨b, o + j, none⟩) L).trans (E j u hu)⟩⟩
 refine wpIn_rangeFunc_ownG hro I (gf := 279) (lb := #[.pointer (some ⟨w.heap.size + 1 + 1 + 1, 0, none⟩), .pointer (some ⟨w.heap.size + 1 + 1 + 1 + 1, 0, none⟩)]) rfl h6 (enters_of Tryz.func279 (by kernel_rfl) rfl)
  (pairs_stops F (n - 1) h6 hro (by omega) (w.heap.size + 1 + 1 + 1) (w.heap.size + 1 + 1 + 1 + 1) S ((G _).2 ⟨by omega, by omega, by omega⟩) ((G _).2 ⟨by omega, by omega, by omega⟩) A A' ca cb la lb W0 (fun k C => by have := (G k).1 C; omega) Y.cell d.cell ua ub)
  (fun h k => KeptAt.trans h k) Kl (Below.refl _ _) (fun _ => rfl)
  (fun B W => (∃ v, Boxed W (w.heap.size + 1) 33 v ∧ W.ownsRow (w.heap.size + 5) 143 1 v (joinO fz fc B).1.length ((joinO fz fc B).1.map fun x : Nat => Value.int .u64 (x : Int)) ∧ True) ∧
   (Boxed W (w.heap.size + 1 + 1) 143 (.int .u64 ((joinO fz fc B).2 : Int)) ∧ ((KeptAt S W0 W ∧ W0.heap.size ≤ W.heap.size) ∧ Below w.heap.size w W)))
  (fun _ _ _ => False)
  (OwnFrom.and (Own.from (holdsRow_own (w.heap.size + 5) (w.heap.size + 1) 33 143 1 (fun B => (joinO fz fc B).1.length) (fun B => (joinO fz fc B).1.map fun x : Nat => Value.int .u64 (x : Int)) (fun _ _ => True)) _)
   (OwnFrom.and (Own.from (boxed_own _ _ _) _) (OwnFrom.and (keptAt_own (fun k C => by have := (G k).1 C; omega)) (ownFrom_below (Nat.le_refl _) (by omega)))))
  (fun _ _ _ _ _ hs _ _ => hs)
  ⟨⟨_, V, World.ownsRow_nil _ _ _ _, trivial⟩, X, ⟨KeptAt.refl _ _, Nat.le_refl _⟩, P⟩
  (fun x => { tmps := #[.slice A la.length ca, .slice A' lb.length cb, .func (.func g) #[] #[], undef, undef, .pointer (some ⟨w.heap.size, 0, none⟩), .pointer (some ⟨w.heap.size + 1, 0, none⟩), .pointer (some ⟨w.heap.size + 1 + 1, 0, none⟩), .int .u64 ((x.1 % 18446744073709551616 : Nat) : Int), .int .u64 ((x.2 % 18446744073709551616 : Nat) : Int), undef,
   .slice A la.length ca, .slice A' lb.length cb, .func (.func 279) #[] #[.pointer (some ⟨w.heap.size + 1 + 1 + 1, 0, none⟩), .pointer (some ⟨w.heap.size + 1 + 1 + 1 + 1, 0, none⟩)], .int .u64 ((x.1 % 18446744073709551616 : Nat) : Int), .int .u64 ((x.2 % 18446744073709551616 : Nat) : Int), undef, undef, undef, undef, undef, undef, undef, undef, undef, undef, undef, undef], defers := [] }) ?assign ?body ?done ?stop
 case assign =>
  intro l x W K H
  gi_wp2
  exact H
 case body =>
  rintro l B x W ⟨⟨v, N, O, _⟩, E, ⟨C, Kh⟩, Q⟩ J
  have m := N.cell
  have q := E.cell
  have KH := E.frozen
  have hF : W.cell? ⟨w.heap.size, 0, none⟩ = some (.func (.func g) #[] #[]) := (C.cell (p := ⟨w.heap.size, 0, none⟩) Kk).trans bF.cell
  have M := hid (joinO_length fz fc B)
  have L : (joinO fz fc B).1.length ≤ 1000000000000 := by have := M.out; omega
  have s := hid (joinO_snoc fz fc B x)
  have Km := joinO_carry fz fc KA.out B
  generalize (joinO fz fc B).2 = cy at *
  have Kn : x.1 % 18446744073709551616 < 18446744073709551616 := Nat.mod_lt _ (by omega)
  have Ko : x.2 % 18446744073709551616 < 18446744073709551616 := Nat.mod_lt _ (by omega)
  generalize x.1 % 18446744073709551616 = X1 at *
  generalize x.2 % 18446744073709551616 = X2 at *
  have KI := fun w => Kz.out X1 X2 cy w Kn Ko Km
  generalize fz X1 X2 cy = z1 at *
  generalize fc X1 X2 cy = c1 at *
  have z : Boxed (W.setCell ⟨w.heap.size + 1 + 1, 0, none⟩ (.int .u64 (c1 : Int))) (w.heap.size + 1) 33 v := N.other (by omega) _
  have Kp : Boxed (W.setCell ⟨w.heap.size + 1 + 1, 0, none⟩ (.int .u64 (c1 : Int))) (w.heap.size + 1 + 1) 143 (.int .u64 (c1 : Int)) := E.set _
  have Ka := ownsRow_setCell_below O (a := ⟨w.heap.size + 1 + 1, 0, none⟩) (by simp) (.int .u64 (c1 : Int))
  have KJ := z.cell
  have Kb : ∀ k, k ≠ w.heap.size + 1 + 1 → (W.setCell ⟨w.heap.size + 1 + 1, 0, none⟩ (.int .u64 (c1 : Int))).heap[k]? = W.heap[k]? := fun k C => Below.heap_setCell _ _ _ _ C
  have Kq := hid Kb
  have Kc : (W.setCell ⟨w.heap.size + 1 + 1, 0, none⟩ (.int .u64 (c1 : Int))).heap.size = W.heap.size := by simp [World.setCell]
  have KK := hid Kc
  clear Kb Kc
  gi_wp2_with (gi_at_builtin; go_loud (refine wpListIn_append_own _ rfl _ _ 33 rfl (w.heap.size + 5) 143 i0 (.int .u64 0) 1 8 Tryz.underlying33 hi Kw Kx Ky rfl (by decide) _ _ _ rfl (Ka.alloc _) ⟨W.heap.size, 0, none⟩ 1 1 [.int .u64 (z1 : Int)] rfl rfl (by simpa [World.setCell] using cell_one_new (W.setCell ⟨w.heap.size + 1 + 1, 0, none⟩ (.int .u64 (c1 : Int))) _ _) (by simp [Value.oneCell']) (by simp only [maxLen]; omega) (by omega) (by simp; omega) ?_); intro v' w1 hown' hgrow _; obtain ⟨T, U, rfl⟩ := ownsRow_succ hown'; obtain ⟨Ki, KB, KC, KD, Kj⟩ := box_appended z (by decide) Ka (by simp; omega) (by omega) hown' hgrow; have KL := Ki.cell; have KM := Ki.frozen)
  have Kd : ∀ k, k < w.heap.size + 5 → k ≠ w.heap.size + 1 → k ≠ w.heap.size + 1 + 1 → (w1.setCell ⟨w.heap.size + 1, 0, none⟩ (.slice (some ⟨T, 0, none⟩) ((joinO fz fc B).1.length + 1) U)).heap[k]? = W.heap[k]? :=
   fun k I h2 h3 => (Below.heap_setCell _ _ _ _ h2).trans ((Kj k I).trans (Kq.out k h3))
  have Ke : KeptAt S W (w1.setCell ⟨w.heap.size + 1, 0, none⟩ (.slice (some ⟨T, 0, none⟩) ((joinO fz fc B).1.length + 1) U)) := fun k C => by have := (G k).1 C; exact Kd k this.1 this.2.1 this.2.2
  have Kr : W.heap.size ≤ w1.heap.size := by have := hgrow.size; simp at this; omega
  have Kf : W.heap.size ≤ (w1.setCell ⟨w.heap.size + 1, 0, none⟩ (.slice (some ⟨T, 0, none⟩) ((joinO fz fc B).1.length + 1) U)).heap.size := by simp [World.setCell]; exact Kr
  refine ⟨((KeepsOthers.setCell _ _ _).trans KD).from _, Ke, ⟨_, KB, ?_, trivial⟩, ?_, ⟨C.trans Ke, Nat.le_trans Kh Kf⟩, ?_⟩
  · rw [s.out]; simpa using KC
  · rw [s.out]
    refine Boxed.other ?_ (by omega) _
    exact (Kj _ (by omega)).trans Kp
  · refine Q.trans ⟨?_, ?_, ?_, Kf, fun k C => Kd k (by omega) (by omega) (by omega)⟩
    · exact hgrow.os
    · exact hgrow.tape
    · exact hgrow.output
 case done =>
  rintro D ys W hD rfl ⟨⟨v, N, O, _⟩, E, ⟨C, Kh⟩, Q⟩ H
  have m := N.cell
  have q := E.cell
  gi_wp2
  refine ⟨by simp, .inl ⟨_, _, rfl, run_takeDeferred H, ?_⟩⟩
  have M := joinO_length fz fc (upto (fun j => (la[j]?.getD 0, lb[j]?.getD 0)) (max la.length lb.length))
  rw [upto_length] at M
  rw [M] at O
  have Ks := cell_kept m (grownBy_putObj' _ D (.deferred none)) (fun r e => by cases e; exact ⟨_, H, rfl⟩)
  have Kt := cell_kept q (grownBy_putObj' _ D (.deferred none)) (fun r e => by cases e; exact ⟨_, H, rfl⟩)
  have Kg := ownsRow_putObj O (.deferred none) H rfl
  have Kv := Q.trans (belowK_b (w := w) (Nat.le_refl _) W D _ (.deferred none) (by omega) H rfl rfl)
  generalize joinO fz fc (upto (fun j => (la[j]?.getD 0, lb[j]?.getD 0)) (max la.length lb.length)) = R at *
  refine ⟨.tuple #[v, .int .u64 (R.2 : Int)], ?_, v, rfl, ?_, Kv⟩
  · simp [results, Tryz.f252, go_sem, Ks, Kt]
  · refine ⟨Kg.1, ?_⟩
    rcases Kg.2 with h | ⟨g, cap, cur, I, h2, h3⟩
    · exact .inl h
    · exact .inr ⟨g, cap, cur, I, by omega, h3⟩
 case stop =>
  rintro D c B W _ _ h _
  exact h.elim
theorem limbs_len_lt {n : Nat} (h : (limbs m).length < (limbs n).length) : m < n := by
 rcases Nat.lt_or_ge m n with h1 | h1
 · exact h1
 · have := len_mono h1
   omega
section
attribute [local go_sem] Oper.semAt_some
theorem back_any (a : Option Addr) (na ca : Nat) (w : World) :
  Calls Tryz.prog 292 #[.slice a na ca] w fun e w' => e = .returned (.func (.func 295) #[] #[.pointer (some ⟨w.heap.size, 0, none⟩)]) ∧
   w' = w.alloc (.cells #[.slice a na ca] 33) := by
 go_enter Tryz.func292, Tryz.ntmps292
 go_wp2
 go_ret
 exact ⟨rfl, rfl⟩
theorem back_stops (F : Fence) (n : Nat) (h8 : F.fn 295) (hro : F.round = none) (hn : 1 ≤ n) (Ba : Nat) (S : Nat → Prop) (hSa : S Ba) (A : Option Addr) (c : Nat) (l : List Nat) (w : World)
  (hS : ∀ k, S k → k < w.heap.size) (hBa : w.cell? ⟨Ba, 0, none⟩ = some (.slice A l.length c)) (ha : U64s w ⟨S, False⟩ A c l) :
  SeqStopsK F n Tryz.prog 295 #[.pointer (some ⟨Ba, 0, none⟩)] (encB l) (KeptAt S) (fun ys => ys.map (·.1) = backs l.length l.length)
   (fun pre => ∃ k, k ≤ l.length ∧ pre.map (·.1) = backs l.length k) l.length w := fun L J Jx W hW _ _ hY h0 => by
 refine (back1_in F n h8 hro hn L Ba S hSa A c l J Jx hY W ?_ (ha.below hW) h0).mono ?_
 · exact (hW.cell (p := ⟨Ba, 0, none⟩) (hS _ hSa)).trans hBa
 · rintro e E ⟨B, h | ⟨pre, C, D⟩⟩
   · exact ⟨B, .inl h⟩
   · exact ⟨B, .inr ⟨pre, C, D⟩⟩
end
end Go.Proofs.YtdncgncijbnjpaaGreat
