/-
  The document's own answer, layer 2: a number's digits to 2^32, and the number of such digits. No conditions but bounds on lengths.
  The document's own answer, layer 2: Times, by digits to 2^32. No conditions but bounds on lengths.
-/
import Derived.Deep.RegionLaw
import Derived.Test.YtamenhffplhddaaGreatLRefM
import Derived.Test.YtamenhffplhddaaGreatLRefE
import Derived.Test.YtamenhffplhddaaGreatLSame
namespace Go.Proofs.YtamenhffplhddaaGreat
open Go.RowKit
set_option linter.unusedVariables false
set_option linter.unusedSimpArgs false

/-- 'append(s, u, v)', s a row of the call's own. -/
theorem wpList_app2 {P : Program} (w : World) {ops : Array Oper} {rest : List Oper} {o : Oper} {a : Act} {Q : Exit → Act → World → Prop} (hgd : o.guard = none) (s x : Operand) (t : TypeId)
    (ho : o.op = .call { callee := .builtin .append, args := #[s, x], argTypes := #[t, t] })
    (base : Nat) (e : TypeId) (i : TypeInfo) (z : Value) (ht : P.underlying t = some (.slice e)) (hi : P.info? e = some i) (hz : i.zero = some z) (hsize : i.size = 1) (hby : i.bytes = 8) (hzs : z.cells.size = 1)
    (v : Value) (n : Nat) (xs : List Value) (hs : a.eval s = v) (hown : w.ownsRow base e 1 v n xs)
    (g : Nat) (u1 u2 : Value) (hx : a.eval x = .slice (some ⟨g, 0, none⟩) 2 2) (hu : w.cell? ⟨g, 0, none⟩ = some u1) (hu2 : w.cell? ⟨g, 1, none⟩ = some u2) (h1 : u1.oneCell' = true) (h2 : u2.oneCell' = true)
    (hb : n + 2 ≤ 1000000000) (hbase : base ≤ w.heap.size)
    (h : ∀ v' w', w'.ownsRow base e 1 v' (n + 2) (xs ++ [u1, u2]) → w.grownBy w' v.ownBlock → wpList P ops Q rest (a.put o.dst v') w') : wpList P ops Q (o :: rest) a w := by
  refine wpList_append_own w hgd s x t ho base e i z 1 8 ht hi hz hsize hby hzs (by omega) v n xs hs hown ⟨g, 0, none⟩ 2 2 [u1, u2] hx rfl ?_ ?_ (by simp only [maxLen]; omega) (by omega) hbase (fun v' w' h2 h3 _ => h v' w' h2 h3)
  · intro j y hy
    match j, hy with
    | 0, hy => cases hy; exact hu
    | 1, hy => cases hy; exact hu2
  · intro y hy
    rw [List.mem_cons, List.mem_singleton] at hy
    rcases hy with rfl | rfl
    · exact h1
    · exact h2

/-- append to a row of the call's own, as one step of a region that draws its order. -/
theorem step_append_own {P : Program} {ops : Array Oper} {o : Oper} {a : Act} {w : World} {K : Act → World → Prop} {Q : Exit → Act → World → Prop} {E : Prop}
    (hg : o.guard = none) (s x : Operand) (t : TypeId) (hop : o.op = Op.call { callee := Callee.builtin Builtin.append, args := #[s, x], argTypes := #[t, t] })
    (base : Nat) (e : TypeId) (i : TypeInfo) (z : Value) (h1 : P.underlying t = some (.slice e)) (h2 : P.info? e = some i) (h3 : i.zero = some z) (h4 : i.size = 1) (h5 : i.bytes = 8) (h6 : z.cells.size = 1)
    (v : Value) (n : Nat) (xs : List Value) (hs : a.eval s = v) (hown : w.ownsRow base e 1 v n xs)
    (g m : Nat) (news : List Value) (hx : a.eval x = .slice (some ⟨g, 0, none⟩) m m) (hn : news.length = m) (hc : ∀ j u, news[j]? = some u → w.cell? ⟨g, j, none⟩ = some u) (h1c : ∀ u ∈ news, u.oneCell' = true)
    (hb : n + m ≤ 1000000000) (hbase : base ≤ w.heap.size)
    (hK : ∀ v' w', w'.ownsRow base e 1 v' (n + m) (xs ++ news) → w.grownBy w' v.ownBlock → K (a.put o.dst v') w') :
    if Region.wanted o (yielded ops a.tmps) = true then Oper.wp P o a w K Q else E := by
  have hw : Region.wanted o (yielded ops a.tmps) = true := by simp [Region.wanted, hg]
  rw [if_pos hw]
  obtain ⟨v', w', hrun, r1, r2, _⟩ := run_append_own (P := P) w base t o.type e i z 1 8 h1 h2 h3 h4 h5 h6 (by omega) v n xs hown ⟨g, 0, none⟩ m m news (by omega) (fun j u hu => by have h := hc j u hu; by_cases hj : j = 0 <;> simp_all [Addr.add]) h1c (by simp only [maxLen]; omega) (by omega) hbase
  unfold Oper.wp
  simp [execOp, hop, resolve, invoke, builtin, hs, hx, hrun, Result.andThen]
  exact hK v' w' r1 r2

theorem two_cells {W : World} {u1 u2 : Value} {t : TypeId} : ∀ j u, [u1, u2][j]? = some u → (W.alloc (.cells #[u1, u2] t)).drew.cell? ⟨W.heap.size, j, none⟩ = some u := fun j u hu => by
  match j, hu with
  | 0, hu => cases hu; exact cell_newest (W := W) rfl rfl
  | 1, hu => cases hu; exact cell_newest (W := W) rfl rfl
theorem one_cells {W : World} {u1 : Value} {t : TypeId} : ∀ j u, [u1][j]? = some u → (W.alloc (.cells #[u1] t)).drew.cell? ⟨W.heap.size, j, none⟩ = some u := fun j u hu => by
  match j, hu with
  | 0, hu => cases hu; exact cell_newest (W := W) rfl rfl

theorem below_drew {B : Nat} {a w : World} (h : Below B a w) : Below B a w.drew := ⟨h.os, h.tape, h.output, h.size, h.block⟩

theorem digs_take_succ {l : List Nat} {k : Nat} (h : k < l.length) : digs (l.take (k + 1)) = digs (l.take k) ++ [l[k] % 4294967296, l[k] / 4294967296] := by
  rw [List.take_succ_eq_append_getElem h, digs_append]
  rfl

theorem pairs_at {l : List Nat} {k : Nat} (h : 2 * k + 1 < l.length) : pairsOf l (k + 1) = pairsOf l k ++ [l[2 * k] + 4294967296 * l[2 * k + 1]] := by
  rw [pairsOf_succ, List.getElem?_eq_getElem (by omega), List.getElem?_eq_getElem h]
  rfl

end Go.Proofs.YtamenhffplhddaaGreat

namespace Go.Proofs.YtamenhffplhddaaGreat
open Go.RowKit
set_option linter.unusedVariables false
set_option linter.unusedSimpArgs false

end Go.Proofs.YtamenhffplhddaaGreat
