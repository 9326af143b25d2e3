/-
  The document's row of ints, and that two rows of the same ints are the same. No conditions but bounds on lengths.
-/
import Derived.StillTailTactics
import Derived.Test.YtamenhffplhddaaGreatLWhJ
namespace Go.Proofs.YtamenhffplhddaaGreat
open Go.RowKit
set_option linter.unusedVariables false
set_option linter.unusedSimpArgs false

theorem U_grow {w w' : World} {base n B : Nat} {v u : Value} {xs : List Value} {l : List Nat} (hown : w.ownsRow base 25 2 v n xs) (hg : w.grownBy w' v.ownBlock) (hu : IsU w old u l) (ht : Typ w B u) :
    IsU w' old u l ∧ Typ w' B u := by
  rcases hown.2 with ⟨e1, _⟩ | ⟨g, cap, cur, e1, _, hh, _⟩
  · subst e1
    have hk : ∀ b, b < w.heap.size → w'.heap[b]? = w.heap[b]? := fun b hb => hg.block b hb (by simp [Value.ownBlock])
    refine ⟨hu.keep fun b _ hb => hk b hb, fun a n c e => ?_⟩
    obtain ⟨h0, cs, fr, h1⟩ := ht a n c e
    refine ⟨h0, cs, fr, ?_⟩
    rw [hk]
    · exact h1
    · by_cases hlt : a.block < w.heap.size
      · exact hlt
      · rw [Array.getElem?_eq_none (by omega)] at h1
        cases h1
  · subst e1
    have hk : ∀ b, b ≠ g → b < w.heap.size → w'.heap[b]? = w.heap[b]? := fun b hb hl => hg.block b hl (by simp [Value.ownBlock]; exact hb)
    have hi : ∃ cs fr, w.heap[g]? = some (.cells cs 25 fr) := ⟨_, _, hh⟩
    exact ⟨((ht.apart hi hu).keep fun b hb hl => hk b hb hl).old, ht.keep hi hk⟩

def CellsT (w : World) (xs : List Value) (k : Nat) (zs : List Int) : Prop :=
  ∀ j (hj : j < zs.length), j < k → ∃ u, xs[j * 2]? = some (.bool (decide (zs[j] < 0))) ∧ xs[j * 2 + 1]? = some u ∧ IsU w old u (limbs zs[j].natAbs) ∧ Typ w 0 u

theorem CellsT.below {w w' : World} {xs : List Value} {k : Nat} {zs : List Int} (h : CellsT w xs k zs) (hb : Below w.heap.size w w') : CellsT w' xs k zs := fun j hj hjk => by
  obtain ⟨u, c0, c1, hu, ht⟩ := h j hj hjk
  exact ⟨u, c0, c1, hu.below hb, ht.below hb⟩

theorem CellsT.grow {w w' : World} {base k : Nat} {v u : Value} {xs : List Value} {zs : List Int} (h : CellsT w xs k zs) (hown : w.ownsRow base 25 2 v k xs) (hg : w.grownBy w' v.ownBlock) (hk : k < zs.length)
    (hu : IsU w old u (limbs (zs[k]).natAbs)) (ht : Typ w 0 u) : CellsT w' (xs ++ [.bool (decide (zs[k] < 0)), u]) (k + 1) zs := fun j hj hjk => by
  have hl := hown.1
  rcases Nat.lt_or_ge j k with h1 | h1
  · obtain ⟨u', c0, c1, hu', ht'⟩ := h j hj h1
    obtain ⟨q1, q2⟩ := U_grow hown hg hu' ht'
    refine ⟨u', ?_, ?_, q1, q2⟩
    · rw [List.getElem?_append_left (by omega)]; exact c0
    · rw [List.getElem?_append_left (by omega)]; exact c1
  · obtain rfl : j = k := by omega
    obtain ⟨q1, q2⟩ := U_grow hown hg hu ht
    refine ⟨u, ?_, ?_, q1, q2⟩
    · rw [List.getElem?_append_right (by omega), hl, Nat.sub_self]; rfl
    · rw [List.getElem?_append_right (by omega), hl, show j * 2 + 1 - j * 2 = 1 by omega]; rfl

/-- 'append(s, n)', s a row of the call's own, of whole numbers. -/
theorem wpList_appI {P : Program} (w : World) {ops : Array Oper} {rest : List Oper} {o : Oper} {a : Act} {Q : Exit → Act → World → Prop} (hgd : o.guard = none) (s x : Operand) (t : TypeId)
    (ho : o.op = .call { callee := .builtin .append, args := #[s, x], argTypes := #[t, t] })
    (base : Nat) (e : TypeId) (i : TypeInfo) (z : Value) (ht : P.underlying t = some (.slice e)) (hi : P.info? e = some i) (hz : i.zero = some z) (hsize : i.size = 2) (hby : i.bytes = 32) (hzs : z.cells.size = 2)
    (v : Value) (n : Nat) (xs : List Value) (hs : a.eval s = v) (hown : w.ownsRow base e 2 v n xs)
    (g : Nat) (u1 u2 : Value) (hx : a.eval x = .slice (some ⟨g, 0, none⟩) 1 1) (hu : w.cell? ⟨g, 0, none⟩ = some u1) (hu2 : w.cell? ⟨g, 1, none⟩ = some u2) (h1 : u1.oneCell' = true) (h2 : u2.oneCell' = true)
    (hb : n + 1 ≤ 1000000000) (hbase : base ≤ w.heap.size)
    (h : ∀ v' w', w'.ownsRow base e 2 v' (n + 1) (xs ++ [u1, u2]) → w.grownBy w' v.ownBlock → wpList P ops Q rest (a.put o.dst v') w') : wpList P ops Q (o :: rest) a w := by
  refine wpList_append_own w hgd s x t ho base e i z 2 32 ht hi hz hsize hby hzs (by omega) v n xs hs hown ⟨g, 0, none⟩ 1 1 [u1, u2] hx rfl ?_ ?_ (by simp only [maxLen]; omega) (by omega) hbase (fun v' w' h2 h3 _ => h v' w' h2 h3)
  · intro j y hy
    match j, hy with
    | 0, hy => cases hy; exact hu
    | 1, hy => cases hy; exact hu2
  · intro y hy
    rw [List.mem_cons, List.mem_singleton] at hy
    rcases hy with rfl | rfl
    · exact h1
    · exact h2

theorem same5_yes {w : World} {Z Y : Zone} {a b : Value} {s : Bool} {l : List Nat} (ha : IsI w Z a s l) (hb : IsI w Y b s l) :
    Calls Tryz.prog 109 #[a, b] w fun e w' => e = .returned (.bool true) ∧ Below w.heap.size w w' :=
  (same5_any ha hb).mono fun e w' h => by simpa using h

set_option maxRecDepth 100000 in
set_option maxHeartbeats 2000000 in
theorem same7_yes {w : World} {a b : Value} {zs : List Int} (ha : IsVs w a zs) (hb : IsVs w b zs) :
    Calls Tryz.prog 78 #[a, b] w fun e w' => e = .returned (.bool true) ∧ Below w.heap.size w w' := by
  obtain ⟨A, ca, rfl, hca, hma, ha⟩ := ha
  obtain ⟨B, cb, rfl, hcb, hmb, hb⟩ := hb
  have hself : ((zs.length : Int) != (zs.length : Int)) = false := bne_self_eq_false _
  go_enter Tryz.func78, Tryz.ntmps78
  go_wp2
  go_loopw [5] (fun i wr => ∃ k : Nat, k ≤ zs.length ∧ i = .int .i64 (k : Int) ∧ Below w.heap.size w wr) (fun i _ => zs.length - (intOf i).toNat)
  case atStart => exact ⟨0, Nat.zero_le _, rfl, Below.refl _ _⟩
  case round =>
    obtain ⟨k, hk, rfl, hbel⟩ := hrel
    by_cases hlt : k < zs.length
    · obtain ⟨g1, rfl, hg1, hc1⟩ := ha (by omega)
      obtain ⟨g2, rfl, hg2, hc2⟩ := hb (by omega)
      obtain ⟨u1, p0, p1, hu1⟩ := hc1 k hlt
      obtain ⟨u2, r0, r1, hu2⟩ := hc2 k hlt
      have p0 := keepC hbel p0
      have p1 := keepC hbel p1
      have r0 := keepC hbel r0
      have r1 := keepC hbel r1
      obtain ⟨A1, c1, rfl, hu1'⟩ := hu1.below hbel
      obtain ⟨A2, c2, rfl, hu2'⟩ := hu2.below hbel
      have i1 : IsI wr.drew old (.agg #[.bool (decide (zs[k] < 0)), .slice A1 (limbs (zs[k]).natAbs).length c1]) (decide (zs[k] < 0)) (limbs (zs[k]).natAbs) := IsI.below ⟨_, rfl, A1, c1, rfl, hu1'⟩ ((Below.refl _ wr).drew)
      have i2 : IsI wr.drew old (.agg #[.bool (decide (zs[k] < 0)), .slice A2 (limbs (zs[k]).natAbs).length c2]) (decide (zs[k] < 0)) (limbs (zs[k]).natAbs) := IsI.below ⟨_, rfl, A2, c2, rfl, hu2'⟩ ((Below.refl _ wr).drew)
      have hsm := same5_yes i1 i2
      have Hsm := Lib.hid hsm
      clear hsm i1 i2 hc1 hc2 hu1 hu2 hu1' hu2'
      generalize decide (zs[k] < 0) = s at *
      generalize limbs (zs[k]).natAbs = l at *
      have hbd := hbel.drew
      go_wp2
      go_still_tail 8, (by kernel_rfl)
      change wpList _ _ _ _ _ wr.drew
      go_wp2_with fail
      refine Hsm.out.mono ?_
      rintro e w1 ⟨rfl, hb1⟩
      have hb2 := from_ hbd hb1
      go_wp2
      go_roundw
      case rel => exact ⟨k + 1, by omega, by go_num, hb2⟩
      case measure => simp [intOf]; omega
    · obtain rfl : k = zs.length := by omega
      go_wp2
      go_ret
      exact ⟨rfl, hbel⟩

end Go.Proofs.YtamenhffplhddaaGreat
