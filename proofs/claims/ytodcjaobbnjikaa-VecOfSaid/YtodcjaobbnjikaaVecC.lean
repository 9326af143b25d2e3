/-
  The document's row of ints, and that two rows of the same ints are the same. No conditions but bounds on lengths.
-/
import Derived.Test.YtodcjaobbnjikaaVecB
import Derived.StillTailTactics
namespace Go.Proofs.Ytodcjaobbnjikaa
open Go.RowKit
set_option linter.unusedVariables false
set_option linter.unusedSimpArgs false

theorem U_grow {w w' : World} {base n B : Nat} {v u : Value} {xs : List Value} {l : List Nat} (hown : w.ownsRow base 77 2 v n xs) (hg : w.grownBy w' v.ownBlock) (hu : IsU w old u l) (ht : Typ w B u) :
    IsU w' old u l ∧ Typ w' B u := by
  rcases hown.2 with ⟨e1, _⟩ | ⟨g, cap, cur, e1, _, hh, _⟩
  · subst e1
    have hk : ∀ b, b < w.heap.size → w'.heap[b]? = w.heap[b]? := fun b hb => hg.block b hb (by simp [Value.ownBlock])
    refine ⟨hu.keep fun b _ hb => hk b hb, fun a n c e => ?_⟩
    obtain ⟨h0, cs, fr, h1⟩ := ht a n c e
    refine ⟨h0, cs, fr, ?_⟩
    rw [hk]
    · exact h1
    · by_cases hlt : a.block < w.heap.size
      · exact hlt
      · rw [Array.getElem?_eq_none (by omega)] at h1
        cases h1
  · subst e1
    have hk : ∀ b, b ≠ g → b < w.heap.size → w'.heap[b]? = w.heap[b]? := fun b hb hl => hg.block b hl (by simp [Value.ownBlock]; exact hb)
    have hi : ∃ cs fr, w.heap[g]? = some (.cells cs 77 fr) := ⟨_, _, hh⟩
    exact ⟨((ht.apart hi hu).keep fun b hb hl => hk b hb hl).old, ht.keep hi hk⟩

def CellsT (w : World) (xs : List Value) (k : Nat) (zs : List Int) : Prop :=
  ∀ j (hj : j < zs.length), j < k → ∃ u, xs[j * 2]? = some (.bool (decide (zs[j] < 0))) ∧ xs[j * 2 + 1]? = some u ∧ IsU w old u (limbs zs[j].natAbs) ∧ Typ w 0 u

theorem CellsT.below {w w' : World} {xs : List Value} {k : Nat} {zs : List Int} (h : CellsT w xs k zs) (hb : Below w.heap.size w w') : CellsT w' xs k zs := fun j hj hjk => by
  obtain ⟨u, c0, c1, hu, ht⟩ := h j hj hjk
  exact ⟨u, c0, c1, hu.below hb, ht.below hb⟩

theorem CellsT.grow {w w' : World} {base k : Nat} {v u : Value} {xs : List Value} {zs : List Int} (h : CellsT w xs k zs) (hown : w.ownsRow base 77 2 v k xs) (hg : w.grownBy w' v.ownBlock) (hk : k < zs.length)
    (hu : IsU w old u (limbs (zs[k]).natAbs)) (ht : Typ w 0 u) : CellsT w' (xs ++ [.bool (decide (zs[k] < 0)), u]) (k + 1) zs := fun j hj hjk => by
  have hl := hown.1
  rcases Nat.lt_or_ge j k with h1 | h1
  · obtain ⟨u', c0, c1, hu', ht'⟩ := h j hj h1
    obtain ⟨q1, q2⟩ := U_grow hown hg hu' ht'
    refine ⟨u', ?_, ?_, q1, q2⟩
    · rw [List.getElem?_append_left (by omega)]; exact c0
    · rw [List.getElem?_append_left (by omega)]; exact c1
  · obtain rfl : j = k := by omega
    obtain ⟨q1, q2⟩ := U_grow hown hg hu ht
    refine ⟨u, ?_, ?_, q1, q2⟩
    · rw [List.getElem?_append_right (by omega), hl, Nat.sub_self]; rfl
    · rw [List.getElem?_append_right (by omega), hl, show j * 2 + 1 - j * 2 = 1 by omega]; rfl

/-- 'append(s, n)', s a row of the call's own, of whole numbers. -/
theorem wpList_appI {P : Program} (w : World) {ops : Array Oper} {rest : List Oper} {o : Oper} {a : Act} {Q : Exit → Act → World → Prop} (hgd : o.guard = none) (s x : Operand) (t : TypeId)
    (ho : o.op = .call { callee := .builtin .append, args := #[s, x], argTypes := #[t, t] })
    (base : Nat) (e : TypeId) (i : TypeInfo) (z : Value) (ht : P.underlying t = some (.slice e)) (hi : P.info? e = some i) (hz : i.zero = some z) (hsize : i.size = 2) (hby : i.bytes = 32) (hzs : z.cells.size = 2)
    (v : Value) (n : Nat) (xs : List Value) (hs : a.eval s = v) (hown : w.ownsRow base e 2 v n xs)
    (g : Nat) (u1 u2 : Value) (hx : a.eval x = .slice (some ⟨g, 0, none⟩) 1 1) (hu : w.cell? ⟨g, 0, none⟩ = some u1) (hu2 : w.cell? ⟨g, 1, none⟩ = some u2) (h1 : u1.oneCell' = true) (h2 : u2.oneCell' = true)
    (hb : n + 1 ≤ 1000000000) (hbase : base ≤ w.heap.size)
    (h : ∀ v' w', w'.ownsRow base e 2 v' (n + 1) (xs ++ [u1, u2]) → w.grownBy w' v.ownBlock → wpList P ops Q rest (a.put o.dst v') w') : wpList P ops Q (o :: rest) a w := by
  refine wpList_append_own w hgd s x t ho base e i z 2 32 ht hi hz hsize hby hzs (by omega) v n xs hs hown ⟨g, 0, none⟩ 1 1 [u1, u2] hx rfl ?_ ?_ (by simp only [maxLen]; omega) (by omega) hbase (fun v' w' h2 h3 _ => h v' w' h2 h3)
  · intro j y hy
    match j, hy with
    | 0, hy => cases hy; exact hu
    | 1, hy => cases hy; exact hu2
  · intro y hy
    rw [List.mem_cons, List.mem_singleton] at hy
    rcases hy with rfl | rfl
    · exact h1
    · exact h2

set_option maxRecDepth 100000 in
set_option maxHeartbeats 2000000 in
theorem r07of_any {w : World} {Z : Zone} {a : Value} {zs : List Int} (ha : IsInts w Z a zs) (hl : zs.length ≤ 1000) :
    Calls Try.prog 17 #[a] w fun e w' => ∃ v, e = .returned v ∧ IsVs w' v zs ∧ Below w.heap.size w w' := by
  obtain ⟨A, c, rfl, hc1, hc2, hz, ha⟩ := ha
  obtain ⟨i0, hi, hz0, hz1, hz2⟩ := info_parts infoI
  go_enter Try.func17, Try.ntmps17
  go_wp2
  go_loopw [3, 4] (fun v i wr => ∃ (k : Nat) (xs : List Value), k ≤ zs.length ∧ i = .int .i64 (k : Int) ∧ wr.ownsRow w.heap.size 77 2 v k xs ∧ Hid (CellsT wr xs k zs) ∧ Below w.heap.size w wr) (fun _ i _ => zs.length - (intOf i).toNat)
  case atStart => exact ⟨0, [], Nat.zero_le _, rfl, World.ownsRow_nil _ _ _ _, fun j hj h => absurd h (by omega), Below.refl _ _⟩
  case round =>
    obtain ⟨k, xs, hk, rfl, hown, hcells, hbel⟩ := hrel
    by_cases hlt : k < zs.length
    · obtain ⟨b, o, rfl, hbb, hc⟩ := ha (by omega)
      have hx := (hbel.cell (p := ⟨b, o + k, none⟩) hbb).trans (hc k hlt)
      have hzk := hz zs[k] (List.getElem_mem hlt)
      clear hc hz
      have hput := fun (w2 w' : World) (v u : Value) (h1 : CellsT w2 xs k zs) (h2 : w2.ownsRow w.heap.size 77 2 v k xs) (h3 : w2.grownBy w' v.ownBlock) h4 h5 => h1.grow (w' := w') (u := u) h2 h3 hlt h4 h5
      have Hput := Lib.hid hput
      clear hput
      generalize zs[k] = n at *
      go_wp2_with fail
      refine (r05of_typ hzk).mono ?_
      rintro e w2 ⟨s, _, rfl, rfl, ⟨Au, cu, rfl, hu'⟩, ht, hb2⟩
      have hu : IsU w2 _ (.slice Au (limbs n.natAbs).length cu) (limbs n.natAbs) := ⟨Au, cu, rfl, hu'⟩
      have hown2 := own_below hown hb2
      have hcells2 := hcells.out.below hb2
      have hB2 := from_ hbel hb2
      have hba : Below w2.heap.size w2 (w2.alloc (.cells #[.bool (decide (n < 0)), .slice Au (limbs n.natAbs).length cu] 77)) := (Below.refl _ w2).alloc (Nat.le_refl _) _
      have hcells3 := hcells2.below hba
      have hu3 := (hu.below hba).old
      have ht3 : Typ (w2.alloc (.cells #[.bool (decide (n < 0)), .slice Au (limbs n.natAbs).length cu] 77)) 0 (.slice Au (limbs n.natAbs).length cu) := fun a n c e => ⟨Nat.zero_le _, ((ht.below hba) a n c e).2⟩
      have HC := Lib.hid hcells3
      have HU := Lib.hid hu3
      have HT := Lib.hid ht3
      clear hcells hcells2 hcells3 hu hu' hu3 ht ht3 hown
      go_wp2_with (at_builtin; go_loud (refine wpList_appI _ rfl _ _ 25 rfl w.heap.size 77 i0 (.agg #[.bool false, .slice none 0 0]) Try.underlying25 hi hz0 hz1 hz2 rfl _ _ _ rfl (hown2.alloc _) w2.heap.size (.bool (decide (n < 0))) (.slice Au (limbs n.natAbs).length cu) rfl (cell_newest rfl rfl) (cell_newest rfl rfl) rfl rfl (by omega) (by have := hB2.size; simp; omega) ?_); intro v' w3 hown' hgrow; go_loud (have hb3 : Below w.heap.size w w3 := (hB2.alloc hB2.size _).grown hgrow (by have := hB2.size; simp; omega) (fun b hb => (hown2.lt b hb).1)))
      have hfin := Hput.out _ _ _ _ HC.out (hown2.alloc _) hgrow HU.out HT.out
      have HF := Lib.hid hfin
      clear hfin
      go_roundw
      case rel => exact ⟨k + 1, _, by omega, by go_num, hown', HF, hb3⟩
      case measure => simp [intOf]; omega
    · obtain rfl : k = zs.length := by omega
      have hfin : IsVs wr u3 zs := by
        obtain ⟨A2, c2, e⟩ := own_shape hown
        rcases hown.2 with ⟨e1, e2⟩ | ⟨g, cap, cur, e1, _, hh, hcap, hm, _⟩
        · exact ⟨none, 0, by rw [e1, e2], by omega, by omega, fun h0 => absurd h0 (by omega)⟩
        · subst e1
          refine ⟨_, _, rfl, hcap, by simpa [maxLen] using hm, fun _ => ⟨g, rfl, (hown.lt g rfl).2, fun j hj => ?_⟩⟩
          obtain ⟨u, c0, c1, hu, _⟩ := hcells.out j hj hj
          exact ⟨u, by rw [hown.cellAt (j * 2) (by omega)]; exact c0, by rw [hown.cellAt (j * 2 + 1) (by omega)]; exact c1, hu⟩
      have Hfin := Lib.hid hfin
      clear hfin hcells hown
      go_wp2
      go_ret
      exact ⟨_, rfl, Hfin.out, hbel⟩

theorem same5_yes {w : World} {Z Y : Zone} {a b : Value} {s : Bool} {l : List Nat} (ha : IsI w Z a s l) (hb : IsI w Y b s l) :
    Calls Try.prog 55 #[a, b] w fun e w' => e = .returned (.bool true) ∧ Below w.heap.size w w' :=
  (same5_any ha hb).mono fun e w' h => by simpa using h

set_option maxRecDepth 100000 in
set_option maxHeartbeats 2000000 in
theorem same7_yes {w : World} {a b : Value} {zs : List Int} (ha : IsVs w a zs) (hb : IsVs w b zs) :
    Calls Try.prog 15 #[a, b] w fun e w' => e = .returned (.bool true) ∧ Below w.heap.size w w' := by
  obtain ⟨A, ca, rfl, hca, hma, ha⟩ := ha
  obtain ⟨B, cb, rfl, hcb, hmb, hb⟩ := hb
  have hself : ((zs.length : Int) != (zs.length : Int)) = false := bne_self_eq_false _
  go_enter Try.func15, Try.ntmps15
  go_wp2
  go_loopw [5] (fun i wr => ∃ k : Nat, k ≤ zs.length ∧ i = .int .i64 (k : Int) ∧ Below w.heap.size w wr) (fun i _ => zs.length - (intOf i).toNat)
  case atStart => exact ⟨0, Nat.zero_le _, rfl, Below.refl _ _⟩
  case round =>
    obtain ⟨k, hk, rfl, hbel⟩ := hrel
    by_cases hlt : k < zs.length
    · obtain ⟨g1, rfl, hg1, hc1⟩ := ha (by omega)
      obtain ⟨g2, rfl, hg2, hc2⟩ := hb (by omega)
      obtain ⟨u1, p0, p1, hu1⟩ := hc1 k hlt
      obtain ⟨u2, r0, r1, hu2⟩ := hc2 k hlt
      have p0 := keepC hbel p0
      have p1 := keepC hbel p1
      have r0 := keepC hbel r0
      have r1 := keepC hbel r1
      obtain ⟨A1, c1, rfl, hu1'⟩ := hu1.below hbel
      obtain ⟨A2, c2, rfl, hu2'⟩ := hu2.below hbel
      have i1 : IsI wr.drew old (.agg #[.bool (decide (zs[k] < 0)), .slice A1 (limbs (zs[k]).natAbs).length c1]) (decide (zs[k] < 0)) (limbs (zs[k]).natAbs) := IsI.below ⟨_, rfl, A1, c1, rfl, hu1'⟩ ((Below.refl _ wr).drew)
      have i2 : IsI wr.drew old (.agg #[.bool (decide (zs[k] < 0)), .slice A2 (limbs (zs[k]).natAbs).length c2]) (decide (zs[k] < 0)) (limbs (zs[k]).natAbs) := IsI.below ⟨_, rfl, A2, c2, rfl, hu2'⟩ ((Below.refl _ wr).drew)
      have hsm := same5_yes i1 i2
      have Hsm := Lib.hid hsm
      clear hsm i1 i2 hc1 hc2 hu1 hu2 hu1' hu2'
      generalize decide (zs[k] < 0) = s at *
      generalize limbs (zs[k]).natAbs = l at *
      have hbd := hbel.drew
      go_wp2
      go_still_tail 8, (by kernel_rfl)
      change wpList _ _ _ _ _ wr.drew
      go_wp2_with fail
      refine Hsm.out.mono ?_
      rintro e w1 ⟨rfl, hb1⟩
      have hb2 := from_ hbd hb1
      go_wp2
      go_roundw
      case rel => exact ⟨k + 1, by omega, by go_num, hb2⟩
      case measure => simp [intOf]; omega
    · obtain rfl : k = zs.length := by omega
      go_wp2
      go_ret
      exact ⟨rfl, hbel⟩

end Go.Proofs.Ytodcjaobbnjikaa
