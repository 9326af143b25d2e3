/-
  The contracts of mul.up, mul.parts and mul.school. No conditions but bounds on lengths.
-/
import Derived.Test.YtodcjaobbnjikaaMulA
import Derived.Test.YtodcjaobbnjikaaMulNum
namespace Go.Proofs.Ytodcjaobbnjikaa
open Go.RowKit
set_option linter.unusedVariables false
set_option linter.unusedSimpArgs false

theorem limbs_shiftW (n k : Nat) (h : n ≠ 0) : limbs (n * 18446744073709551616 ^ k) = List.replicate k 0 ++ limbs n := by
  have hs : Small (List.replicate k 0 ++ limbs n) := (Small.replicate0 k).append (small_limbs n)
  have hv : val (List.replicate k 0 ++ limbs n) = n * 18446744073709551616 ^ k := by
    rw [val_append, val_replicate0, val_limbs, List.length_replicate, Nat.zero_add, Nat.mul_comm]
  have hl : 0 < (limbs n).length := by
    rcases Nat.eq_zero_or_pos (limbs n).length with h0 | h0
    · exact absurd (limbs_eq_nil.1 (List.length_eq_zero_iff.1 h0)) h
    · exact h0
  have hg : good (List.replicate k 0 ++ limbs n) = true := by
    have g := good_limbs n
    rw [good_last hl] at g
    rw [good_last (by simp; omega)]
    rw [← g]
    congr 1
    rw [List.getElem_append_right (by simp; omega)]
    congr 1
    simp
    omega
  rw [← hv, limbs_val _ hs hg]

set_option maxHeartbeats 800000 in
theorem up_limbs {w : World} {Z : Zone} {a : Value} {n k : Nat} (ha : IsN w Z a n) (hl : (limbs n).length ≤ 800000) (hk : k ≤ 800000) :
    Calls Try.prog 99 #[a, .int .i64 (k : Int)] w fun e w' => ∃ v, e = .returned v ∧ IsN w' (new w.heap.size) v (n * 18446744073709551616 ^ k) ∧ Below w.heap.size w w' := by
  obtain ⟨A, c, rfl, ha⟩ := ha
  by_cases h0 : n = 0
  · subst h0
    have e0 : limbs 0 = [] := rfl
    rw [Nat.zero_mul]
    simp only [e0, List.length_nil]
    clear e0 hl ha
    go_enter Try.func99, Try.ntmps99
    go_wp2
    go_ret
    exact ⟨_, rfl, IsN.zero _ _, Below.refl _ _⟩
  · have hp : 0 < (limbs n).length := by
      rcases Nat.eq_zero_or_pos (limbs n).length with h1 | h1
      · exact absurd (limbs_eq_nil.1 (List.length_eq_zero_iff.1 h1)) h0
      · exact h1
    have hd : (((limbs n).length : Int) == 0) = false := beq_eq_false_iff_ne.2 (by omega)
    have Hsh := Lib.hid (limbs_shiftW n k h0)
    obtain ⟨i0, hi, hz0, hz1, hz2⟩ := info_parts Try.info62
    obtain ⟨l, hll⟩ : ∃ l, l = limbs n := ⟨_, rfl⟩
    rw [← hll] at ha hl hp hd ⊢
    have Hll := Lib.hid hll
    clear hll h0
    go_enter Try.func99, Try.ntmps99
    go_wp2_with (first | (at_make; go_loud (refine wpList_make_full _ rfl _ _ 46 rfl w.heap.size 62 i0 (.int .u64 0) 1 Try.underlying46 hi hz0 hz1 .i64 .i64 _ _ k rfl rfl rfl rfl (by rw [hz2]; omega) (by simp only [maxLen]; omega) (Nat.le_refl _) ?_); intro w1 hown hgrow; have hb1 : Below w.heap.size w w1 := (Below.refl _ w).grown hgrow (Nat.le_refl _) (fun k h => by cases h); have ha1 := ha.below hb1) | (at_builtin; go_loud (refine wpList_app _ rfl _ _ 46 rfl w.heap.size 62 i0 Try.underlying46 hi hz0 hz1 hz2 _ _ _ rfl hown rfl rfl ha1 (by omega) hb1.size ?_); intro v' w2 hown' hgrow'))
    have hg2 : w1.grownBy w2 (some w.heap.size) := hgrow'
    go_ret
    obtain ⟨A2, c2, rfl⟩ := own_shape hown'
    have hcells : (madeCells (Value.int .u64 0).cells (k * 1)).toList = (List.replicate k 0).map fun x : Nat => Value.int .u64 (x : Int) := by
      rw [Nat.mul_one, List.map_replicate]
      simpa [Value.cells] using toList_madeCells_one (.int .u64 0) k
    rw [hcells, ← List.map_append] at hown'
    have hs : Small (List.replicate k 0 ++ l) := (Small.replicate0 k).append ha.small
    have hu := isU_after (B := w.heap.size) hs (by simp) hown' (Nat.le_refl _)
    refine ⟨_, rfl, ⟨A2, c2, ?_, ?_⟩, hb1.grown hg2 hb1.size (fun k hk => by cases hk; exact Nat.le_refl _)⟩
    · rw [Hsh.out, ← Hll.out]
      simp
    · rw [Hsh.out, ← Hll.out]
      exact hu

set_option maxHeartbeats 800000 in
/-- mul.parts: what is left over by 2^64 so often, and the quotient. -/
theorem parts_any {w : World} {Z : Zone} {a : Value} {n k : Nat} (ha : IsN w Z a n) (hl : (limbs n).length ≤ 800000) (hk : k ≤ 800000) :
    Calls Try.prog 96 #[a, .int .i64 (k : Int)] w fun e w' => ∃ u v, e = .returned (.tuple #[u, v]) ∧ IsN w' Z u (n % 18446744073709551616 ^ k) ∧ IsN w' Z v (n / 18446744073709551616 ^ k) ∧ Below w.heap.size w w' := by
  obtain ⟨A, c, rfl, ha⟩ := ha
  have hcap := ha.cap
  have hmax := ha.max
  obtain ⟨L, hL⟩ : ∃ L, L = (limbs n).length := ⟨_, rfl⟩
  obtain ⟨m, hm⟩ : ∃ m, m = min k L := ⟨_, rfl⟩
  have hmin : min (k : Int) (L : Int) = (m : Int) := by omega
  have hmL : m ≤ L := by omega
  have ht : (limbs n).take m = (limbs n).take k := by
    rcases Nat.le_total k L with h | h
    · rw [hm, Nat.min_eq_left h]
    · rw [hm, Nat.min_eq_right h, hL, List.take_length, List.take_of_length_le (by omega)]
  have hd : (limbs n).drop m = (limbs n).drop k := by
    rcases Nat.le_total k L with h | h
    · rw [hm, Nat.min_eq_left h]
    · rw [hm, Nat.min_eq_right h, hL, List.drop_length, List.drop_eq_nil_of_le (by omega)]
  have hu := (ha.take m)
  have hlt : ((limbs n).take m).length = m := by rw [List.length_take]; omega
  have hv := ha.drop (k := m) (by omega)
  have hul : U64s w Z A m ((limbs n).take m) := ⟨hu.small, by omega, by omega, fun h => by have := hu.nul h; omega, hu.row⟩
  have Htr := Lib.hid (fun q : Nat => mtrim_any (w := w.drewN q) (n := m) (hul.below (below_drewN' (Below.refl _ w) q)) hlt.symm)
  have Hlow := Lib.hid (isN_trimU (w := w) (t := n % 18446744073709551616 ^ k) (by rw [ht, val_limbs_take]) hul)
  have Hhigh := Lib.hid (show IsU w Z (.slice (if c = m then A else A.map (·.add m)) (L - m) (c - m)) (limbs (n / 18446744073709551616 ^ k)) from by
    rw [← limbs_drop, ← hd]
    exact ⟨_, _, by rw [List.length_drop, hL], hv⟩)
  rw [← hL] at hcap ⊢
  clear hu hlt hv hul ht hd hL hm ha hl
  by_cases hcm : c = m
  all_goals
    first | rw [if_pos hcm, show c - m = 0 by omega] at Hhigh | rw [if_neg hcm] at Hhigh
    go_enter Try.func96, Try.ntmps96
    go_wp2
    go_quiet ((go_at_call 100; exact Calls.quiet_of_same ((Htr.out _).mono fun e w' h => ⟨h.1, h.2.symm⟩)))
    go_wp2
    go_ret2
    exact ⟨_, _, rfl, Hlow.out.below (below_drewN' (Below.refl _ w) _), (show IsN w Z _ _ from Hhigh.out).below (below_drewN' (Below.refl _ w) _), below_drewN' (Below.refl _ w) _⟩

set_option maxRecDepth 100000 in
set_option maxHeartbeats 4000000 in
theorem school_any {w : World} {Z Y : Zone} {a b : Value} {m n : Nat} (ha : IsN w Z a m) (hb : IsN w Y b n) (hl : (limbs m).length ≤ 400000) (hl2 : (limbs n).length ≤ 400000) :
    Calls Try.prog 83 #[a, b] w fun e w' => ∃ v, e = .returned v ∧ IsN w' (new w.heap.size) v (m * n) ∧ Below w.heap.size w w' := by
  obtain ⟨A, ca, rfl, ha⟩ := ha
  obtain ⟨B, cb, rfl, hb⟩ := hb
  have hsa := ha.small
  have hsb := hb.small
  have hva := val_limbs m
  have hvb := val_limbs n
  obtain ⟨i0, hi, hz0, hz1, hz2⟩ := info_parts Try.info62
  generalize limbs m = la at *
  generalize limbs n = lb at *
  have Hva := Lib.hid hva
  have Hvb := Lib.hid hvb
  clear hva hvb
  go_enter Try.func83, Try.ntmps83
  go_wp2_with (at_make; go_loud (refine wpList_make_full _ rfl _ _ 46 rfl w.heap.size 62 i0 (.int .u64 0) 1 Try.underlying46 hi hz0 hz1 .i64 .i64 _ _ (la.length + lb.length) rfl rfl (by omega) (by omega) (by rw [hz2]; omega) (by simp only [maxLen]; omega) (Nat.le_refl _) ?_); intro w1 hown hgrow)
  have hcells : (madeCells (Value.int .u64 0).cells ((la.length + lb.length) * 1)).toList = (List.replicate (la.length + lb.length) 0).map fun x : Nat => Value.int .u64 (x : Int) := by
    rw [Nat.mul_one, List.map_replicate]
    simpa [Value.cells] using toList_madeCells_one (.int .u64 0) (la.length + lb.length)
  rw [hcells] at hown
  have hb1 : Below w.heap.size w w1 := (Below.refl _ w).grown hgrow (Nat.le_refl _) (fun k h => by cases h)
  clear hcells hgrow
  go_loopw [22] (fun i wr => ∃ (k : Nat) (O : List Nat), k ≤ la.length ∧ i = .int .i64 k ∧ wr.ownsRow w.heap.size 62 1 (.slice (some ⟨w.heap.size, 0, none⟩) (la.length + lb.length) (la.length + lb.length)) (la.length + lb.length) (O.map fun x : Nat => Value.int .u64 (x : Int)) ∧ Row0 la lb k O ∧ Below w.heap.size w wr)
    (fun i _ => la.length - (intOf i).toNat)
  case atStart => exact ⟨0, _, Nat.zero_le _, rfl, hown, Row0.start la lb, hb1⟩
  case round =>
    obtain ⟨i, O, hi', rfl, hown, hrow, hbel⟩ := hrel
    by_cases hlt : i < la.length
    · obtain ⟨b1, o1, rfl, _, hbb1, _, hc1⟩ := ha.open (by omega)
      have hx := (hbel.cell (p := ⟨b1, o1 + i, none⟩) hbb1).trans (hc1 i hlt)
      have hxl := hsa.get hlt
      have hxe : la[i]?.getD 0 = la[i] := by simp [hlt]
      have Hx := Lib.hid (⟨hlt, rfl⟩ : ∃ h : i < la.length, la[i] = la[i])
      obtain ⟨x, hxx⟩ : ∃ x, x = la[i] := ⟨_, rfl⟩
      rw [← hxx] at hx hxl
      have Hxx := Lib.hid hxx
      clear hxx hxe Hx hc1
      obtain ⟨wo, rfl⟩ : ∃ wo : World, wo = wr := ⟨_, rfl⟩
      go_wp2
      go_loopw [29, 8] (fun jv cv wr => ∃ (j : Nat) (O : List Nat) (cy : Nat), j ≤ lb.length ∧ jv = .int .i64 j ∧ cv = .int .u64 (cy : Int) ∧ wr.ownsRow w.heap.size 62 1 (.slice (some ⟨w.heap.size, 0, none⟩) (la.length + lb.length) (la.length + lb.length)) (la.length + lb.length) (O.map fun x : Nat => Value.int .u64 (x : Int)) ∧ Row1 la lb i j O cy ∧ Below w.heap.size w wr)
        (fun jv _ _ => lb.length - (intOf jv).toNat)
      case atStart => exact ⟨0, O, 0, Nat.zero_le _, rfl, rfl, hown, hrow.first, hbel⟩
      case round =>
        obtain ⟨j, O', cy, hj, rfl, rfl, hown', hrow', hbel'⟩ := hrel
        by_cases hjlt : j < lb.length
        · obtain ⟨b2, o2, rfl, _, hbb2, _, hc2⟩ := hb.open (by omega)
          have hy := (hbel'.cell (p := ⟨b2, o2 + j, none⟩) hbb2).trans (hc2 j hjlt)
          have hyl := hsb.get hjlt
          obtain ⟨hp, hst⟩ := hrow'.step hlt hjlt hsa hsb
          have hpl : i + j < la.length + lb.length := by omega
          have hcell := hown'.cellAt (i + j) (by omega)
          rw [List.getElem?_map, List.getElem?_eq_getElem hp] at hcell
          have hol := hrow'.small.get hp
          have hcy := hrow'.word
          have hcell' : _ = some (Value.int .u64 (O'[i + j] : Int)) := hcell
          have hfr := hown'.frozenAt (i + j)
          rw [← Hxx.out] at hst
          clear hcell hc2
          generalize lb[j] = y at *
          generalize O'[i + j] = o at *
          obtain ⟨q1, q2, q3⟩ := step_limbs hxl hyl hol hcy
          rw [← q1, ← q2] at hst
          rw [← q2] at q3
          have hmul := fun w => bits_Mul64 x y hxl hyl w
          have hlo : x * y % 18446744073709551616 < 18446744073709551616 := Nat.mod_lt _ (by omega)
          have hadd1 : ∀ w, (callFunc 65 #[.int .u64 ((x * y % 18446744073709551616 : Nat) : Int), .int .u64 (o : Int), .int .u64 0]).run Try.prog w = .ok (.value (.tuple #[.int .u64 (((x * y % 18446744073709551616 + o) % 18446744073709551616 : Nat) : Int), .int .u64 (((x * y % 18446744073709551616 + o) / 18446744073709551616 : Nat) : Int)])) w := fun w => run_Add64 _ _ 0 w hlo hol (by omega)
          have hs1 : (x * y % 18446744073709551616 + o) % 18446744073709551616 < 18446744073709551616 := Nat.mod_lt _ (by omega)
          have hadd2 : ∀ w, (callFunc 65 #[.int .u64 (((x * y % 18446744073709551616 + o) % 18446744073709551616 : Nat) : Int), .int .u64 (cy : Int), .int .u64 0]).run Try.prog w = .ok (.value (.tuple #[.int .u64 ((((x * y % 18446744073709551616 + o) % 18446744073709551616 + cy) % 18446744073709551616 : Nat) : Int), .int .u64 ((((x * y % 18446744073709551616 + o) % 18446744073709551616 + cy) / 18446744073709551616 : Nat) : Int)])) w := fun w => run_Add64 _ _ 0 w hs1 hcy (by omega)
          clear q1 q2
          generalize ((x * y % 18446744073709551616 + o) % 18446744073709551616 + cy) % 18446744073709551616 = s2 at *
          generalize ((x * y % 18446744073709551616 + o) % 18446744073709551616 + cy) / 18446744073709551616 = c2 at *
          generalize (x * y % 18446744073709551616 + o) % 18446744073709551616 = s1 at *
          generalize (x * y % 18446744073709551616 + o) / 18446744073709551616 = c1 at *
          generalize x * y % 18446744073709551616 = lo at *
          generalize x * y / 18446744073709551616 = hi1 at *
          have Hst := Lib.hid hst
          have o1 := hown'.stored (i + j) (.int .u64 (s2 : Int))
          clear hst hrow' hrow hown
          go_wp2_with fail
          refine (hmul _).mono ?_
          rintro e w' ⟨rfl, rfl⟩
          clear hmul
          go_wp2
          go_roundw
          case rel =>
            refine ⟨j + 1, O'.set (i + j) s2, hi1 + c1 + c2, by omega, by go_num, by congr 1, ?_, Hst.out, hbel'.setCell (p := ⟨w.heap.size, i + j, none⟩) (Nat.le_refl _) _⟩
            rw [List.map_set]
            exact o1.1
          case measure => simp [intOf]; omega
        · obtain rfl : j = lb.length := by omega
          have hlast := hrow'.last hlt
          have hp : i + lb.length < O'.length := by have := hrow'.len; omega
          have hcell := hown'.cellAt (i + lb.length) (by omega)
          rw [List.getElem?_map, List.getElem?_eq_getElem hp] at hcell
          have hcell' : _ = some (Value.int .u64 (O'[i + lb.length] : Int)) := hcell
          have hfr := hown'.frozenAt (i + lb.length)
          have hpl : i + lb.length < la.length + lb.length := by omega
          have o1 := hown'.stored (i + lb.length) (.int .u64 (cy : Int))
          generalize O'[i + lb.length] = old1 at *
          have Hl := Lib.hid hlast
          clear hlast hcell hrow' hrow hown
          go_wp2
          go_roundw
          case rel =>
            refine ⟨i + 1, O'.set (i + lb.length) cy, by omega, by go_num, ?_, Hl.out, hbel'.setCell (p := ⟨w.heap.size, i + lb.length, none⟩) (Nat.le_refl _) _⟩
            rw [List.map_set]
            exact o1.1
          case measure => simp [intOf]; omega
    · obtain rfl : i = la.length := by omega
      have hv := hrow.done
      have hu := isU_after (B := w.heap.size) hrow.small hrow.len.symm hown (Nat.le_refl _)
      have Hv := Lib.hid hv
      have Hlen := Lib.hid hrow.len.symm
      clear hv hrow
      go_wp2_with (go_at_call 100; refine (mtrim_any hu Hlen.out).mono ?_; rintro e w' ⟨rfl, rfl⟩)
      go_ret
      refine ⟨_, rfl, isN_trimU ?_ hu, hbel⟩
      rw [Hv.out, Hva.out, Hvb.out]

end Go.Proofs.Ytodcjaobbnjikaa
