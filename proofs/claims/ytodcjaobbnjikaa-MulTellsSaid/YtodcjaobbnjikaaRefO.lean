/-
  The document's own answer, layer 2: Times, by digits to 2^32. No conditions but bounds on lengths.
-/
import Derived.Test.YtodcjaobbnjikaaRefN
import Derived.Test.YtodcjaobbnjikaaSame
namespace Go.Proofs.Ytodcjaobbnjikaa
open Go.RowKit
set_option linter.unusedVariables false
set_option linter.unusedSimpArgs false

set_option maxRecDepth 100000 in
set_option maxHeartbeats 4000000 in
theorem rtimes_good {w : World} {Z Y : Zone} {a b : Value} {m n : Nat} (ha : IsN w Z a m) (hb : IsN w Y b n) (hl : (limbs m).length ≤ 100000) (hl2 : (limbs n).length ≤ 100000) :
    Calls Try.prog 84 #[a, b] w fun e w' => ∃ v, e = .returned v ∧ IsN w' (new w.heap.size) v (m * n) ∧ Below w.heap.size w w' := by
  have hna := ha
  have hnb := hb
  have hva := (valH_digs (limbs m)).trans (val_limbs m)
  have hvb := (valH_digs (limbs n)).trans (val_limbs n)
  have hda := digs_length (limbs m)
  have hdb := digs_length (limbs n)
  have hsa := digs_small _ (small_limbs m)
  have hsb := digs_small _ (small_limbs n)
  obtain ⟨A, ca, rfl, -⟩ := ha
  obtain ⟨B, cb, rfl, -⟩ := hb
  obtain ⟨i0, hi, hz0, hz1, hz2⟩ := info_parts Try.info62
  go_enter Try.func84, Try.ntmps84
  go_wp2_with fail
  refine (halves_any hna hl).mono ?_
  rintro e w1 ⟨x, rfl, hx, hb1⟩
  replace hnb := hnb.below hb1
  go_wp2_with fail
  refine (halves_any hnb hl2).mono ?_
  rintro e w2 ⟨y, rfl, hy, hb2⟩
  replace hx := hx.below hb2
  have hB := from_ hb1 hb2
  obtain ⟨X, cx, rfl, hx⟩ := hx
  obtain ⟨Y', cy, rfl, hy⟩ := hy
  have hsz : w.heap.size ≤ w2.heap.size := hB.size
  clear hna hnb hb1 hb2
  generalize limbs m = lm at *
  generalize limbs n = ln at *
  generalize digs lm = la at *
  generalize digs ln = lb at *
  have Hva := Lib.hid hva
  have Hvb := Lib.hid hvb
  have hla : la.length ≤ 200000 := by omega
  have hlb : lb.length ≤ 200000 := by omega
  have Hda := Lib.hid hda
  have Hdb := Lib.hid hdb
  clear hva hvb hda hdb
  go_wp2_with (at_make; go_loud (refine wpList_make_full _ rfl _ _ 29 rfl w2.heap.size 62 i0 (.int .u64 0) 1 Try.underlying29 hi hz0 hz1 .i64 .i64 _ _ (la.length + lb.length) rfl rfl (by omega) (by omega) (by rw [hz2]; omega) (by simp only [maxLen]; omega) (Nat.le_refl _) ?_); intro w3 hown hgrow)
  have hcells : (madeCells (Value.int .u64 0).cells ((la.length + lb.length) * 1)).toList = (List.replicate (la.length + lb.length) 0).map fun x : Nat => Value.int .u64 (x : Int) := by
    rw [Nat.mul_one, List.map_replicate]
    simpa [Value.cells] using toList_madeCells_one (.int .u64 0) (la.length + lb.length)
  rw [hcells] at hown
  have hb1 : Below w2.heap.size w2 w3 := (Below.refl _ w2).grown hgrow (Nat.le_refl _) (fun k h => by cases h)
  clear hcells hgrow
  go_wp2
  go_loopw [8] (fun i wr => ∃ (k : Nat) (O : List Nat), k ≤ la.length ∧ i = .int .i64 k ∧ wr.ownsRow w2.heap.size 62 1 (.slice (some ⟨w2.heap.size, 0, none⟩) (la.length + lb.length) (la.length + lb.length)) (la.length + lb.length) (O.map fun x : Nat => Value.int .u64 (x : Int)) ∧ RowH0 la lb k O ∧ Below w2.heap.size w2 wr)
    (fun i _ => la.length - (intOf i).toNat)
  case atStart => exact ⟨0, _, Nat.zero_le _, rfl, hown, RowH0.start la lb, hb1⟩
  case round =>
    obtain ⟨i, O, hi', rfl, hown, hrow, hbel⟩ := hrel
    by_cases hlt : i < la.length
    · obtain ⟨b1, o1, rfl, _, hbb1, _, hc1⟩ := hx.open (by omega)
      have hcx := hc1 i hlt
      have hxl := hsa.get hlt
      obtain ⟨xx, hxx⟩ : ∃ x, x = la[i] := ⟨_, rfl⟩
      rw [← hxx] at hcx hxl
      have Hxx := Lib.hid hxx
      clear hxx hc1
      have Hcx := Lib.hid hcx
      clear hcx
      go_wp2
      go_loopw [10, 9] (fun jv cv wr => ∃ (j : Nat) (O : List Nat) (cy : Nat), j ≤ lb.length ∧ jv = .int .i64 j ∧ cv = .int .u64 (cy : Int) ∧ wr.ownsRow w2.heap.size 62 1 (.slice (some ⟨w2.heap.size, 0, none⟩) (la.length + lb.length) (la.length + lb.length)) (la.length + lb.length) (O.map fun x : Nat => Value.int .u64 (x : Int)) ∧ RowH1 la lb i j O cy ∧ Below w2.heap.size w2 wr)
        (fun jv _ _ => lb.length - (intOf jv).toNat)
      case atStart => exact ⟨0, O, 0, Nat.zero_le _, rfl, rfl, hown, hrow.first, hbel⟩
      case round =>
        clear hbel hown hrow
        obtain ⟨j, O', cy, hj, rfl, rfl, hown', hrow', hbel'⟩ := hrel
        by_cases hjlt : j < lb.length
        · obtain ⟨b2, o2, rfl, _, hbb2, _, hc2⟩ := hy.open (by omega)
          have hcx := (hbel'.cell (p := ⟨b1, o1 + i, none⟩) hbb1).trans Hcx.out
          have hcy2 := (hbel'.cell (p := ⟨b2, o2 + j, none⟩) hbb2).trans (hc2 j hjlt)
          have hyl := hsb.get hjlt
          obtain ⟨hp, hst⟩ := hrow'.step hlt hjlt hsa hsb
          have hpl : i + j < la.length + lb.length := by omega
          have hcell := hown'.cellAt (i + j) (by omega)
          rw [List.getElem?_map, List.getElem?_eq_getElem hp] at hcell
          have hol := hrow'.small.get hp
          have hcy := hrow'.word
          have hcell' : _ = some (Value.int .u64 (O'[i + j] : Int)) := hcell
          have hfr := hown'.frozenAt (i + j)
          rw [← Hxx.out] at hst
          clear hcell hc2 hrow'
          generalize lb[j] = y at *
          generalize O'[i + j] = o at *
          obtain ⟨q1, q2⟩ := step_half hxl hyl hol hcy
          obtain ⟨p, hp⟩ : ∃ p, p = xx * y := ⟨_, rfl⟩
          obtain ⟨s, hs⟩ : ∃ s, s = p + o := ⟨_, rfl⟩
          obtain ⟨t, ht⟩ : ∃ t, t = s + cy := ⟨_, rfl⟩
          rw [← hp, ← hs, ← ht] at hst q1 q2
          obtain ⟨r, hr⟩ : ∃ r, r = t % 4294967296 := ⟨_, rfl⟩
          obtain ⟨d, hd⟩ : ∃ d, d = t / 4294967296 := ⟨_, rfl⟩
          rw [← hr, ← hd] at hst
          rw [← hd] at q2
          have e1 : (xx : Int) * (y : Int) = (p : Int) := by rw [hp, Int.natCast_mul]
          have e2 : (p : Int) + (o : Int) = (s : Int) := by omega
          have e3 : (s : Int) + (cy : Int) = (t : Int) := by omega
          have e4 : (t : Int) % 4294967296 = (r : Int) := by omega
          have e5 : (t : Int) / 4294967296 = (d : Int) := by omega
          have hp1 : p < 18446744073709551616 := by omega
          have hs1 : s < 18446744073709551616 := by omega
          have hr1 : r < 18446744073709551616 := by omega
          have Hst := Lib.hid hst
          clear hp hs ht hr hd hst
          go_wp2
          go_quiet (fail)
          generalize hwq : wr.drewN _ = wq
          have hown2 : wq.ownsRow w2.heap.size 62 1 (.slice (some ⟨w2.heap.size, 0, none⟩) (la.length + lb.length) (la.length + lb.length)) (la.length + lb.length) (O'.map fun x : Nat => Value.int .u64 (x : Int)) := by subst hwq; exact hown'
          have hbel2 : Below w2.heap.size w2 wq := by subst hwq; exact below_drewN' hbel' _
          have hcell2 : wq.cell? ⟨w2.heap.size, i + j, none⟩ = some (Value.int .u64 (o : Int)) := by subst hwq; exact hcell'
          have hfr2 := hown2.frozenAt (i + j)
          have o1 := hown2.stored (i + j) (.int .u64 (r : Int))
          clear hwq hown' hbel' hcell' hfr hcx hcy2
          go_wp2
          go_roundw
          case rel =>
            refine ⟨j + 1, O'.set (i + j) r, d, by omega, by go_num, rfl, ?_, Hst.out, hbel2.setCell (p := ⟨w2.heap.size, i + j, none⟩) (Nat.le_refl _) _⟩
            rw [List.map_set]
            exact o1.1
          case measure => simp [intOf]; omega
        · obtain rfl : j = lb.length := by omega
          have hlast := hrow'.last hlt
          have hp : i + lb.length < O'.length := by have := hrow'.len; omega
          have hcell := hown'.cellAt (i + lb.length) (by omega)
          rw [List.getElem?_map, List.getElem?_eq_getElem hp] at hcell
          have hcell' : _ = some (Value.int .u64 (O'[i + lb.length] : Int)) := hcell
          have hfr := hown'.frozenAt (i + lb.length)
          have hpl : i + lb.length < la.length + lb.length := by omega
          have o1 := hown'.stored (i + lb.length) (.int .u64 (cy : Int))
          generalize O'[i + lb.length] = old1 at *
          have Hl := Lib.hid hlast
          clear hlast hcell hrow'
          go_wp2
          go_roundw
          case rel =>
            refine ⟨i + 1, O'.set (i + lb.length) cy, by omega, by go_num, ?_, Hl.out, hbel'.setCell (p := ⟨w2.heap.size, i + lb.length, none⟩) (Nat.le_refl _) _⟩
            rw [List.map_set]
            exact o1.1
          case measure => simp [intOf]; omega
    · obtain rfl : i = la.length := by omega
      have hv := hrow.done
      have hsm := hrow.small
      have hlen := hrow.len
      have hu := isU_after (B := w2.heap.size) (fun x hx => Nat.lt_of_lt_of_le (hsm x hx) (by omega)) hlen.symm hown (Nat.le_refl _)
      have hU : IsU wr (new w2.heap.size) (.slice (some ⟨w2.heap.size, 0, none⟩) (la.length + lb.length) (la.length + lb.length)) O := ⟨_, _, by rw [hlen], hu⟩
      have hK : O.length = 2 * (lm.length + ln.length) := by have := Hda.out; have := Hdb.out; omega
      have HU := Lib.hid hU
      have Hv := Lib.hid hv
      have HK := Lib.hid hK
      clear hv hrow hu hU hlen hown hK
      go_wp2_with fail
      refine (whole_any HU.out hsm HK.out (by omega)).mono ?_
      rintro e w4 ⟨v, rfl, hv, hb4⟩
      go_wp2
      go_ret
      rw [Hv.out, Hva.out, Hvb.out] at hv
      exact ⟨v, rfl, hv.mono (new_le (Nat.le_trans hsz hbel.size)), from_ hB (from_ hbel hb4)⟩

end Go.Proofs.Ytodcjaobbnjikaa
