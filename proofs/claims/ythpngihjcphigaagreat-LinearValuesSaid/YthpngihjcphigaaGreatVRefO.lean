/- The document's own answer, layer 2: Times, by digits to 2^32. No conditions but bounds on lengths. -/
import Derived.Deep.RegionLaw
import Derived.Test.YthpngihjcphigaaGreatVRefM
import Derived.Test.YthpngihjcphigaaGreatVRefE
import Derived.Test.YthpngihjcphigaaGreatVSame
set_option linter.unusedVariables false
set_option linter.unusedSimpArgs false
set_option maxRecDepth 100000
set_option maxHeartbeats 40000000
namespace Go.Proofs.YthpngihjcphigaaGreat
open Go.Lib (hid)
open Go.RowKit
variable {W w : World} {Z : Zone} {a u1 : Value} {l : List Nat} {t : TypeId}
theorem step_append_own {P : Program} {ops : Array Oper} {o : Oper} {a : Act} {K : Act → World → Prop} {Q : Exit → Act → World → Prop} {E : Prop}
  (hg : o.guard = none) (s x : Operand) (t : TypeId) (hop : o.op = Op.call { callee := Callee.builtin Builtin.append, args := #[s, x], argTypes := #[t, t] })
  (base : Nat) (e : TypeId) (i : TypeInfo) (z : Value) (h1 : P.underlying t = some (.slice e)) (h2 : P.info? e = some i) (h3 : i.zero = some z) (h4 : i.size = 1) (h5 : i.bytes = 8) (h6 : z.cells.size = 1)
  (v : Value) (n : Nat) (xs : List Value) (hs : a.eval s = v) (hown : w.ownsRow base e 1 v n xs)
  (g m : Nat) (news : List Value) (hx : a.eval x = .slice (some ⟨g, 0, none⟩) m m) (hn : news.length = m) (hc : ∀ j u, news[j]? = some u → w.cell? ⟨g, j, none⟩ = some u) (h1c : ∀ u ∈ news, u.oneCell' = true)
  (hb : n + m ≤ 10000000000000) (hbase : base ≤ w.heap.size)
  (hK : ∀ v' w', w'.ownsRow base e 1 v' (n + m) (xs ++ news) → w.grownBy w' v.ownBlock → K (a.put o.dst v') w') :
  if Region.wanted o (yielded ops a.tmps) = true then Oper.wp P o a w K Q else E := by
 have hw : Region.wanted o (yielded ops a.tmps) = true := by simp [Region.wanted, hg]
 rw [if_pos hw]
 obtain ⟨v', w', hrun, r1, r2, _⟩ := run_append_own (P := P) w base t o.type e i z 1 8 h1 h2 h3 h4 h5 h6 (by omega) v n xs hown ⟨g, 0, none⟩ m m news (by omega) (fun j u hu => by have h := hc j u hu; by_cases hj : j = 0 <;> simp_all [Addr.add]) h1c (by simp only [maxLen]; omega) (by omega) hbase
 unfold Oper.wp
 simp [execOp, hop, resolve, invoke, builtin, hs, hx, hrun, Result.andThen]
 exact hK v' w' r1 r2
theorem two_cells {u2 : Value} : ∀ j u, [u1, u2][j]? = some u → (W.alloc (.cells #[u1, u2] t)).drew.cell? ⟨W.heap.size, j, none⟩ = some u := fun j u hu => by
 match j, hu with
 | 0, hu => cases hu; exact cell_newest (W := W) rfl rfl
 | 1, hu => cases hu; exact cell_newest (W := W) rfl rfl
theorem one_cells : ∀ j u, [u1][j]? = some u → (W.alloc (.cells #[u1] t)).drew.cell? ⟨W.heap.size, j, none⟩ = some u := fun j u hu => by
 match j, hu with
 | 0, hu => cases hu; exact cell_newest (W := W) rfl rfl
theorem digs_take_succ {k : Nat} (h : k < l.length) : digs (l.take (k + 1)) = digs (l.take k) ++ [l[k] % 4294967296, l[k] / 4294967296] := by
 rw [List.take_succ_eq_append_getElem h, digs_append]
 rfl
theorem halves_any (ha : IsU w Z a l) (hl : l.length ≤ 100000000000) :
  Calls Tryz.prog 149 #[a] w fun e w' => ∃ v, e = .returned v ∧ IsU w' (new w.heap.size) v (digs l) ∧ Below w.heap.size w w' := by
 have hsm := ha.small
 obtain ⟨A, ca, rfl, ha⟩ := ha
 obtain ⟨i0, hi, hz0, hz1, hz2⟩ := info_parts Tryz.info95
 go_enter Tryz.func149, Tryz.ntmps149
 go_wp2
 go_loopw [3, 4] (fun v i wr => ∃ k : Nat, k ≤ l.length ∧ i = .int .i64 (k : Int) ∧ wr.ownsRow w.heap.size 95 1 v (2 * k) ((digs (l.take k)).map fun x : Nat => Value.int .u64 (x : Int)) ∧ Below w.heap.size w wr) (fun _ i _ => l.length - (intOf i).toNat)
 case atStart => exact ⟨0, Nat.zero_le _, rfl, by simpa [digs] using World.ownsRow_nil _ _ _ _, Below.refl _ _⟩
 case round =>
  obtain ⟨k, hk, rfl, hown, hbel⟩ := hrel
  by_cases hlt : k < l.length
  · obtain ⟨b, o, rfl, _, hbb, _, hc⟩ := ha.open (by omega)
    have hx := (hbel.cell (p := ⟨b, o + k, none⟩) hbb).trans (hc k hlt)
    have hst := hid (digs_take_succ hlt)
    have hxl := hsm.get hlt
    generalize l[k] = x at *
    obtain ⟨lo, hlo⟩ : ∃ lo, lo = x % 4294967296 := ⟨_, rfl⟩
    obtain ⟨hi2, hhi⟩ : ∃ hi2, hi2 = x / 4294967296 := ⟨_, rfl⟩
    rw [← hlo, ← hhi] at hst
    have e1 : (x : Int) % 4294967296 = (lo : Int) := by omega
    have e2 : (x : Int) / 4294967296 = (hi2 : Int) := by omega
    have e3 : (x : Int).tmod 4294967296 = (lo : Int) := by rw [Int.tmod_eq_emod_of_nonneg (by omega)]; exact e1
    have e4 : IntKind.u64.wrap (hi2 : Int) = (hi2 : Int) := by rw [IntKind.wrap_u64]; omega
    have hlo1 : lo < 4294967296 := by omega
    have hhi1 : hi2 < 4294967296 := by omega
    clear hlo hhi hc
    go_wp2
    go_region_law (go_loud (refine step_append_own rfl _ _ 22 rfl w.heap.size 95 i0 (.int .u64 0) Tryz.underlying22 hi hz0 hz1 hz2 rfl _ _ _ rfl ((hown.alloc _).drew) wr.heap.size 2 [.int .u64 (lo : Int), .int .u64 (hi2 : Int)] rfl rfl two_cells (by simp [Value.oneCell']) (by omega) (by have := hbel.size; simp; omega) ?_); intro v' w1 hown' hgrow)
    all_goals
     have hb1 : Below w.heap.size w w1 := ((hbel.alloc hbel.size _).drew).grown hgrow (by have := hbel.size; simp; omega) (own_nil_of hown)
     go_wp2
     go_roundw
     case rel => exact ⟨k + 1, by omega, by go_num, by rw [hst.out, show 2 * (k + 1) = 2 * k + 2 from rfl]; simpa using hown', hb1⟩
     case measure => simp [intOf]; omega
  · obtain rfl : k = l.length := by omega
    rw [List.take_length] at hown
    obtain ⟨A2, c2, rfl⟩ := own_shape hown
    have hs : Small (digs l) := fun x hx => Nat.lt_of_lt_of_le (digs_small l hsm x hx) (by omega)
    have hu := isU_after (B := w.heap.size) hs (digs_length l).symm hown (Nat.le_refl _)
    obtain ⟨Hu, Hd⟩ := hid2 hu (digs_length l)
    clear hu hown
    go_wp2
    go_ret
    exact ⟨_, rfl, ⟨A2, c2, congrArg (fun n => Value.slice A2 n c2) Hd.out.symm, Hu.out⟩, hbel⟩
theorem pairs_at {k : Nat} (h : 2 * k + 1 < l.length) : pairsOf l (k + 1) = pairsOf l k ++ [l[2 * k] + 4294967296 * l[2 * k + 1]] := by
 rw [pairsOf_succ, List.getElem?_eq_getElem (by omega), List.getElem?_eq_getElem h]
 rfl
theorem whole_any {K : Nat} (ha : IsU w Z a l) (hs : SmallH l) (hK : l.length = 2 * K) (hl : K ≤ 300000000000) :
  Calls Tryz.prog 150 #[a] w fun e w' => ∃ v, e = .returned v ∧ IsN w' (new w.heap.size) v (valH l) ∧ Below w.heap.size w w' := by
 obtain ⟨A, ca, rfl, ha⟩ := ha
 obtain ⟨i0, hi, hz0, hz1, hz2⟩ := info_parts Tryz.info95
 have HK := hid hK
 obtain ⟨N, hN⟩ : ∃ N, N = l.length := ⟨_, rfl⟩
 rw [← hN]
 have hN2 : N = 2 * K := by omega
 obtain ⟨HN, HN2⟩ := hid2 hN hN2
 have hNl : N ≤ 600000000000 := by omega
 clear hK hN hN2
 go_enter Tryz.func150, Tryz.ntmps150
 go_wp2
 go_loopw [3, 4] (fun v i wr => ∃ k j : Nat, k ≤ K ∧ Hid (j = 2 * k) ∧ i = .int .i64 (j : Int) ∧ wr.ownsRow w.heap.size 95 1 v k ((pairsOf l k).map fun x : Nat => Value.int .u64 (x : Int)) ∧ Below w.heap.size w wr) (fun _ i _ => N - (intOf i).toNat)
 case atStart => exact ⟨0, 0, Nat.zero_le _, rfl, rfl, by simpa [pairsOf] using World.ownsRow_nil _ _ _ _, Below.refl _ _⟩
 case round =>
  obtain ⟨k, j, hk, hj, rfl, hown, hbel⟩ := hrel
  by_cases hlt : k < K
  · have hj2 := hj.out
    have hN2 := HN2.out
    have hNl2 := HN.out
    have q1 : j < l.length := by omega
    have hjN : j + 1 < N := by omega
    have hjN0 : j < N := by omega
    obtain ⟨j1, hj1⟩ : ∃ j1, j1 = j + 1 := ⟨_, rfl⟩
    have e0 : IntKind.i64.wrap ((j : Int) + 1) = (j1 : Int) := by rw [IntKind.wrap_i64]; omega
    have hj1N : j1 < N := by omega
    have q2 : j1 < l.length := by omega
    obtain ⟨b, o, rfl, _, hbb, _, hc⟩ := ha.open (by omega)
    have hx := (hbel.cell (p := ⟨b, o + j, none⟩) hbb).trans (hc j q1)
    have hy := (hbel.cell (p := ⟨b, o + j1, none⟩) hbb).trans (hc j1 q2)
    have hst := pairs_at (l := l) (k := k) (by omega)
    have e1 : l[2 * k]'(by omega) = l[j] := by subst hj2; rfl
    have e2 : l[2 * k + 1]'(by omega) = l[j1] := by subst hj1 hj2; rfl
    rw [e1, e2] at hst
    have hxl := hs.get q1
    have hyl := hs.get q2
    clear e1 e2 hc hj2 hN2 hNl2
    generalize l[j] = x at *
    generalize l[j1] = y at *
    clear hj1
    obtain ⟨p, hp⟩ : ∃ p, p = 4294967296 * y := ⟨_, rfl⟩
    obtain ⟨s, hsm⟩ : ∃ s, s = x + p := ⟨_, rfl⟩
    rw [← hp, ← hsm] at hst
    have e1 : (4294967296 : Int) * (y : Int) = (p : Int) := by omega
    have e2 : (x : Int) + (p : Int) = (s : Int) := by omega
    have hp1 : p < 18446744073709551616 := by omega
    have hs1 : s < 18446744073709551616 := by omega
    have e3 : IntKind.u64.wrap (p : Int) = (p : Int) := by rw [IntKind.wrap_u64]; omega
    have e4 : IntKind.u64.wrap (s : Int) = (s : Int) := by rw [IntKind.wrap_u64]; omega
    have Hst := hid hst
    clear hp hsm hst
    go_wp2
    go_region_law (go_loud (refine step_append_own rfl _ _ 23 rfl w.heap.size 95 i0 (.int .u64 0) Tryz.underlying23 hi hz0 hz1 hz2 rfl _ _ _ rfl ((hown.alloc _).drew) wr.heap.size 1 [.int .u64 (s : Int)] rfl rfl one_cells (by simp [Value.oneCell']) (by omega) (by have := hbel.size; simp; omega) ?_); intro v' w1 hown' hgrow)
    all_goals
     have hb1 : Below w.heap.size w w1 := ((hbel.alloc hbel.size _).drew).grown hgrow (by have := hbel.size; simp; omega) (own_nil_of hown)
     go_wp2
     go_roundw
     case rel => exact ⟨k + 1, j + 2, by omega, hid (by have := hj.out; omega), by go_num, by rw [Hst.out]; simpa using hown', hb1⟩
     case measure => simp [intOf]; omega
  · obtain rfl : k = K := by omega
    obtain ⟨A2, c2, rfl⟩ := own_shape hown
    have hsp := pairsOf_small hs k
    have hu := isU_after (B := w.heap.size) hsp (pairsOf_length l k).symm hown (Nat.le_refl _)
    have hlen := pairsOf_length l k
    have Hval := hid (pairs_all HK.out)
    have hjN : decide ((j : Int) + 1 < (N : Int)) = false := by
     have h1 := hj.out
     have h2 := HN2.out
     simp only [decide_eq_false_iff_not]
     omega
    have hjb : j ≤ 600000000000 := by have h1 := hj.out; omega
    generalize pairsOf l k = L at *
    have hcap := hu.cap
    have hmax := hu.max
    have Hlen := hid hlen
    have hcap2 : k ≤ c2 := by omega
    clear hown hlen hcap
    go_wp2
    clear hjN
    go_loop [3] (fun v => ∃ k2 : Nat, k2 ≤ k ∧ v = .slice A2 k2 c2 ∧ Hid (∀ j (hj : j < L.length), k2 ≤ j → L[j] = 0)) (fun v => match v with | .slice _ k2 _ => k2 | _ => 0)
    case atStart => exact ⟨_, Nat.le_refl _, rfl, fun j hj hk => absurd hj (by have := Hlen.out; omega)⟩
    case round =>
     obtain ⟨k2, hk2, rfl, hz⟩ := hrel
     have hfin : k2 = 0 ∨ (∃ h : k2 - 1 < L.length, L[k2 - 1] ≠ 0) → IsN wr (new w.heap.size) (.slice A2 k2 c2) (valH l) := fun hg => by
      have e := trim_take L hsp k2 (by have := Hlen.out; omega) hz.out hg
      have ht := hu.take k2
      rw [e, Hval.out] at ht
      have hl2 : (limbs (valH l)).length = k2 := by
       rw [← Hval.out, ← e, List.length_take, Hlen.out]
       omega
      exact ⟨A2, c2, by rw [hl2], ht⟩
     have Hfin := hid hfin
     clear hfin
     by_cases hk0 : k2 = 0
     · subst hk0
       have hd : decide ((0 : Int) < ((0 : Nat) : Int)) = false := rfl
       go_wp2
       go_ret
       exact ⟨_, rfl, Hfin.out (by simp), hbel⟩
     · obtain ⟨b, o, rfl, _, _, _, hc⟩ := hu.open (by have := Hlen.out; omega)
       have hk1 : k2 - 1 < L.length := by have := Hlen.out; omega
       have hx := hc (k2 - 1) hk1
       by_cases hl : L[k2 - 1] = 0
       · have hne : ((L[k2 - 1] : Int) == 0) = true := by simpa using hl
         have Hl := hid hl
         clear hl hc
         go_wp2
         go_round
         case rel =>
          refine ⟨k2 - 1, by omega, ?_, fun j hj hjk => ?_⟩
          · rfl
          · rcases Nat.lt_or_ge j k2 with h1 | h1
            · obtain rfl : j = k2 - 1 := by omega
              exact Hl.out
            · exact hz.out j hj h1
         case measure =>
          show k2 - 1 < k2
          omega
       · have hne : ((L[k2 - 1] : Int) == 0) = false := by simpa using hl
         have Hl := hid hl
         clear hl hc
         go_wp2
         go_ret
         exact ⟨_, rfl, Hfin.out (.inr ⟨hk1, Hl.out⟩), hbel⟩
theorem rtimes_good {Y : Zone} {b : Value} {m n : Nat} (ha : IsN w Z a m) (hb : IsN w Y b n) (hl : (limbs m).length ≤ 100000000000) (hl2 : (limbs n).length ≤ 100000000000) :
  Calls Tryz.prog 131 #[a, b] w fun e w' => ∃ v, e = .returned v ∧ IsN w' (new w.heap.size) v (m * n) ∧ Below w.heap.size w w' := by
 have hna := ha
 have hnb := hb
 have hva := (valH_digs (limbs m)).trans (val_limbs m)
 have hvb := (valH_digs (limbs n)).trans (val_limbs n)
 have hda := digs_length (limbs m)
 have hdb := digs_length (limbs n)
 have hsa := digs_small _ (small_limbs m)
 have hsb := digs_small _ (small_limbs n)
 obtain ⟨A, ca, rfl, -⟩ := ha
 obtain ⟨B, cb, rfl, -⟩ := hb
 obtain ⟨i0, hi, hz0, hz1, hz2⟩ := info_parts Tryz.info95
 go_enter Tryz.func131, Tryz.ntmps131
 go_wp2_with fail
 refine (halves_any hna hl).mono ?_
 rintro e w1 ⟨x, rfl, hx, hb1⟩
 replace hnb := hnb.below hb1
 go_wp2_with fail
 refine (halves_any hnb hl2).mono ?_
 rintro e w2 ⟨y, rfl, hy, hb2⟩
 replace hx := hx.below hb2
 have hB := from_ hb1 hb2
 obtain ⟨X, cx, rfl, hx⟩ := hx
 obtain ⟨Y', cy, rfl, hy⟩ := hy
 have hsz : w.heap.size ≤ w2.heap.size := hB.size
 clear hna hnb hb1 hb2
 generalize limbs m = lm at *
 generalize limbs n = ln at *
 generalize digs lm = la at *
 generalize digs ln = lb at *
 obtain ⟨Hva, Hvb⟩ := hid2 hva hvb
 have hla : la.length ≤ 200000000000 := by omega
 have hlb : lb.length ≤ 200000000000 := by omega
 obtain ⟨Hda, Hdb⟩ := hid2 hda hdb
 clear hva hvb hda hdb
 go_wp2_with (at_make; go_loud (refine wpList_make_full _ rfl _ _ 22 rfl w2.heap.size 95 i0 (.int .u64 0) 1 Tryz.underlying22 hi hz0 hz1 .i64 .i64 _ _ (la.length + lb.length) rfl rfl (by omega) (by omega) (by rw [hz2]; omega) (by simp only [maxLen]; omega) (Nat.le_refl _) ?_); intro w3 hown hgrow)
 have hcells : (madeCells (Value.int .u64 0).cells ((la.length + lb.length) * 1)).toList = (List.replicate (la.length + lb.length) 0).map fun x : Nat => Value.int .u64 (x : Int) := by
  rw [Nat.mul_one, List.map_replicate]
  simpa [Value.cells] using toList_madeCells_one (.int .u64 0) (la.length + lb.length)
 rw [hcells] at hown
 have hb1 : Below w2.heap.size w2 w3 := (Below.refl _ w2).grown hgrow (Nat.le_refl _) (fun k h => by cases h)
 clear hcells hgrow
 go_wp2
 go_loopw [8] (fun i wr => ∃ (k : Nat) (O : List Nat), k ≤ la.length ∧ i = .int .i64 k ∧ wr.ownsRow w2.heap.size 95 1 (.slice (some ⟨w2.heap.size, 0, none⟩) (la.length + lb.length) (la.length + lb.length)) (la.length + lb.length) (O.map fun x : Nat => Value.int .u64 (x : Int)) ∧ RowH0 la lb k O ∧ Below w2.heap.size w2 wr)
  (fun i _ => la.length - (intOf i).toNat)
 case atStart => exact ⟨0, _, Nat.zero_le _, rfl, hown, RowH0.start la lb, hb1⟩
 case round =>
  obtain ⟨i, O, hi', rfl, hown, hrow, hbel⟩ := hrel
  by_cases hlt : i < la.length
  · obtain ⟨b1, o1, rfl, _, hbb1, _, hc1⟩ := hx.open (by omega)
    have hcx := hc1 i hlt
    have hxl := hsa.get hlt
    obtain ⟨xx, hxx⟩ : ∃ x, x = la[i] := ⟨_, rfl⟩
    rw [← hxx] at hcx hxl
    have Hxx := hid hxx
    clear hxx hc1
    have Hcx := hid hcx
    clear hcx
    go_wp2
    go_loopw [10, 9] (fun jv cv wr => ∃ (j : Nat) (O : List Nat) (cy : Nat), j ≤ lb.length ∧ jv = .int .i64 j ∧ cv = .int .u64 (cy : Int) ∧ wr.ownsRow w2.heap.size 95 1 (.slice (some ⟨w2.heap.size, 0, none⟩) (la.length + lb.length) (la.length + lb.length)) (la.length + lb.length) (O.map fun x : Nat => Value.int .u64 (x : Int)) ∧ RowH1 la lb i j O cy ∧ Below w2.heap.size w2 wr)
     (fun jv _ _ => lb.length - (intOf jv).toNat)
    case atStart => exact ⟨0, O, 0, Nat.zero_le _, rfl, rfl, hown, hrow.first, hbel⟩
    case round =>
     clear hbel hown hrow
     obtain ⟨j, O', cy, hj, rfl, rfl, hown', hrow', hbel'⟩ := hrel
     by_cases hjlt : j < lb.length
     · obtain ⟨b2, o2, rfl, _, hbb2, _, hc2⟩ := hy.open (by omega)
       have hcx := (hbel'.cell (p := ⟨b1, o1 + i, none⟩) hbb1).trans Hcx.out
       have hcy2 := (hbel'.cell (p := ⟨b2, o2 + j, none⟩) hbb2).trans (hc2 j hjlt)
       have hyl := hsb.get hjlt
       obtain ⟨hp, hst⟩ := hrow'.step hlt hjlt hsa hsb
       have hpl : i + j < la.length + lb.length := by omega
       have hcell := hown'.cellAt (i + j) (by omega)
       rw [List.getElem?_map, List.getElem?_eq_getElem hp] at hcell
       have hol := hrow'.small.get hp
       have hcy := hrow'.word
       have hcell' : _ = some (Value.int .u64 (O'[i + j] : Int)) := hcell
       have hfr := hown'.frozenAt (i + j)
       rw [← Hxx.out] at hst
       clear hcell hc2 hrow'
       generalize lb[j] = y at *
       generalize O'[i + j] = o at *
       obtain ⟨q1, q2⟩ := step_half hxl hyl hol hcy
       obtain ⟨p, hp⟩ : ∃ p, p = xx * y := ⟨_, rfl⟩
       obtain ⟨s, hs⟩ : ∃ s, s = p + o := ⟨_, rfl⟩
       obtain ⟨t, ht⟩ : ∃ t, t = s + cy := ⟨_, rfl⟩
       rw [← hp, ← hs, ← ht] at hst q1 q2
       obtain ⟨r, hr⟩ : ∃ r, r = t % 4294967296 := ⟨_, rfl⟩
       obtain ⟨d, hd⟩ : ∃ d, d = t / 4294967296 := ⟨_, rfl⟩
       rw [← hr, ← hd] at hst
       rw [← hd] at q2
       have e1 : (xx : Int) * (y : Int) = (p : Int) := by rw [hp, Int.natCast_mul]
       have e2 : (p : Int) + (o : Int) = (s : Int) := by omega
       have e3 : (s : Int) + (cy : Int) = (t : Int) := by omega
       have e4 : (t : Int) % 4294967296 = (r : Int) := by omega
       have e5 : (t : Int) / 4294967296 = (d : Int) := by omega
       have hp1 : p < 18446744073709551616 := by omega
       have hs1 : s < 18446744073709551616 := by omega
       have hr1 : r < 18446744073709551616 := by omega
       have Hst := hid hst
       clear hp hs ht hr hd hst
       go_wp2
       go_quiet (fail)
       generalize hwq : wr.drewN _ = wq
       have hown2 : wq.ownsRow w2.heap.size 95 1 (.slice (some ⟨w2.heap.size, 0, none⟩) (la.length + lb.length) (la.length + lb.length)) (la.length + lb.length) (O'.map fun x : Nat => Value.int .u64 (x : Int)) := by subst hwq; exact hown'
       have hbel2 : Below w2.heap.size w2 wq := by subst hwq; exact below_drewN' hbel' _
       have hcell2 : wq.cell? ⟨w2.heap.size, i + j, none⟩ = some (Value.int .u64 (o : Int)) := by subst hwq; exact hcell'
       have hfr2 := hown2.frozenAt (i + j)
       have o1 := hown2.stored (i + j) (.int .u64 (r : Int))
       clear hwq hown' hbel' hcell' hfr hcx hcy2
       go_wp2
       go_roundw
       case rel =>
        refine ⟨j + 1, O'.set (i + j) r, d, by omega, by go_num, rfl, ?_, Hst.out, hbel2.setCell (p := ⟨w2.heap.size, i + j, none⟩) (Nat.le_refl _) _⟩
        rw [List.map_set]
        exact o1.1
       case measure => simp [intOf]; omega
     · obtain rfl : j = lb.length := by omega
       have hlast := hrow'.last hlt
       have hp : i + lb.length < O'.length := by have := hrow'.len; omega
       have hcell := hown'.cellAt (i + lb.length) (by omega)
       rw [List.getElem?_map, List.getElem?_eq_getElem hp] at hcell
       have hcell' : _ = some (Value.int .u64 (O'[i + lb.length] : Int)) := hcell
       have hfr := hown'.frozenAt (i + lb.length)
       have hpl : i + lb.length < la.length + lb.length := by omega
       have o1 := hown'.stored (i + lb.length) (.int .u64 (cy : Int))
       generalize O'[i + lb.length] = old1 at *
       have Hl := hid hlast
       clear hlast hcell hrow'
       go_wp2
       go_roundw
       case rel =>
        refine ⟨i + 1, O'.set (i + lb.length) cy, by omega, by go_num, ?_, Hl.out, hbel'.setCell (p := ⟨w2.heap.size, i + lb.length, none⟩) (Nat.le_refl _) _⟩
        rw [List.map_set]
        exact o1.1
       case measure => simp [intOf]; omega
  · obtain rfl : i = la.length := by omega
    have hv := hrow.done
    have hsm := hrow.small
    have hlen := hrow.len
    have hu := isU_after (B := w2.heap.size) (fun x hx => Nat.lt_of_lt_of_le (hsm x hx) (by omega)) hlen.symm hown (Nat.le_refl _)
    have hU : IsU wr (new w2.heap.size) (.slice (some ⟨w2.heap.size, 0, none⟩) (la.length + lb.length) (la.length + lb.length)) O := ⟨_, _, by rw [hlen], hu⟩
    have hK : O.length = 2 * (lm.length + ln.length) := by have := Hda.out; have := Hdb.out; omega
    obtain ⟨HU, Hv, HK⟩ := hid3 hU hv hK
    clear hv hrow hu hU hlen hown hK
    go_wp2_with fail
    refine (whole_any HU.out hsm HK.out (by omega)).mono ?_
    rintro e w4 ⟨v, rfl, hv, hb4⟩
    go_wp2
    go_ret
    rw [Hv.out, Hva.out, Hvb.out] at hv
    exact ⟨v, rfl, hv.mono (new_le (Nat.le_trans hsz hbel.size)), from_ hB (from_ hbel hb4)⟩
end Go.Proofs.YthpngihjcphigaaGreat
