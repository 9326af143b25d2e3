/-
  Rows of whole numbers: vec.Twin, vec.Content, vec.Prime. No conditions but bounds on lengths.
  Rows of whole numbers: vec.Prime; contents and lowest terms, the plain laws. No conditions but bounds on lengths.
-/
import Derived.Test.YtmeknjfffhblaaaQVecP
import Derived.Test.YtmeknjfffhblaaaQGcdA
import Derived.Test.YtmeknjfffhblaaaQWhO
namespace Go.Proofs.Ytmeknjfffhblaaa
open Go.RowKit
set_option linter.unusedVariables false
set_option linter.unusedSimpArgs false

theorem clone_n {w : World} {Z : Zone} {A : Option Addr} {c : Nat} {l : List Nat} (ha : U64s w Z A c l) (hb : l.length ≤ 1000000) :
    Calls Try.prog 104 #[.slice A l.length c] w fun e w' => ∃ A' c', e = .returned (.slice A' l.length c') ∧ U64s w' (new w.heap.size) A' c' l ∧ Below w.heap.size w w' := by
  refine (clone_any rfl ha hb).mono ?_
  rintro e w' ⟨v, rfl, hown, hb⟩
  obtain ⟨A', c', rfl⟩ := own_shape hown
  exact ⟨A', c', rfl, isU_after ha.small rfl hown (Nat.le_refl _), hb⟩

set_option maxRecDepth 100000 in
set_option maxHeartbeats 1000000 in
theorem vtwin1 {w : World} {Z : Zone} {s : Bool} {l : List Nat} {A : Option Addr} {c ix : Nat} (u1 : U64s w Z A c l) (hl : l.length ≤ 100000) :
    Calls Try.prog 103 #[.int .i64 (ix : Int), .agg #[.bool s, .slice A l.length c]] w fun e w' => ∃ Av cv, e = .returned (.agg #[.bool s, .slice Av l.length cv]) ∧ U64s w' (new w.heap.size) Av cv l ∧ Below w.heap.size w w' := by
  obtain ⟨bA, bR, hB0⟩ := boxes2 w (.bool s) (.slice A l.length c) (.bool false) (.slice none 0 0) 37
  obtain ⟨a0, a1, _, _, _⟩ := bA
  have hd : Below w.heap.size w ((w.alloc (.cells #[.bool s, .slice A l.length c] 37)).alloc (.cells #[.bool false, .slice none 0 0] 37)).drew := hB0.drew
  have bRd := bR.below (W' := ((w.alloc (.cells #[.bool s, .slice A l.length c] 37)).alloc (.cells #[.bool false, .slice none 0 0] 37)).drew) ((Below.refl _ _).drew)
  have s0 := (show ((w.alloc (.cells #[.bool s, .slice A l.length c] 37)).alloc (.cells #[.bool false, .slice none 0 0] 37)).drew.cell? ⟨w.heap.size, 0, none⟩ = _ from a0)
  have s1 := (show ((w.alloc (.cells #[.bool s, .slice A l.length c] 37)).alloc (.cells #[.bool false, .slice none 0 0] 37)).drew.cell? ⟨w.heap.size, 1, none⟩ = _ from a1)
  have C0 := Lib.hid (clone_n (u1.below hd) (by omega))
  have HB := Lib.hid hd
  clear u1 hB0 hd bR a0 a1
  go_enter Try.func103, Try.ntmps103
  go_wp2
  go_region_held3 (fun w' => w'.cell? ⟨w.heap.size, 0, none⟩ = some (.bool s) ∧ w'.cell? ⟨w.heap.size, 1, none⟩ = some (.slice A l.length c))
    (first
      | (go_keep; done)
      | exact ⟨t0, t1⟩
      | exact ⟨stV t0 (by omega), stV t1 (by omega)⟩)
    (first
      | (go_at_call 104; with_reducible refine C0.out.mono ?_; rintro e w1 ⟨A1, c1, rfl, u1, hc1⟩; have t0 := keepC hc1 s0; have t1 := keepC hc1 s1; obtain ⟨q0, q1, f0, f1, _⟩ := bRd.below hc1))
  all_goals
    have hBz := from_ HB.out hc1
    have hP := (bRd.below hc1).put hBz (by omega) (.bool s) (.slice A1 l.length c1)
    have hiv : IsU w1 _ (.slice A1 l.length c1) l := ⟨A1, c1, rfl, u1⟩
    have hu2 := hP.keep (by have := HB.out.size; have := bRd.lt; omega) hiv
    have Hu := Lib.hid hu2
    have HP := Lib.hid hP
    clear hu2 hP hiv
    go_wp2
    refine bodyPost_ret (res_int rfl _ (w.heap.size + 1) rfl HP.out.c0 HP.out.c1) rfl ?_
    obtain ⟨A', c', e', h'⟩ := Hu.out
    injection e' with e1 e2 e3
    subst e1 e3
    exact ⟨_, _, rfl, h', HP.out.bel⟩

set_option maxRecDepth 100000 in
set_option maxHeartbeats 2000000 in
theorem veach_twin {w : World} {Z : Zone} {A : Option Addr} {c : Nat} {ps qs : List (Bool × List Nat)} (ha : VecAt w Z A c ps) (hq : qs.length = ps.length) (hl : ps.length ≤ 100000)
    (hF : ∀ j (hj : j < ps.length) (hj' : j < qs.length) (w1 : World) B d, Below w.heap.size w w1 → U64s w1 Z B d ps[j].2 → Calls Try.prog 103 #[.int .i64 (j : Int), .agg #[.bool ps[j].1, .slice B ps[j].2.length d]] w1 fun e w' => ∃ A c, e = .returned (.agg #[.bool qs[j].1, .slice A qs[j].2.length c]) ∧ U64s w' (new w1.heap.size) A c qs[j].2 ∧ Below w1.heap.size w1 w') :
    Calls Try.prog 58 #[.slice A ps.length c, .func (.func 103) #[] #[]] w fun e w' => ∃ Av cv, e = .returned (.slice Av qs.length cv) ∧ VecAt w' (new w.heap.size) Av cv qs ∧ Below w.heap.size w w' := by
  obtain ⟨i0, hi, hz0, hz1, hz2⟩ := info_parts infoI
  obtain ⟨n, hn⟩ : ∃ n, n = ps.length := ⟨_, rfl⟩
  have hn' : qs.length = n := by omega
  have HF := Lib.hid hF
  have hmx := ha.max
  have hcp := ha.cap
  rw [← hn] at hl hcp ⊢
  have Hn := Lib.hid hn
  have Hn' := Lib.hid hn'
  clear hF hq hn hn'
  go_enter Try.func58, Try.ntmps58
  go_wp2_with (at_make; go_loud (refine wpList_make_full _ rfl _ _ 23 rfl w.heap.size 37 i0 (.agg #[.bool false, .slice none 0 0]) 2 Try.underlying23 hi hz0 hz1 .i64 .i64 _ _ n rfl rfl rfl rfl (by rw [hz2]; omega) (by simp only [maxLen]; omega) (Nat.le_refl _) ?_); intro w1 hown hgrow)
  have hb1 : Below w.heap.size w w1 := (Below.refl _ w).grown hgrow (Nat.le_refl _) (fun k h => by cases h)
  generalize (madeCells (Value.agg #[.bool false, .slice none 0 0]).cells (n * 2)).toList = xs0 at hown
  clear hgrow
  go_wp2
  go_loopw [13] (fun i wr => ∃ (k : Nat) (xs : List Value), k ≤ n ∧ i = .int .i64 (k : Int) ∧ wr.ownsRow w.heap.size 37 2 (.slice (some ⟨w.heap.size, 0, none⟩) n n) n xs ∧ Hid (CellsQ wr w.heap.size xs k qs) ∧ Below w.heap.size w wr ∧ w.heap.size < wr.heap.size) (fun i _ => n - (intOf i).toNat)
  case atStart => exact ⟨0, xs0, Nat.zero_le _, rfl, hown, fun j hj h => absurd h (by omega), hb1, (hown.lt _ rfl).2⟩
  case round =>
    clear hown hb1
    obtain ⟨k, xs, hk, rfl, hown, hcells, hbel, hgt⟩ := hrel
    by_cases hlt : k < n
    · have hkp : k < ps.length := by have := Hn.out; omega
      have hkq : k < qs.length := by have := Hn'.out; omega
      obtain ⟨b, o, B, d, rfl, hbb, c0, c1, hu⟩ := (ha.below hbel).at hkp
      have hxl := hown.1
      have hput := fun (w2 w' : World) (A2 : Option Addr) (c2 : Nat) (h1 : CellsQ w2 w.heap.size xs k qs) h2 h3 => h1.put (w' := w') (A := A2) (c := c2) (by have := Hn'.out; omega) hkq h2 h3
      have Hput := Lib.hid hput
      have hal : Below wr.heap.size wr (wr.alloc (.cells #[.bool ps[k].1, .slice B ps[k].2.length d] 37)) := (Below.refl _ _).alloc (Nat.le_refl _) _
      have hfk := HF.out k hkp hkq _ B d (from_ hbel hal) (by
        obtain ⟨b', o', B', d', e, _, _, c1', hu'⟩ := ha.at hkp
        injection e with e
        injection e with e1 e2
        subst e1 e2
        have h5 := (keepC hbel c1').symm.trans c1
        injection h5 with h5
        injection h5 with h6 h7 h8
        subst h6 h8
        exact (hu'.below hbel).below hal)
      have Hfk := Lib.hid hfk
      have Hal := Lib.hid hal
      clear hput hfk hal hu
      generalize ps[k].1 = s at *
      generalize ps[k].2 = l at *
      generalize qs[k].1 = s2 at *
      generalize qs[k].2 = l2 at *
      go_wp2_with fail
      refine Hfk.out.mono ?_
      rintro e w2 ⟨Au, cu, rfl, hu', hb2⟩
      have hb3 := from_ Hal.out hb2
      have hown2 := own_below hown hb3
      have hcells2 := hcells.out.keep (w' := w2) fun b _ hl => hb3.block b hl
      have hub := hu'.mono (Y := new (w.heap.size + 1)) (new_le (by have := Hal.out.size; omega))
      have hP := Hput.out w2 ((w2.setCell ⟨w.heap.size, k * 2, none⟩ (.bool s2)).setCell ⟨w.heap.size, k * 2 + 1, none⟩ (.slice Au l2.length cu)) Au cu hcells2 hub (fun b hb _ => by
        rw [Below.heap_setCell _ _ _ _ hb, Below.heap_setCell _ _ _ _ hb])
      have d0 := hown2.cellAt (k * 2) (by omega)
      have d1 := hown2.cellAt (k * 2 + 1) (by omega)
      rw [List.getElem?_eq_getElem (by omega)] at d0 d1
      have f0 := hown2.frozenAt (k * 2)
      have f1 := hown2.frozenAt (k * 2 + 1)
      have o1 := (hown2.stored (k * 2) (.bool s2)).1
      have o2 := (o1.stored (k * 2 + 1) (.slice Au l2.length cu)).1
      have hB2 := from_ hbel hb3
      have hB3 := (hB2.setCell (p := ⟨w.heap.size, k * 2, none⟩) (Nat.le_refl _) (.bool s2)).setCell (p := ⟨w.heap.size, k * 2 + 1, none⟩) (Nat.le_refl _) (.slice Au l2.length cu)
      have hgt3 : w.heap.size < ((w2.setCell ⟨w.heap.size, k * 2, none⟩ (.bool s2)).setCell ⟨w.heap.size, k * 2 + 1, none⟩ (.slice Au l2.length cu)).heap.size := by
        have := hb3.size
        simp [World.setCell]
        omega
      have HP := Lib.hid hP
      have HO := Lib.hid o2
      have HB := Lib.hid hB3
      clear hP o1 o2 hu' hub hown2 hcells2 hcells hown hB2 hB3 hb2 hb3 Hput
      generalize xs[k * 2] = x0 at *
      generalize xs[k * 2 + 1] = x1 at *
      go_wp2
      go_roundw
      case rel => exact ⟨k + 1, _, by omega, by go_num, HO.out, HP, HB.out, hgt3⟩
      case measure => simp [intOf]; omega
    · obtain rfl : n = k := by omega
      have hnn := Hn'.out
      have hfin : VecAt wr (new w.heap.size) (some ⟨w.heap.size, 0, none⟩) n qs := by
        have h1 := hcells.out
        rw [← hnn] at h1 hown ⊢
        exact h1.fin hown hgt (Nat.le_refl _) (by omega)
      have Hfin := Lib.hid hfin
      clear hfin hcells hown
      go_wp2
      go_ret
      rw [Hn'.out]
      exact ⟨_, _, rfl, Hfin.out, hbel⟩

set_option maxRecDepth 100000 in
set_option maxHeartbeats 2000000 in
theorem veach_prime {w : World} {Z : Zone} {A : Option Addr} {c : Nat} {ps qs : List (Bool × List Nat)} {p0 : Addr} (ha : VecAt w Z A c ps) (hq : qs.length = ps.length) (hl : ps.length ≤ 100000)
    (hF : ∀ j (hj : j < ps.length) (hj' : j < qs.length) (w1 : World) B d, Below w.heap.size w w1 → U64s w1 Z B d ps[j].2 → Calls Try.prog 66 #[.int .i64 (j : Int), .agg #[.bool ps[j].1, .slice B ps[j].2.length d], .pointer (some p0)] w1 fun e w' => ∃ A c, e = .returned (.agg #[.bool qs[j].1, .slice A qs[j].2.length c]) ∧ U64s w' (new w1.heap.size) A c qs[j].2 ∧ Below w1.heap.size w1 w') :
    Calls Try.prog 58 #[.slice A ps.length c, .func (.func 66) #[] #[.pointer (some p0)]] w fun e w' => ∃ Av cv, e = .returned (.slice Av qs.length cv) ∧ VecAt w' (new w.heap.size) Av cv qs ∧ Below w.heap.size w w' := by
  obtain ⟨i0, hi, hz0, hz1, hz2⟩ := info_parts infoI
  obtain ⟨n, hn⟩ : ∃ n, n = ps.length := ⟨_, rfl⟩
  have hn' : qs.length = n := by omega
  have HF := Lib.hid hF
  have hmx := ha.max
  have hcp := ha.cap
  rw [← hn] at hl hcp ⊢
  have Hn := Lib.hid hn
  have Hn' := Lib.hid hn'
  clear hF hq hn hn'
  go_enter Try.func58, Try.ntmps58
  go_wp2_with (at_make; go_loud (refine wpList_make_full _ rfl _ _ 23 rfl w.heap.size 37 i0 (.agg #[.bool false, .slice none 0 0]) 2 Try.underlying23 hi hz0 hz1 .i64 .i64 _ _ n rfl rfl rfl rfl (by rw [hz2]; omega) (by simp only [maxLen]; omega) (Nat.le_refl _) ?_); intro w1 hown hgrow)
  have hb1 : Below w.heap.size w w1 := (Below.refl _ w).grown hgrow (Nat.le_refl _) (fun k h => by cases h)
  generalize (madeCells (Value.agg #[.bool false, .slice none 0 0]).cells (n * 2)).toList = xs0 at hown
  clear hgrow
  go_wp2
  go_loopw [13] (fun i wr => ∃ (k : Nat) (xs : List Value), k ≤ n ∧ i = .int .i64 (k : Int) ∧ wr.ownsRow w.heap.size 37 2 (.slice (some ⟨w.heap.size, 0, none⟩) n n) n xs ∧ Hid (CellsQ wr w.heap.size xs k qs) ∧ Below w.heap.size w wr ∧ w.heap.size < wr.heap.size) (fun i _ => n - (intOf i).toNat)
  case atStart => exact ⟨0, xs0, Nat.zero_le _, rfl, hown, fun j hj h => absurd h (by omega), hb1, (hown.lt _ rfl).2⟩
  case round =>
    clear hown hb1
    obtain ⟨k, xs, hk, rfl, hown, hcells, hbel, hgt⟩ := hrel
    by_cases hlt : k < n
    · have hkp : k < ps.length := by have := Hn.out; omega
      have hkq : k < qs.length := by have := Hn'.out; omega
      obtain ⟨b, o, B, d, rfl, hbb, c0, c1, hu⟩ := (ha.below hbel).at hkp
      have hxl := hown.1
      have hput := fun (w2 w' : World) (A2 : Option Addr) (c2 : Nat) (h1 : CellsQ w2 w.heap.size xs k qs) h2 h3 => h1.put (w' := w') (A := A2) (c := c2) (by have := Hn'.out; omega) hkq h2 h3
      have Hput := Lib.hid hput
      have hal : Below wr.heap.size wr (wr.alloc (.cells #[.bool ps[k].1, .slice B ps[k].2.length d] 37)) := (Below.refl _ _).alloc (Nat.le_refl _) _
      have hfk := HF.out k hkp hkq _ B d (from_ hbel hal) (by
        obtain ⟨b', o', B', d', e, _, _, c1', hu'⟩ := ha.at hkp
        injection e with e
        injection e with e1 e2
        subst e1 e2
        have h5 := (keepC hbel c1').symm.trans c1
        injection h5 with h5
        injection h5 with h6 h7 h8
        subst h6 h8
        exact (hu'.below hbel).below hal)
      have Hfk := Lib.hid hfk
      have Hal := Lib.hid hal
      clear hput hfk hal hu
      generalize ps[k].1 = s at *
      generalize ps[k].2 = l at *
      generalize qs[k].1 = s2 at *
      generalize qs[k].2 = l2 at *
      go_wp2_with fail
      refine Hfk.out.mono ?_
      rintro e w2 ⟨Au, cu, rfl, hu', hb2⟩
      have hb3 := from_ Hal.out hb2
      have hown2 := own_below hown hb3
      have hcells2 := hcells.out.keep (w' := w2) fun b _ hl => hb3.block b hl
      have hub := hu'.mono (Y := new (w.heap.size + 1)) (new_le (by have := Hal.out.size; omega))
      have hP := Hput.out w2 ((w2.setCell ⟨w.heap.size, k * 2, none⟩ (.bool s2)).setCell ⟨w.heap.size, k * 2 + 1, none⟩ (.slice Au l2.length cu)) Au cu hcells2 hub (fun b hb _ => by
        rw [Below.heap_setCell _ _ _ _ hb, Below.heap_setCell _ _ _ _ hb])
      have d0 := hown2.cellAt (k * 2) (by omega)
      have d1 := hown2.cellAt (k * 2 + 1) (by omega)
      rw [List.getElem?_eq_getElem (by omega)] at d0 d1
      have f0 := hown2.frozenAt (k * 2)
      have f1 := hown2.frozenAt (k * 2 + 1)
      have o1 := (hown2.stored (k * 2) (.bool s2)).1
      have o2 := (o1.stored (k * 2 + 1) (.slice Au l2.length cu)).1
      have hB2 := from_ hbel hb3
      have hB3 := (hB2.setCell (p := ⟨w.heap.size, k * 2, none⟩) (Nat.le_refl _) (.bool s2)).setCell (p := ⟨w.heap.size, k * 2 + 1, none⟩) (Nat.le_refl _) (.slice Au l2.length cu)
      have hgt3 : w.heap.size < ((w2.setCell ⟨w.heap.size, k * 2, none⟩ (.bool s2)).setCell ⟨w.heap.size, k * 2 + 1, none⟩ (.slice Au l2.length cu)).heap.size := by
        have := hb3.size
        simp [World.setCell]
        omega
      have HP := Lib.hid hP
      have HO := Lib.hid o2
      have HB := Lib.hid hB3
      clear hP o1 o2 hu' hub hown2 hcells2 hcells hown hB2 hB3 hb2 hb3 Hput
      generalize xs[k * 2] = x0 at *
      generalize xs[k * 2 + 1] = x1 at *
      go_wp2
      go_roundw
      case rel => exact ⟨k + 1, _, by omega, by go_num, HO.out, HP, HB.out, hgt3⟩
      case measure => simp [intOf]; omega
    · obtain rfl : n = k := by omega
      have hnn := Hn'.out
      have hfin : VecAt wr (new w.heap.size) (some ⟨w.heap.size, 0, none⟩) n qs := by
        have h1 := hcells.out
        rw [← hnn] at h1 hown ⊢
        exact h1.fin hown hgt (Nat.le_refl _) (by omega)
      have Hfin := Lib.hid hfin
      clear hfin hcells hown
      go_wp2
      go_ret
      rw [Hn'.out]
      exact ⟨_, _, rfl, Hfin.out, hbel⟩

theorem len_gcd (g x : Nat) : (limbs (Nat.gcd g x)).length ≤ max (limbs g).length (limbs x).length := by
  rcases Nat.eq_zero_or_pos g with rfl | h
  · rw [Nat.gcd_zero_left]
    omega
  · have := len_mono (Nat.le_of_dvd h (Nat.gcd_dvd_left g x))
    omega
def gcdK (xs : List Int) (k : Nat) : Nat := (xs.take k).foldl (fun g x => Nat.gcd g x.natAbs) 0
def gcdV (xs : List Int) : Nat := xs.foldl (fun g x => Nat.gcd g x.natAbs) 0
theorem gcdK_succ {xs : List Int} {k : Nat} (h : k < xs.length) : gcdK xs (k + 1) = Nat.gcd (gcdK xs k) (xs[k]).natAbs := by
  unfold gcdK
  rw [List.take_succ_eq_append_getElem h, List.foldl_append]
  rfl
theorem gcdK_all {xs : List Int} {k : Nat} (h : xs.length ≤ k) : gcdK xs k = gcdV xs := by
  unfold gcdK gcdV
  rw [List.take_of_length_le h]

set_option maxRecDepth 100000 in
set_option maxHeartbeats 1000000 in
theorem vtwin_any {w : World} {Z : Zone} {A : Option Addr} {c : Nat} {ps : List (Bool × List Nat)} (ha : VecAt w Z A c ps) (hl : ps.length ≤ 100000) (hK : ∀ p ∈ ps, p.2.length ≤ 100000) :
    Calls Try.prog 65 #[.slice A ps.length c] w fun e w' => ∃ Av cv, e = .returned (.slice Av ps.length cv) ∧ VecAt w' (new w.heap.size) Av cv ps ∧ Below w.heap.size w w' := by
  have hF := veach_twin (qs := ps) ha rfl hl (fun j hj hj' w1 B d hb hu => vtwin1 hu (hK ps[j] (List.getElem_mem hj)))
  have HF := Lib.hid hF
  clear hF ha hK
  generalize ps.length = L at *
  go_enter Try.func65, Try.ntmps65
  go_wp2_with fail
  refine HF.out.mono ?_
  rintro e w1 ⟨Av, cv, rfl, hv, hb1⟩
  have HV := Lib.hid hv
  clear hv
  go_wp2
  go_ret
  exact ⟨_, _, rfl, HV.out, hb1⟩

set_option maxRecDepth 100000 in
set_option maxHeartbeats 1000000 in
theorem vcontent_err {w : World} {Z : Zone} {A : Option Addr} {c : Nat} {ps : List (Bool × List Nat)} (ha : VecAt w Z A c ps) (hE : okV ps = false) :
    Calls Try.prog 21 #[.slice A ps.length c] w fun e w' => e = .returned (.tuple #[.slice none 0 0, .int .i64 8]) ∧ Below w.heap.size w w' := by
  have hal : Below w.heap.size w (w.alloc (.cells #[.slice A ps.length c] 23)) := (Below.refl _ _).alloc (Nat.le_refl _) _
  have hg := given_oneV (ty := 23) ha
  have hck := vchecked_any (n := 1) hg rfl (by simp) (by simp)
  have e1 : errV ps = 8 := by unfold errV; rw [hE]; rfl
  rw [errVs_one, e1] at hck
  have Hck := Lib.hid hck
  have Hal := Lib.hid hal
  clear hck hg hal ha hE e1
  generalize ps.length = n1 at *
  go_enter Try.func21, Try.ntmps21
  go_wp2_with fail
  refine Hck.out.mono ?_
  rintro e w1 ⟨rfl, hc1⟩
  have HB := Lib.hid (from_ Hal.out hc1)
  go_wp2
  go_ret2
  exact ⟨rfl, HB.out⟩

set_option maxRecDepth 100000 in
set_option maxHeartbeats 1000000 in
theorem vcontent_n {w : World} {Z : Zone} {A : Option Addr} {c K : Nat} {ps : List (Bool × List Nat)} {xs : List Int} (ha : VecAt w Z A c ps) (hx : NmV xs ps) (hl : ps.length ≤ 64) (hK1 : ∀ p ∈ ps, p.2.length ≤ K) (hK : K ≤ 20000) :
    Calls Try.prog 21 #[.slice A ps.length c] w fun e w' => ∃ v, e = .returned (.tuple #[v, .int .i64 0]) ∧ IsN w' (new w.heap.size) v (gcdV xs) ∧ Below w.heap.size w w' := by
  have hal : Below w.heap.size w (w.alloc (.cells #[.slice A ps.length c] 23)) := (Below.refl _ _).alloc (Nat.le_refl _) _
  have hg := given_oneV (ty := 23) ha
  have hck := vchecked_any (n := 1) hg rfl (by simp) (by simp)
  have e1 : errV ps = 0 := by unfold errV; rw [hx.okV hl]; rfl
  rw [errVs_one, e1] at hck
  have Hck := Lib.hid hck
  have Hal := Lib.hid hal
  obtain ⟨n, hn⟩ : ∃ n, n = ps.length := ⟨_, rfl⟩
  have hxl : xs.length = n := by rw [hx.len]; exact hn.symm
  rw [← hn] at Hck Hal hl ⊢
  have Hn := Lib.hid (show n = ps.length ∧ xs.length = n from ⟨hn, hxl⟩)
  clear hck hg hal e1 hn hxl
  go_enter Try.func21, Try.ntmps21
  go_wp2_with fail
  refine Hck.out.mono ?_
  rintro e w1 ⟨rfl, hc1⟩
  have hB1 := from_ Hal.out hc1
  clear Hal Hck hc1
  go_wp2
  go_loopw [2, 13] (fun v i wr => ∃ k : Nat, k ≤ n ∧ i = .int .i64 (k : Int) ∧ IsN wr (new w.heap.size) v (gcdK xs k) ∧ Hid ((limbs (gcdK xs k)).length ≤ K) ∧ Below w.heap.size w wr) (fun _ i _ => n - (intOf i).toNat)
  case atStart => exact ⟨0, Nat.zero_le _, rfl, IsN.zero _ _, (show (limbs 0).length ≤ K by rw [limbs_eq_nil.2 rfl]; simp), hB1⟩
  case round =>
    clear hB1
    obtain ⟨k, hk, rfl, hv, hlv, hbel⟩ := hrel
    by_cases hlt : k < n
    · obtain ⟨hn1, hn2⟩ := Hn.out
      have hkp : k < ps.length := by omega
      have hkx : k < xs.length := by omega
      obtain ⟨b, o, B1, d1, rfl, hbb, c0, c1, hu⟩ := (ha.below hbel).at hkp
      have na := hx.at k hkx hkp
      have hst := gcdK_succ hkx
      have hp1 := hK1 ps[k] (List.getElem_mem hkp)
      have hln := len_gcd (gcdK xs k) (xs[k]).natAbs
      rw [← hst] at hln
      have hal : Below wr.heap.size wr (wr.alloc (.cells #[.bool ps[k].1, .slice B1 ps[k].2.length d1] 37)) := (Below.refl _ _).alloc (Nat.le_refl _) _
      have hin : IsN (wr.alloc (.cells #[.bool ps[k].1, .slice B1 ps[k].2.length d1] 37)) Z (.slice B1 ps[k].2.length d1) (xs[k]).natAbs := by
        have h2 := hu.below hal
        unfold IsN
        rw [← na.2]
        exact ⟨B1, d1, rfl, h2⟩
      have hgd := gcd_good (hv.below hal) hin (by have := hlv.out; omega) (by rw [← na.2]; omega)
      rw [← hst] at hgd
      have hl2 : (limbs (gcdK xs (k + 1))).length ≤ K := by
        have := hlv.out
        rw [← na.2] at hln
        omega
      have Hgd := Lib.hid hgd
      have Hl2 := Lib.hid hl2
      have Hal := Lib.hid hal
      clear na hst hln hgd hl2 hin hu hlv hal hkx hn1 hn2
      generalize ps[k].1 = s at *
      generalize ps[k].2 = l at *
      go_wp2_with fail
      refine Hgd.out.mono ?_
      rintro e w2 ⟨v2, rfl, hv2, hb2⟩
      have hB2 := from_ hbel (from_ Hal.out hb2)
      have hv3 := Lib.hid (hv2.mono (Y := new w.heap.size) (new_le (by have := hbel.size; have := Hal.out.size; omega)))
      clear hv2
      go_wp2
      go_roundw
      case rel => exact ⟨k + 1, by omega, by go_num, hv3.out, Hl2, hB2⟩
      case measure => simp [intOf] <;> omega
    · obtain rfl : n = k := by omega
      rw [gcdK_all (by have := Hn.out.2; omega)] at hv
      have HV := Lib.hid hv
      clear hv hlv
      go_wp2
      go_ret2
      exact ⟨_, rfl, HV.out, hbel⟩

end Go.Proofs.Ytmeknjfffhblaaa

namespace Go.Proofs.Ytmeknjfffhblaaa
open Go.RowKit
set_option linter.unusedVariables false
set_option linter.unusedSimpArgs false

theorem exactV_n {w : World} {Z1 Z2 : Zone} {x y z : Int} {s t r : Bool} {l k m : List Nat} {A B : Option Addr} {c d : Nat} (h1 : Nm x s l) (h2 : Nm y t k) (h3 : Nm z r m) (hz : tq x y = z) (hy : y ≠ 0) (h0 : x.natAbs % y.natAbs = 0) (hl : l.length ≤ 10000) (u1 : U64s w Z1 A c l) (u2 : U64s w Z2 B d k) :
    Calls Try.prog 67 #[.agg #[.bool s, .slice A l.length c], .agg #[.bool t, .slice B k.length d]] w fun e w' => ∃ Av cv, e = .returned (.tuple #[.agg #[.bool r, .slice Av m.length cv], .int .i64 0]) ∧ U64s w' (new w.heap.size) Av cv m ∧ Below w.heap.size w w' := by
  refine (wexact_yes (h1.isZ u1) (h2.isZ u2) hy (by rw [← h1.len]; exact hl) h0).mono ?_
  rintro e w' ⟨v, rfl, hv, hb⟩
  rw [hz] at hv
  obtain ⟨Av, cv, rfl, hu⟩ := h3.of hv
  exact ⟨Av, cv, rfl, hu, hb⟩

set_option maxRecDepth 100000 in
set_option maxHeartbeats 1000000 in
theorem vprime1 {w : World} {Z1 Z2 : Zone} {x y z : Int} {s r : Bool} {l k m : List Nat} {A B : Option Addr} {c d g ix : Nat} (e0 : w.cell? ⟨g, 0, none⟩ = some (.slice B k.length d)) (h1 : Nm x s l) (h2 : Nm y false k) (h3 : Nm z r m) (hz : tq x y = z) (hy : y ≠ 0) (h0 : x.natAbs % y.natAbs = 0) (hl : l.length ≤ 10000) (u1 : U64s w Z1 A c l) (u2 : U64s w Z2 B d k) :
    Calls Try.prog 66 #[.int .i64 (ix : Int), .agg #[.bool s, .slice A l.length c], .pointer (some ⟨g, 0, none⟩)] w fun e w' => ∃ Av cv, e = .returned (.agg #[.bool r, .slice Av m.length cv]) ∧ U64s w' (new w.heap.size) Av cv m ∧ Below w.heap.size w w' := by
  obtain ⟨bA, bR, hB0⟩ := boxes2 w (.bool s) (.slice A l.length c) (.bool false) (.slice none 0 0) 37
  obtain ⟨a0, a1, _, _, _⟩ := bA
  have hg : g < w.heap.size := lt_of_cell e0
  replace e0 := keepC hB0 e0
  have C0 := Lib.hid (exactV_n h1 h2 h3 hz hy h0 hl (u1.below hB0) (u2.below hB0))
  have HB := Lib.hid hB0
  clear h1 h2 h3 hz hy h0 hl u1 u2 hB0
  generalize l.length = L at *
  generalize k.length = K at *
  go_enter Try.func66, Try.ntmps66
  go_wp2_with fail
  refine C0.out.mono ?_
  rintro e w1 ⟨Av, cv, rfl, hv, hc1⟩
  have bRw := bR.below hc1
  have hBw := from_ HB.out hc1
  have hP := bRw.put hBw (by omega) (.bool r) (.slice Av m.length cv)
  have hiv : IsU w1 _ (.slice Av m.length cv) m := ⟨Av, cv, rfl, hv⟩
  have hu2 := (hP.keep (by simp <;> omega) hiv).below ((Below.refl _ _).alloc (Nat.le_refl _) (.cells #[.bool r, .slice Av m.length cv] 37))
  have hbx := hP.box.alloc (.cells #[.bool r, .slice Av m.length cv] 37)
  have hbl := hP.bel.alloc hP.bel.size (.cells #[.bool r, .slice Av m.length cv] 37)
  have Hu := Lib.hid hu2
  have Hbx := Lib.hid hbx
  have Hbl := Lib.hid hbl
  have hz2 : w.heap.size + 1 < w1.heap.size := bRw.lt
  have hne : ¬ (w1.heap.size = w.heap.size + 1) := by omega
  have hne2 : ¬ (w.heap.size + 1 = w1.heap.size) := by omega
  obtain ⟨q0, q1, f0, f1, _⟩ := bRw
  clear hP hbx hbl hu2 hiv hv hBw bR hc1
  go_wp2
  refine bodyPost_ret (res_int rfl _ (w.heap.size + 1) rfl Hbx.out.c0 Hbx.out.c1) rfl ?_
  obtain ⟨A', c', e', h'⟩ := Hu.out
  injection e' with e1 e2 e3
  subst e1 e3
  exact ⟨_, _, rfl, h', Hbl.out⟩

theorem tq_abs (x : Int) (g : Nat) : (tq x (g : Int)).natAbs = x.natAbs / g := by
  unfold tq
  rw [Int.natAbs_natCast]
  split
  · exact Int.natAbs_natCast _
  · rw [Int.natAbs_neg]; exact Int.natAbs_natCast _
theorem tq_back {x : Int} {g : Nat} (hg : g ≠ 0) (h : x.natAbs % g = 0) : tq x (g : Int) * (g : Int) = x := by
  have h1 := Nat.div_add_mod x.natAbs g
  rw [h, Nat.add_zero] at h1
  unfold tq
  rw [Int.natAbs_natCast]
  have hz : decide ((g : Int) < 0) = false := decide_eq_false (by omega)
  rw [hz]
  have h2 : ((x.natAbs / g : Nat) : Int) * (g : Int) = ((x.natAbs : Nat) : Int) := by
    rw [← Int.natCast_mul, Nat.mul_comm, h1]
  by_cases hx : x < 0
  · rw [if_neg (by simp [hx]), Int.neg_mul, h2]
    omega
  · rw [if_pos (by simp; omega), h2]
    omega

theorem gcdF_dvd : ∀ (xs : List Int) (g0 : Nat), (xs.foldl (fun g x => Nat.gcd g x.natAbs) g0 ∣ g0) ∧ ∀ x ∈ xs, xs.foldl (fun g x => Nat.gcd g x.natAbs) g0 ∣ x.natAbs := by
  intro xs
  induction xs with
  | nil => exact fun g0 => ⟨Nat.dvd_refl _, fun x hx => absurd hx (by simp)⟩
  | cons x xs ih =>
    intro g0
    obtain ⟨h1, h2⟩ := ih (Nat.gcd g0 x.natAbs)
    refine ⟨Nat.dvd_trans h1 (Nat.gcd_dvd_left _ _), fun y hy => ?_⟩
    rcases List.mem_cons.1 hy with rfl | hy
    · exact Nat.dvd_trans h1 (Nat.gcd_dvd_right _ _)
    · exact h2 y hy
theorem gcdF_mul (k : Nat) : ∀ (xs ys : List Int) (g0 : Nat), ys.map Int.natAbs = xs.map (fun x => x.natAbs * k) → ys.foldl (fun g x => Nat.gcd g x.natAbs) (g0 * k) = xs.foldl (fun g x => Nat.gcd g x.natAbs) g0 * k := by
  intro xs
  induction xs with
  | nil => intro ys g0 h; cases ys with
    | nil => rfl
    | cons y ys => simp at h
  | cons x xs ih =>
    intro ys g0 h
    cases ys with
    | nil => simp at h
    | cons y ys =>
      simp only [List.map_cons, List.cons.injEq] at h
      simp only [List.foldl_cons]
      rw [h.1, Nat.gcd_mul_right]
      exact ih ys _ h.2
theorem gcdV_mul {k : Nat} {xs ys : List Int} (h : ys.map Int.natAbs = xs.map (fun x => x.natAbs * k)) : gcdV ys = gcdV xs * k := by
  have := gcdF_mul k xs ys 0 h
  rw [Nat.zero_mul] at this
  exact this
theorem gcdV_dvd {xs : List Int} {x : Int} (h : x ∈ xs) : gcdV xs ∣ x.natAbs := (gcdF_dvd xs 0).2 x h
theorem gcdV_zero {xs : List Int} : gcdV xs = 0 ↔ ∀ x ∈ xs, x = 0 := by
  constructor
  · intro h x hx
    have := gcdV_dvd hx
    rw [h] at this
    have := Nat.eq_zero_of_zero_dvd this
    omega
  · intro h
    have h2 := gcdV_mul (k := 0) (xs := xs) (ys := xs) (List.map_congr_left fun x hx => by rw [h x hx]; rfl)
    rw [Nat.mul_zero] at h2
    exact h2
theorem gcdV_low {xs : List Int} (hg : gcdV xs ≠ 0) : gcdV (xs.map fun x => tq x (gcdV xs : Int)) = 1 := by
  have h := gcdV_mul (k := gcdV xs) (xs := xs.map fun x => tq x (gcdV xs : Int)) (ys := xs) (by
    rw [List.map_map]
    refine List.map_congr_left fun x hx => ?_
    show x.natAbs = (tq x (gcdV xs : Int)).natAbs * gcdV xs
    rw [tq_abs, Nat.div_mul_cancel (gcdV_dvd hx)])
  have h2 : 1 * gcdV xs = gcdV (xs.map fun x => tq x (gcdV xs : Int)) * gcdV xs := by rw [Nat.one_mul]; exact h
  exact (Nat.eq_of_mul_eq_mul_right (Nat.pos_of_ne_zero hg) h2).symm

/-- What Prime answers. -/
def lowV (xs : List Int) : List Int := if gcdV xs = 0 then xs else xs.map fun x => tq x (gcdV xs : Int)
theorem lowV_length (xs : List Int) : (lowV xs).length = xs.length := by unfold lowV; split <;> simp
theorem lowV_back (xs : List Int) : (lowV xs).map (fun x => x * (gcdV xs : Int)) = xs := by
  unfold lowV
  by_cases hg : gcdV xs = 0
  · rw [if_pos hg, hg]
    refine (List.map_congr_left fun x hx => ?_).trans (List.map_id xs)
    rw [gcdV_zero.1 hg x hx]
    rfl
  · rw [if_neg hg, List.map_map]
    refine (List.map_congr_left fun x hx => ?_).trans (List.map_id xs)
    exact tq_back hg (Nat.mod_eq_zero_of_dvd (gcdV_dvd hx))
theorem tq_mul {x n : Int} {g : Nat} (hg : g ≠ 0) (hn : n ≠ 0) (h : g ∣ x.natAbs) : tq (x * n) ((g * n.natAbs : Nat) : Int) = tq x (g : Int) * sgn n := by
  have hgn : g * n.natAbs ≠ 0 := by
    intro h0
    rcases Nat.mul_eq_zero.1 h0 with h1 | h1 <;> omega
  have h1 := tq_back (x := x * n) hgn (by rw [Int.natAbs_mul]; exact Nat.mod_eq_zero_of_dvd (Nat.mul_dvd_mul_right h _))
  have h2 := tq_back (x := x) hg (Nat.mod_eq_zero_of_dvd h)
  have h3 : sgn n * (n.natAbs : Int) = n := by
    unfold sgn
    rw [if_neg hn]
    split <;> omega
  have h4 : tq x (g : Int) * sgn n * ((g * n.natAbs : Nat) : Int) = x * n := by
    rw [Int.natCast_mul, Int.mul_assoc, Int.mul_left_comm (sgn n), h3, ← Int.mul_assoc, h2]
  exact Int.eq_of_mul_eq_mul_right (by omega) (h1.trans h4.symm)
theorem lowV_scale (xs : List Int) (n : Int) : lowV (xs.map fun x => x * n) = (lowV xs).map fun x => x * sgn n := by
  have hg := gcdV_mul (k := n.natAbs) (xs := xs) (ys := xs.map fun x => x * n) (by
    rw [List.map_map]
    exact List.map_congr_left fun x _ => Int.natAbs_mul x n)
  by_cases hn : n = 0
  · subst hn
    have e : gcdV (xs.map fun x => x * 0) = 0 := by rw [hg]; simp
    unfold lowV
    rw [if_pos e]
    have hs : sgn 0 = 0 := by unfold sgn; rw [if_pos rfl]
    rw [hs]
    by_cases h0 : gcdV xs = 0
    · rw [if_pos h0]
    · rw [if_neg h0, List.map_map]
      exact List.map_congr_left fun x _ => by simp
  · by_cases h0 : gcdV xs = 0
    · have e : gcdV (xs.map fun x => x * n) = 0 := by rw [hg, h0, Nat.zero_mul]
      unfold lowV
      rw [if_pos e, if_pos h0]
      exact List.map_congr_left fun x hx => by rw [gcdV_zero.1 h0 x hx]; simp
    · have e : gcdV (xs.map fun x => x * n) ≠ 0 := by
        rw [hg]
        intro h
        rcases Nat.mul_eq_zero.1 h with h | h <;> omega
      unfold lowV
      rw [if_neg e, if_neg h0, List.map_map, List.map_map, hg]
      exact List.map_congr_left fun x hx => tq_mul h0 hn (gcdV_dvd hx)

set_option maxRecDepth 100000 in
set_option maxHeartbeats 1000000 in
theorem vprime_err {w : World} {Z : Zone} {A : Option Addr} {c : Nat} {ps : List (Bool × List Nat)} (ha : VecAt w Z A c ps) (hE : okV ps = false) :
    Calls Try.prog 20 #[.slice A ps.length c] w fun e w' => e = .returned (.tuple #[.slice none 0 0, .int .i64 8]) ∧ Below w.heap.size w w' := by
  have Hc := Lib.hid (vcontent_err ha hE)
  clear ha hE
  generalize ps.length = L at *
  go_enter Try.func20, Try.ntmps20
  go_wp2_with fail
  refine Hc.out.mono ?_
  rintro e w1 ⟨rfl, hb1⟩
  have hB1 := hb1.alloc hb1.size (.cells #[.slice none 0 0] 35)
  go_wp2
  go_ret2
  exact ⟨rfl, hB1⟩

set_option maxRecDepth 100000 in
set_option maxHeartbeats 1000000 in
theorem vprime_n {w : World} {Z : Zone} {A : Option Addr} {c K : Nat} {ps rs : List (Bool × List Nat)} {xs : List Int} (ha : VecAt w Z A c ps) (hx : NmV xs ps) (hl : ps.length ≤ 64) (hK1 : ∀ p ∈ ps, p.2.length ≤ K) (hK : K ≤ 10000) (h3 : NmV (lowV xs) rs) :
    Calls Try.prog 20 #[.slice A ps.length c] w fun e w' => ∃ Av cv, e = .returned (.tuple #[.slice Av rs.length cv, .int .i64 0]) ∧ VecAt w' (new w.heap.size) Av cv rs ∧ Below w.heap.size w w' := by
  have Hc := Lib.hid (vcontent_n ha hx hl hK1 (by omega))
  have hrl : rs.length = ps.length := by rw [← h3.len, lowV_length, hx.len]
  by_cases hg : gcdV xs = 0
  · have hrs : rs = ps := by
      have h1 : rs = _ := h3
      have h2 : ps = _ := hx
      rw [h1, h2]
      unfold lowV
      rw [if_pos hg]
    subst hrs
    have e0 : limbs 0 = [] := limbs_eq_nil.2 rfl
    rw [hg] at Hc
    have ht := fun (w1 : World) (h : Below w.heap.size w w1) => vtwin_any (ha.below h) (by omega) (fun p hp => Nat.le_trans (hK1 p hp) (by omega))
    have Ht := Lib.hid ht
    clear ht ha hx hK1 h3 hrl hg
    generalize hL : rs.length = L at *
    clear hL
    go_enter Try.func20, Try.ntmps20
    go_wp2_with fail
    refine Hc.out.mono ?_
    rintro e w1 ⟨_, rfl, hv, hb1⟩
    obtain ⟨Ac, cc, rfl, hu⟩ := hv
    rw [e0]
    have p0 := cell1 w1 (.slice Ac ([] : List Nat).length cc) 35
    have hB1 := hb1.alloc hb1.size (.cells #[.slice Ac ([] : List Nat).length cc] 35)
    rw [List.length_nil] at p0 hB1 ⊢
    go_wp2_with fail
    refine (Ht.out _ hB1).mono ?_
    rintro e w2 ⟨Av, cv, rfl, hv, hb2⟩
    have hB2 := from_ hB1 hb2
    have HV := Lib.hid (hv.mono (Y := new w.heap.size) (new_le hB1.size))
    clear hv
    go_wp2
    go_ret2
    exact ⟨_, _, rfl, HV.out, hB2⟩
  · obtain ⟨k, hk⟩ : ∃ k, k = limbs (gcdV xs) := ⟨_, rfl⟩
    have hkl : 0 < k.length := by rw [hk]; exact len_pos.2 hg
    have hnk : Nm ((gcdV xs : Nat) : Int) false k := ⟨(decide_eq_false (by omega)).symm, by rw [hk, Int.natAbs_natCast]⟩
    have hrs : NmV (xs.map fun x => tq x (gcdV xs : Int)) rs := by
      unfold lowV at h3
      rwa [if_neg hg] at h3
    have hF : ∀ (w1 : World) (g : Nat) (B : Option Addr) (d : Nat), Below w.heap.size w w1 → w1.cell? ⟨g, 0, none⟩ = some (.slice B k.length d) → U64s w1 old B d k → Calls Try.prog 58 #[.slice A ps.length c, .func (.func 66) #[] #[.pointer (some ⟨g, 0, none⟩)]] w1 fun e w' => ∃ Av cv, e = .returned (.slice Av rs.length cv) ∧ VecAt w' (new w1.heap.size) Av cv rs ∧ Below w1.heap.size w1 w' := fun w1 g B d hb1 hp hu0 => by
      refine veach_prime (ha.below hb1) hrl (by omega) fun j hj hj' w2 B' d' hb2 hu => ?_
      have hjx : j < xs.length := by rw [hx.len]; exact hj
      have h1 := hx.at j hjx hj
      have h4 := hrs.at j (by rw [hrs.len]; exact hj') hj'
      rw [List.getElem_map] at h4
      have q1 := hK1 ps[j] (List.getElem_mem hj)
      exact vprime1 (keepC hb2 hp) h1 hnk h4 rfl (by omega) (by rw [Int.natAbs_natCast]; exact Nat.mod_eq_zero_of_dvd (gcdV_dvd (List.getElem_mem hjx))) (by omega) hu (hu0.below hb2)
    have HF := Lib.hid hF
    have Hk := Lib.hid hk
    clear hF ha hx hK1 h3 hrs hnk hk
    rw [hrl] at HF ⊢
    clear hrl
    generalize ps.length = L at *
    have z1 : ((k.length : Int) == 0) = false := beq_eq_false_iff_ne.2 (by omega)
    go_enter Try.func20, Try.ntmps20
    go_wp2_with fail
    refine Hc.out.mono ?_
    rintro e w1 ⟨_, rfl, hv, hb1⟩
    unfold IsN at hv
    rw [← Hk.out] at hv
    obtain ⟨Ac, cc, rfl, hu⟩ := hv
    have p0 := cell1 w1 (.slice Ac k.length cc) 35
    have hal : Below w1.heap.size w1 (w1.alloc (.cells #[.slice Ac k.length cc] 35)) := (Below.refl _ _).alloc (Nat.le_refl _) _
    have hB1 := from_ hb1 hal
    have hu1 := Lib.hid ((hu.mono (le_old _)).below hal)
    clear hu hal
    go_wp2_with fail
    refine (HF.out _ _ _ _ hB1 p0 hu1.out).mono ?_
    rintro e w2 ⟨Av, cv, rfl, hv, hb2⟩
    have hB2 := from_ hB1 hb2
    have HV := Lib.hid (hv.mono (Y := new w.heap.size) (new_le hB1.size))
    clear hv
    go_wp2
    go_ret2
    exact ⟨_, _, rfl, HV.out, hB2⟩

end Go.Proofs.Ytmeknjfffhblaaa
