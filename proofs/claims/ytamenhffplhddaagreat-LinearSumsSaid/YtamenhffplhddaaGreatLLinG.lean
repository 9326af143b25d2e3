/-
  Linear forms: linear.each of the closures of Add, Scale and Neg. No conditions but bounds on lengths.
  The document's: Great of an interval, of intervals; Same of forms. No conditions but bounds on lengths.
-/
import Derived.Test.YtamenhffplhddaaGreatLFrameJ
import Derived.Test.YtamenhffplhddaaGreatLWhJ
namespace Go.Proofs.YtamenhffplhddaaGreat
open Go.RowKit
set_option linter.unusedVariables false
set_option linter.unusedSimpArgs false

theorem infoIv : (Tryz.prog.info? 29).map (fun i => (i.zero, i.size, i.bytes)) = some (some (.agg #[.bool false, .bool false, .slice none 0 0, .bool false, .bool false, .slice none 0 0]), 6, 80) := by kernel_rfl

/-- The cells of a row in which the first k intervals stand. -/
def CellsIv (w : World) (g : Nat) (xs : List Value) (k : Nat) (qs : List Iv) : Prop :=
  ∀ j (hj : j < qs.length), j < k → ∃ A0 d0 A1 d1, (xs[j * 6]? = some (.bool qs[j].n0) ∧ xs[j * 6 + 1]? = some (.bool qs[j].s0) ∧ xs[j * 6 + 2]? = some (.slice A0 qs[j].l0.length d0) ∧ xs[j * 6 + 3]? = some (.bool qs[j].n1) ∧ xs[j * 6 + 4]? = some (.bool qs[j].s1) ∧ xs[j * 6 + 5]? = some (.slice A1 qs[j].l1.length d1)) ∧ U64s w (new (g + 1)) A0 d0 qs[j].l0 ∧ U64s w (new (g + 1)) A1 d1 qs[j].l1
theorem CellsIv.keep {w w' : World} {g : Nat} {xs : List Value} {k : Nat} {qs : List Iv} (h : CellsIv w g xs k qs) (hk : ∀ b, b ≠ g → b < w.heap.size → w'.heap[b]? = w.heap[b]?) : CellsIv w' g xs k qs := fun j hj hjk => by
  obtain ⟨A0, d0, A1, d1, hc, u0, u1⟩ := h j hj hjk
  exact ⟨A0, d0, A1, d1, hc, u0.keep fun b hb hl => hk b (by have : g + 1 ≤ b := hb; omega) hl, u1.keep fun b hb hl => hk b (by have : g + 1 ≤ b := hb; omega) hl⟩
/-- Six cells of a list set. -/
def set6 (xs : List Value) (k : Nat) (x0 x1 x2 x3 x4 x5 : Value) : List Value := (((((xs.set k x0).set (k + 1) x1).set (k + 2) x2).set (k + 3) x3).set (k + 4) x4).set (k + 5) x5
theorem set6_at {xs : List Value} {k : Nat} {x0 x1 x2 x3 x4 x5 : Value} (h : k + 5 < xs.length) :
    (set6 xs k x0 x1 x2 x3 x4 x5)[k]? = some x0 ∧ (set6 xs k x0 x1 x2 x3 x4 x5)[k + 1]? = some x1 ∧ (set6 xs k x0 x1 x2 x3 x4 x5)[k + 2]? = some x2 ∧ (set6 xs k x0 x1 x2 x3 x4 x5)[k + 3]? = some x3 ∧ (set6 xs k x0 x1 x2 x3 x4 x5)[k + 4]? = some x4 ∧ (set6 xs k x0 x1 x2 x3 x4 x5)[k + 5]? = some x5 := by
  unfold set6
  refine ⟨?_, ?_, ?_, ?_, ?_, ?_⟩
  · rw [List.getElem?_set_ne (by omega), List.getElem?_set_ne (by omega), List.getElem?_set_ne (by omega), List.getElem?_set_ne (by omega), List.getElem?_set_ne (by omega), List.getElem?_set_self (by omega)]
  · rw [List.getElem?_set_ne (by omega), List.getElem?_set_ne (by omega), List.getElem?_set_ne (by omega), List.getElem?_set_ne (by omega), List.getElem?_set_self (by simp only [List.length_set]; omega)]
  · rw [List.getElem?_set_ne (by omega), List.getElem?_set_ne (by omega), List.getElem?_set_ne (by omega), List.getElem?_set_self (by simp only [List.length_set]; omega)]
  · rw [List.getElem?_set_ne (by omega), List.getElem?_set_ne (by omega), List.getElem?_set_self (by simp only [List.length_set]; omega)]
  · rw [List.getElem?_set_ne (by omega), List.getElem?_set_self (by simp only [List.length_set]; omega)]
  · rw [List.getElem?_set_self (by simp only [List.length_set]; omega)]
theorem set6_ne {xs : List Value} {k i : Nat} {x0 x1 x2 x3 x4 x5 : Value} (h : i < k ∨ k + 5 < i) : (set6 xs k x0 x1 x2 x3 x4 x5)[i]? = xs[i]? := by
  unfold set6
  rw [List.getElem?_set_ne (by omega), List.getElem?_set_ne (by omega), List.getElem?_set_ne (by omega), List.getElem?_set_ne (by omega), List.getElem?_set_ne (by omega), List.getElem?_set_ne (by omega)]
/-- Six cells of memory set. -/
theorem CellsIv.put {w w' : World} {g : Nat} {xs : List Value} {k : Nat} {qs : List Iv} {A0 A1 : Option Addr} {d0 d1 : Nat} (h : CellsIv w g xs k qs) (hl : xs.length = qs.length * 6) (hk : k < qs.length)
    (u0 : U64s w (new (g + 1)) A0 d0 (qs[k]).l0) (u1 : U64s w (new (g + 1)) A1 d1 (qs[k]).l1) (hw : ∀ b, b ≠ g → b < w.heap.size → w'.heap[b]? = w.heap[b]?) :
    CellsIv w' g (set6 xs (k * 6) (.bool (qs[k]).n0) (.bool (qs[k]).s0) (.slice A0 (qs[k]).l0.length d0) (.bool (qs[k]).n1) (.bool (qs[k]).s1) (.slice A1 (qs[k]).l1.length d1)) (k + 1) qs := fun j hj hjk => by
  rcases Nat.lt_or_ge j k with h1 | h1
  · obtain ⟨B0, e0, B1, e1, hc, v0, v1⟩ := h j hj h1
    refine ⟨B0, e0, B1, e1, ?_, v0.keep fun b hb hl => hw b (by have : g + 1 ≤ b := hb; omega) hl, v1.keep fun b hb hl => hw b (by have : g + 1 ≤ b := hb; omega) hl⟩
    rw [set6_ne (by omega), set6_ne (by omega), set6_ne (by omega), set6_ne (by omega), set6_ne (by omega), set6_ne (by omega)]
    exact hc
  · obtain rfl : j = k := by omega
    exact ⟨A0, d0, A1, d1, set6_at (by omega), u0.keep fun b hb hl => hw b (by have : g + 1 ≤ b := hb; omega) hl, u1.keep fun b hb hl => hw b (by have : g + 1 ≤ b := hb; omega) hl⟩
theorem CellsIv.fin {w : World} {g : Nat} {xs : List Value} {qs : List Iv} {B B' : Nat} {e : TypeId} (h : CellsIv w g xs qs.length qs) (hown : w.ownsRow B e 6 (.slice (some ⟨g, 0, none⟩) qs.length qs.length) qs.length xs) (hg : g < w.heap.size) (hB : B' ≤ g) (hm : qs.length ≤ 1000000000000) : IvsAt w (new B') (some ⟨g, 0, none⟩) qs.length qs := by
  refine ⟨Nat.le_refl _, by omega, fun h0 => ⟨g, 0, rfl, hg, fun j hj => ?_⟩⟩
  obtain ⟨A0, d0, A1, d1, ⟨c0, c1, c2, c3, c4, c5⟩, u0, u1⟩ := h j hj hj
  rw [Nat.zero_add]
  exact ⟨A0, d0, A1, d1, ⟨by rw [hown.cellAt (j * 6) (by omega)]; exact c0, by rw [hown.cellAt (j * 6 + 1) (by omega)]; exact c1, by rw [hown.cellAt (j * 6 + 2) (by omega)]; exact c2, by rw [hown.cellAt (j * 6 + 3) (by omega)]; exact c3, by rw [hown.cellAt (j * 6 + 4) (by omega)]; exact c4, by rw [hown.cellAt (j * 6 + 5) (by omega)]; exact c5⟩, u0.mono (new_le (by omega)), u1.mono (new_le (by omega))⟩
theorem CellsIv.none {w : World} {g : Nat} {xs : List Value} {qs : List Iv} : CellsIv w g xs 0 qs := fun j hj h => absurd h (by omega)

set_option maxRecDepth 100000 in
set_option maxHeartbeats 1000000 in
theorem leach_bad {w : World} {Z : Zone} {A : Option Addr} {c : Nat} {ps : List Iv} {v : Value} (ha : IvsAt w Z A c ps) (hs : ∀ p ∈ ps, p.short) (he : errF ps = 8) :
    Calls Tryz.prog 81 #[.slice A ps.length c, v] w fun e w' => e = .returned (.tuple #[.slice none 0 0, .int .i64 8]) ∧ Below w.heap.size w w' := by
  have hck := lcheck_any ha hs
  rw [he] at hck
  have Hck := Lib.hid hck
  clear hck ha hs he
  generalize ps.length = L at *
  go_enter Tryz.func81, Tryz.ntmps81
  go_wp2_with fail
  refine Hck.out.mono ?_
  rintro e w1 ⟨rfl, hc⟩
  go_wp2
  go_ret2
  exact ⟨rfl, hc⟩

set_option maxRecDepth 100000 in
set_option maxHeartbeats 4000000 in
theorem leach_add {w : World} {Z : Zone} {A : Option Addr} {c : Nat} {ps qs : List Iv} {p0 : Addr} (ha : IvsAt w Z A c ps) (hs : ∀ p ∈ ps, p.short) (he : errF ps = 0) (hq : qs.length = ps.length)
    (hF : ∀ j (hj : j < ps.length) (hj' : j < qs.length) (w1 : World) B0 d0 B1 d1, Below w.heap.size w w1 → U64s w1 Z B0 d0 ps[j].l0 → U64s w1 Z B1 d1 ps[j].l1 → Calls Tryz.prog 82 #[.int .i64 (j : Int), .agg #[.bool ps[j].n0, .bool ps[j].s0, .slice B0 ps[j].l0.length d0, .bool ps[j].n1, .bool ps[j].s1, .slice B1 ps[j].l1.length d1], .pointer (some p0)] w1 fun e w' => ∃ rA ra rB rb, e = .returned (.tuple #[.agg #[.bool qs[j].n0, .bool qs[j].s0, .slice rA qs[j].l0.length ra, .bool qs[j].n1, .bool qs[j].s1, .slice rB qs[j].l1.length rb], .int .i64 0]) ∧ U64s w' (new w1.heap.size) rA ra qs[j].l0 ∧ U64s w' (new w1.heap.size) rB rb qs[j].l1 ∧ Below w1.heap.size w1 w') :
    Calls Tryz.prog 81 #[.slice A ps.length c, .func (.func 82) #[] #[.pointer (some p0)]] w fun e w' => ∃ Av cv, e = .returned (.tuple #[.slice Av qs.length cv, .int .i64 0]) ∧ IvsAt w' (new w.heap.size) Av cv qs ∧ Below w.heap.size w w' := by
  obtain ⟨i0, hi, hz0, hz1, hz2⟩ := info_parts infoIv
  have hck := lcheck_any ha hs
  rw [he] at hck
  have hl : ps.length ≤ 64 := by
    unfold errF at he
    split at he
    · rename_i h; exact h.1.2
    · cases he
  have Hck := Lib.hid hck
  clear hck he hs
  obtain ⟨n, hn⟩ : ∃ n, n = ps.length := ⟨_, rfl⟩
  have hn' : qs.length = n := by omega
  have HF := Lib.hid hF
  have hmx := ha.max
  have hcp := ha.cap
  rw [← hn] at hl hcp Hck ⊢
  have Hn := Lib.hid hn
  have Hn' := Lib.hid hn'
  clear hF hq hn hn'
  go_enter Tryz.func81, Tryz.ntmps81
  go_wp2_with fail
  refine Hck.out.mono ?_
  rintro e w1 ⟨rfl, hc⟩
  go_wp2_with (at_make; go_loud (refine wpList_make_full _ rfl _ _ 54 rfl w.heap.size 29 i0 (.agg #[.bool false, .bool false, .slice none 0 0, .bool false, .bool false, .slice none 0 0]) 6 Tryz.underlying54 hi hz0 hz1 .i64 .i64 _ _ n rfl rfl rfl rfl (by rw [hz2]; omega) (by simp only [maxLen]; omega) hc.size ?_); intro w2 hown hgrow)
  have hb1 : Below w.heap.size w w2 := hc.grown hgrow hc.size (fun k h => by cases h)
  generalize (madeCells (Value.agg #[.bool false, .bool false, .slice none 0 0, .bool false, .bool false, .slice none 0 0]).cells (n * 6)).toList = xs0 at hown
  obtain ⟨g, hg⟩ : ∃ g, g = w1.heap.size := ⟨_, rfl⟩
  have hge : w.heap.size ≤ g := by rw [hg]; exact hc.size
  have Hge := Lib.hid hge
  have HA0 := Lib.hid (ha.below hb1)
  rw [← hg] at hown
  clear hgrow hc Hck hge
  go_wp2
  simp only [← hg]
  clear hg
  go_loopw [20] (fun i wr => ∃ (k : Nat) (xs : List Value), k ≤ n ∧ i = .int .i64 (k : Int) ∧ wr.ownsRow w.heap.size 29 6 (.slice (some ⟨g, 0, none⟩) n n) n xs ∧ Hid (CellsIv wr g xs k qs) ∧ Below w.heap.size w wr ∧ g < wr.heap.size) (fun i _ => n - (intOf i).toNat)
  case atStart => exact ⟨0, xs0, Nat.zero_le _, rfl, hown, Lib.hid CellsIv.none, hb1, (hown.lt _ rfl).2⟩
  case round =>
    clear hown hb1 HA0
    obtain ⟨k, xs, hk, rfl, hown, hcells, hbel, hgt⟩ := hrel
    by_cases hlt : k < n
    · have hkp : k < ps.length := by have := Hn.out; omega
      have hkq : k < qs.length := by have := Hn'.out; omega
      obtain ⟨b, o, B0, d0, B1, d1, rfl, hbb, ⟨c0, c1, c2, c3, c4, c5⟩, u0, u1⟩ := ha.at hkp
      replace c0 := keepC hbel c0
      replace c1 := keepC hbel c1
      replace c2 := keepC hbel c2
      replace c3 := keepC hbel c3
      replace c4 := keepC hbel c4
      replace c5 := keepC hbel c5
      have hxl := hown.1
      have hput := fun (w2 w' : World) (A2 A3 : Option Addr) (c2 c3 : Nat) (h1 : CellsIv w2 g xs k qs) h2 h3 h4 => h1.put (w' := w') (A0 := A2) (A1 := A3) (d0 := c2) (d1 := c3) (by have := Hn'.out; omega) hkq h2 h3 h4
      have Hput := Lib.hid hput
      have hal : Below wr.heap.size wr (wr.alloc (.cells #[.bool ps[k].n0, .bool ps[k].s0, .slice B0 ps[k].l0.length d0, .bool ps[k].n1, .bool ps[k].s1, .slice B1 ps[k].l1.length d1] 29)) := (Below.refl _ _).alloc (Nat.le_refl _) _
      have hfk := HF.out k hkp hkq _ B0 d0 B1 d1 (from_ hbel hal) ((u0.below hbel).below hal) ((u1.below hbel).below hal)
      have Hfk := Lib.hid hfk
      have Hal := Lib.hid hal
      clear hput hfk hal u0 u1
      generalize ps[k].n0 = pn0 at *
      generalize ps[k].s0 = ps0 at *
      generalize ps[k].l0 = pl0 at *
      generalize ps[k].n1 = pn1 at *
      generalize ps[k].s1 = ps1 at *
      generalize ps[k].l1 = pl1 at *
      generalize qs[k].n0 = qn0 at *
      generalize qs[k].s0 = qs0 at *
      generalize qs[k].l0 = ql0 at *
      generalize qs[k].n1 = qn1 at *
      generalize qs[k].s1 = qs1 at *
      generalize qs[k].l1 = ql1 at *
      go_wp2_with fail
      refine Hfk.out.mono ?_
      rintro e w3 ⟨A3, d3, A4, d4, rfl, v0, v1, hb2⟩
      have hb3 := from_ Hal.out hb2
      have hown2 := own_below hown hb3
      have hcells2 := hcells.out.keep (w' := w3) fun b _ hl => hb3.block b hl
      have hv0 := v0.mono (Y := new (g + 1)) (new_le (by have := Hal.out.size; omega))
      have hv1 := v1.mono (Y := new (g + 1)) (new_le (by have := Hal.out.size; omega))
      have hP := Hput.out w3 ((((((w3.setCell ⟨g, k * 6, none⟩ (.bool qn0)).setCell ⟨g, k * 6 + 1, none⟩ (.bool qs0)).setCell ⟨g, k * 6 + 2, none⟩ (.slice A3 ql0.length d3)).setCell ⟨g, k * 6 + 3, none⟩ (.bool qn1)).setCell ⟨g, k * 6 + 4, none⟩ (.bool qs1)).setCell ⟨g, k * 6 + 5, none⟩ (.slice A4 ql1.length d4)) A3 A4 d3 d4 hcells2 hv0 hv1 (fun b hb _ => by
        rw [Below.heap_setCell _ _ _ _ hb, Below.heap_setCell _ _ _ _ hb, Below.heap_setCell _ _ _ _ hb, Below.heap_setCell _ _ _ _ hb, Below.heap_setCell _ _ _ _ hb, Below.heap_setCell _ _ _ _ hb])
      have e0 := hown2.cellAt (k * 6) (by omega)
      have e1 := hown2.cellAt (k * 6 + 1) (by omega)
      have e2 := hown2.cellAt (k * 6 + 2) (by omega)
      have e3 := hown2.cellAt (k * 6 + 3) (by omega)
      have e4 := hown2.cellAt (k * 6 + 4) (by omega)
      have e5 := hown2.cellAt (k * 6 + 5) (by omega)
      rw [List.getElem?_eq_getElem (by omega)] at e0 e1 e2 e3 e4 e5
      have f0 := hown2.frozenAt (k * 6)
      have f1 := hown2.frozenAt (k * 6 + 1)
      have f2 := hown2.frozenAt (k * 6 + 2)
      have f3 := hown2.frozenAt (k * 6 + 3)
      have f4 := hown2.frozenAt (k * 6 + 4)
      have f5 := hown2.frozenAt (k * 6 + 5)
      have o1 := (hown2.stored (k * 6) (.bool qn0)).1
      have o2 := (o1.stored (k * 6 + 1) (.bool qs0)).1
      have o3 := (o2.stored (k * 6 + 2) (.slice A3 ql0.length d3)).1
      have o4 := (o3.stored (k * 6 + 3) (.bool qn1)).1
      have o5 := (o4.stored (k * 6 + 4) (.bool qs1)).1
      have o6 := (o5.stored (k * 6 + 5) (.slice A4 ql1.length d4)).1
      have hB2 := from_ hbel hb3
      have hB3 := ((((((hB2.setCell (p := ⟨g, k * 6, none⟩) Hge.out (.bool qn0)).setCell (p := ⟨g, k * 6 + 1, none⟩) Hge.out (.bool qs0)).setCell (p := ⟨g, k * 6 + 2, none⟩) Hge.out (.slice A3 ql0.length d3)).setCell (p := ⟨g, k * 6 + 3, none⟩) Hge.out (.bool qn1)).setCell (p := ⟨g, k * 6 + 4, none⟩) Hge.out (.bool qs1)).setCell (p := ⟨g, k * 6 + 5, none⟩) Hge.out (.slice A4 ql1.length d4))
      have hgt3 : g < ((((((w3.setCell ⟨g, k * 6, none⟩ (.bool qn0)).setCell ⟨g, k * 6 + 1, none⟩ (.bool qs0)).setCell ⟨g, k * 6 + 2, none⟩ (.slice A3 ql0.length d3)).setCell ⟨g, k * 6 + 3, none⟩ (.bool qn1)).setCell ⟨g, k * 6 + 4, none⟩ (.bool qs1)).setCell ⟨g, k * 6 + 5, none⟩ (.slice A4 ql1.length d4)).heap.size := by
        have := hb3.size
        simp [World.setCell]
        omega
      have HP := Lib.hid hP
      have HO := Lib.hid o6
      have HB := Lib.hid hB3
      clear hP o1 o2 o3 o4 o5 o6 v0 v1 hv0 hv1 hown2 hcells2 hcells hown hB2 hB3 hb2 hb3 Hput
      generalize xs[k * 6] = x0 at *
      generalize xs[k * 6 + 1] = x1 at *
      generalize xs[k * 6 + 2] = x2 at *
      generalize xs[k * 6 + 3] = x3 at *
      generalize xs[k * 6 + 4] = x4 at *
      generalize xs[k * 6 + 5] = x5 at *
      go_wp2
      go_roundw
      case rel => exact ⟨k + 1, _, by omega, by go_num, HO.out, HP, HB.out, hgt3⟩
      case measure => simp [intOf]; omega
    · obtain rfl : n = k := by omega
      have hnn := Hn'.out
      have hfin : IvsAt wr (new w.heap.size) (some ⟨g, 0, none⟩) n qs := by
        have h1 := hcells.out
        rw [← hnn] at h1 hown ⊢
        exact h1.fin hown hgt Hge.out (by omega)
      have Hfin := Lib.hid hfin
      clear hfin hcells hown
      go_wp2
      go_ret2
      rw [Hn'.out]
      exact ⟨_, _, rfl, Hfin.out, hbel⟩

set_option maxRecDepth 100000 in
set_option maxHeartbeats 4000000 in
theorem leach_scale {w : World} {Z : Zone} {A : Option Addr} {c : Nat} {ps qs : List Iv} {p0 : Addr} (ha : IvsAt w Z A c ps) (hs : ∀ p ∈ ps, p.short) (he : errF ps = 0) (hq : qs.length = ps.length)
    (hF : ∀ j (hj : j < ps.length) (hj' : j < qs.length) (w1 : World) B0 d0 B1 d1, Below w.heap.size w w1 → U64s w1 Z B0 d0 ps[j].l0 → U64s w1 Z B1 d1 ps[j].l1 → Calls Tryz.prog 88 #[.int .i64 (j : Int), .agg #[.bool ps[j].n0, .bool ps[j].s0, .slice B0 ps[j].l0.length d0, .bool ps[j].n1, .bool ps[j].s1, .slice B1 ps[j].l1.length d1], .pointer (some p0)] w1 fun e w' => ∃ rA ra rB rb, e = .returned (.tuple #[.agg #[.bool qs[j].n0, .bool qs[j].s0, .slice rA qs[j].l0.length ra, .bool qs[j].n1, .bool qs[j].s1, .slice rB qs[j].l1.length rb], .int .i64 0]) ∧ U64s w' (new w1.heap.size) rA ra qs[j].l0 ∧ U64s w' (new w1.heap.size) rB rb qs[j].l1 ∧ Below w1.heap.size w1 w') :
    Calls Tryz.prog 81 #[.slice A ps.length c, .func (.func 88) #[] #[.pointer (some p0)]] w fun e w' => ∃ Av cv, e = .returned (.tuple #[.slice Av qs.length cv, .int .i64 0]) ∧ IvsAt w' (new w.heap.size) Av cv qs ∧ Below w.heap.size w w' := by
  obtain ⟨i0, hi, hz0, hz1, hz2⟩ := info_parts infoIv
  have hck := lcheck_any ha hs
  rw [he] at hck
  have hl : ps.length ≤ 64 := by
    unfold errF at he
    split at he
    · rename_i h; exact h.1.2
    · cases he
  have Hck := Lib.hid hck
  clear hck he hs
  obtain ⟨n, hn⟩ : ∃ n, n = ps.length := ⟨_, rfl⟩
  have hn' : qs.length = n := by omega
  have HF := Lib.hid hF
  have hmx := ha.max
  have hcp := ha.cap
  rw [← hn] at hl hcp Hck ⊢
  have Hn := Lib.hid hn
  have Hn' := Lib.hid hn'
  clear hF hq hn hn'
  go_enter Tryz.func81, Tryz.ntmps81
  go_wp2_with fail
  refine Hck.out.mono ?_
  rintro e w1 ⟨rfl, hc⟩
  go_wp2_with (at_make; go_loud (refine wpList_make_full _ rfl _ _ 54 rfl w.heap.size 29 i0 (.agg #[.bool false, .bool false, .slice none 0 0, .bool false, .bool false, .slice none 0 0]) 6 Tryz.underlying54 hi hz0 hz1 .i64 .i64 _ _ n rfl rfl rfl rfl (by rw [hz2]; omega) (by simp only [maxLen]; omega) hc.size ?_); intro w2 hown hgrow)
  have hb1 : Below w.heap.size w w2 := hc.grown hgrow hc.size (fun k h => by cases h)
  generalize (madeCells (Value.agg #[.bool false, .bool false, .slice none 0 0, .bool false, .bool false, .slice none 0 0]).cells (n * 6)).toList = xs0 at hown
  obtain ⟨g, hg⟩ : ∃ g, g = w1.heap.size := ⟨_, rfl⟩
  have hge : w.heap.size ≤ g := by rw [hg]; exact hc.size
  have Hge := Lib.hid hge
  have HA0 := Lib.hid (ha.below hb1)
  rw [← hg] at hown
  clear hgrow hc Hck hge
  go_wp2
  simp only [← hg]
  clear hg
  go_loopw [20] (fun i wr => ∃ (k : Nat) (xs : List Value), k ≤ n ∧ i = .int .i64 (k : Int) ∧ wr.ownsRow w.heap.size 29 6 (.slice (some ⟨g, 0, none⟩) n n) n xs ∧ Hid (CellsIv wr g xs k qs) ∧ Below w.heap.size w wr ∧ g < wr.heap.size) (fun i _ => n - (intOf i).toNat)
  case atStart => exact ⟨0, xs0, Nat.zero_le _, rfl, hown, Lib.hid CellsIv.none, hb1, (hown.lt _ rfl).2⟩
  case round =>
    clear hown hb1 HA0
    obtain ⟨k, xs, hk, rfl, hown, hcells, hbel, hgt⟩ := hrel
    by_cases hlt : k < n
    · have hkp : k < ps.length := by have := Hn.out; omega
      have hkq : k < qs.length := by have := Hn'.out; omega
      obtain ⟨b, o, B0, d0, B1, d1, rfl, hbb, ⟨c0, c1, c2, c3, c4, c5⟩, u0, u1⟩ := ha.at hkp
      replace c0 := keepC hbel c0
      replace c1 := keepC hbel c1
      replace c2 := keepC hbel c2
      replace c3 := keepC hbel c3
      replace c4 := keepC hbel c4
      replace c5 := keepC hbel c5
      have hxl := hown.1
      have hput := fun (w2 w' : World) (A2 A3 : Option Addr) (c2 c3 : Nat) (h1 : CellsIv w2 g xs k qs) h2 h3 h4 => h1.put (w' := w') (A0 := A2) (A1 := A3) (d0 := c2) (d1 := c3) (by have := Hn'.out; omega) hkq h2 h3 h4
      have Hput := Lib.hid hput
      have hal : Below wr.heap.size wr (wr.alloc (.cells #[.bool ps[k].n0, .bool ps[k].s0, .slice B0 ps[k].l0.length d0, .bool ps[k].n1, .bool ps[k].s1, .slice B1 ps[k].l1.length d1] 29)) := (Below.refl _ _).alloc (Nat.le_refl _) _
      have hfk := HF.out k hkp hkq _ B0 d0 B1 d1 (from_ hbel hal) ((u0.below hbel).below hal) ((u1.below hbel).below hal)
      have Hfk := Lib.hid hfk
      have Hal := Lib.hid hal
      clear hput hfk hal u0 u1
      generalize ps[k].n0 = pn0 at *
      generalize ps[k].s0 = ps0 at *
      generalize ps[k].l0 = pl0 at *
      generalize ps[k].n1 = pn1 at *
      generalize ps[k].s1 = ps1 at *
      generalize ps[k].l1 = pl1 at *
      generalize qs[k].n0 = qn0 at *
      generalize qs[k].s0 = qs0 at *
      generalize qs[k].l0 = ql0 at *
      generalize qs[k].n1 = qn1 at *
      generalize qs[k].s1 = qs1 at *
      generalize qs[k].l1 = ql1 at *
      go_wp2_with fail
      refine Hfk.out.mono ?_
      rintro e w3 ⟨A3, d3, A4, d4, rfl, v0, v1, hb2⟩
      have hb3 := from_ Hal.out hb2
      have hown2 := own_below hown hb3
      have hcells2 := hcells.out.keep (w' := w3) fun b _ hl => hb3.block b hl
      have hv0 := v0.mono (Y := new (g + 1)) (new_le (by have := Hal.out.size; omega))
      have hv1 := v1.mono (Y := new (g + 1)) (new_le (by have := Hal.out.size; omega))
      have hP := Hput.out w3 ((((((w3.setCell ⟨g, k * 6, none⟩ (.bool qn0)).setCell ⟨g, k * 6 + 1, none⟩ (.bool qs0)).setCell ⟨g, k * 6 + 2, none⟩ (.slice A3 ql0.length d3)).setCell ⟨g, k * 6 + 3, none⟩ (.bool qn1)).setCell ⟨g, k * 6 + 4, none⟩ (.bool qs1)).setCell ⟨g, k * 6 + 5, none⟩ (.slice A4 ql1.length d4)) A3 A4 d3 d4 hcells2 hv0 hv1 (fun b hb _ => by
        rw [Below.heap_setCell _ _ _ _ hb, Below.heap_setCell _ _ _ _ hb, Below.heap_setCell _ _ _ _ hb, Below.heap_setCell _ _ _ _ hb, Below.heap_setCell _ _ _ _ hb, Below.heap_setCell _ _ _ _ hb])
      have e0 := hown2.cellAt (k * 6) (by omega)
      have e1 := hown2.cellAt (k * 6 + 1) (by omega)
      have e2 := hown2.cellAt (k * 6 + 2) (by omega)
      have e3 := hown2.cellAt (k * 6 + 3) (by omega)
      have e4 := hown2.cellAt (k * 6 + 4) (by omega)
      have e5 := hown2.cellAt (k * 6 + 5) (by omega)
      rw [List.getElem?_eq_getElem (by omega)] at e0 e1 e2 e3 e4 e5
      have f0 := hown2.frozenAt (k * 6)
      have f1 := hown2.frozenAt (k * 6 + 1)
      have f2 := hown2.frozenAt (k * 6 + 2)
      have f3 := hown2.frozenAt (k * 6 + 3)
      have f4 := hown2.frozenAt (k * 6 + 4)
      have f5 := hown2.frozenAt (k * 6 + 5)
      have o1 := (hown2.stored (k * 6) (.bool qn0)).1
      have o2 := (o1.stored (k * 6 + 1) (.bool qs0)).1
      have o3 := (o2.stored (k * 6 + 2) (.slice A3 ql0.length d3)).1
      have o4 := (o3.stored (k * 6 + 3) (.bool qn1)).1
      have o5 := (o4.stored (k * 6 + 4) (.bool qs1)).1
      have o6 := (o5.stored (k * 6 + 5) (.slice A4 ql1.length d4)).1
      have hB2 := from_ hbel hb3
      have hB3 := ((((((hB2.setCell (p := ⟨g, k * 6, none⟩) Hge.out (.bool qn0)).setCell (p := ⟨g, k * 6 + 1, none⟩) Hge.out (.bool qs0)).setCell (p := ⟨g, k * 6 + 2, none⟩) Hge.out (.slice A3 ql0.length d3)).setCell (p := ⟨g, k * 6 + 3, none⟩) Hge.out (.bool qn1)).setCell (p := ⟨g, k * 6 + 4, none⟩) Hge.out (.bool qs1)).setCell (p := ⟨g, k * 6 + 5, none⟩) Hge.out (.slice A4 ql1.length d4))
      have hgt3 : g < ((((((w3.setCell ⟨g, k * 6, none⟩ (.bool qn0)).setCell ⟨g, k * 6 + 1, none⟩ (.bool qs0)).setCell ⟨g, k * 6 + 2, none⟩ (.slice A3 ql0.length d3)).setCell ⟨g, k * 6 + 3, none⟩ (.bool qn1)).setCell ⟨g, k * 6 + 4, none⟩ (.bool qs1)).setCell ⟨g, k * 6 + 5, none⟩ (.slice A4 ql1.length d4)).heap.size := by
        have := hb3.size
        simp [World.setCell]
        omega
      have HP := Lib.hid hP
      have HO := Lib.hid o6
      have HB := Lib.hid hB3
      clear hP o1 o2 o3 o4 o5 o6 v0 v1 hv0 hv1 hown2 hcells2 hcells hown hB2 hB3 hb2 hb3 Hput
      generalize xs[k * 6] = x0 at *
      generalize xs[k * 6 + 1] = x1 at *
      generalize xs[k * 6 + 2] = x2 at *
      generalize xs[k * 6 + 3] = x3 at *
      generalize xs[k * 6 + 4] = x4 at *
      generalize xs[k * 6 + 5] = x5 at *
      go_wp2
      go_roundw
      case rel => exact ⟨k + 1, _, by omega, by go_num, HO.out, HP, HB.out, hgt3⟩
      case measure => simp [intOf]; omega
    · obtain rfl : n = k := by omega
      have hnn := Hn'.out
      have hfin : IvsAt wr (new w.heap.size) (some ⟨g, 0, none⟩) n qs := by
        have h1 := hcells.out
        rw [← hnn] at h1 hown ⊢
        exact h1.fin hown hgt Hge.out (by omega)
      have Hfin := Lib.hid hfin
      clear hfin hcells hown
      go_wp2
      go_ret2
      rw [Hn'.out]
      exact ⟨_, _, rfl, Hfin.out, hbel⟩

set_option maxRecDepth 100000 in
set_option maxHeartbeats 4000000 in
theorem leach_neg {w : World} {Z : Zone} {A : Option Addr} {c : Nat} {ps qs : List Iv} (ha : IvsAt w Z A c ps) (hs : ∀ p ∈ ps, p.short) (he : errF ps = 0) (hq : qs.length = ps.length)
    (hF : ∀ j (hj : j < ps.length) (hj' : j < qs.length) (w1 : World) B0 d0 B1 d1, Below w.heap.size w w1 → U64s w1 Z B0 d0 ps[j].l0 → U64s w1 Z B1 d1 ps[j].l1 → Calls Tryz.prog 86 #[.int .i64 (j : Int), .agg #[.bool ps[j].n0, .bool ps[j].s0, .slice B0 ps[j].l0.length d0, .bool ps[j].n1, .bool ps[j].s1, .slice B1 ps[j].l1.length d1]] w1 fun e w' => ∃ rA ra rB rb, e = .returned (.tuple #[.agg #[.bool qs[j].n0, .bool qs[j].s0, .slice rA qs[j].l0.length ra, .bool qs[j].n1, .bool qs[j].s1, .slice rB qs[j].l1.length rb], .int .i64 0]) ∧ U64s w' (new w1.heap.size) rA ra qs[j].l0 ∧ U64s w' (new w1.heap.size) rB rb qs[j].l1 ∧ Below w1.heap.size w1 w') :
    Calls Tryz.prog 81 #[.slice A ps.length c, .func (.func 86) #[] #[]] w fun e w' => ∃ Av cv, e = .returned (.tuple #[.slice Av qs.length cv, .int .i64 0]) ∧ IvsAt w' (new w.heap.size) Av cv qs ∧ Below w.heap.size w w' := by
  obtain ⟨i0, hi, hz0, hz1, hz2⟩ := info_parts infoIv
  have hck := lcheck_any ha hs
  rw [he] at hck
  have hl : ps.length ≤ 64 := by
    unfold errF at he
    split at he
    · rename_i h; exact h.1.2
    · cases he
  have Hck := Lib.hid hck
  clear hck he hs
  obtain ⟨n, hn⟩ : ∃ n, n = ps.length := ⟨_, rfl⟩
  have hn' : qs.length = n := by omega
  have HF := Lib.hid hF
  have hmx := ha.max
  have hcp := ha.cap
  rw [← hn] at hl hcp Hck ⊢
  have Hn := Lib.hid hn
  have Hn' := Lib.hid hn'
  clear hF hq hn hn'
  go_enter Tryz.func81, Tryz.ntmps81
  go_wp2_with fail
  refine Hck.out.mono ?_
  rintro e w1 ⟨rfl, hc⟩
  go_wp2_with (at_make; go_loud (refine wpList_make_full _ rfl _ _ 54 rfl w.heap.size 29 i0 (.agg #[.bool false, .bool false, .slice none 0 0, .bool false, .bool false, .slice none 0 0]) 6 Tryz.underlying54 hi hz0 hz1 .i64 .i64 _ _ n rfl rfl rfl rfl (by rw [hz2]; omega) (by simp only [maxLen]; omega) hc.size ?_); intro w2 hown hgrow)
  have hb1 : Below w.heap.size w w2 := hc.grown hgrow hc.size (fun k h => by cases h)
  generalize (madeCells (Value.agg #[.bool false, .bool false, .slice none 0 0, .bool false, .bool false, .slice none 0 0]).cells (n * 6)).toList = xs0 at hown
  obtain ⟨g, hg⟩ : ∃ g, g = w1.heap.size := ⟨_, rfl⟩
  have hge : w.heap.size ≤ g := by rw [hg]; exact hc.size
  have Hge := Lib.hid hge
  have HA0 := Lib.hid (ha.below hb1)
  rw [← hg] at hown
  clear hgrow hc Hck hge
  go_wp2
  simp only [← hg]
  clear hg
  go_loopw [20] (fun i wr => ∃ (k : Nat) (xs : List Value), k ≤ n ∧ i = .int .i64 (k : Int) ∧ wr.ownsRow w.heap.size 29 6 (.slice (some ⟨g, 0, none⟩) n n) n xs ∧ Hid (CellsIv wr g xs k qs) ∧ Below w.heap.size w wr ∧ g < wr.heap.size) (fun i _ => n - (intOf i).toNat)
  case atStart => exact ⟨0, xs0, Nat.zero_le _, rfl, hown, Lib.hid CellsIv.none, hb1, (hown.lt _ rfl).2⟩
  case round =>
    clear hown hb1 HA0
    obtain ⟨k, xs, hk, rfl, hown, hcells, hbel, hgt⟩ := hrel
    by_cases hlt : k < n
    · have hkp : k < ps.length := by have := Hn.out; omega
      have hkq : k < qs.length := by have := Hn'.out; omega
      obtain ⟨b, o, B0, d0, B1, d1, rfl, hbb, ⟨c0, c1, c2, c3, c4, c5⟩, u0, u1⟩ := ha.at hkp
      replace c0 := keepC hbel c0
      replace c1 := keepC hbel c1
      replace c2 := keepC hbel c2
      replace c3 := keepC hbel c3
      replace c4 := keepC hbel c4
      replace c5 := keepC hbel c5
      have hxl := hown.1
      have hput := fun (w2 w' : World) (A2 A3 : Option Addr) (c2 c3 : Nat) (h1 : CellsIv w2 g xs k qs) h2 h3 h4 => h1.put (w' := w') (A0 := A2) (A1 := A3) (d0 := c2) (d1 := c3) (by have := Hn'.out; omega) hkq h2 h3 h4
      have Hput := Lib.hid hput
      have hal : Below wr.heap.size wr (wr.alloc (.cells #[.bool ps[k].n0, .bool ps[k].s0, .slice B0 ps[k].l0.length d0, .bool ps[k].n1, .bool ps[k].s1, .slice B1 ps[k].l1.length d1] 29)) := (Below.refl _ _).alloc (Nat.le_refl _) _
      have hfk := HF.out k hkp hkq _ B0 d0 B1 d1 (from_ hbel hal) ((u0.below hbel).below hal) ((u1.below hbel).below hal)
      have Hfk := Lib.hid hfk
      have Hal := Lib.hid hal
      clear hput hfk hal u0 u1
      generalize ps[k].n0 = pn0 at *
      generalize ps[k].s0 = ps0 at *
      generalize ps[k].l0 = pl0 at *
      generalize ps[k].n1 = pn1 at *
      generalize ps[k].s1 = ps1 at *
      generalize ps[k].l1 = pl1 at *
      generalize qs[k].n0 = qn0 at *
      generalize qs[k].s0 = qs0 at *
      generalize qs[k].l0 = ql0 at *
      generalize qs[k].n1 = qn1 at *
      generalize qs[k].s1 = qs1 at *
      generalize qs[k].l1 = ql1 at *
      go_wp2_with fail
      refine Hfk.out.mono ?_
      rintro e w3 ⟨A3, d3, A4, d4, rfl, v0, v1, hb2⟩
      have hb3 := from_ Hal.out hb2
      have hown2 := own_below hown hb3
      have hcells2 := hcells.out.keep (w' := w3) fun b _ hl => hb3.block b hl
      have hv0 := v0.mono (Y := new (g + 1)) (new_le (by have := Hal.out.size; omega))
      have hv1 := v1.mono (Y := new (g + 1)) (new_le (by have := Hal.out.size; omega))
      have hP := Hput.out w3 ((((((w3.setCell ⟨g, k * 6, none⟩ (.bool qn0)).setCell ⟨g, k * 6 + 1, none⟩ (.bool qs0)).setCell ⟨g, k * 6 + 2, none⟩ (.slice A3 ql0.length d3)).setCell ⟨g, k * 6 + 3, none⟩ (.bool qn1)).setCell ⟨g, k * 6 + 4, none⟩ (.bool qs1)).setCell ⟨g, k * 6 + 5, none⟩ (.slice A4 ql1.length d4)) A3 A4 d3 d4 hcells2 hv0 hv1 (fun b hb _ => by
        rw [Below.heap_setCell _ _ _ _ hb, Below.heap_setCell _ _ _ _ hb, Below.heap_setCell _ _ _ _ hb, Below.heap_setCell _ _ _ _ hb, Below.heap_setCell _ _ _ _ hb, Below.heap_setCell _ _ _ _ hb])
      have e0 := hown2.cellAt (k * 6) (by omega)
      have e1 := hown2.cellAt (k * 6 + 1) (by omega)
      have e2 := hown2.cellAt (k * 6 + 2) (by omega)
      have e3 := hown2.cellAt (k * 6 + 3) (by omega)
      have e4 := hown2.cellAt (k * 6 + 4) (by omega)
      have e5 := hown2.cellAt (k * 6 + 5) (by omega)
      rw [List.getElem?_eq_getElem (by omega)] at e0 e1 e2 e3 e4 e5
      have f0 := hown2.frozenAt (k * 6)
      have f1 := hown2.frozenAt (k * 6 + 1)
      have f2 := hown2.frozenAt (k * 6 + 2)
      have f3 := hown2.frozenAt (k * 6 + 3)
      have f4 := hown2.frozenAt (k * 6 + 4)
      have f5 := hown2.frozenAt (k * 6 + 5)
      have o1 := (hown2.stored (k * 6) (.bool qn0)).1
      have o2 := (o1.stored (k * 6 + 1) (.bool qs0)).1
      have o3 := (o2.stored (k * 6 + 2) (.slice A3 ql0.length d3)).1
      have o4 := (o3.stored (k * 6 + 3) (.bool qn1)).1
      have o5 := (o4.stored (k * 6 + 4) (.bool qs1)).1
      have o6 := (o5.stored (k * 6 + 5) (.slice A4 ql1.length d4)).1
      have hB2 := from_ hbel hb3
      have hB3 := ((((((hB2.setCell (p := ⟨g, k * 6, none⟩) Hge.out (.bool qn0)).setCell (p := ⟨g, k * 6 + 1, none⟩) Hge.out (.bool qs0)).setCell (p := ⟨g, k * 6 + 2, none⟩) Hge.out (.slice A3 ql0.length d3)).setCell (p := ⟨g, k * 6 + 3, none⟩) Hge.out (.bool qn1)).setCell (p := ⟨g, k * 6 + 4, none⟩) Hge.out (.bool qs1)).setCell (p := ⟨g, k * 6 + 5, none⟩) Hge.out (.slice A4 ql1.length d4))
      have hgt3 : g < ((((((w3.setCell ⟨g, k * 6, none⟩ (.bool qn0)).setCell ⟨g, k * 6 + 1, none⟩ (.bool qs0)).setCell ⟨g, k * 6 + 2, none⟩ (.slice A3 ql0.length d3)).setCell ⟨g, k * 6 + 3, none⟩ (.bool qn1)).setCell ⟨g, k * 6 + 4, none⟩ (.bool qs1)).setCell ⟨g, k * 6 + 5, none⟩ (.slice A4 ql1.length d4)).heap.size := by
        have := hb3.size
        simp [World.setCell]
        omega
      have HP := Lib.hid hP
      have HO := Lib.hid o6
      have HB := Lib.hid hB3
      clear hP o1 o2 o3 o4 o5 o6 v0 v1 hv0 hv1 hown2 hcells2 hcells hown hB2 hB3 hb2 hb3 Hput
      generalize xs[k * 6] = x0 at *
      generalize xs[k * 6 + 1] = x1 at *
      generalize xs[k * 6 + 2] = x2 at *
      generalize xs[k * 6 + 3] = x3 at *
      generalize xs[k * 6 + 4] = x4 at *
      generalize xs[k * 6 + 5] = x5 at *
      go_wp2
      go_roundw
      case rel => exact ⟨k + 1, _, by omega, by go_num, HO.out, HP, HB.out, hgt3⟩
      case measure => simp [intOf]; omega
    · obtain rfl : n = k := by omega
      have hnn := Hn'.out
      have hfin : IvsAt wr (new w.heap.size) (some ⟨g, 0, none⟩) n qs := by
        have h1 := hcells.out
        rw [← hnn] at h1 hown ⊢
        exact h1.fin hown hgt Hge.out (by omega)
      have Hfin := Lib.hid hfin
      clear hfin hcells hown
      go_wp2
      go_ret2
      rw [Hn'.out]
      exact ⟨_, _, rfl, Hfin.out, hbel⟩

end Go.Proofs.YtamenhffplhddaaGreat

namespace Go.Proofs.YtamenhffplhddaaGreat
open Go.RowKit
set_option linter.unusedVariables false
set_option linter.unusedSimpArgs false

def greatI (p : Iv) (K : Nat) : Bool := decide (K < p.l0.length) || decide (K < p.l1.length)
def greatF (ps : List Iv) (M K : Nat) : Bool := decide (M < ps.length) || ps.any fun p => greatI p K
theorem greatF_no {ps : List Iv} {M K : Nat} (h : greatF ps M K = false) : ps.length ≤ M ∧ ∀ p ∈ ps, p.l0.length ≤ K ∧ p.l1.length ≤ K := by
  unfold greatF at h
  rw [Bool.or_eq_false_iff] at h
  refine ⟨by have := of_decide_eq_false h.1; omega, fun p hp => ?_⟩
  have h1 : greatI p K = false := by
    cases hx : greatI p K
    · rfl
    · have : (ps.any fun p => greatI p K) = true := List.any_eq_true.2 ⟨p, hp, hx⟩
      rw [this] at h
      cases h.2
  unfold greatI at h1
  rw [Bool.or_eq_false_iff] at h1
  have h2 := of_decide_eq_false h1.1
  have h3 := of_decide_eq_false h1.2
  omega

set_option maxRecDepth 100000 in
set_option maxHeartbeats 4000000 in
theorem great16_any {w : World} {n0 s0 n1 s1 : Bool} {L0 L1 : Nat} {A B : Option Addr} {a b K : Nat} (hK : K ≤ 1000) (h0 : L0 ≤ 9223372036854775807) (h1 : L1 ≤ 9223372036854775807) :
    Calls Tryz.prog 9 #[.agg #[.bool n0, .bool s0, .slice A L0 a, .bool n1, .bool s1, .slice B L1 b], .int .i64 (K : Int)] w fun e w' => e = .returned (.bool (decide (K < L0) || decide (K < L1))) ∧ Below w.heap.size w w' := by
  have hB : Below w.heap.size w (w.alloc (.cells #[.bool n0, .bool s0, .slice A L0 a, .bool n1, .bool s1, .slice B L1 b] 29)) := (Below.refl _ w).alloc (Nat.le_refl _) _
  obtain ⟨b0, b1, b2, b3, b4, b5, _⟩ := Box6.new w (.bool n0) (.bool s0) (.slice A L0 a) (.bool n1) (.bool s1) (.slice B L1 b) 29
  rcases (by omega : K < L0 ∨ ¬ (K < L0)) with g0 | g0
  · have d1 : decide ((K : Int) < (L0 : Int)) = true := decide_eq_true (by omega)
    have e1 : decide (K < L0) = true := decide_eq_true g0
    rw [e1, Bool.true_or]
    clear g0
    go_enter Tryz.func9, Tryz.ntmps9
    go_wp2
    go_ret
    exact ⟨rfl, hB⟩
  · have d1 : decide ((K : Int) < (L0 : Int)) = false := decide_eq_false (by omega)
    have e1 : decide (K < L0) = false := decide_eq_false g0
    rw [e1, Bool.false_or]
    clear g0
    go_enter Tryz.func9, Tryz.ntmps9
    go_wp2
    go_ret
    exact ⟨by simp, hB⟩

set_option maxRecDepth 100000 in
set_option maxHeartbeats 1000000 in
theorem great17_any {w : World} {Z : Zone} {A : Option Addr} {c M K : Nat} {ps : List Iv} (ha : IvsAt w Z A c ps) (hM : M ≤ 1000) (hK : K ≤ 1000) :
    Calls Tryz.prog 35 #[.slice A ps.length c, .int .i64 (M : Int), .int .i64 (K : Int)] w fun e w' => e = .returned (.bool (greatF ps M K)) ∧ Below w.heap.size w w' := by
  have hl := ha.len
  by_cases hlM : M < ps.length
  · have hd : decide ((M : Int) < (ps.length : Int)) = true := decide_eq_true (by omega)
    have hd2 : decide (M < ps.length) = true := decide_eq_true hlM
    have hg : greatF ps M K = true := by unfold greatF; rw [hd2, Bool.true_or]
    rw [hg]
    clear ha hg
    generalize ps.length = L at *
    go_enter Tryz.func35, Tryz.ntmps35
    go_wp2
    go_ret
    exact ⟨rfl, Below.refl _ _⟩
  · have hd : decide ((M : Int) < (ps.length : Int)) = false := decide_eq_false (by omega)
    have hd2 : decide (M < ps.length) = false := decide_eq_false hlM
    have hg : greatF ps M K = ps.any fun p => greatI p K := by unfold greatF; rw [hd2, Bool.false_or]
    rw [hg]
    clear hg
    go_enter Tryz.func35, Tryz.ntmps35
    go_wp2
    go_loopw [7] (fun i wr => ∃ k : Nat, k ≤ ps.length ∧ i = .int .i64 k ∧ Below w.heap.size w wr ∧ Hid (∀ j (hj : j < ps.length), j < k → greatI ps[j] K = false)) (fun i _ => ps.length - (intOf i).toNat)
    case atStart => exact ⟨0, Nat.zero_le _, rfl, Below.refl _ _, fun j hj h => absurd h (by omega)⟩
    case round =>
      obtain ⟨k, hk, rfl, hbel, hz⟩ := hrel
      by_cases hlt : k < ps.length
      · obtain ⟨b, o, A0, d0, A1, d1, rfl, hbb, ⟨c0, c1, c2, c3, c4, c5⟩, u0, u1⟩ := (ha.below hbel).at hlt
        have hck := great16_any (w := wr) (n0 := ps[k].n0) (s0 := ps[k].s0) (n1 := ps[k].n1) (s1 := ps[k].s1) (L0 := ps[k].l0.length) (L1 := ps[k].l1.length) (A := A0) (B := A1) (a := d0) (b := d1) hK u0.len u1.len
        have hck' : Calls Tryz.prog 9 #[.agg #[.bool ps[k].n0, .bool ps[k].s0, .slice A0 ps[k].l0.length d0, .bool ps[k].n1, .bool ps[k].s1, .slice A1 ps[k].l1.length d1], .int .i64 (K : Int)] wr fun e w' => e = .returned (.bool (greatI ps[k] K)) ∧ Below wr.heap.size wr w' := hck
        have hok : greatI ps[k] K = true ∨ greatI ps[k] K = false := by cases greatI ps[k] K <;> simp
        have Hall : Hid (greatI ps[k] K = false → ∀ j (hj : j < ps.length), j < k + 1 → greatI ps[j] K = false) := fun hx j hj hjk => by
          rcases Nat.lt_or_ge j k with h1 | h1
          · exact hz.out j hj h1
          · obtain rfl : j = k := by omega
            exact hx
        have Hnone : Hid (greatI ps[k] K = true → (ps.any fun p => greatI p K) = true) := fun hx => List.any_eq_true.2 ⟨ps[k], List.getElem_mem hlt, hx⟩
        clear u0 u1 hz hck
        generalize ps[k] = p at *
        rcases hok with hok | hok
        all_goals
          rw [hok] at hck'
          have Hck := Lib.hid hck'
          have Hok := Lib.hid hok
          clear hck' hok
          go_wp2_with fail
          refine Hck.out.mono ?_
          rintro e w1 ⟨rfl, hb2⟩
          have hb3 := from_ hbel hb2
          go_wp2
        · go_ret
          rw [Hnone.out Hok.out]
          exact ⟨rfl, hb3⟩
        · go_roundw
          case rel => exact ⟨k + 1, by omega, by go_num, hb3, Lib.hid (Hall.out Hok.out)⟩
          case measure => simp [intOf]; omega
      · obtain rfl : k = ps.length := by omega
        have he : (ps.any fun p => greatI p K) = false := by
          cases hx : (ps.any fun p => greatI p K)
          · rfl
          · obtain ⟨p, hp, hq⟩ := List.any_eq_true.1 hx
            obtain ⟨j, hj, rfl⟩ := List.getElem_of_mem hp
            rw [hz.out j hj hj] at hq
            cases hq
        have He := Lib.hid he
        clear he hz
        go_wp2
        go_ret
        rw [He.out]
        exact ⟨rfl, hbel⟩

end Go.Proofs.YtamenhffplhddaaGreat
