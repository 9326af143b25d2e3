/- Linear forms, the program's: Var and Const. No conditions but bounds on lengths. -/
import Derived.Deep.RegionHeld3
import Derived.Test.YtdncgncijbnjpaaGreatRItwN
import Derived.Test.YtdncgncijbnjpaaGreatRWhV
import Derived.Test.YtdncgncijbnjpaaGreatRWhJ
import Derived.Test.YtdncgncijbnjpaaGreatRWhC
set_option linter.unusedVariables false
set_option linter.unusedSimpArgs false
set_option maxRecDepth 100000
set_option maxHeartbeats 40000000
namespace Go.Proofs.YtdncgncijbnjpaaGreat
open Go.Lib (hid)
open Go.RowKit
variable {A A0 A1 : Option Addr} {B B' N c d d0 d1 g h i j : Nat} {Q : IvP} {W w' : World} {Z : Zone} {a0 a1 a2 a3 a4 a5 b0 b1 b2 b3 b4 b5 x0 x1 x2 x3 x4 x5 : Value} {q r : Iv} {x y : Int} {xs : List Value}
def CellsIv (w : World) (g : Nat) (xs : List Value) (k : Nat) (qs : List Iv) : Prop :=
 ∀ j (hj : j < qs.length), j < k → ∃ A0 d0 A1 d1, (xs[j * 6]? = some (.bool qs[j].n0) ∧ xs[j * 6 + 1]? = some (.bool qs[j].s0) ∧ xs[j * 6 + 2]? = some (.slice A0 qs[j].l0.length d0) ∧ xs[j * 6 + 3]? = some (.bool qs[j].n1) ∧ xs[j * 6 + 4]? = some (.bool qs[j].s1) ∧ xs[j * 6 + 5]? = some (.slice A1 qs[j].l1.length d1)) ∧ U64s w (new (g + 1)) A0 d0 qs[j].l0 ∧ U64s w (new (g + 1)) A1 d1 qs[j].l1
theorem CellsIv.keep {w : World} {k : Nat} {qs : List Iv} (h : CellsIv w g xs k qs) (hk : ∀ b, b ≠ g → b < w.heap.size → w'.heap[b]? = w.heap[b]?) : CellsIv w' g xs k qs := fun j hj hjk => by
 obtain ⟨A, B, C, D, E, u0, u1⟩ := h j hj hjk
 exact ⟨A, B, C, D, E, u0.keep fun b hb hl => hk b (by have : g + 1 ≤ b := hb; omega) hl, u1.keep fun b hb hl => hk b (by have : g + 1 ≤ b := hb; omega) hl⟩
def set6 (xs : List Value) (k : Nat) (x0 x1 x2 x3 x4 x5 : Value) : List Value := (((((xs.set k x0).set (k + 1) x1).set (k + 2) x2).set (k + 3) x3).set (k + 4) x4).set (k + 5) x5
theorem set6_at {k : Nat} (h : k + 5 < xs.length) :
  (set6 xs k x0 x1 x2 x3 x4 x5)[k]? = some x0 ∧ (set6 xs k x0 x1 x2 x3 x4 x5)[k + 1]? = some x1 ∧ (set6 xs k x0 x1 x2 x3 x4 x5)[k + 2]? = some x2 ∧ (set6 xs k x0 x1 x2 x3 x4 x5)[k + 3]? = some x3 ∧ (set6 xs k x0 x1 x2 x3 x4 x5)[k + 4]? = some x4 ∧ (set6 xs k x0 x1 x2 x3 x4 x5)[k + 5]? = some x5 := by
 unfold set6
 refine ⟨?_, ?_, ?_, ?_, ?_, ?_⟩
 · rw [List.getElem?_set_ne (by omega), List.getElem?_set_ne (by omega), List.getElem?_set_ne (by omega), List.getElem?_set_ne (by omega), List.getElem?_set_ne (by omega), List.getElem?_set_self (by omega)]
 · rw [List.getElem?_set_ne (by omega), List.getElem?_set_ne (by omega), List.getElem?_set_ne (by omega), List.getElem?_set_ne (by omega), List.getElem?_set_self (by simp only [List.length_set]; omega)]
 · rw [List.getElem?_set_ne (by omega), List.getElem?_set_ne (by omega), List.getElem?_set_ne (by omega), List.getElem?_set_self (by simp only [List.length_set]; omega)]
 · rw [List.getElem?_set_ne (by omega), List.getElem?_set_ne (by omega), List.getElem?_set_self (by simp only [List.length_set]; omega)]
 · rw [List.getElem?_set_ne (by omega), List.getElem?_set_self (by simp only [List.length_set]; omega)]
 · rw [List.getElem?_set_self (by simp only [List.length_set]; omega)]
theorem set6_ne {k : Nat} (h : i < k ∨ k + 5 < i) : (set6 xs k x0 x1 x2 x3 x4 x5)[i]? = xs[i]? := by
 unfold set6
 rw [List.getElem?_set_ne (by omega), List.getElem?_set_ne (by omega), List.getElem?_set_ne (by omega), List.getElem?_set_ne (by omega), List.getElem?_set_ne (by omega), List.getElem?_set_ne (by omega)]
theorem CellsIv.put {w : World} {k : Nat} {qs : List Iv} (h : CellsIv w g xs k qs) (hl : xs.length = qs.length * 6) (hk : k < qs.length)
  (u0 : U64s w (new (g + 1)) A0 d0 (qs[k]).l0) (u1 : U64s w (new (g + 1)) A1 d1 (qs[k]).l1) (hw : ∀ b, b ≠ g → b < w.heap.size → w'.heap[b]? = w.heap[b]?) :
  CellsIv w' g (set6 xs (k * 6) (.bool (qs[k]).n0) (.bool (qs[k]).s0) (.slice A0 (qs[k]).l0.length d0) (.bool (qs[k]).n1) (.bool (qs[k]).s1) (.slice A1 (qs[k]).l1.length d1)) (k + 1) qs := fun j hj hjk => by
 rcases Nat.lt_or_ge j k with h1 | h1
 · obtain ⟨A, B, C, D, E, F, G⟩ := h j hj h1
   refine ⟨A, B, C, D, ?_, F.keep fun b hb hl => hw b (by have : g + 1 ≤ b := hb; omega) hl, G.keep fun b hb hl => hw b (by have : g + 1 ≤ b := hb; omega) hl⟩
   rw [set6_ne (by omega), set6_ne (by omega), set6_ne (by omega), set6_ne (by omega), set6_ne (by omega), set6_ne (by omega)]
   exact E
 · obtain rfl : j = k := by omega
   exact ⟨A0, d0, A1, d1, set6_at (by omega), u0.keep fun b hb hl => hw b (by have : g + 1 ≤ b := hb; omega) hl, u1.keep fun b hb hl => hw b (by have : g + 1 ≤ b := hb; omega) hl⟩
theorem CellsIv.fin {w : World} {qs : List Iv} {e : TypeId} (h : CellsIv w g xs qs.length qs) (hown : w.ownsRow B e 6 (.slice (some ⟨g, 0, none⟩) qs.length qs.length) qs.length xs) (hg : g < w.heap.size) (hB : B' ≤ g) (hm : qs.length ≤ 1000000000000) : IvsAt w (new B') (some ⟨g, 0, none⟩) qs.length qs := by
 refine ⟨Nat.le_refl _, by omega, fun h0 => ⟨g, 0, rfl, hg, fun j hj => ?_⟩⟩
 obtain ⟨A, C, D, E, ⟨F, G, H, I, J, K⟩, u0, u1⟩ := h j hj hj
 rw [Nat.zero_add]
 exact ⟨A, C, D, E, ⟨by rw [hown.cellAt (j * 6) (by omega)]; exact F, by rw [hown.cellAt (j * 6 + 1) (by omega)]; exact G, by rw [hown.cellAt (j * 6 + 2) (by omega)]; exact H, by rw [hown.cellAt (j * 6 + 3) (by omega)]; exact I, by rw [hown.cellAt (j * 6 + 4) (by omega)]; exact J, by rw [hown.cellAt (j * 6 + 5) (by omega)]; exact K⟩, u0.mono (new_le (by omega)), u1.mono (new_le (by omega))⟩
theorem CellsIv.none {w : World} {qs : List Iv} : CellsIv w g xs 0 qs := fun j hj h => absurd h (by omega)
def NewA (B : Nat) (A : Option Addr) : Prop := ∀ b o, A = some ⟨b, o, none⟩ → B ≤ b
theorem leach_addN {w : World} {ps qs : List Iv} {p0 : Addr} (ha : IvsAt w Z A c ps) (hs : ∀ p ∈ ps, p.short) (he : errF ps = 0) (hq : qs.length = ps.length)
  (hF : ∀ j (hj : j < ps.length) (hj' : j < qs.length) (w1 : World) B0 d0 B1 d1, Below w.heap.size w w1 → U64s w1 Z B0 d0 ps[j].l0 → U64s w1 Z B1 d1 ps[j].l1 → Calls Tryz.prog 174 #[.int .i64 (j : Int), .agg #[.bool ps[j].n0, .bool ps[j].s0, .slice B0 ps[j].l0.length d0, .bool ps[j].n1, .bool ps[j].s1, .slice B1 ps[j].l1.length d1], .pointer (some p0)] w1 fun e w' => ∃ rA ra rB rb, e = .returned (.tuple #[.agg #[.bool qs[j].n0, .bool qs[j].s0, .slice rA qs[j].l0.length ra, .bool qs[j].n1, .bool qs[j].s1, .slice rB qs[j].l1.length rb], .int .i64 0]) ∧ U64s w' (new w1.heap.size) rA ra qs[j].l0 ∧ U64s w' (new w1.heap.size) rB rb qs[j].l1 ∧ Below w1.heap.size w1 w') :
  Calls Tryz.prog 172 #[.slice A ps.length c, .func (.func 174) #[] #[.pointer (some p0)]] w fun e w' => ∃ Av cv, e = .returned (.tuple #[.slice Av qs.length cv, .int .i64 0]) ∧ IvsAt w' (new w.heap.size) Av cv qs ∧ Below w.heap.size w w' ∧ NewA w.heap.size Av := by
 obtain ⟨i0, hi, Kn, Ko, Kp⟩ := info_parts infoIv
 have U := lcheck_any ha hs
 rw [he] at U
 have V : ps.length ≤ 64 := by
  unfold errF at he
  split at he
  · rename_i h; exact h.1.2
  · cases he
 have W := hid U
 clear U he hs
 obtain ⟨n, a⟩ : ∃ n, n = ps.length := ⟨_, rfl⟩
 have m : qs.length = n := by omega
 have HF := hid hF
 have Kt := ha.max
 have Kj := ha.cap
 rw [← a] at V Kj W ⊢
 obtain ⟨Hn, Q⟩ := hid2 a m
 clear hF hq a m
 go_enter Tryz.func172, Tryz.ntmps172
 go_wp2_with fail
 refine W.out.mono ?_
 rintro e w1 ⟨rfl, J⟩
 go_wp2_with (at_make; go_loud (refine wpList_make_full _ rfl _ _ 40 rfl w.heap.size 39 i0 (.agg #[.bool false, .bool false, .slice none 0 0, .bool false, .bool false, .slice none 0 0]) 6 Tryz.underlying40 hi Kn Ko .i64 .i64 _ _ n rfl rfl rfl rfl (by rw [Kp]; omega) (by simp only [maxLen]; omega) J.size ?_); intro w2 C hgrow)
 have X : Below w.heap.size w w2 := J.grown hgrow J.size (fun k h => by cases h)
 generalize (madeCells (Value.agg #[.bool false, .bool false, .slice none 0 0, .bool false, .bool false, .slice none 0 0]).cells (n * 6)).toList = xs0 at C
 obtain ⟨g, R⟩ : ∃ g, g = w1.heap.size := ⟨_, rfl⟩
 have q : w.heap.size ≤ g := by rw [R]; exact J.size
 obtain ⟨F, Kq⟩ := hid2 q (ha.below X)
 rw [← R] at C
 clear hgrow J W q
 go_wp2
 simp only [← R]
 clear R
 go_loopw [20] (fun i wr => ∃ (k : Nat) (E : List Value), k ≤ n ∧ i = .int .i64 (k : Int) ∧ wr.ownsRow w.heap.size 39 6 (.slice (some ⟨g, 0, none⟩) n n) n E ∧ Hid (CellsIv wr g E k qs) ∧ Below w.heap.size w wr ∧ g < wr.heap.size) (fun i _ => n - (intOf i).toNat)
 case atStart => exact ⟨0, xs0, Nat.zero_le _, rfl, C, hid CellsIv.none, X, (C.lt _ rfl).2⟩
 case round =>
  clear C X Kq
  obtain ⟨k, E, hk, rfl, C, S, D, Kr⟩ := hrel
  by_cases hlt : k < n
  · have r : k < ps.length := by have := Hn.out; omega
    have s : k < qs.length := by have := Q.out; omega
    obtain ⟨b, o, B0, d0, B1, d1, rfl, Kw, ⟨u, v, N, O, x, y⟩, u0, u1⟩ := ha.at r
    replace u := keepC D u
    replace v := keepC D v
    replace N := keepC D N
    replace O := keepC D O
    replace x := keepC D x
    replace y := keepC D y
    have Kv := C.1
    have z := fun (w2 w' : World) (A2 G : Option Addr) (N O : Nat) (P : CellsIv w2 g E k qs) h2 h3 h4 => P.put (w' := w') (A0 := A2) (A1 := G) (d0 := N) (d1 := O) (by have := Q.out; omega) s h2 h3 h4
    have Ka := hid z
    have H : Below wr.heap.size wr (wr.alloc (.cells #[.bool ps[k].n0, .bool ps[k].s0, .slice B0 ps[k].l0.length d0, .bool ps[k].n1, .bool ps[k].s1, .slice B1 ps[k].l1.length d1] 39)) := (Below.refl _ _).alloc (Nat.le_refl _) _
    have Kb := HF.out k r s _ B0 d0 B1 d1 (from_ D H) ((u0.below D).below H) ((u1.below D).below H)
    obtain ⟨Ks, d⟩ := hid2 Kb H
    clear z Kb H u0 u1
    generalize ps[k].n0 = pn0 at *
    generalize ps[k].s0 = ps0 at *
    generalize ps[k].l0 = pl0 at *
    generalize ps[k].n1 = pn1 at *
    generalize ps[k].s1 = ps1 at *
    generalize ps[k].l1 = pl1 at *
    generalize qs[k].n0 = qn0 at *
    generalize qs[k].s0 = qs0 at *
    generalize qs[k].l0 = ql0 at *
    generalize qs[k].n1 = qn1 at *
    generalize qs[k].s1 = qs1 at *
    generalize qs[k].l1 = ql1 at *
    go_wp2_with fail
    refine Ks.out.mono ?_
    rintro e T ⟨G, K, L, M, rfl, v0, v1, Ki⟩
    have I := from_ d.out Ki
    have B := own_below C I
    have Kc := S.out.keep (w' := T) fun b _ V => I.block b V
    have Kd := v0.mono (Y := new (g + 1)) (new_le (by have := d.out.size; omega))
    have Ke := v1.mono (Y := new (g + 1)) (new_le (by have := d.out.size; omega))
    have hP := Ka.out T ((((((T.setCell ⟨g, k * 6, none⟩ (.bool qn0)).setCell ⟨g, k * 6 + 1, none⟩ (.bool qs0)).setCell ⟨g, k * 6 + 2, none⟩ (.slice G ql0.length K)).setCell ⟨g, k * 6 + 3, none⟩ (.bool qn1)).setCell ⟨g, k * 6 + 4, none⟩ (.bool qs1)).setCell ⟨g, k * 6 + 5, none⟩ (.slice L ql1.length M)) G L K M Kc Kd Ke (fun b hb _ => by
     rw [Below.heap_setCell _ _ _ _ hb, Below.heap_setCell _ _ _ _ hb, Below.heap_setCell _ _ _ _ hb, Below.heap_setCell _ _ _ _ hb, Below.heap_setCell _ _ _ _ hb, Below.heap_setCell _ _ _ _ hb])
    have e0 := B.cellAt (k * 6) (by omega)
    have e1 := B.cellAt (k * 6 + 1) (by omega)
    have e2 := B.cellAt (k * 6 + 2) (by omega)
    have e3 := B.cellAt (k * 6 + 3) (by omega)
    have e4 := B.cellAt (k * 6 + 4) (by omega)
    have e5 := B.cellAt (k * 6 + 5) (by omega)
    rw [List.getElem?_eq_getElem (by omega)] at e0 e1 e2 e3 e4 e5
    have f0 := B.frozenAt (k * 6)
    have f1 := B.frozenAt (k * 6 + 1)
    have f2 := B.frozenAt (k * 6 + 2)
    have f3 := B.frozenAt (k * 6 + 3)
    have f4 := B.frozenAt (k * 6 + 4)
    have f5 := B.frozenAt (k * 6 + 5)
    have o1 := (B.stored (k * 6) (.bool qn0)).1
    have o2 := (o1.stored (k * 6 + 1) (.bool qs0)).1
    have o3 := (o2.stored (k * 6 + 2) (.slice G ql0.length K)).1
    have o4 := (o3.stored (k * 6 + 3) (.bool qn1)).1
    have o5 := (o4.stored (k * 6 + 4) (.bool qs1)).1
    have o6 := (o5.stored (k * 6 + 5) (.slice L ql1.length M)).1
    have Kf := from_ D I
    have Kg := ((((((Kf.setCell (p := ⟨g, k * 6, none⟩) F.out (.bool qn0)).setCell (p := ⟨g, k * 6 + 1, none⟩) F.out (.bool qs0)).setCell (p := ⟨g, k * 6 + 2, none⟩) F.out (.slice G ql0.length K)).setCell (p := ⟨g, k * 6 + 3, none⟩) F.out (.bool qn1)).setCell (p := ⟨g, k * 6 + 4, none⟩) F.out (.bool qs1)).setCell (p := ⟨g, k * 6 + 5, none⟩) F.out (.slice L ql1.length M))
    have Kk : g < ((((((T.setCell ⟨g, k * 6, none⟩ (.bool qn0)).setCell ⟨g, k * 6 + 1, none⟩ (.bool qs0)).setCell ⟨g, k * 6 + 2, none⟩ (.slice G ql0.length K)).setCell ⟨g, k * 6 + 3, none⟩ (.bool qn1)).setCell ⟨g, k * 6 + 4, none⟩ (.bool qs1)).setCell ⟨g, k * 6 + 5, none⟩ (.slice L ql1.length M)).heap.size := by
     have := I.size
     simp [World.setCell]
     omega
    obtain ⟨HP, HO, HB⟩ := hid3 hP o6 Kg
    clear hP o1 o2 o3 o4 o5 o6 v0 v1 Kd Ke B Kc S C Kf Kg Ki I Ka
    generalize E[k * 6] = x0 at *
    generalize E[k * 6 + 1] = x1 at *
    generalize E[k * 6 + 2] = x2 at *
    generalize E[k * 6 + 3] = x3 at *
    generalize E[k * 6 + 4] = x4 at *
    generalize E[k * 6 + 5] = x5 at *
    go_wp2
    go_roundw
    case rel => exact ⟨k + 1, _, by omega, by go_num, HO.out, HP, HB.out, Kk⟩
    case measure => simp [intOf]; omega
  · obtain rfl : n = k := by omega
    have Kl := Q.out
    have Kh : IvsAt wr (new w.heap.size) (some ⟨g, 0, none⟩) n qs := by
     have P := S.out
     rw [← Kl] at P C ⊢
     exact P.fin C Kr F.out (by omega)
    have Km := hid Kh
    clear Kh S C
    go_wp2
    go_ret2
    rw [Q.out]
    exact ⟨_, _, rfl, Km.out, D, fun b o e => by injection e with e; injection e with e _; have := F.out; omega⟩
theorem leach_scale {w : World} {ps qs : List Iv} {p0 : Addr} (ha : IvsAt w Z A c ps) (hs : ∀ p ∈ ps, p.short) (he : errF ps = 0) (hq : qs.length = ps.length)
  (hF : ∀ j (hj : j < ps.length) (hj' : j < qs.length) (w1 : World) B0 d0 B1 d1, Below w.heap.size w w1 → U64s w1 Z B0 d0 ps[j].l0 → U64s w1 Z B1 d1 ps[j].l1 → Calls Tryz.prog 175 #[.int .i64 (j : Int), .agg #[.bool ps[j].n0, .bool ps[j].s0, .slice B0 ps[j].l0.length d0, .bool ps[j].n1, .bool ps[j].s1, .slice B1 ps[j].l1.length d1], .pointer (some p0)] w1 fun e w' => ∃ rA ra rB rb, e = .returned (.tuple #[.agg #[.bool qs[j].n0, .bool qs[j].s0, .slice rA qs[j].l0.length ra, .bool qs[j].n1, .bool qs[j].s1, .slice rB qs[j].l1.length rb], .int .i64 0]) ∧ U64s w' (new w1.heap.size) rA ra qs[j].l0 ∧ U64s w' (new w1.heap.size) rB rb qs[j].l1 ∧ Below w1.heap.size w1 w') :
  Calls Tryz.prog 172 #[.slice A ps.length c, .func (.func 175) #[] #[.pointer (some p0)]] w fun e w' => ∃ Av cv, e = .returned (.tuple #[.slice Av qs.length cv, .int .i64 0]) ∧ IvsAt w' (new w.heap.size) Av cv qs ∧ Below w.heap.size w w' ∧ NewA w.heap.size Av := by
 obtain ⟨i0, hi, Kn, Ko, Kp⟩ := info_parts infoIv
 have U := lcheck_any ha hs
 rw [he] at U
 have V : ps.length ≤ 64 := by
  unfold errF at he
  split at he
  · rename_i h; exact h.1.2
  · cases he
 have W := hid U
 clear U he hs
 obtain ⟨n, a⟩ : ∃ n, n = ps.length := ⟨_, rfl⟩
 have m : qs.length = n := by omega
 have HF := hid hF
 have Kt := ha.max
 have Kj := ha.cap
 rw [← a] at V Kj W ⊢
 obtain ⟨Hn, Q⟩ := hid2 a m
 clear hF hq a m
 go_enter Tryz.func172, Tryz.ntmps172
 go_wp2_with fail
 refine W.out.mono ?_
 rintro e w1 ⟨rfl, J⟩
 go_wp2_with (at_make; go_loud (refine wpList_make_full _ rfl _ _ 40 rfl w.heap.size 39 i0 (.agg #[.bool false, .bool false, .slice none 0 0, .bool false, .bool false, .slice none 0 0]) 6 Tryz.underlying40 hi Kn Ko .i64 .i64 _ _ n rfl rfl rfl rfl (by rw [Kp]; omega) (by simp only [maxLen]; omega) J.size ?_); intro w2 C hgrow)
 have X : Below w.heap.size w w2 := J.grown hgrow J.size (fun k h => by cases h)
 generalize (madeCells (Value.agg #[.bool false, .bool false, .slice none 0 0, .bool false, .bool false, .slice none 0 0]).cells (n * 6)).toList = xs0 at C
 obtain ⟨g, R⟩ : ∃ g, g = w1.heap.size := ⟨_, rfl⟩
 have q : w.heap.size ≤ g := by rw [R]; exact J.size
 obtain ⟨F, Kq⟩ := hid2 q (ha.below X)
 rw [← R] at C
 clear hgrow J W q
 go_wp2
 simp only [← R]
 clear R
 go_loopw [20] (fun i wr => ∃ (k : Nat) (E : List Value), k ≤ n ∧ i = .int .i64 (k : Int) ∧ wr.ownsRow w.heap.size 39 6 (.slice (some ⟨g, 0, none⟩) n n) n E ∧ Hid (CellsIv wr g E k qs) ∧ Below w.heap.size w wr ∧ g < wr.heap.size) (fun i _ => n - (intOf i).toNat)
 case atStart => exact ⟨0, xs0, Nat.zero_le _, rfl, C, hid CellsIv.none, X, (C.lt _ rfl).2⟩
 case round =>
  clear C X Kq
  obtain ⟨k, E, hk, rfl, C, S, D, Kr⟩ := hrel
  by_cases hlt : k < n
  · have r : k < ps.length := by have := Hn.out; omega
    have s : k < qs.length := by have := Q.out; omega
    obtain ⟨b, o, B0, d0, B1, d1, rfl, Kw, ⟨u, v, N, O, x, y⟩, u0, u1⟩ := ha.at r
    replace u := keepC D u
    replace v := keepC D v
    replace N := keepC D N
    replace O := keepC D O
    replace x := keepC D x
    replace y := keepC D y
    have Kv := C.1
    have z := fun (w2 w' : World) (A2 G : Option Addr) (N O : Nat) (P : CellsIv w2 g E k qs) h2 h3 h4 => P.put (w' := w') (A0 := A2) (A1 := G) (d0 := N) (d1 := O) (by have := Q.out; omega) s h2 h3 h4
    have Ka := hid z
    have H : Below wr.heap.size wr (wr.alloc (.cells #[.bool ps[k].n0, .bool ps[k].s0, .slice B0 ps[k].l0.length d0, .bool ps[k].n1, .bool ps[k].s1, .slice B1 ps[k].l1.length d1] 39)) := (Below.refl _ _).alloc (Nat.le_refl _) _
    have Kb := HF.out k r s _ B0 d0 B1 d1 (from_ D H) ((u0.below D).below H) ((u1.below D).below H)
    obtain ⟨Ks, d⟩ := hid2 Kb H
    clear z Kb H u0 u1
    generalize ps[k].n0 = pn0 at *
    generalize ps[k].s0 = ps0 at *
    generalize ps[k].l0 = pl0 at *
    generalize ps[k].n1 = pn1 at *
    generalize ps[k].s1 = ps1 at *
    generalize ps[k].l1 = pl1 at *
    generalize qs[k].n0 = qn0 at *
    generalize qs[k].s0 = qs0 at *
    generalize qs[k].l0 = ql0 at *
    generalize qs[k].n1 = qn1 at *
    generalize qs[k].s1 = qs1 at *
    generalize qs[k].l1 = ql1 at *
    go_wp2_with fail
    refine Ks.out.mono ?_
    rintro e T ⟨G, K, L, M, rfl, v0, v1, Ki⟩
    have I := from_ d.out Ki
    have B := own_below C I
    have Kc := S.out.keep (w' := T) fun b _ V => I.block b V
    have Kd := v0.mono (Y := new (g + 1)) (new_le (by have := d.out.size; omega))
    have Ke := v1.mono (Y := new (g + 1)) (new_le (by have := d.out.size; omega))
    have hP := Ka.out T ((((((T.setCell ⟨g, k * 6, none⟩ (.bool qn0)).setCell ⟨g, k * 6 + 1, none⟩ (.bool qs0)).setCell ⟨g, k * 6 + 2, none⟩ (.slice G ql0.length K)).setCell ⟨g, k * 6 + 3, none⟩ (.bool qn1)).setCell ⟨g, k * 6 + 4, none⟩ (.bool qs1)).setCell ⟨g, k * 6 + 5, none⟩ (.slice L ql1.length M)) G L K M Kc Kd Ke (fun b hb _ => by
     rw [Below.heap_setCell _ _ _ _ hb, Below.heap_setCell _ _ _ _ hb, Below.heap_setCell _ _ _ _ hb, Below.heap_setCell _ _ _ _ hb, Below.heap_setCell _ _ _ _ hb, Below.heap_setCell _ _ _ _ hb])
    have e0 := B.cellAt (k * 6) (by omega)
    have e1 := B.cellAt (k * 6 + 1) (by omega)
    have e2 := B.cellAt (k * 6 + 2) (by omega)
    have e3 := B.cellAt (k * 6 + 3) (by omega)
    have e4 := B.cellAt (k * 6 + 4) (by omega)
    have e5 := B.cellAt (k * 6 + 5) (by omega)
    rw [List.getElem?_eq_getElem (by omega)] at e0 e1 e2 e3 e4 e5
    have f0 := B.frozenAt (k * 6)
    have f1 := B.frozenAt (k * 6 + 1)
    have f2 := B.frozenAt (k * 6 + 2)
    have f3 := B.frozenAt (k * 6 + 3)
    have f4 := B.frozenAt (k * 6 + 4)
    have f5 := B.frozenAt (k * 6 + 5)
    have o1 := (B.stored (k * 6) (.bool qn0)).1
    have o2 := (o1.stored (k * 6 + 1) (.bool qs0)).1
    have o3 := (o2.stored (k * 6 + 2) (.slice G ql0.length K)).1
    have o4 := (o3.stored (k * 6 + 3) (.bool qn1)).1
    have o5 := (o4.stored (k * 6 + 4) (.bool qs1)).1
    have o6 := (o5.stored (k * 6 + 5) (.slice L ql1.length M)).1
    have Kf := from_ D I
    have Kg := ((((((Kf.setCell (p := ⟨g, k * 6, none⟩) F.out (.bool qn0)).setCell (p := ⟨g, k * 6 + 1, none⟩) F.out (.bool qs0)).setCell (p := ⟨g, k * 6 + 2, none⟩) F.out (.slice G ql0.length K)).setCell (p := ⟨g, k * 6 + 3, none⟩) F.out (.bool qn1)).setCell (p := ⟨g, k * 6 + 4, none⟩) F.out (.bool qs1)).setCell (p := ⟨g, k * 6 + 5, none⟩) F.out (.slice L ql1.length M))
    have Kk : g < ((((((T.setCell ⟨g, k * 6, none⟩ (.bool qn0)).setCell ⟨g, k * 6 + 1, none⟩ (.bool qs0)).setCell ⟨g, k * 6 + 2, none⟩ (.slice G ql0.length K)).setCell ⟨g, k * 6 + 3, none⟩ (.bool qn1)).setCell ⟨g, k * 6 + 4, none⟩ (.bool qs1)).setCell ⟨g, k * 6 + 5, none⟩ (.slice L ql1.length M)).heap.size := by
     have := I.size
     simp [World.setCell]
     omega
    obtain ⟨HP, HO, HB⟩ := hid3 hP o6 Kg
    clear hP o1 o2 o3 o4 o5 o6 v0 v1 Kd Ke B Kc S C Kf Kg Ki I Ka
    generalize E[k * 6] = x0 at *
    generalize E[k * 6 + 1] = x1 at *
    generalize E[k * 6 + 2] = x2 at *
    generalize E[k * 6 + 3] = x3 at *
    generalize E[k * 6 + 4] = x4 at *
    generalize E[k * 6 + 5] = x5 at *
    go_wp2
    go_roundw
    case rel => exact ⟨k + 1, _, by omega, by go_num, HO.out, HP, HB.out, Kk⟩
    case measure => simp [intOf]; omega
  · obtain rfl : n = k := by omega
    have Kl := Q.out
    have Kh : IvsAt wr (new w.heap.size) (some ⟨g, 0, none⟩) n qs := by
     have P := S.out
     rw [← Kl] at P C ⊢
     exact P.fin C Kr F.out (by omega)
    have Km := hid Kh
    clear Kh S C
    go_wp2
    go_ret2
    rw [Q.out]
    exact ⟨_, _, rfl, Km.out, D, fun b o e => by injection e with e; injection e with e _; have := F.out; omega⟩
theorem leach_neg {w : World} {ps qs : List Iv} (ha : IvsAt w Z A c ps) (hs : ∀ p ∈ ps, p.short) (he : errF ps = 0) (hq : qs.length = ps.length)
  (hF : ∀ j (hj : j < ps.length) (hj' : j < qs.length) (w1 : World) B0 d0 B1 d1, Below w.heap.size w w1 → U64s w1 Z B0 d0 ps[j].l0 → U64s w1 Z B1 d1 ps[j].l1 → Calls Tryz.prog 173 #[.int .i64 (j : Int), .agg #[.bool ps[j].n0, .bool ps[j].s0, .slice B0 ps[j].l0.length d0, .bool ps[j].n1, .bool ps[j].s1, .slice B1 ps[j].l1.length d1]] w1 fun e w' => ∃ rA ra rB rb, e = .returned (.tuple #[.agg #[.bool qs[j].n0, .bool qs[j].s0, .slice rA qs[j].l0.length ra, .bool qs[j].n1, .bool qs[j].s1, .slice rB qs[j].l1.length rb], .int .i64 0]) ∧ U64s w' (new w1.heap.size) rA ra qs[j].l0 ∧ U64s w' (new w1.heap.size) rB rb qs[j].l1 ∧ Below w1.heap.size w1 w') :
  Calls Tryz.prog 172 #[.slice A ps.length c, .func (.func 173) #[] #[]] w fun e w' => ∃ Av cv, e = .returned (.tuple #[.slice Av qs.length cv, .int .i64 0]) ∧ IvsAt w' (new w.heap.size) Av cv qs ∧ Below w.heap.size w w' ∧ NewA w.heap.size Av := by
 obtain ⟨i0, hi, Kn, Ko, Kp⟩ := info_parts infoIv
 have U := lcheck_any ha hs
 rw [he] at U
 have V : ps.length ≤ 64 := by
  unfold errF at he
  split at he
  · rename_i h; exact h.1.2
  · cases he
 have W := hid U
 clear U he hs
 obtain ⟨n, a⟩ : ∃ n, n = ps.length := ⟨_, rfl⟩
 have m : qs.length = n := by omega
 have HF := hid hF
 have Kt := ha.max
 have Kj := ha.cap
 rw [← a] at V Kj W ⊢
 obtain ⟨Hn, Q⟩ := hid2 a m
 clear hF hq a m
 go_enter Tryz.func172, Tryz.ntmps172
 go_wp2_with fail
 refine W.out.mono ?_
 rintro e w1 ⟨rfl, J⟩
 go_wp2_with (at_make; go_loud (refine wpList_make_full _ rfl _ _ 40 rfl w.heap.size 39 i0 (.agg #[.bool false, .bool false, .slice none 0 0, .bool false, .bool false, .slice none 0 0]) 6 Tryz.underlying40 hi Kn Ko .i64 .i64 _ _ n rfl rfl rfl rfl (by rw [Kp]; omega) (by simp only [maxLen]; omega) J.size ?_); intro w2 C hgrow)
 have X : Below w.heap.size w w2 := J.grown hgrow J.size (fun k h => by cases h)
 generalize (madeCells (Value.agg #[.bool false, .bool false, .slice none 0 0, .bool false, .bool false, .slice none 0 0]).cells (n * 6)).toList = xs0 at C
 obtain ⟨g, R⟩ : ∃ g, g = w1.heap.size := ⟨_, rfl⟩
 have q : w.heap.size ≤ g := by rw [R]; exact J.size
 obtain ⟨F, Kq⟩ := hid2 q (ha.below X)
 rw [← R] at C
 clear hgrow J W q
 go_wp2
 simp only [← R]
 clear R
 go_loopw [20] (fun i wr => ∃ (k : Nat) (E : List Value), k ≤ n ∧ i = .int .i64 (k : Int) ∧ wr.ownsRow w.heap.size 39 6 (.slice (some ⟨g, 0, none⟩) n n) n E ∧ Hid (CellsIv wr g E k qs) ∧ Below w.heap.size w wr ∧ g < wr.heap.size) (fun i _ => n - (intOf i).toNat)
 case atStart => exact ⟨0, xs0, Nat.zero_le _, rfl, C, hid CellsIv.none, X, (C.lt _ rfl).2⟩
 case round =>
  clear C X Kq
  obtain ⟨k, E, hk, rfl, C, S, D, Kr⟩ := hrel
  by_cases hlt : k < n
  · have r : k < ps.length := by have := Hn.out; omega
    have s : k < qs.length := by have := Q.out; omega
    obtain ⟨b, o, B0, d0, B1, d1, rfl, Kw, ⟨u, v, N, O, x, y⟩, u0, u1⟩ := ha.at r
    replace u := keepC D u
    replace v := keepC D v
    replace N := keepC D N
    replace O := keepC D O
    replace x := keepC D x
    replace y := keepC D y
    have Kv := C.1
    have z := fun (w2 w' : World) (A2 G : Option Addr) (N O : Nat) (P : CellsIv w2 g E k qs) h2 h3 h4 => P.put (w' := w') (A0 := A2) (A1 := G) (d0 := N) (d1 := O) (by have := Q.out; omega) s h2 h3 h4
    have Ka := hid z
    have H : Below wr.heap.size wr (wr.alloc (.cells #[.bool ps[k].n0, .bool ps[k].s0, .slice B0 ps[k].l0.length d0, .bool ps[k].n1, .bool ps[k].s1, .slice B1 ps[k].l1.length d1] 39)) := (Below.refl _ _).alloc (Nat.le_refl _) _
    have Kb := HF.out k r s _ B0 d0 B1 d1 (from_ D H) ((u0.below D).below H) ((u1.below D).below H)
    obtain ⟨Ks, d⟩ := hid2 Kb H
    clear z Kb H u0 u1
    generalize ps[k].n0 = pn0 at *
    generalize ps[k].s0 = ps0 at *
    generalize ps[k].l0 = pl0 at *
    generalize ps[k].n1 = pn1 at *
    generalize ps[k].s1 = ps1 at *
    generalize ps[k].l1 = pl1 at *
    generalize qs[k].n0 = qn0 at *
    generalize qs[k].s0 = qs0 at *
    generalize qs[k].l0 = ql0 at *
    generalize qs[k].n1 = qn1 at *
    generalize qs[k].s1 = qs1 at *
    generalize qs[k].l1 = ql1 at *
    go_wp2_with fail
    refine Ks.out.mono ?_
    rintro e T ⟨G, K, L, M, rfl, v0, v1, Ki⟩
    have I := from_ d.out Ki
    have B := own_below C I
    have Kc := S.out.keep (w' := T) fun b _ V => I.block b V
    have Kd := v0.mono (Y := new (g + 1)) (new_le (by have := d.out.size; omega))
    have Ke := v1.mono (Y := new (g + 1)) (new_le (by have := d.out.size; omega))
    have hP := Ka.out T ((((((T.setCell ⟨g, k * 6, none⟩ (.bool qn0)).setCell ⟨g, k * 6 + 1, none⟩ (.bool qs0)).setCell ⟨g, k * 6 + 2, none⟩ (.slice G ql0.length K)).setCell ⟨g, k * 6 + 3, none⟩ (.bool qn1)).setCell ⟨g, k * 6 + 4, none⟩ (.bool qs1)).setCell ⟨g, k * 6 + 5, none⟩ (.slice L ql1.length M)) G L K M Kc Kd Ke (fun b hb _ => by
     rw [Below.heap_setCell _ _ _ _ hb, Below.heap_setCell _ _ _ _ hb, Below.heap_setCell _ _ _ _ hb, Below.heap_setCell _ _ _ _ hb, Below.heap_setCell _ _ _ _ hb, Below.heap_setCell _ _ _ _ hb])
    have e0 := B.cellAt (k * 6) (by omega)
    have e1 := B.cellAt (k * 6 + 1) (by omega)
    have e2 := B.cellAt (k * 6 + 2) (by omega)
    have e3 := B.cellAt (k * 6 + 3) (by omega)
    have e4 := B.cellAt (k * 6 + 4) (by omega)
    have e5 := B.cellAt (k * 6 + 5) (by omega)
    rw [List.getElem?_eq_getElem (by omega)] at e0 e1 e2 e3 e4 e5
    have f0 := B.frozenAt (k * 6)
    have f1 := B.frozenAt (k * 6 + 1)
    have f2 := B.frozenAt (k * 6 + 2)
    have f3 := B.frozenAt (k * 6 + 3)
    have f4 := B.frozenAt (k * 6 + 4)
    have f5 := B.frozenAt (k * 6 + 5)
    have o1 := (B.stored (k * 6) (.bool qn0)).1
    have o2 := (o1.stored (k * 6 + 1) (.bool qs0)).1
    have o3 := (o2.stored (k * 6 + 2) (.slice G ql0.length K)).1
    have o4 := (o3.stored (k * 6 + 3) (.bool qn1)).1
    have o5 := (o4.stored (k * 6 + 4) (.bool qs1)).1
    have o6 := (o5.stored (k * 6 + 5) (.slice L ql1.length M)).1
    have Kf := from_ D I
    have Kg := ((((((Kf.setCell (p := ⟨g, k * 6, none⟩) F.out (.bool qn0)).setCell (p := ⟨g, k * 6 + 1, none⟩) F.out (.bool qs0)).setCell (p := ⟨g, k * 6 + 2, none⟩) F.out (.slice G ql0.length K)).setCell (p := ⟨g, k * 6 + 3, none⟩) F.out (.bool qn1)).setCell (p := ⟨g, k * 6 + 4, none⟩) F.out (.bool qs1)).setCell (p := ⟨g, k * 6 + 5, none⟩) F.out (.slice L ql1.length M))
    have Kk : g < ((((((T.setCell ⟨g, k * 6, none⟩ (.bool qn0)).setCell ⟨g, k * 6 + 1, none⟩ (.bool qs0)).setCell ⟨g, k * 6 + 2, none⟩ (.slice G ql0.length K)).setCell ⟨g, k * 6 + 3, none⟩ (.bool qn1)).setCell ⟨g, k * 6 + 4, none⟩ (.bool qs1)).setCell ⟨g, k * 6 + 5, none⟩ (.slice L ql1.length M)).heap.size := by
     have := I.size
     simp [World.setCell]
     omega
    obtain ⟨HP, HO, HB⟩ := hid3 hP o6 Kg
    clear hP o1 o2 o3 o4 o5 o6 v0 v1 Kd Ke B Kc S C Kf Kg Ki I Ka
    generalize E[k * 6] = x0 at *
    generalize E[k * 6 + 1] = x1 at *
    generalize E[k * 6 + 2] = x2 at *
    generalize E[k * 6 + 3] = x3 at *
    generalize E[k * 6 + 4] = x4 at *
    generalize E[k * 6 + 5] = x5 at *
    go_wp2
    go_roundw
    case rel => exact ⟨k + 1, _, by omega, by go_num, HO.out, HP, HB.out, Kk⟩
    case measure => simp [intOf]; omega
  · obtain rfl : n = k := by omega
    have Kl := Q.out
    have Kh : IvsAt wr (new w.heap.size) (some ⟨g, 0, none⟩) n qs := by
     have P := S.out
     rw [← Kl] at P C ⊢
     exact P.fin C Kr F.out (by omega)
    have Km := hid Kh
    clear Kh S C
    go_wp2
    go_ret2
    rw [Q.out]
    exact ⟨_, _, rfl, Km.out, D, fun b o e => by injection e with e; injection e with e _; have := F.out; omega⟩
structure FmW (N : Nat) (Ps : List IvP) (ps : List Iv) : Prop where
 len : ps.length = Ps.length
 iv : ∀ j (h : j < ps.length) (h' : j < Ps.length), IvW Ps[j] ps[j] ∧ IvN N Ps[j].1 Ps[j].2
theorem FmW.of {Ps : List IvP} (h : ∀ j (h : j < Ps.length), IvN N Ps[j].1 Ps[j].2) : FmW N Ps (fmOf Ps) :=
 ⟨fmOf_len Ps, fun j h1 h2 => ⟨by rw [fmOf_get h1 h2]; exact IvW.mk _, h j h2⟩⟩
theorem FmW.n {Ps : List IvP} {ps : List Iv} (h : FmW N Ps ps) (j : Nat) (hj : j < Ps.length) : IvN N Ps[j].1 Ps[j].2 := (h.iv j (by rw [h.len]; exact hj) hj).2
theorem FmW.short {Ps : List IvP} {ps : List Iv} (h : FmW N Ps ps) (hN : N ≤ 6400) : ∀ p ∈ ps, p.short := fun p hp => by
 obtain ⟨j, A, rfl⟩ := List.getElem_of_mem hp
 obtain ⟨B, C⟩ := h.iv j A (by rw [← h.len]; exact A)
 have k := B.k C hN
 exact ⟨by have := k.q0; omega, by have := k.q1; omega⟩
theorem FmW.all {Ps : List IvP} {ps : List Iv} (h : FmW N Ps ps) (hN : N ≤ 6400) : ps.all Iv.ok = true := by
 rw [List.all_eq_true]
 intro p hp
 obtain ⟨j, A, rfl⟩ := List.getElem_of_mem hp
 obtain ⟨B, C⟩ := h.iv j A (by rw [← h.len]; exact A)
 exact B.okP C hN
theorem FmW.err {Ps : List IvP} {ps : List Iv} (h : FmW N Ps ps) (hN : N ≤ 6400) (hl : 1 ≤ ps.length ∧ ps.length ≤ 64) : errF ps = 0 := by
 unfold errF
 rw [if_pos ⟨hl, h.all hN⟩]
def negL (Ps : List IvP) : List IvP := Ps.map ivNg
def scaL (Ps : List IvP) (Q : IvP) : List IvP := Ps.map fun P => ivM P Q
def addLL (Ps Qs : List IvP) : List IvP := List.zipWith ivA Ps Qs
theorem negL_get {Ps : List IvP} (h : j < (negL Ps).length) (h' : j < Ps.length) : (negL Ps)[j] = ivNg Ps[j] := List.getElem_map _
theorem scaL_get {Ps : List IvP} (h : j < (scaL Ps Q).length) (h' : j < Ps.length) : (scaL Ps Q)[j] = ivM Ps[j] Q := List.getElem_map _
theorem addLL_get {Ps Qs : List IvP} (h : j < (addLL Ps Qs).length) (h' : j < Ps.length) (h2 : j < Qs.length) : (addLL Ps Qs)[j] = ivA Ps[j] Qs[j] := List.getElem_zipWith
theorem lneg_n {w : World} {ps : List Iv} {Ps : List IvP} (ha : IvsAt w Z A c ps) (hp : FmW 3200 Ps ps) (hl : 1 ≤ ps.length ∧ ps.length ≤ 64) :
  Calls Tryz.prog 130 #[.slice A ps.length c] w fun e w' => ∃ Av cv, e = .returned (.tuple #[.slice Av (fmOf (negL Ps)).length cv, .int .i64 0]) ∧ IvsAt w' (new w.heap.size) Av cv (fmOf (negL Ps)) ∧ Below w.heap.size w w' ∧ NewA w.heap.size Av := by
 have B : (fmOf (negL Ps)).length = ps.length := by rw [fmOf_len, negL, List.length_map, hp.len]
 have C := leach_neg ha (hp.short (by omega)) (hp.err (by omega) hl) B (fun j hj hj' I B0 d0 B1 d1 hb v0 v1 => by
  obtain ⟨G, H⟩ := hp.iv j hj (by rw [← hp.len]; exact hj)
  exact lneg1_w G (by rw [fmOf_get hj' (by rw [← fmOf_len]; exact hj'), negL_get _ (by rw [← hp.len]; exact hj)]; exact IvW.mk _) H v0 v1)
 have E := hid C
 clear C B ha hp hl
 generalize ps.length = L at *
 generalize fmOf (negL Ps) = rs at *
 go_enter Tryz.func130, Tryz.ntmps130
 go_wp2_with fail
 refine E.out.mono ?_
 rintro e I ⟨Av, cv, rfl, D, J, K⟩
 have F := hid D
 clear D
 go_wp2
 go_ret2
 exact ⟨_, _, rfl, F.out, J, K⟩
theorem lscale_n {w : World} {Z3 Z4 : Zone} {C D : Option Addr} {c' d' : Nat} {ps : List Iv} {Ps : List IvP} (ha : IvsAt w Z A c ps) (hp : FmW 3200 Ps ps) (hl : 1 ≤ ps.length ∧ ps.length ≤ 64) (hq : IvW Q q) (gq : IvN 3200 Q.1 Q.2) (u3 : U64s w Z3 C c' q.l0) (u4 : U64s w Z4 D d' q.l1) :
  Calls Tryz.prog 135 #[.slice A ps.length c, .agg #[.bool q.n0, .bool q.s0, .slice C q.l0.length c', .bool q.n1, .bool q.s1, .slice D q.l1.length d']] w fun e w' => ∃ Av cv, e = .returned (.tuple #[.slice Av (fmOf (scaL Ps Q)).length cv, .int .i64 0]) ∧ IvsAt w' (new w.heap.size) Av cv (fmOf (scaL Ps Q)) ∧ Below w.heap.size w w' ∧ NewA w.heap.size Av := by
 have I : (fmOf (scaL Ps Q)).length = ps.length := by rw [fmOf_len, scaL, List.length_map, hp.len]
 have G := hq.k gq (by omega)
 have E : Below w.heap.size w (w.alloc (.cells #[.bool q.n0, .bool q.s0, .slice C q.l0.length c', .bool q.n1, .bool q.s1, .slice D q.l1.length d'] 39)) := (Below.refl _ w).alloc (Nat.le_refl _) _
 have J := Box6.new w (.bool q.n0) (.bool q.s0) (.slice C q.l0.length c') (.bool q.n1) (.bool q.s1) (.slice D q.l1.length d') 39
 have H := lodd_any (w := w.alloc (.cells #[.bool q.n0, .bool q.s0, .slice C q.l0.length c', .bool q.n1, .bool q.s1, .slice D q.l1.length d'] 39)) (p := q) (u3.below E) (u4.below E) ⟨by have := G.q0; omega, by have := G.q1; omega⟩
 rw [show (!q.ok) = false by rw [hq.okP gq (by omega)]; rfl] at H
 have N := hid H
 have O := hid (fun (W : World) (hb0 : Below w.heap.size w W) (hb : Box6 W w.heap.size (.bool q.n0) (.bool q.s0) (.slice C q.l0.length c') (.bool q.n1) (.bool q.s1) (.slice D q.l1.length d')) => leach_scale (w := W) (p0 := ⟨w.heap.size, 0, none⟩) (ha.below hb0) (hp.short (by omega)) (hp.err (by omega) hl) I (fun j hj hj' U B0 d0 B1 d1 hb1 v0 v1 => by
  obtain ⟨P, R⟩ := hp.iv j hj (by rw [← hp.len]; exact hj)
  exact lscale1_w P hq (by rw [fmOf_get hj' (by rw [← fmOf_len]; exact hj'), scaL_get _ (by rw [← hp.len]; exact hj)]; exact IvW.mk _) R gq (hb.below hb1) v0 v1 ((u3.below hb0).below hb1) ((u4.below hb0).below hb1)))
 obtain ⟨S, T⟩ := hid2 E J
 have q0 := J.all
 clear H I ha hp hl hq gq G E u3 u4
 generalize ps.length = L at *
 generalize fmOf (scaL Ps Q) = rs at *
 go_enter Tryz.func135, Tryz.ntmps135
 go_wp2_with fail
 refine N.out.mono ?_
 rintro e U ⟨rfl, B⟩
 obtain ⟨F, V⟩ := hid2 (from_ S.out B) (T.out.below B)
 clear q0 B
 go_wp2_with fail
 refine (O.out _ F.out V.out).mono ?_
 rintro e g ⟨Av, cv, rfl, K, B, M⟩
 obtain ⟨X, a, d⟩ := hid3 (K.mono (Y := new w.heap.size) (new_le F.out.size)) (from_ F.out B) (show NewA w.heap.size Av from fun b o e => Nat.le_trans F.out.size (M b o e))
 clear K B M
 go_wp2
 go_ret2
 exact ⟨_, _, rfl, X.out, a.out, d.out⟩
theorem ladd_n {w : World} {Y : Zone} {B : Option Addr} {ps qs : List Iv} {Ps Qs : List IvP} (ha : IvsAt w Z A c ps) (hb : IvsAt w Y B d qs) (hp : FmW 3200 Ps ps) (hq : FmW 3200 Qs qs) (hl : 1 ≤ ps.length ∧ ps.length ≤ 64) (hpq : qs.length = ps.length) :
  Calls Tryz.prog 132 #[.slice A ps.length c, .slice B qs.length d] w fun e w' => ∃ Av cv, e = .returned (.tuple #[.slice Av (fmOf (addLL Ps Qs)).length cv, .int .i64 0]) ∧ IvsAt w' (new w.heap.size) Av cv (fmOf (addLL Ps Qs)) ∧ Below w.heap.size w w' ∧ NewA w.heap.size Av := by
 have H : (fmOf (addLL Ps Qs)).length = ps.length := by rw [fmOf_len, addLL, List.length_zipWith, ← hp.len, ← hq.len]; omega
 have F : Below w.heap.size w (w.alloc (.cells #[.slice B qs.length d] 40)) := (Below.refl _ w).alloc (Nat.le_refl _) _
 have D : (w.alloc (.cells #[.slice B qs.length d] 40)).cell? ⟨w.heap.size, 0, none⟩ = some (.slice B qs.length d) := cell_newest rfl rfl
 have G := lcheck_any (ha.below F) (hp.short (by omega))
 rw [hp.err (by omega) hl] at G
 have I : Hid (∀ W, Below w.heap.size w W → Calls Tryz.prog 12 #[.slice B qs.length d] W fun e w' => e = .returned (.int .i64 0) ∧ Below W.heap.size W w') := fun W h => by
  have := lcheck_any (hb.below h) (hq.short (by omega))
  rwa [hq.err (by omega) (by omega)] at this
 have J := hid (fun (W : World) (hb0 : Below w.heap.size w W) (hg : W.cell? ⟨w.heap.size, 0, none⟩ = some (.slice B qs.length d)) => leach_addN (w := W) (p0 := ⟨w.heap.size, 0, none⟩) (ha.below hb0) (hp.short (by omega)) (hp.err (by omega) hl) H (fun j hj hj' v B0 d0 B1 d1 hb1 v0 v1 => by
  obtain ⟨T, U⟩ := hp.iv j hj (by rw [← hp.len]; exact hj)
  obtain ⟨V, X⟩ := hq.iv j (by omega) (by rw [← hq.len]; omega)
  obtain ⟨b, o, E0, e0, E1, e1, rfl, Ka, ⟨a, g, i, m, q, r⟩, s, u⟩ := hb.at (j := j) (by omega)
  exact ladd1_w T V (by rw [fmOf_get hj' (by rw [← fmOf_len]; exact hj'), addLL_get _ (by rw [← hp.len]; exact hj) (by rw [← hq.len]; omega)]; exact IvW.mk _) U X (keepC hb1 hg) (by omega) (by omega) ⟨keepC hb1 (keepC hb0 a), keepC hb1 (keepC hb0 g), keepC hb1 (keepC hb0 i), keepC hb1 (keepC hb0 m), keepC hb1 (keepC hb0 q), keepC hb1 (keepC hb0 r)⟩ v0 v1 ((s.below hb0).below hb1) ((u.below hb0).below hb1)))
 obtain ⟨N, O⟩ := hid2 F G
 clear G H ha hb hp hq hl F
 rw [hpq] at J I D N O ⊢
 clear hpq
 have t1 : ((ps.length : Int) != (ps.length : Int)) = false := bne_self_eq_false _
 generalize ps.length = L at *
 generalize fmOf (addLL Ps Qs) = rs at *
 have HG := hid D
 go_enter Tryz.func132, Tryz.ntmps132
 go_wp2_with fail
 refine O.out.mono ?_
 rintro e v ⟨rfl, C⟩
 have K := hid (from_ N.out C)
 have M := keepC C D
 clear D C
 go_wp2_with fail
 refine (I.out _ K.out).mono ?_
 rintro e w2 ⟨rfl, C⟩
 have E := hid (from_ K.out C)
 have R := keepC C M
 have S := hid R
 clear M C
 go_wp2_with fail
 refine (J.out _ E.out S.out).mono ?_
 rintro e w3 ⟨Av, cv, rfl, P, C, Q⟩
 obtain ⟨x, y, z⟩ := hid3 (show NewA w.heap.size Av from fun b o e => Nat.le_trans E.out.size (Q b o e)) (P.mono (Y := new w.heap.size) (new_le E.out.size)) (from_ E.out C)
 clear P C Q
 go_wp2
 go_ret2
 exact ⟨_, _, rfl, y.out, z.out, x.out⟩
def nullI : Iv := ⟨false, false, [], false, false, []⟩
theorem nullI_of : ivOf 0 0 = nullI := by
 have A := bigZ_pos
 unfold ivOf nullI nLo nHi sE lE
 rw [decide_eq_false (by omega), decide_eq_false (by omega), decide_eq_false (by omega), if_pos (by omega)]
 rw [show limbs (0 : Int).natAbs = [] from limbs_eq_nil.2 rfl]
theorem made_sixI {n : Nat} (h : i < n * 6) : (madeCells (Value.agg #[.bool false, .bool false, .slice none 0 0, .bool false, .bool false, .slice none 0 0]).cells (n * 6)).toList[i]? = some (if i % 6 = 2 ∨ i % 6 = 5 then .slice none 0 0 else .bool false) := by
 have e : (Value.agg #[.bool false, .bool false, .slice none 0 0, .bool false, .bool false, .slice none 0 0]).cells = #[.bool false, .bool false, .slice none 0 0, .bool false, .bool false, .slice none 0 0] := rfl
 rw [e, Array.getElem?_toList]
 unfold madeCells
 rw [Array.getElem?_map, Array.getElem?_eq_getElem (by simpa using h)]
 simp only [Array.getElem_range, Option.map_some]
 have A : i % 6 = 0 ∨ i % 6 = 1 ∨ i % 6 = 2 ∨ i % 6 = 3 ∨ i % 6 = 4 ∨ i % 6 = 5 := by omega
 rcases A with h | h | h | h | h | h <;> simp [h]
structure OwnIv (w : World) (B g n : Nat) (qs : List Iv) (xs : List Value) : Prop where
 own : w.ownsRow B 39 6 (.slice (some ⟨g, 0, none⟩) n n) n xs
 len : qs.length = n
 cells : CellsIv w g xs n qs
theorem OwnIv.zero {w : World} {n : Nat} (h : w.ownsRow B 39 6 (.slice (some ⟨g, 0, none⟩) n n) n xs) (hx : xs = (madeCells (Value.agg #[.bool false, .bool false, .slice none 0 0, .bool false, .bool false, .slice none 0 0]).cells (n * 6)).toList) : OwnIv w B g n (List.replicate n nullI) xs := by
 refine ⟨h, by simp, fun j hj hjn => ?_⟩
 rw [List.getElem_replicate]
 refine ⟨none, 0, none, 0, ⟨?_, ?_, ?_, ?_, ?_, ?_⟩, U64s.nil _ _, U64s.nil _ _⟩
 · rw [hx, made_sixI (by omega), if_neg (by omega)]; rfl
 · rw [hx, made_sixI (by omega), if_neg (by omega)]; rfl
 · rw [hx, made_sixI (by omega), if_pos (by omega)]; rfl
 · rw [hx, made_sixI (by omega), if_neg (by omega)]; rfl
 · rw [hx, made_sixI (by omega), if_neg (by omega)]; rfl
 · rw [hx, made_sixI (by omega), if_pos (by omega)]; rfl
theorem OwnIv.lt {w : World} {n : Nat} {qs : List Iv} (h : OwnIv w B g n qs xs) : B ≤ g ∧ g < w.heap.size := h.own.lt g rfl
theorem OwnIv.below {w : World} {n : Nat} {qs : List Iv} (h : OwnIv w B g n qs xs) (hb : Below w.heap.size w w') : OwnIv w' B g n qs xs :=
 ⟨own_below h.own hb, h.len, h.cells.keep fun b _ hl => hb.block b hl⟩
theorem OwnIv.at {w : World} {n : Nat} {qs : List Iv} (h : OwnIv w B g n qs xs) (hi : i < n) : ∃ x0 x1 x2 x3 x4 x5, (w.cell? ⟨g, i * 6, none⟩ = some x0 ∧ w.cell? ⟨g, i * 6 + 1, none⟩ = some x1 ∧ w.cell? ⟨g, i * 6 + 2, none⟩ = some x2 ∧ w.cell? ⟨g, i * 6 + 3, none⟩ = some x3 ∧ w.cell? ⟨g, i * 6 + 4, none⟩ = some x4 ∧ w.cell? ⟨g, i * 6 + 5, none⟩ = some x5) ∧ (w.frozen? ⟨g, i * 6, none⟩ = false ∧ w.frozen? ⟨g, i * 6 + 1, none⟩ = false ∧ w.frozen? ⟨g, i * 6 + 2, none⟩ = false ∧ w.frozen? ⟨g, i * 6 + 3, none⟩ = false ∧ w.frozen? ⟨g, i * 6 + 4, none⟩ = false ∧ w.frozen? ⟨g, i * 6 + 5, none⟩ = false) := by
 obtain ⟨H, I, J, K, ⟨A, C, D, E, F, G⟩, _, _⟩ := h.cells i (by have := h.len; omega) hi
 exact ⟨_, _, _, _, _, _, ⟨(h.own.cellAt (i * 6) (by omega)).trans A, (h.own.cellAt (i * 6 + 1) (by omega)).trans C, (h.own.cellAt (i * 6 + 2) (by omega)).trans D, (h.own.cellAt (i * 6 + 3) (by omega)).trans E, (h.own.cellAt (i * 6 + 4) (by omega)).trans F, (h.own.cellAt (i * 6 + 5) (by omega)).trans G⟩, h.own.frozenAt _, h.own.frozenAt _, h.own.frozenAt _, h.own.frozenAt _, h.own.frozenAt _, h.own.frozenAt _⟩
theorem OwnIv.set {w : World} {n : Nat} {qs : List Iv} (h : OwnIv w B g n qs xs) (hi : i < n) (u0 : U64s w (new (g + 1)) A0 d0 q.l0) (u1 : U64s w (new (g + 1)) A1 d1 q.l1) :
  OwnIv ((((((w.setCell ⟨g, i * 6, none⟩ (.bool q.n0)).setCell ⟨g, i * 6 + 1, none⟩ (.bool q.s0)).setCell ⟨g, i * 6 + 2, none⟩ (.slice A0 q.l0.length d0)).setCell ⟨g, i * 6 + 3, none⟩ (.bool q.n1)).setCell ⟨g, i * 6 + 4, none⟩ (.bool q.s1)).setCell ⟨g, i * 6 + 5, none⟩ (.slice A1 q.l1.length d1)) B g n (qs.set i q) (set6 xs (i * 6) (.bool q.n0) (.bool q.s0) (.slice A0 q.l0.length d0) (.bool q.n1) (.bool q.s1) (.slice A1 q.l1.length d1)) := by
 have C := (h.own.stored (i * 6) (.bool q.n0)).1
 have D := (C.stored (i * 6 + 1) (.bool q.s0)).1
 have E := (D.stored (i * 6 + 2) (.slice A0 q.l0.length d0)).1
 have F := (E.stored (i * 6 + 3) (.bool q.n1)).1
 have G := (F.stored (i * 6 + 4) (.bool q.s1)).1
 have H := (G.stored (i * 6 + 5) (.slice A1 q.l1.length d1)).1
 have P := h.own.1
 have A : ∀ b, b ≠ g → b < w.heap.size → ((((((w.setCell ⟨g, i * 6, none⟩ (.bool q.n0)).setCell ⟨g, i * 6 + 1, none⟩ (.bool q.s0)).setCell ⟨g, i * 6 + 2, none⟩ (.slice A0 q.l0.length d0)).setCell ⟨g, i * 6 + 3, none⟩ (.bool q.n1)).setCell ⟨g, i * 6 + 4, none⟩ (.bool q.s1)).setCell ⟨g, i * 6 + 5, none⟩ (.slice A1 q.l1.length d1)).heap[b]? = w.heap[b]? := fun b hb _ => by
  rw [Below.heap_setCell _ _ _ _ hb, Below.heap_setCell _ _ _ _ hb, Below.heap_setCell _ _ _ _ hb, Below.heap_setCell _ _ _ _ hb, Below.heap_setCell _ _ _ _ hb, Below.heap_setCell _ _ _ _ hb]
 refine ⟨H, by rw [List.length_set, h.len], fun j hj hjn => ?_⟩
 rw [List.length_set] at hj
 by_cases hji : i = j
 · subst hji
   rw [List.getElem_set_self]
   exact ⟨A0, d0, A1, d1, set6_at (by omega), u0.keep fun b hb hl => A b (by have : g + 1 ≤ b := hb; omega) hl, u1.keep fun b hb hl => A b (by have : g + 1 ≤ b := hb; omega) hl⟩
 · rw [List.getElem_set_ne hji]
   obtain ⟨I, J, K, L, M, N, O⟩ := h.cells j hj hjn
   refine ⟨I, J, K, L, ?_, N.keep fun b hb hl => A b (by have : g + 1 ≤ b := hb; omega) hl, O.keep fun b hb hl => A b (by have : g + 1 ≤ b := hb; omega) hl⟩
   rw [set6_ne (by omega), set6_ne (by omega), set6_ne (by omega), set6_ne (by omega), set6_ne (by omega), set6_ne (by omega)]
   exact M
theorem OwnIv.fin {w : World} {n : Nat} {qs : List Iv} (h : OwnIv w B g n qs xs) (hB : B' ≤ B) (hn : n ≤ 1000000) : IvsAt w (new B') (some ⟨g, 0, none⟩) n qs := by
 have A := h.len
 have C := h.lt
 have D := h.own
 have E := h.cells
 subst A
 exact E.fin D C.2 (by omega) (by omega)
def varL (d i : Nat) : List IvP := (List.replicate (d + 1) ((0 : Int), (0 : Int))).set i (1, 1)
theorem varL_w (d i : Nat) : fmOf (varL d i) = (List.replicate (d + 1) nullI).set i (ivOf 1 1) := by
 unfold fmOf varL
 rw [List.map_set, List.map_replicate, nullI_of]
theorem varL_len (d i : Nat) : (varL d i).length = d + 1 := by simp [varL]
theorem lvar_goodN {w : World} (hd : d ≤ 63) (h1 : 1 ≤ i) (h2 : i ≤ d) :
  Calls Tryz.prog 79 #[.int .i64 (d : Int), .int .i64 (i : Int)] w fun e w' => ∃ Av cv, e = .returned (.tuple #[.slice Av (d + 1) cv, .int .i64 0]) ∧ IvsAt w' (new w.heap.size) Av cv (fmOf (varL d i)) ∧ Below w.heap.size w w' ∧ NewA w.heap.size Av := by
 obtain ⟨V, hi, X, Y, Z⟩ := info_parts infoIv
 have D := hid (fun W : World => lpoint_w (w := W) (x := 1) (by omega))
 have u : decide ((d : Int) < 0) = false := decide_eq_false (by omega)
 have v : decide ((63 : Int) < (d : Int)) = false := decide_eq_false (by omega)
 have y : decide (63 < d) = false := decide_eq_false (by omega)
 have z : decide ((i : Int) < 1) = false := decide_eq_false (by omega)
 have Ka : decide (i < 1) = false := decide_eq_false (by omega)
 have Kb : decide (i = 0) = false := decide_eq_false (by omega)
 have g4 : decide ((d : Int) < (i : Int)) = false := decide_eq_false (by omega)
 have Kc : decide (d < i) = false := decide_eq_false (by omega)
 have Kd : IntKind.i64.wrap ((d : Int) + 1) = ((d + 1 : Nat) : Int) := by rw [IntKind.wrap_i64]; omega
 have Ke : (0 : Int) ≤ (i : Int) := by omega
 have Kf : (i : Int) ≤ (d : Int) := by omega
 have Kg : (i : Int) < ((d + 1 : Nat) : Int) := by omega
 have hi3 : i < d + 1 := by omega
 have K := varL_w d i
 have L := hid K
 have T : w.heap.size ≤ w.heap.size := Nat.le_refl _
 clear K
 rw [L.out]
 clear L
 generalize hpq : ivOf 1 1 = q at *
 have M : nLo 1 = q.n0 := by rw [← hpq]; rfl
 have N : sE 1 = q.s0 := by rw [← hpq]; rfl
 have E : lE 1 = q.l0 := by rw [← hpq]; rfl
 have O : nHi 1 = q.n1 := by rw [← hpq]; rfl
 have P : q.s0 = q.s1 := by rw [← hpq]; rfl
 have Q : q.l0 = q.l1 := by rw [← hpq]; rfl
 replace D : Hid (∀ W : World, Calls Tryz.prog 121 #[.int .i64 1] W fun e w' => ∃ A a B b, e = .returned (.agg #[.bool q.n0, .bool q.s0, .slice A q.l0.length a, .bool q.n1, .bool q.s1, .slice B q.l1.length b]) ∧ U64s w' (new W.heap.size) A a q.l0 ∧ U64s w' (new W.heap.size) B b q.l1 ∧ Below W.heap.size W w') := fun W => by
  have := D.out W
  rw [M, N, E, O] at this
  rw [← P, ← Q]
  exact this
 clear M N E O P Q hpq
 go_enter Tryz.func79, Tryz.ntmps79
 go_wp2_with (at_make; go_loud (refine wpList_make_full _ rfl _ _ 40 rfl w.heap.size 39 V (.agg #[.bool false, .bool false, .slice none 0 0, .bool false, .bool false, .slice none 0 0]) 6 Tryz.underlying40 hi X Y .i64 .i64 _ _ (d + 1) rfl rfl rfl rfl (by rw [Z]; omega) (by simp only [maxLen]; omega) T ?_); intro w2 hown hgrow)
 have R : Below w.heap.size w w2 := (Below.refl _ w).grown hgrow (Nat.le_refl _) (fun k h => by cases h)
 have S := OwnIv.zero hown rfl
 generalize (madeCells (Value.agg #[.bool false, .bool false, .slice none 0 0, .bool false, .bool false, .slice none 0 0]).cells ((d + 1) * 6)).toList = xs0 at *
 have F := hid S
 clear hown S hgrow
 obtain ⟨g, I⟩ : ∃ g, g = w.heap.size := ⟨_, rfl⟩
 have C : w.heap.size ≤ g := by omega
 have U := hid C
 rw [← I] at F
 simp only [← I]
 refine (D.out _).mono ?_
 rintro e w3 ⟨c, j, m, E, rfl, u1, u2, J⟩
 have G := F.out.below J
 have H := F.out.lt
 obtain ⟨x0, x1, x2, x3, x4, x5, ⟨c0, c1, c2, c3, c4, c5⟩, f0, f1, f2, f3, f4, f5⟩ := G.at hi3
 obtain ⟨r, s⟩ := hid2 ((G.set hi3 (u1.mono (new_le H.2)) (u2.mono (new_le H.2))).fin (B' := w.heap.size) (by omega) (by omega)) (((((((from_ R J).setCell (p := ⟨g, i * 6, none⟩) C (.bool q.n0)).setCell (p := ⟨g, i * 6 + 1, none⟩) C (.bool q.s0)).setCell (p := ⟨g, i * 6 + 2, none⟩) C (.slice c q.l0.length j)).setCell (p := ⟨g, i * 6 + 3, none⟩) C (.bool q.n1)).setCell (p := ⟨g, i * 6 + 4, none⟩) C (.bool q.s1)).setCell (p := ⟨g, i * 6 + 5, none⟩) C (.slice m q.l1.length E))
 clear G u1 u2 J R F I H D
 go_wp2
 go_ret2
 exact ⟨_, _, rfl, r.out, s.out, fun b o e => by injection e with e; injection e with e _; have := U.out; omega⟩
theorem lbetween_w {w : World} (hx : -9223372036854775808 ≤ x ∧ x ≤ 9223372036854775807) (hy : -9223372036854775808 ≤ y ∧ y ≤ 9223372036854775807) (h : x ≤ y) :
  Calls Tryz.prog 38 #[.int .i64 x, .int .i64 y] w fun e w' => ∃ A c B d, e = .returned (.agg #[.bool (nLo x), .bool (sE x), .slice A (lE x).length c, .bool (nHi y), .bool (sE y), .slice B (lE y).length d]) ∧ U64s w' (new w.heap.size) A c (lE x) ∧ U64s w' (new w.heap.size) B d (lE y) ∧ Below w.heap.size w w' := by
 have K : Below w.heap.size w (w.alloc (.cells #[.bool false, .bool false, .slice none 0 0, .bool false, .bool false, .slice none 0 0] 39)) := (Below.refl _ w).alloc (Nat.le_refl _) _
 obtain ⟨L, Q, H⟩ := hid3 (Box6.new w (.bool false) (.bool false) (.slice none 0 0) (.bool false) (.bool false) (.slice none 0 0) 39) (iof_good (w := w.alloc (.cells #[.bool false, .bool false, .slice none 0 0, .bool false, .bool false, .slice none 0 0] 39)) hx hy h) K
 clear hx hy h K
 generalize nLo x = n0 at *
 generalize nHi y = n1 at *
 generalize lE x = l0 at *
 generalize sE x = s0 at *
 generalize lE y = l1 at *
 generalize sE y = s1 at *
 go_enter Tryz.func38, Tryz.ntmps38
 go_wp2_with fail
 refine Q.out.mono ?_
 rintro e I ⟨D, E, F, G, rfl, M, N, J⟩
 have C := (Below.refl I.heap.size I).alloc (Nat.le_refl _) (.cells #[.bool n0, .bool s0, .slice D l0.length E, .bool n1, .bool s1, .slice F l1.length G] 39)
 have R := (L.out.below J).below C
 have P := L.out.lt
 obtain ⟨O, S, T⟩ := hid3 (R.put (w := w) (from_ (from_ H.out J) C) (Nat.le_refl _) (.bool n0) (.bool s0) (.slice D l0.length E) (.bool n1) (.bool s1) (.slice F l1.length G)) (((M.below C).set6 (g := w.heap.size) (fun (h : _ ≤ w.heap.size) => by omega) (.bool n0) (.bool s0) (.slice D l0.length E) (.bool n1) (.bool s1) (.slice F l1.length G)).mono (new_le H.out.size)) (((N.below C).set6 (g := w.heap.size) (fun (h : _ ≤ w.heap.size) => by omega) (.bool n0) (.bool s0) (.slice D l0.length E) (.bool n1) (.bool s1) (.slice F l1.length G)).mono (new_le H.out.size))
 obtain ⟨V, W, X, Y, Z, a, _, _, _, _, _, _, _⟩ := Box6.new I (.bool n0) (.bool s0) (.slice D l0.length E) (.bool n1) (.bool s1) (.slice F l1.length G) 39
 have U := R.cf
 clear M N J C P
 go_wp2
 refine bodyPost_ret (res_itv rfl _ w.heap.size rfl O.out.box) rfl ?_
 exact ⟨_, _, _, _, rfl, S.out, T.out, O.out.bel⟩
theorem lbetween_r {w : World} (hr : IvW (x, y) r) (hx : -9223372036854775808 ≤ x ∧ x ≤ 9223372036854775807) (hy : -9223372036854775808 ≤ y ∧ y ≤ 9223372036854775807) (h : x ≤ y) :
  Calls Tryz.prog 38 #[.int .i64 x, .int .i64 y] w fun e w' => ∃ A c B d, e = .returned (.agg #[.bool r.n0, .bool r.s0, .slice A r.l0.length c, .bool r.n1, .bool r.s1, .slice B r.l1.length d]) ∧ U64s w' (new w.heap.size) A c r.l0 ∧ U64s w' (new w.heap.size) B d r.l1 ∧ Below w.heap.size w w' := by
 obtain rfl := hr.uniq (IvW.mk (x, y))
 exact lbetween_w hx hy h
def allP : IvP := (-9223372036854775808, 9223372036854775807)
theorem lall_r {w : World} (hr : IvW allP r) :
  Calls Tryz.prog 11 #[] w fun e w' => ∃ A c B d, e = .returned (.agg #[.bool r.n0, .bool r.s0, .slice A r.l0.length c, .bool r.n1, .bool r.s1, .slice B r.l1.length d]) ∧ U64s w' (new w.heap.size) A c r.l0 ∧ U64s w' (new w.heap.size) B d r.l1 ∧ Below w.heap.size w w' := by
 have I : Below w.heap.size w (w.alloc (.cells #[.bool false, .bool false, .slice none 0 0, .bool false, .bool false, .slice none 0 0] 39)) := (Below.refl _ w).alloc (Nat.le_refl _) _
 obtain ⟨J, O, C⟩ := hid3 (Box6.new w (.bool false) (.bool false) (.slice none 0 0) (.bool false) (.bool false) (.slice none 0 0) 39) (lbetween_r (w := w.alloc (.cells #[.bool false, .bool false, .slice none 0 0, .bool false, .bool false, .slice none 0 0] 39)) hr (by decide) (by decide) (by decide)) I
 clear I hr
 go_enter Tryz.func11, Tryz.ntmps11
 go_wp2_with fail
 refine O.out.mono ?_
 rintro e T ⟨D, E, F, G, rfl, K, L, H⟩
 have R := J.out.below H
 have N := J.out.lt
 obtain ⟨M, P, Q⟩ := hid3 (R.put (w := w) (from_ C.out H) (Nat.le_refl _) (.bool r.n0) (.bool r.s0) (.slice D r.l0.length E) (.bool r.n1) (.bool r.s1) (.slice F r.l1.length G)) ((K.set6 (g := w.heap.size) (fun (h : _ ≤ w.heap.size) => by omega) (.bool r.n0) (.bool r.s0) (.slice D r.l0.length E) (.bool r.n1) (.bool r.s1) (.slice F r.l1.length G)).mono (new_le C.out.size)) ((L.set6 (g := w.heap.size) (fun (h : _ ≤ w.heap.size) => by omega) (.bool r.n0) (.bool r.s0) (.slice D r.l0.length E) (.bool r.n1) (.bool r.s1) (.slice F r.l1.length G)).mono (new_le C.out.size))
 have S := R.cf
 clear K L H N
 go_wp2
 refine bodyPost_ret (res_itv rfl _ w.heap.size rfl M.out.box) rfl ?_
 exact ⟨_, _, _, _, rfl, P.out, Q.out, M.out.bel⟩
theorem lconst_goodN {w : World} {Z1 Z2 : Zone} {p : Iv} {P : IvP} {B : Option Addr} {a b : Nat} (hd : d ≤ 63) (hp : IvW P p) (gp : IvN N P.1 P.2) (hN : N ≤ 6000) (u1 : U64s w Z1 A a p.l0) (u2 : U64s w Z2 B b p.l1) :
  Calls Tryz.prog 120 #[.int .i64 (d : Int), .agg #[.bool p.n0, .bool p.s0, .slice A p.l0.length a, .bool p.n1, .bool p.s1, .slice B p.l1.length b]] w fun e w' => ∃ Av cv, e = .returned (.tuple #[.slice Av (d + 1) cv, .int .i64 0]) ∧ IvsAt w' (new w.heap.size) Av cv ((List.replicate (d + 1) nullI).set 0 p) ∧ Below w.heap.size w w' ∧ NewA w.heap.size Av := by
 obtain ⟨c, hi, i, j, m⟩ := info_parts infoIv
 have H : Below w.heap.size w (w.alloc (.cells #[.bool p.n0, .bool p.s0, .slice A p.l0.length a, .bool p.n1, .bool p.s1, .slice B p.l1.length b] 39)) := (Below.refl _ w).alloc (Nat.le_refl _) _
 have C := hid (Box6.new w (.bool p.n0) (.bool p.s0) (.slice A p.l0.length a) (.bool p.n1) (.bool p.s1) (.slice B p.l1.length b) 39)
 have I := hp.k gp (by omega)
 have J := lodd_any (u1.below H) (u2.below H) ⟨by have := I.q0; omega, by have := I.q1; omega⟩
 rw [show (!p.ok) = false by have h : p.ok = true := I.ok; rw [h]; rfl] at J
 obtain ⟨U, F, q⟩ := hid3 (fun (W : World) (h : Below w.heap.size w W) => ijoin_w hp gp hN (u1.below h) (u2.below h) (u1.below h) (u2.below h)) J H
 have g1 : decide ((d : Int) < 0) = false := decide_eq_false (by omega)
 have g2 : decide ((63 : Int) < (d : Int)) = false := decide_eq_false (by omega)
 have Ka : decide (63 < d) = false := decide_eq_false (by omega)
 have Kb : IntKind.i64.wrap ((d : Int) + 1) = ((d + 1 : Nat) : Int) := by rw [IntKind.wrap_i64]; omega
 have hi3 : 0 < d + 1 := by omega
 have Kc : (0 : Int) < ((d + 1 : Nat) : Int) := by omega
 clear J H u1 u2 hp gp I
 have Y := C.out.all
 go_enter Tryz.func120, Tryz.ntmps120
 go_wp2_with fail
 refine F.out.mono ?_
 rintro e G ⟨rfl, E⟩
 have K := hid (from_ q.out E)
 have S := K.out.size
 replace C := hid (C.out.below E)
 clear Y E
 go_wp2_with (at_make; go_loud (refine wpList_make_full _ rfl _ _ 40 rfl w.heap.size 39 c (.agg #[.bool false, .bool false, .slice none 0 0, .bool false, .bool false, .slice none 0 0]) 6 Tryz.underlying40 hi i j .i64 .i64 _ _ (d + 1) rfl rfl rfl rfl (by rw [m]; omega) (by simp only [maxLen]; omega) S ?_); intro w2 hown hgrow; obtain ⟨r, s, u, v, x, y, _, _, _, _, _, _, _⟩ := C.out.below ((Below.refl _ G).grown hgrow (Nat.le_refl _) (fun k h => by cases h)))
 have L : Below G.heap.size G w2 := (Below.refl _ G).grown hgrow (Nat.le_refl _) (fun k h => by cases h)
 have T := OwnIv.zero hown rfl
 generalize (madeCells (Value.agg #[.bool false, .bool false, .slice none 0 0, .bool false, .bool false, .slice none 0 0]).cells ((d + 1) * 6)).toList = xs0 at *
 replace F := hid T
 replace C := hid (C.out.below L)
 have M := hid (from_ K.out L)
 clear hown T hgrow L
 obtain ⟨g, R⟩ : ∃ g, g = G.heap.size := ⟨_, rfl⟩
 have D : w.heap.size ≤ g := by omega
 have Z := hid D
 rw [← R] at F
 simp only [← R]
 refine (U.out _ M.out).mono ?_
 rintro e w3 ⟨z, d3, B3, e3, rfl, u1, u2, E⟩
 have O := F.out.below E
 have Q := F.out.lt
 obtain ⟨x0, x1, x2, x3, x4, x5, ⟨c0, c1, c2, c3, c4, c5⟩, f0, f1, f2, f3, f4, f5⟩ := O.at hi3
 obtain ⟨V, X⟩ := hid2 ((O.set hi3 (u1.mono (new_le Q.2)) (u2.mono (new_le Q.2))).fin (B' := w.heap.size) (by omega) (by omega)) (((((((from_ M.out E).setCell (p := ⟨g, 0 * 6, none⟩) D (.bool p.n0)).setCell (p := ⟨g, 0 * 6 + 1, none⟩) D (.bool p.s0)).setCell (p := ⟨g, 0 * 6 + 2, none⟩) D (.slice z p.l0.length d3)).setCell (p := ⟨g, 0 * 6 + 3, none⟩) D (.bool p.n1)).setCell (p := ⟨g, 0 * 6 + 4, none⟩) D (.bool p.s1)).setCell (p := ⟨g, 0 * 6 + 5, none⟩) D (.slice B3 p.l1.length e3))
 simp only [Nat.zero_mul, Nat.zero_add] at c0 c1 c2 c3 c4 c5 f0 f1 f2 f3 f4 f5 V X
 clear O u1 u2 E F R Q S r s u v x y U K M C
 go_wp2
 go_ret2
 exact ⟨_, _, rfl, V.out, X.out, fun b o e => by injection e with e; injection e with e _; have := Z.out; omega⟩
theorem NoU.one {w : World} {u v : Value} (h : NoU w g) (hc : w.cell? ⟨g, j, none⟩ = some u) (hv : ∀ n, v ≠ .int .u64 n) : NoU (w.setCell ⟨g, j, none⟩ v) g := fun o m e => by
 by_cases ho : o = j
 · subst ho
   rw [World.cell?_setCell_same _ _ _ hc] at e
   injection e with e
   exact hv _ e
 · rw [World.cell?_setCell_other _ _ _ _ (fun h => ho (by injection h with _ h; exact h.symm))] at e
   exact h o m e
theorem NoU.own6 {w : World} (h : NoU w g) (hb : Box6 w g a0 a1 a2 a3 a4 a5) (n0 s0 n1 s1 : Bool) (A B : Option Addr) (a c b d : Nat) : NoU ((((((w.setCell ⟨g, 0, none⟩ (.bool n0)).setCell ⟨g, 1, none⟩ (.bool s0)).setCell ⟨g, 2, none⟩ (.slice A a c)).setCell ⟨g, 3, none⟩ (.bool n1)).setCell ⟨g, 4, none⟩ (.bool s1)).setCell ⟨g, 5, none⟩ (.slice B b d)) g :=
 ((((((h.one (((BoxL.of6 hb)).c 0 _ rfl) (v := (.bool n0)) (fun n e => by cases e)).one ((((BoxL.of6 hb).set 0 (.bool n0) rfl)).c 1 _ rfl) (v := (.bool s0)) (fun n e => by cases e)).one (((((BoxL.of6 hb).set 0 (.bool n0) rfl).set 1 (.bool s0) rfl)).c 2 _ rfl) (v := (.slice A a c)) (fun n e => by cases e)).one ((((((BoxL.of6 hb).set 0 (.bool n0) rfl).set 1 (.bool s0) rfl).set 2 (.slice A a c) rfl)).c 3 _ rfl) (v := (.bool n1)) (fun n e => by cases e)).one (((((((BoxL.of6 hb).set 0 (.bool n0) rfl).set 1 (.bool s0) rfl).set 2 (.slice A a c) rfl).set 3 (.bool n1) rfl)).c 4 _ rfl) (v := (.bool s1)) (fun n e => by cases e)).one ((((((((BoxL.of6 hb).set 0 (.bool n0) rfl).set 1 (.bool s0) rfl).set 2 (.slice A a c) rfl).set 3 (.bool n1) rfl).set 4 (.bool s1) rfl)).c 5 _ rfl) (v := (.slice B b d)) (fun n e => by cases e))
theorem itwJ_of {p : Iv} (h : p.ok = true) (m0 : Small p.l0) (m1 : Small p.l1) (q0 : p.l0.length ≤ N) (q1 : p.l1.length ≤ N) (hN : N ≤ 6000) : IvW (p.lo, p.hi) p ∧ IvN N p.lo p.hi := by
 have B : p.fine 6000 := ⟨m0, m1, by omega, by omega⟩
 have e := Iv.is h B
 obtain ⟨F, G⟩ := okA_ends h
 have C := lo_range (n := p.n0) (s := p.s0) m0 (show p.l0.length ≤ 6000 by omega)
 have D := hi_range (n := p.n1) (s := p.s1) m1 (show p.l1.length ≤ 6000 by omega)
 have E := okA_le h m0 m1 (by omega) (by omega)
 obtain ⟨b, J, K, L, M, P⟩ := Plc.ex (-1) p.n0 p.s0 p.l0 none 0
 obtain ⟨d, O, R, S, T, Q⟩ := Plc.ex 1 p.n1 p.s1 p.l1 none 0
 have u := P.lo F m0 (show p.l0.length ≤ 6000 by omega)
 have v := Q.hi G m1 (show p.l1.length ≤ 6000 by omega)
 have H := P.len
 have I := Q.len
 refine ⟨?_, u.ext (by omega), v.ext (by omega), E, C.2, D.1⟩
 have A := IvW.mk (p.lo, p.hi)
 rw [show ivOf (p.lo, p.hi).1 (p.lo, p.hi).2 = p from e.symm] at A
 exact A
theorem U64s.set6n {w : World} {l : List Nat} (u : U64s w Z A c l) (h : NoU w g) (x0 x1 x2 x3 x4 x5 : Value) : U64s ((((((w.setCell ⟨g, 0, none⟩ x0).setCell ⟨g, 1, none⟩ x1).setCell ⟨g, 2, none⟩ x2).setCell ⟨g, 3, none⟩ x3).setCell ⟨g, 4, none⟩ x4).setCell ⟨g, 5, none⟩ x5) old A c l :=
 ((u.offB h).set6 (g := g) (fun h => h rfl) x0 x1 x2 x3 x4 x5).mono (le_old _)
theorem d12_keep {V : World} (hs : (C6 W g a0 a1 a2 a3 a4 a5) ∧ C6 W h b0 b1 b2 b3 b4 b5) (hb : Below W.heap.size W V) : (C6 V g a0 a1 a2 a3 a4 a5) ∧ C6 V h b0 b1 b2 b3 b4 b5 := ⟨box6_keep hs.1 hb, box6_keep hs.2 hb⟩
theorem d12_st6 {r : Nat} (hg : r ≠ g) (hh : r ≠ h) (hs : (C6 W g a0 a1 a2 a3 a4 a5) ∧ C6 W h b0 b1 b2 b3 b4 b5) : (((((((W.setCell ⟨r, 0, none⟩ x0).setCell ⟨r, 1, none⟩ x1).setCell ⟨r, 2, none⟩ x2).setCell ⟨r, 3, none⟩ x3).setCell ⟨r, 4, none⟩ x4).setCell ⟨r, 5, none⟩ x5).cell? ⟨g, 0, none⟩ = some a0 ∧ ((((((W.setCell ⟨r, 0, none⟩ x0).setCell ⟨r, 1, none⟩ x1).setCell ⟨r, 2, none⟩ x2).setCell ⟨r, 3, none⟩ x3).setCell ⟨r, 4, none⟩ x4).setCell ⟨r, 5, none⟩ x5).cell? ⟨g, 1, none⟩ = some a1 ∧ ((((((W.setCell ⟨r, 0, none⟩ x0).setCell ⟨r, 1, none⟩ x1).setCell ⟨r, 2, none⟩ x2).setCell ⟨r, 3, none⟩ x3).setCell ⟨r, 4, none⟩ x4).setCell ⟨r, 5, none⟩ x5).cell? ⟨g, 2, none⟩ = some a2 ∧ ((((((W.setCell ⟨r, 0, none⟩ x0).setCell ⟨r, 1, none⟩ x1).setCell ⟨r, 2, none⟩ x2).setCell ⟨r, 3, none⟩ x3).setCell ⟨r, 4, none⟩ x4).setCell ⟨r, 5, none⟩ x5).cell? ⟨g, 3, none⟩ = some a3 ∧ ((((((W.setCell ⟨r, 0, none⟩ x0).setCell ⟨r, 1, none⟩ x1).setCell ⟨r, 2, none⟩ x2).setCell ⟨r, 3, none⟩ x3).setCell ⟨r, 4, none⟩ x4).setCell ⟨r, 5, none⟩ x5).cell? ⟨g, 4, none⟩ = some a4 ∧ ((((((W.setCell ⟨r, 0, none⟩ x0).setCell ⟨r, 1, none⟩ x1).setCell ⟨r, 2, none⟩ x2).setCell ⟨r, 3, none⟩ x3).setCell ⟨r, 4, none⟩ x4).setCell ⟨r, 5, none⟩ x5).cell? ⟨g, 5, none⟩ = some a5) ∧ ((((((W.setCell ⟨r, 0, none⟩ x0).setCell ⟨r, 1, none⟩ x1).setCell ⟨r, 2, none⟩ x2).setCell ⟨r, 3, none⟩ x3).setCell ⟨r, 4, none⟩ x4).setCell ⟨r, 5, none⟩ x5).cell? ⟨h, 0, none⟩ = some b0 ∧ ((((((W.setCell ⟨r, 0, none⟩ x0).setCell ⟨r, 1, none⟩ x1).setCell ⟨r, 2, none⟩ x2).setCell ⟨r, 3, none⟩ x3).setCell ⟨r, 4, none⟩ x4).setCell ⟨r, 5, none⟩ x5).cell? ⟨h, 1, none⟩ = some b1 ∧ ((((((W.setCell ⟨r, 0, none⟩ x0).setCell ⟨r, 1, none⟩ x1).setCell ⟨r, 2, none⟩ x2).setCell ⟨r, 3, none⟩ x3).setCell ⟨r, 4, none⟩ x4).setCell ⟨r, 5, none⟩ x5).cell? ⟨h, 2, none⟩ = some b2 ∧ ((((((W.setCell ⟨r, 0, none⟩ x0).setCell ⟨r, 1, none⟩ x1).setCell ⟨r, 2, none⟩ x2).setCell ⟨r, 3, none⟩ x3).setCell ⟨r, 4, none⟩ x4).setCell ⟨r, 5, none⟩ x5).cell? ⟨h, 3, none⟩ = some b3 ∧ ((((((W.setCell ⟨r, 0, none⟩ x0).setCell ⟨r, 1, none⟩ x1).setCell ⟨r, 2, none⟩ x2).setCell ⟨r, 3, none⟩ x3).setCell ⟨r, 4, none⟩ x4).setCell ⟨r, 5, none⟩ x5).cell? ⟨h, 4, none⟩ = some b4 ∧ ((((((W.setCell ⟨r, 0, none⟩ x0).setCell ⟨r, 1, none⟩ x1).setCell ⟨r, 2, none⟩ x2).setCell ⟨r, 3, none⟩ x3).setCell ⟨r, 4, none⟩ x4).setCell ⟨r, 5, none⟩ x5).cell? ⟨h, 5, none⟩ = some b5 := ⟨box6_st6 hg hs.1, box6_st6 hh hs.2⟩
end Go.Proofs.YtdncgncijbnjpaaGreat
