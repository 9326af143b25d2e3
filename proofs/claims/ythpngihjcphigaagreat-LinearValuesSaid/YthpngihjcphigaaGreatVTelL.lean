/- Intervals, the program's: Div. No conditions but bounds on lengths. -/
import Derived.StillTailTactics
import Derived.Deep.RegionHeld3
import Derived.Test.YthpngihjcphigaaGreatVTelC
import Derived.Test.YthpngihjcphigaaGreatVRefE
import Derived.Test.YthpngihjcphigaaGreatVHeldL
import Derived.Test.YthpngihjcphigaaGreatVItvV
import Derived.Test.YthpngihjcphigaaGreatVLinP
import Derived.Test.YthpngihjcphigaaGreatVWhJ
import Derived.Test.YthpngihjcphigaaGreatVWhV
set_option linter.unusedVariables false
set_option linter.unusedSimpArgs false
set_option maxRecDepth 100000
set_option maxHeartbeats 40000000
namespace Go.Proofs.YthpngihjcphigaaGreat
open Go.Lib (hid)
open Go.RowKit
variable {A B C D : Option Addr} {N a b b9 c g h j o9 : Nat} {Q : IvP} {V W W' W0 w w' : World} {Y Z Z1 Z2 Z3 Z4 : Zone} {a0 a1 a2 a3 a4 a5 b0 b1 b2 b3 b4 b5 c0 c1 c2 c3 c4 c5 d d0 d1 e f v v' : Value} {l rl : List Nat} {m rs s : Bool} {p q r : Iv} {t : TypeId} {x y : Int} {xs : List Value}
theorem anyL_one {P : Program} {ops : Array Oper} {Q : Exit → Act → World → Prop} {md : Region.Mode} {A T : World → Prop} {k i : Nat} {fuel : Nat} {listed : Array Bool} {a : Act} (hr : Region.ready md ops listed = [i])
  (h : wpOp P ops Q i (fun a' w' => TillK A T k (listed.setIfInBounds i true) w' ∧ wpAnyL P md ops Q A T k fuel (listed.setIfInBounds i true) a' w') a w) : wpAnyL P md ops Q A T k (fuel + 1) listed a w :=
 ⟨fun h0 => (by rw [hr] at h0; cases h0), fun j hj => by
  rw [hr] at hj
  obtain rfl := List.mem_singleton.1 hj
  exact h⟩
theorem six_just {o : Nat} (h : Just g W W') (hb : b ≠ g) (hc : W.cell? ⟨b, o, none⟩ = some a0 ∧ W.cell? ⟨b, o + 1, none⟩ = some a1 ∧ W.cell? ⟨b, o + 2, none⟩ = some a2 ∧ W.cell? ⟨b, o + 3, none⟩ = some a3 ∧ W.cell? ⟨b, o + 4, none⟩ = some a4 ∧ W.cell? ⟨b, o + 5, none⟩ = some a5) : W'.cell? ⟨b, o, none⟩ = some a0 ∧ W'.cell? ⟨b, o + 1, none⟩ = some a1 ∧ W'.cell? ⟨b, o + 2, none⟩ = some a2 ∧ W'.cell? ⟨b, o + 3, none⟩ = some a3 ∧ W'.cell? ⟨b, o + 4, none⟩ = some a4 ∧ W'.cell? ⟨b, o + 5, none⟩ = some a5 := ⟨h.cell hb hc.1, h.cell hb hc.2.1, h.cell hb hc.2.2.1, h.cell hb hc.2.2.2.1, h.cell hb hc.2.2.2.2.1, h.cell hb hc.2.2.2.2.2⟩
theorem Box6.oth1 {a b c : Value} (h : Box6 W g a b c d e f) {k : Nat} (hn : k ≠ g) (v : Value) : Box6 (W.setCell ⟨k, j, none⟩ v) g a b c d e f := by
 obtain ⟨h0, h1, h2, h3, h4, h5, f0, f1, f2, f3, f4, f5, hl⟩ := h
 refine ⟨?_, ?_, ?_, ?_, ?_, ?_, ?_, ?_, ?_, ?_, ?_, ?_, ?_⟩
 · rw [World.cell?_setCell_other _ _ _ _ (fun e => hn (by injection e))]; exact h0
 · rw [World.cell?_setCell_other _ _ _ _ (fun e => hn (by injection e))]; exact h1
 · rw [World.cell?_setCell_other _ _ _ _ (fun e => hn (by injection e))]; exact h2
 · rw [World.cell?_setCell_other _ _ _ _ (fun e => hn (by injection e))]; exact h3
 · rw [World.cell?_setCell_other _ _ _ _ (fun e => hn (by injection e))]; exact h4
 · rw [World.cell?_setCell_other _ _ _ _ (fun e => hn (by injection e))]; exact h5
 · exact (World.frozen?_setCell _ _ _ _).trans f0
 · exact (World.frozen?_setCell _ _ _ _).trans f1
 · exact (World.frozen?_setCell _ _ _ _).trans f2
 · exact (World.frozen?_setCell _ _ _ _).trans f3
 · exact (World.frozen?_setCell _ _ _ _).trans f4
 · exact (World.frozen?_setCell _ _ _ _).trans f5
 · simpa [World.setCell] using hl
theorem U64s.away (h : U64s w Z A c l) : ∃ Y : Zone, U64s w Y A c l ∧ ∀ g, w.heap.size ≤ g → ¬ Y.blk g :=
 ⟨⟨fun b => b < w.heap.size, False⟩, ⟨h.small, h.cap, h.max, h.nul, fun h0 => by
  obtain ⟨b, o, e, hz, _, hc⟩ := h.row h0
  exact ⟨b, o, e, lt_of_cell (hc 0 _ (List.getElem?_eq_getElem h0)), fun h => h.elim, hc⟩⟩, fun g hg (hb : g < w.heap.size) => by omega⟩
theorem U64s.st2 (h : U64s W Z A c l) (hz : ¬ Z.blk g) (x y : Value) : U64s ((W.setCell ⟨g, 0, none⟩ x).setCell ⟨g, 1, none⟩ y) Z A c l := (h.set1 g 0 hz x).set1 g 1 hz y
theorem Box.own2 {a b : Value} (H : Box W g a b) (x y : Value) : Box ((W.setCell ⟨g, 0, none⟩ x).setCell ⟨g, 1, none⟩ y) g x y := by
 have hz : ((W.setCell ⟨g, 0, none⟩ x).setCell ⟨g, 1, none⟩ y).heap.size = W.heap.size := by simp
 have e0 : ((W.setCell ⟨g, 0, none⟩ x).setCell ⟨g, 1, none⟩ y).cell? ⟨g, 0, none⟩ = some x := by
  rw [World.cell?_setCell_other _ _ _ _ (by simp)]
  exact World.cell?_setCell_same _ _ _ H.c0
 have e1 : ((W.setCell ⟨g, 0, none⟩ x).setCell ⟨g, 1, none⟩ y).cell? ⟨g, 1, none⟩ = some y := by
  refine World.cell?_setCell_same _ _ _ (u := b) ?_
  rw [World.cell?_setCell_other _ _ _ _ (by simp)]
  exact H.c1
 exact ⟨e0, e1, by rw [World.frozen?_setCell, World.frozen?_setCell]; exact H.f0, by rw [World.frozen?_setCell, World.frozen?_setCell]; exact H.f1, by rw [hz]; exact H.lt⟩
theorem Box.oth1 {a b : Value} (h : Box W g a b) {k : Nat} (hn : k ≠ g) (v : Value) : Box (W.setCell ⟨k, j, none⟩ v) g a b := by
 obtain ⟨h0, h1, f0, f1, hl⟩ := h
 refine ⟨?_, ?_, ?_, ?_, ?_⟩
 · rw [World.cell?_setCell_other _ _ _ _ (fun e => hn (by injection e))]; exact h0
 · rw [World.cell?_setCell_other _ _ _ _ (fun e => hn (by injection e))]; exact h1
 · exact (World.frozen?_setCell _ _ _ _).trans f0
 · exact (World.frozen?_setCell _ _ _ _).trans f1
 · simpa [World.setCell] using hl
theorem Box.st2 {a b : Value} (H : Box W g a b) (hn : h ≠ g) (x y : Value) : Box ((W.setCell ⟨h, 0, none⟩ x).setCell ⟨h, 1, none⟩ y) g a b := (H.oth1 hn x).oth1 hn y
theorem Box6.st2 {a b c : Value} (H : Box6 W g a b c d e f) (hn : h ≠ g) (x y : Value) : Box6 ((W.setCell ⟨h, 0, none⟩ x).setCell ⟨h, 1, none⟩ y) g a b c d e f := (H.oth1 hn x).oth1 hn y
theorem Box6.st6 {a b c : Value} (H : Box6 W g a b c d e f) (hn : h ≠ g) (x0 x1 x2 x3 x4 x5 : Value) : Box6 ((((((W.setCell ⟨h, 0, none⟩ x0).setCell ⟨h, 1, none⟩ x1).setCell ⟨h, 2, none⟩ x2).setCell ⟨h, 3, none⟩ x3).setCell ⟨h, 4, none⟩ x4).setCell ⟨h, 5, none⟩ x5) g a b c d e f := (((((H.oth1 hn x0).oth1 hn x1).oth1 hn x2).oth1 hn x3).oth1 hn x4).oth1 hn x5
def Q4 (W : World) (B : Nat) (a0 a1 a2 a3 a4 a5 b0 b1 b2 b3 b4 b5 c0 c1 d0 d1 : Value) : Prop := Box6 W B a0 a1 a2 a3 a4 a5 ∧ Box6 W (B + 1) b0 b1 b2 b3 b4 b5 ∧ Box W (B + 2) c0 c1 ∧ Box W (B + 3) d0 d1
theorem Q4.new (w : World) (a0 a1 a2 a3 a4 a5 b0 b1 b2 b3 b4 b5 c0 c1 d0 d1 : Value) (t u : TypeId) : Q4 ((((w.alloc (.cells #[a0, a1, a2, a3, a4, a5] t)).alloc (.cells #[b0, b1, b2, b3, b4, b5] t)).alloc (.cells #[c0, c1] u)).alloc (.cells #[d0, d1] u)) w.heap.size a0 a1 a2 a3 a4 a5 b0 b1 b2 b3 b4 b5 c0 c1 d0 d1 ∧ Below w.heap.size w ((((w.alloc (.cells #[a0, a1, a2, a3, a4, a5] t)).alloc (.cells #[b0, b1, b2, b3, b4, b5] t)).alloc (.cells #[c0, c1] u)).alloc (.cells #[d0, d1] u)) := by
 have k1 : Below w.heap.size w (w.alloc (.cells #[a0, a1, a2, a3, a4, a5] t)) := (Below.refl _ _).alloc (Nat.le_refl _) _
 have k2 : Below w.heap.size w ((w.alloc (.cells #[a0, a1, a2, a3, a4, a5] t)).alloc (.cells #[b0, b1, b2, b3, b4, b5] t)) := k1.alloc k1.size _
 have k3 : Below w.heap.size w (((w.alloc (.cells #[a0, a1, a2, a3, a4, a5] t)).alloc (.cells #[b0, b1, b2, b3, b4, b5] t)).alloc (.cells #[c0, c1] u)) := k2.alloc k2.size _
 have k4 : Below w.heap.size w ((((w.alloc (.cells #[a0, a1, a2, a3, a4, a5] t)).alloc (.cells #[b0, b1, b2, b3, b4, b5] t)).alloc (.cells #[c0, c1] u)).alloc (.cells #[d0, d1] u)) := k3.alloc k3.size _
 have b0' := (((Box6.new w a0 a1 a2 a3 a4 a5 t).alloc (.cells #[b0, b1, b2, b3, b4, b5] t)).alloc (.cells #[c0, c1] u)).alloc (.cells #[d0, d1] u)
 have b1' := ((Box6.new (w.alloc (.cells #[a0, a1, a2, a3, a4, a5] t)) b0 b1 b2 b3 b4 b5 t).alloc (.cells #[c0, c1] u)).alloc (.cells #[d0, d1] u)
 simp only [World.size_alloc] at b1'
 have b2' := (Box.new ((w.alloc (.cells #[a0, a1, a2, a3, a4, a5] t)).alloc (.cells #[b0, b1, b2, b3, b4, b5] t)) c0 c1 u).alloc (.cells #[d0, d1] u)
 simp only [World.size_alloc] at b2'
 have b3' := Box.new (((w.alloc (.cells #[a0, a1, a2, a3, a4, a5] t)).alloc (.cells #[b0, b1, b2, b3, b4, b5] t)).alloc (.cells #[c0, c1] u)) d0 d1 u
 simp only [World.size_alloc] at b3'
 exact ⟨⟨b0', b1', b2', b3'⟩, k4⟩
theorem Q4.below {B : Nat} (h : Q4 W B a0 a1 a2 a3 a4 a5 b0 b1 b2 b3 b4 b5 c0 c1 d0 d1) (hb : Below W.heap.size W V) : Q4 V B a0 a1 a2 a3 a4 a5 b0 b1 b2 b3 b4 b5 c0 c1 d0 d1 := ⟨h.1.below hb, h.2.1.below hb, h.2.2.1.below hb, h.2.2.2.below hb⟩
theorem Q4.st2 {B : Nat} (h : Q4 W B a0 a1 a2 a3 a4 a5 b0 b1 b2 b3 b4 b5 c0 c1 d0 d1) (hg : B + 4 ≤ g) (x y : Value) : Q4 ((W.setCell ⟨g, 0, none⟩ x).setCell ⟨g, 1, none⟩ y) B a0 a1 a2 a3 a4 a5 b0 b1 b2 b3 b4 b5 c0 c1 d0 d1 := ⟨h.1.st2 (by omega) x y, h.2.1.st2 (by omega) x y, h.2.2.1.st2 (by omega) x y, h.2.2.2.st2 (by omega) x y⟩
def Q3 (W : World) (B : Nat) (a0 a1 a2 a3 a4 a5 b0 b1 b2 b3 b4 b5 c0 c1 c2 c3 c4 c5 : Value) : Prop := Box6 W B a0 a1 a2 a3 a4 a5 ∧ Box6 W (B + 1) b0 b1 b2 b3 b4 b5 ∧ Box6 W (B + 2) c0 c1 c2 c3 c4 c5
theorem Q3.new (w : World) (a0 a1 a2 a3 a4 a5 b0 b1 b2 b3 b4 b5 c0 c1 c2 c3 c4 c5 : Value) (t : TypeId) : Q3 (((w.alloc (.cells #[a0, a1, a2, a3, a4, a5] t)).alloc (.cells #[b0, b1, b2, b3, b4, b5] t)).alloc (.cells #[c0, c1, c2, c3, c4, c5] t)) w.heap.size a0 a1 a2 a3 a4 a5 b0 b1 b2 b3 b4 b5 c0 c1 c2 c3 c4 c5 ∧ Below w.heap.size w (((w.alloc (.cells #[a0, a1, a2, a3, a4, a5] t)).alloc (.cells #[b0, b1, b2, b3, b4, b5] t)).alloc (.cells #[c0, c1, c2, c3, c4, c5] t)) := by
 have k1 : Below w.heap.size w (w.alloc (.cells #[a0, a1, a2, a3, a4, a5] t)) := (Below.refl _ _).alloc (Nat.le_refl _) _
 have k2 : Below w.heap.size w ((w.alloc (.cells #[a0, a1, a2, a3, a4, a5] t)).alloc (.cells #[b0, b1, b2, b3, b4, b5] t)) := k1.alloc k1.size _
 have k3 : Below w.heap.size w (((w.alloc (.cells #[a0, a1, a2, a3, a4, a5] t)).alloc (.cells #[b0, b1, b2, b3, b4, b5] t)).alloc (.cells #[c0, c1, c2, c3, c4, c5] t)) := k2.alloc k2.size _
 have b0' := ((Box6.new w a0 a1 a2 a3 a4 a5 t).alloc (.cells #[b0, b1, b2, b3, b4, b5] t)).alloc (.cells #[c0, c1, c2, c3, c4, c5] t)
 have b1' := (Box6.new (w.alloc (.cells #[a0, a1, a2, a3, a4, a5] t)) b0 b1 b2 b3 b4 b5 t).alloc (.cells #[c0, c1, c2, c3, c4, c5] t)
 simp only [World.size_alloc] at b1'
 have b2' := Box6.new ((w.alloc (.cells #[a0, a1, a2, a3, a4, a5] t)).alloc (.cells #[b0, b1, b2, b3, b4, b5] t)) c0 c1 c2 c3 c4 c5 t
 simp only [World.size_alloc] at b2'
 exact ⟨⟨b0', b1', b2'⟩, k3⟩
theorem Q3.below {B : Nat} (h : Q3 W B a0 a1 a2 a3 a4 a5 b0 b1 b2 b3 b4 b5 c0 c1 c2 c3 c4 c5) (hb : Below W.heap.size W V) : Q3 V B a0 a1 a2 a3 a4 a5 b0 b1 b2 b3 b4 b5 c0 c1 c2 c3 c4 c5 := ⟨h.1.below hb, h.2.1.below hb, h.2.2.below hb⟩
theorem Q3.st6 {B : Nat} (h : Q3 W B a0 a1 a2 a3 a4 a5 b0 b1 b2 b3 b4 b5 c0 c1 c2 c3 c4 c5) (hg : B + 3 ≤ g) (x0 x1 x2 x3 x4 x5 : Value) : Q3 ((((((W.setCell ⟨g, 0, none⟩ x0).setCell ⟨g, 1, none⟩ x1).setCell ⟨g, 2, none⟩ x2).setCell ⟨g, 3, none⟩ x3).setCell ⟨g, 4, none⟩ x4).setCell ⟨g, 5, none⟩ x5) B a0 a1 a2 a3 a4 a5 b0 b1 b2 b3 b4 b5 c0 c1 c2 c3 c4 c5 := ⟨h.1.st6 (by omega) x0 x1 x2 x3 x4 x5, h.2.1.st6 (by omega) x0 x1 x2 x3 x4 x5, h.2.2.st6 (by omega) x0 x1 x2 x3 x4 x5⟩
theorem ok_dec {z0 z1 : Int} (h0 : EndL z0 r.n0 r.s0 r.l0) (h1 : EndH z1 r.n1 r.s1 r.l1) (b0 : -bigZ ≤ z0 ∧ z0 < bigZ) (b1 : -bigZ < z1 ∧ z1 ≤ bigZ) : r.ok = decide (z0 ≤ z1) := by
 obtain ⟨a1, a2, a3⟩ := h0
 obtain ⟨c1, c2, c3⟩ := h1
 have e0 := lo_e b0
 have e1 := hi_e b1
 rw [← a1, ← a2, ← a3] at e0
 rw [← c1, ← c2, ← c3] at e1
 unfold Iv.ok okA
 rw [e0.2, e1.2]
 by_cases h : z0 = -bigZ
 · rw [a1, show nLo z0 = true from decide_eq_true h, show decide (z0 ≤ z1) = true from decide_eq_true (by omega)]; rfl
 · by_cases h2 : z1 = bigZ
   · rw [c1, show nHi z1 = true from decide_eq_true h2, show decide (z0 ≤ z1) = true from decide_eq_true (by omega)]; simp
   · have n0 : r.n0 = false := by rw [a1]; exact decide_eq_false h
     have n1 : r.n1 = false := by rw [c1]; exact decide_eq_false h2
     have e0' := e0.1
     have e1' := e1.1
     rw [n0] at e0'
     rw [n1] at e1'
     have f0 : zof r.s0 r.l0 = z0 := e0'
     have f1 : zof r.s1 r.l1 = z1 := e1'
     rw [n0, n1, f0, f1]
     rfl
theorem r16above_w {P : IvP} {g : Bool} (hp : IvW P p) (gp : IvN 59 P.1 P.2) (hr : IvW (max P.1 1, P.2) r) (hg : decide (max P.1 1 ≤ P.2) = g) (u1 : U64s w Z1 A a p.l0) (u2 : U64s w Z2 B b p.l1) :
  Calls Tryz.prog 74 #[.agg #[.bool p.n0, .bool p.s0, .slice A p.l0.length a, .bool p.n1, .bool p.s1, .slice B p.l1.length b]] w fun e w' => ∃ rA ra rB rb, e = .returned (.tuple #[bif g then .agg #[.bool r.n0, .bool r.s0, .slice rA r.l0.length ra, .bool r.n1, .bool r.s1, .slice rB r.l1.length rb] else .agg #[.bool false, .bool false, .slice none 0 0, .bool false, .bool false, .slice none 0 0], .bool g]) ∧ U64s w' old rA ra r.l0 ∧ U64s w' old rB rb r.l1 ∧ Below w.heap.size w w' := by
 have kp := hp.k gp (by omega)
 have h0 := bigZ_pos
 have r1 := gp.lo.range (by omega)
 have r2 := gp.hi.range (by omega)
 have r3 := gp.nlo
 have r4 := gp.nhi
 have hb1 := big_one
 have hok := ok_dec hr.1 hr.2 (by dsimp only; omega) (by dsimp only; omega)
 rw [hg] at hok
 obtain ⟨s1, l1, n1⟩ : ∃ s l, Nm (1 : Int) s l := ⟨_, _, rfl, rfl⟩
 have o1 := okA_ends kp.ok
 have ez := nm_e (n := 1) (by omega)
 have lz : l1.length ≤ 1 := by rw [n1.2]; exact len_limbs_le (by decide)
 have es : s1 = sE (1) := n1.1.trans ez.1.symm
 have el : l1 = lE (1) := n1.2.trans ez.2.symm
 have hl := lo_e (x := 1) ⟨by omega, by omega⟩
 rw [nLo_no (by omega), ← es, ← el] at hl
 have eq0 : okE false s1 l1 = true := hl.2
 have ev : zof s1 l1 = 1 := hl.1
 obtain ⟨bA, bR, hB0⟩ := boxT w (.bool p.n0) (.bool p.s0) (.slice A p.l0.length a) (.bool p.n1) (.bool p.s1) (.slice B p.l1.length b) (.bool false) (.bool false) (.slice none 0 0) (.bool false) (.bool false) (.slice none 0 0) 29
 have nR := NoU.new6 (w.alloc (.cells #[.bool p.n0, .bool p.s0, .slice A p.l0.length a, .bool p.n1, .bool p.s1, .slice B p.l1.length b] 29)) false false false false none none 0 0 0 0 29
 rw [World.size_alloc] at nR
 obtain ⟨C1, C2, C3⟩ := hid3 (fun (W : World) => r05of_p (w := W) n1 (by omega)) (fun (W : World) (Z : Zone) (C : Option Addr) (c : Nat) (v : U64s W Z C c l1) => r16end_w n1 (by omega) v) (fun (W : World) (Z : Zone) (C : Option Addr) (c : Nat) (h : Below w.heap.size w W) (v : U64s W Z C c l1) => r16both_w (n0 := p.n0) (s0 := p.s0) (n1 := p.n1) (s1 := p.s1) (m0 := false) (t0 := s1) (k0 := l1) (m1 := true) (t1 := false) (k1 := []) (u1.below h) (u2.below h) v (U64s.nil W old) o1.1 o1.2 eq0 (by decide) (by have := kp.q0; omega) (by have := kp.q1; omega) (by omega) (by decide) (z0 := max P.1 1) (z1 := P.2) (by rw [kp.lo, show loV false s1 l1 = 1 from ev]) (by rw [kp.hi, show hiV true false [] = bigZ from rfl]; omega) hr.1 hr.2 (g := g) hok)
 simp only [List.length_nil] at C3
 have hs := bA.all
 replace hs := box6_keep hs bdr_
 obtain ⟨Hc, HR, HN⟩ := hid3 hB0.drew (bR.below bdr_) (nR.below bR.lt bdr_)
 clear u1 u2 kp r1 r2 r3 r4 hok n1 o1 ez lz eq0 ev es el hl bA bR nR hB0 hp gp hr hg
 obtain ⟨gR, hgR⟩ : ∃ gR, gR = w.heap.size + 1 := ⟨_, rfl⟩
 rw [← hgR] at HR HN
 go_enter Tryz.func74, Tryz.ntmps74
 go_upto_region 1 with fail
 simp only [show w.heap.size + 1 = gR from hgR.symm]
 obtain ⟨N1, N3⟩ := hid2 (show gR ≠ w.heap.size by omega) (show w.heap.size ≤ gR by omega)
 clear hgR
 cases g
 all_goals
  simp only [cond_true, cond_false] at C3 ⊢
  first | go_region_held3 (fun w' => C6 w' w.heap.size (.bool p.n0) (.bool p.s0) (.slice A p.l0.length a) (.bool p.n1) (.bool p.s1) (.slice B p.l1.length b))
   (first
    | with_reducible exact hs
    | with_reducible exact box6_st6 N1.out hs
    | exact box6_keep hs bal_)
   (first
    | (go_at_call 49; with_reducible refine (C1.out _).mono ?_; rintro e w2 ⟨E1, e1, rfl, x1, hc2⟩; replace hs := box6_keep hs hc2; replace HN := hid (HN.out.below HR.out.lt hc2); replace HR := hid (HR.out.below hc2); replace Hc := hid (from_ Hc.out hc2))
    | (go_at_call 82; with_reducible refine (C2.out _ _ _ _ x1).mono ?_; rintro e w3 ⟨E2, e2, rfl, x2, hc2⟩; replace hs := box6_keep hs hc2; replace HN := hid (HN.out.below HR.out.lt hc2); replace HR := hid (HR.out.below hc2); replace Hc := hid (from_ Hc.out hc2))
    | (go_at_call 47; with_reducible refine (C3.out _ _ _ _ Hc.out x2).mono ?_; rintro e w4 ⟨D1, d1, D2, d2, rfl, vv1, vv2, hc2⟩; replace hs := box6_keep hs hc2; replace HN := hid (HN.out.below HR.out.lt hc2); replace HR := hid (HR.out.below hc2); replace Hc := hid (from_ Hc.out hc2); have g0 := HR.out.cf)) | fail
 · have HP := hid (HR.out.put Hc.out N3.out (.bool false) (.bool false) (.slice none 0 0) (.bool false) (.bool false) (.slice none 0 0))
   obtain ⟨U1, U2⟩ := hid2 (vv1.set6n HN.out (.bool false) (.bool false) (.slice none 0 0) (.bool false) (.bool false) (.slice none 0 0)) (vv2.set6n HN.out (.bool false) (.bool false) (.slice none 0 0) (.bool false) (.bool false) (.slice none 0 0))
   clear vv1 vv2
   go_wp2
   refine bodyPost_ret (res_itv2 rfl _ gR rfl HP.out.box) rfl ?_
   exact ⟨_, _, _, _, rfl, U1.out, U2.out, HP.out.bel⟩
 · have HP := hid (HR.out.put Hc.out N3.out (.bool r.n0) (.bool r.s0) (.slice D1 r.l0.length d1) (.bool r.n1) (.bool r.s1) (.slice D2 r.l1.length d2))
   obtain ⟨U1, U2⟩ := hid2 (vv1.set6n HN.out (.bool r.n0) (.bool r.s0) (.slice D1 r.l0.length d1) (.bool r.n1) (.bool r.s1) (.slice D2 r.l1.length d2)) (vv2.set6n HN.out (.bool r.n0) (.bool r.s0) (.slice D1 r.l0.length d1) (.bool r.n1) (.bool r.s1) (.slice D2 r.l1.length d2))
   clear vv1 vv2
   go_wp2
   refine bodyPost_ret (res_itv2 rfl _ gR rfl HP.out.box) rfl ?_
   exact ⟨_, _, _, _, rfl, U1.out, U2.out, HP.out.bel⟩
theorem r16below_w {P : IvP} {g : Bool} (hp : IvW P p) (gp : IvN 59 P.1 P.2) (hr : IvW (P.1, min P.2 (-1)) r) (hg : decide (P.1 ≤ min P.2 (-1)) = g) (u1 : U64s w Z1 A a p.l0) (u2 : U64s w Z2 B b p.l1) :
  Calls Tryz.prog 75 #[.agg #[.bool p.n0, .bool p.s0, .slice A p.l0.length a, .bool p.n1, .bool p.s1, .slice B p.l1.length b]] w fun e w' => ∃ rA ra rB rb, e = .returned (.tuple #[bif g then .agg #[.bool r.n0, .bool r.s0, .slice rA r.l0.length ra, .bool r.n1, .bool r.s1, .slice rB r.l1.length rb] else .agg #[.bool false, .bool false, .slice none 0 0, .bool false, .bool false, .slice none 0 0], .bool g]) ∧ U64s w' old rA ra r.l0 ∧ U64s w' old rB rb r.l1 ∧ Below w.heap.size w w' := by
 have kp := hp.k gp (by omega)
 have h0 := bigZ_pos
 have r1 := gp.lo.range (by omega)
 have r2 := gp.hi.range (by omega)
 have r3 := gp.nlo
 have r4 := gp.nhi
 have hb1 := big_one
 have hok := ok_dec hr.1 hr.2 (by dsimp only; omega) (by dsimp only; omega)
 rw [hg] at hok
 obtain ⟨s1, l1, n1⟩ : ∃ s l, Nm (-1 : Int) s l := ⟨_, _, rfl, rfl⟩
 have o1 := okA_ends kp.ok
 have ez := nm_e (n := -1) (by omega)
 have lz : l1.length ≤ 1 := by rw [n1.2]; exact len_limbs_le (by decide)
 have es : s1 = sE (-1) := n1.1.trans ez.1.symm
 have el : l1 = lE (-1) := n1.2.trans ez.2.symm
 have hl := lo_e (x := -1) ⟨by omega, by omega⟩
 rw [nLo_no (by omega), ← es, ← el] at hl
 have eq0 : okE false s1 l1 = true := hl.2
 have ev : zof s1 l1 = -1 := hl.1
 obtain ⟨bA, bR, hB0⟩ := boxT w (.bool p.n0) (.bool p.s0) (.slice A p.l0.length a) (.bool p.n1) (.bool p.s1) (.slice B p.l1.length b) (.bool false) (.bool false) (.slice none 0 0) (.bool false) (.bool false) (.slice none 0 0) 29
 have nR := NoU.new6 (w.alloc (.cells #[.bool p.n0, .bool p.s0, .slice A p.l0.length a, .bool p.n1, .bool p.s1, .slice B p.l1.length b] 29)) false false false false none none 0 0 0 0 29
 rw [World.size_alloc] at nR
 obtain ⟨C1, C2, C3⟩ := hid3 (fun (W : World) => r05of_p (w := W) n1 (by omega)) (fun (W : World) (Z : Zone) (C : Option Addr) (c : Nat) (v : U64s W Z C c l1) => r16end_w n1 (by omega) v) (fun (W : World) (Z : Zone) (C : Option Addr) (c : Nat) (h : Below w.heap.size w W) (v : U64s W Z C c l1) => r16both_w (n0 := p.n0) (s0 := p.s0) (n1 := p.n1) (s1 := p.s1) (m0 := true) (t0 := false) (k0 := []) (m1 := false) (t1 := s1) (k1 := l1) (u1.below h) (u2.below h) (U64s.nil W old) v o1.1 o1.2 (by decide) eq0 (by have := kp.q0; omega) (by have := kp.q1; omega) (by decide) (by omega) (z0 := P.1) (z1 := min P.2 (-1)) (by rw [kp.lo, show loV true false [] = -bigZ from rfl]; omega) (by rw [kp.hi, show hiV false s1 l1 = -1 from ev]) hr.1 hr.2 (g := g) hok)
 simp only [List.length_nil] at C3
 have hs := bA.all
 replace hs := box6_keep hs bdr_
 obtain ⟨Hc, HR, HN⟩ := hid3 hB0.drew (bR.below bdr_) (nR.below bR.lt bdr_)
 clear u1 u2 kp r1 r2 r3 r4 hok n1 o1 ez lz eq0 ev es el hl bA bR nR hB0 hp gp hr hg
 obtain ⟨gR, hgR⟩ : ∃ gR, gR = w.heap.size + 1 := ⟨_, rfl⟩
 rw [← hgR] at HR HN
 go_enter Tryz.func75, Tryz.ntmps75
 go_upto_region 1 with fail
 simp only [show w.heap.size + 1 = gR from hgR.symm]
 obtain ⟨N1, N3⟩ := hid2 (show gR ≠ w.heap.size by omega) (show w.heap.size ≤ gR by omega)
 clear hgR
 cases g
 all_goals
  simp only [cond_true, cond_false] at C3 ⊢
  first | go_region_held3 (fun w' => C6 w' w.heap.size (.bool p.n0) (.bool p.s0) (.slice A p.l0.length a) (.bool p.n1) (.bool p.s1) (.slice B p.l1.length b))
   (first
    | with_reducible exact hs
    | with_reducible exact box6_st6 N1.out hs
    | exact box6_keep hs bal_)
   (first
    | (go_at_call 49; with_reducible refine (C1.out _).mono ?_; rintro e w2 ⟨E1, e1, rfl, x1, hc2⟩; replace hs := box6_keep hs hc2; replace HN := hid (HN.out.below HR.out.lt hc2); replace HR := hid (HR.out.below hc2); replace Hc := hid (from_ Hc.out hc2))
    | (go_at_call 82; with_reducible refine (C2.out _ _ _ _ x1).mono ?_; rintro e w3 ⟨E2, e2, rfl, x2, hc2⟩; replace hs := box6_keep hs hc2; replace HN := hid (HN.out.below HR.out.lt hc2); replace HR := hid (HR.out.below hc2); replace Hc := hid (from_ Hc.out hc2))
    | (go_at_call 47; with_reducible refine (C3.out _ _ _ _ Hc.out x2).mono ?_; rintro e w4 ⟨D1, d1, D2, d2, rfl, vv1, vv2, hc2⟩; replace hs := box6_keep hs hc2; replace HN := hid (HN.out.below HR.out.lt hc2); replace HR := hid (HR.out.below hc2); replace Hc := hid (from_ Hc.out hc2); have g0 := HR.out.cf)) | fail
 · have HP := hid (HR.out.put Hc.out N3.out (.bool false) (.bool false) (.slice none 0 0) (.bool false) (.bool false) (.slice none 0 0))
   obtain ⟨U1, U2⟩ := hid2 (vv1.set6n HN.out (.bool false) (.bool false) (.slice none 0 0) (.bool false) (.bool false) (.slice none 0 0)) (vv2.set6n HN.out (.bool false) (.bool false) (.slice none 0 0) (.bool false) (.bool false) (.slice none 0 0))
   clear vv1 vv2
   go_wp2
   refine bodyPost_ret (res_itv2 rfl _ gR rfl HP.out.box) rfl ?_
   exact ⟨_, _, _, _, rfl, U1.out, U2.out, HP.out.bel⟩
 · have HP := hid (HR.out.put Hc.out N3.out (.bool r.n0) (.bool r.s0) (.slice D1 r.l0.length d1) (.bool r.n1) (.bool r.s1) (.slice D2 r.l1.length d2))
   obtain ⟨U1, U2⟩ := hid2 (vv1.set6n HN.out (.bool r.n0) (.bool r.s0) (.slice D1 r.l0.length d1) (.bool r.n1) (.bool r.s1) (.slice D2 r.l1.length d2)) (vv2.set6n HN.out (.bool r.n0) (.bool r.s0) (.slice D1 r.l0.length d1) (.bool r.n1) (.bool r.s1) (.slice D2 r.l1.length d2))
   clear vv1 vv2
   go_wp2
   refine bodyPost_ret (res_itv2 rfl _ gR rfl HP.out.box) rfl ?_
   exact ⟨_, _, _, _, rfl, U1.out, U2.out, HP.out.bel⟩
theorem r16zero_w :
  Calls Tryz.prog 44 #[] w fun e w' => ∃ A1 c1 A2 c2, e = .returned (.agg #[.bool false, .bool false, .slice A1 0 c1, .bool false, .bool false, .slice A2 0 c2]) ∧ U64s w' old A1 c1 [] ∧ U64s w' old A2 c2 [] ∧ Below w.heap.size w w' := by
 have hB0 := (Below.refl _ w).alloc (Nat.le_refl _) (.cells #[.bool false, .bool false, .slice none 0 0, .bool false, .bool false, .slice none 0 0] 29)
 have BT := fun (W : World) => r16between_w (w := W) (x := 0) (y := 0) (s := false) (t := false) (l := []) (k := []) ⟨rfl, rfl⟩ ⟨rfl, rfl⟩ (by decide) (by decide) (U64s.nil W old) (U64s.nil W old)
 simp only [List.length_nil] at BT
 obtain ⟨HT, HR, HB⟩ := hid3 BT (Box6.new w (.bool false) (.bool false) (.slice none 0 0) (.bool false) (.bool false) (.slice none 0 0) 29) hB0
 clear hB0 BT
 go_enter Tryz.func44, Tryz.ntmps44
 go_wp2_with fail
 refine (HT.out _).mono ?_
 rintro e w1 ⟨A1, c1, A2, c2, rfl, v1, v2, hc⟩
 have hlt := HR.out.lt
 replace HR := hid (HR.out.below hc)
 replace HB := hid (from_ HB.out hc)
 obtain ⟨HP, U1, U2⟩ := hid3 (HR.out.put (w := w) HB.out (Nat.le_refl _) (.bool false) (.bool false) (.slice A1 0 c1) (.bool false) (.bool false) (.slice A2 0 c2)) ((v1.set6 (g := w.heap.size) (fun (h : _ ≤ w.heap.size) => by omega) (.bool false) (.bool false) (.slice A1 0 c1) (.bool false) (.bool false) (.slice A2 0 c2)).mono (le_old _)) ((v2.set6 (g := w.heap.size) (fun (h : _ ≤ w.heap.size) => by omega) (.bool false) (.bool false) (.slice A1 0 c1) (.bool false) (.bool false) (.slice A2 0 c2)).mono (le_old _))
 have g0 := HR.out.cf
 clear v1 v2 hc hlt
 go_wp2
 refine bodyPost_ret (res_itv rfl _ w.heap.size rfl HP.out.box) rfl ?_
 exact ⟨_, _, _, _, rfl, U1.out, U2.out, HP.out.bel⟩
def RowN (w : World) (v : Value) : Prop := ∀ g, v.ownBlock = some g → NoU w g
def noW (u : Value) : Prop := ∀ n, u ≠ .int .u64 n
theorem RowN.nil (w : World) : RowN w (.slice none 0 0) := fun g h => by cases h
theorem RowN.below {B : Nat} {e : TypeId} {z n : Nat} (h : RowN w v) (ho : w.ownsRow B e z v n xs) (hb : Below w.heap.size w w') : RowN w' v := fun g hg => (h g hg).below (ho.lt g hg).2 hb
theorem noU_of_heap {cs : Array Value} {f : Nat × Nat} (h : w.heap[g]? = some (.cells cs t f)) (hn : ∀ u ∈ cs.toList, noW u) : NoU w g := fun o n e => by
 rw [cell_of_row w g o cs t f h] at e
 have h2 := Array.getElem?_toList (xs := cs) (i := o)
 rw [e] at h2
 exact hn _ (List.mem_of_getElem? h2) n rfl
theorem NoU.heap {cs : Array Value} {f : Nat × Nat} (hN : NoU w g) (h : w.heap[g]? = some (.cells cs t f)) : ∀ u ∈ cs.toList, noW u := fun u hu n e => by
 obtain ⟨o, ho⟩ := List.getElem?_of_mem hu
 rw [Array.getElem?_toList] at ho
 refine hN o n ?_
 rw [cell_of_row w g o cs t f h, ho, e]
theorem zeroCells_mem {z : Array Value} {n : Nat} (hz : ∀ u ∈ z.toList, noW u) (h0 : 0 < z.size) : ∀ u ∈ (Builtin.zeroCells z n).toList, noW u := fun u hu => by
 unfold Builtin.zeroCells at hu
 simp only [Array.toList_map, List.mem_map, Array.toList_range, List.mem_range] at hu
 obtain ⟨i, _, rfl⟩ := hu
 have hlt : i % z.size < z.size := Nat.mod_lt _ h0
 rw [getElem!_pos z (i % z.size) hlt]
 exact hz _ (Array.getElem_mem_toList hlt)
theorem append_noU {P : Program} (w : World) (base : Nat) (t ty e : TypeId) (i : TypeInfo) (z : Value) (size bytes : Nat) (ht : P.underlying t = some (.slice e)) (hi : P.info? e = some i) (hz : i.zero = some z)
  (hsize : i.size = size) (hby : i.bytes = bytes) (hzs : z.cells.size = size) (hsz : 0 < size)
  (v : Value) (n : Nat) (xs : List Value) (hown : w.ownsRow base e size v n xs)
  (a : Addr) (c : Nat) (news : List Value) (hl : news.length = 1 * size) (hnews : ∀ j u, news[j]? = some u → w.cell? (a.add j) = some u) (h1 : ∀ u ∈ news, u.oneCell' = true)
  (h63 : n + 1 ≤ maxLen) (hbytes : (n + 1) * bytes ≤ 140737488355328)
  (hN : RowN w v) (hnw : ∀ u ∈ news, noW u) (hzw : ∀ u ∈ z.cells.toList, noW u) 
  (hr : (Builtin.append_ #[t, t] ty #[v, .slice (some a) 1 c]).run P w = .ok v' w') : RowN w' v' := by
 subst hsize
 subst hby
 have hsmall : n + 1 ≤ 9223372036854775807 := by simp only [maxLen] at h63; omega
 have hxsn : ∀ u ∈ xs, noW u := by
  rcases hown.2 with ⟨rfl, rfl⟩ | ⟨g, cap, cur, rfl, hbg, hg, hnc, hcm, hcs, htake⟩
  · have hx : xs = [] := List.eq_nil_of_length_eq_zero (by simpa using hown.1)
    subst hx
    exact fun u h => by cases h
  · intro u hu
    rw [← htake] at hu
    exact (hN g rfl).heap hg u (List.mem_of_mem_take hu)
 rcases hown.2 with ⟨rfl, rfl⟩ | ⟨g, cap, cur, rfl, hbg, hg, hnc, hcm, hcs, htake⟩
 · have hr2 := run_append_nil (P := P) w t ty e i z ht hi hz a 1 c news hl hnews (by omega) (by omega) (by have hb := hbytes; simp only [Nat.zero_add] at hb; omega)
   rw [hr] at hr2
   injection hr2 with e1 e2
   subst e1 e2
   intro k hk
   simp [Value.ownBlock] at hk
   subst hk
   refine noU_of_heap (heap_alloc_new w.drew _) ?_
   intro u hu
   rw [Array.toList_append] at hu
   rcases List.mem_append.1 hu with hu | hu
   · exact hnw u (by simpa using hu)
   · exact zeroCells_mem hzw (by omega) u hu
 · by_cases hroom : n + 1 ≤ cap
   · have hfit : n * i.size + news.length ≤ cur.size := by rw [hl, hcs, ← Nat.add_mul]; exact Nat.mul_le_mul_right _ hroom
     have hr2 := run_append_room (P := P) w t ty e i ht hi g n cap cur hg a 1 c news hl hnews h1 hroom hfit
     rw [hr] at hr2
     injection hr2 with e1 e2
     subst e1 e2
     intro k hk
     simp [Value.ownBlock] at hk
     subst hk
     refine noU_of_heap (setRow_heap w _ cur _ e _ hg) ?_
     intro u hu
     have hc := (hN _ rfl).heap hg
     rw [List.toList_toArray] at hu
     rcases List.mem_append.1 hu with hu | hu
     · rcases List.mem_append.1 hu with hu | hu
       · exact hc u (List.mem_of_mem_take hu)
       · exact hnw u hu
     · exact hc u (List.mem_of_mem_drop hu)
   · have holds : ∀ j u, xs[j]? = some u → w.cell? ((⟨g, 0, none⟩ : Addr).add j) = some u := hown.cells (g := g) rfl
     have hr2 := run_append_grow (P := P) w t ty e i z ht hi hz ⟨g, 0, none⟩ n cap xs hown.1 holds a 1 c news hl hnews (by omega) (by omega) (growslice_fits (by omega) hbytes)
     rw [hr] at hr2
     injection hr2 with e1 e2
     subst e1 e2
     intro k hk
     simp [Value.ownBlock] at hk
     subst hk
     refine noU_of_heap (heap_alloc_new w.drew _) ?_
     intro u hu
     simp only [Array.toList_append, List.mem_append] at hu
     rcases hu with (hu | hu) | hu
     · exact hxsn u hu
     · exact hnw u hu
     · exact zeroCells_mem hzw (by omega) u hu
theorem wpList_appN {P : Program} (w : World) {ops : Array Oper} {rest : List Oper} {o : Oper} {a : Act} {Q : Exit → Act → World → Prop} (hgd : o.guard = none) (s x : Operand) (t : TypeId)
  (ho : o.op = .call { callee := .builtin .append, args := #[s, x], argTypes := #[t, t] })
  (base : Nat) (e : TypeId) (i : TypeInfo) (z : Value) (size bytes : Nat) (ht : P.underlying t = some (.slice e)) (hi : P.info? e = some i) (hz : i.zero = some z) (hsize : i.size = size) (hby : i.bytes = bytes) (hzs : z.cells.size = size) (hsz : 0 < size) (hbb : bytes ≤ 1000)
  (v : Value) (n : Nat) (xs : List Value) (hs : a.eval s = v) (hown : w.ownsRow base e size v n xs)
  (g : Nat) (news : List Value) (hx : a.eval x = .slice (some ⟨g, 0, none⟩) 1 1) (hl : news.length = size) (hc : ∀ j u, news[j]? = some u → w.cell? ⟨g, j, none⟩ = some u) (h1 : ∀ u ∈ news, u.oneCell' = true)
  (hb : n + 1 ≤ 1000000000) (hbase : base ≤ w.heap.size) (hN : RowN w v) (hnw : ∀ u ∈ news, noW u) (hzw : ∀ u ∈ z.cells.toList, noW u)
  (h : ∀ v' w', w'.ownsRow base e size v' (n + 1) (xs ++ news) → w.grownBy w' v.ownBlock → Fresh w v v' → RowN w' v' → wpList P ops Q rest (a.put o.dst v') w') : wpList P ops Q (o :: rest) a w := by
 refine wpList_plain hgd fun _ hK => ?_
 have hbt : (n + 1) * bytes ≤ 140737488355328 := Nat.le_trans (Nat.mul_le_mul hb hbb) (by omega)
 have hcc : ∀ j u, news[j]? = some u → w.cell? ((⟨g, 0, none⟩ : Addr).add j) = some u := fun j u hu => by rw [Addr.add_lit, Nat.zero_add]; exact hc j u hu
 obtain ⟨v', w', hrun, r1, r2, r3⟩ := append_fresh (P := P) w base t o.type e i z size bytes ht hi hz hsize hby hzs hsz v n xs hown ⟨g, 0, none⟩ 1 1 news (by omega) hcc h1 (by simp only [maxLen]; omega) hbt hbase
 have r4 := append_noU (P := P) w base t o.type e i z size bytes ht hi hz hsize hby hzs hsz v n xs hown ⟨g, 0, none⟩ 1 news (by omega) hcc h1 (by simp only [maxLen]; omega) hbt hN hnw hzw hrun
 unfold Oper.wp
 simp [execOp, ho, resolve, invoke, builtin, hs, hx, hrun, Result.andThen]
 exact hK _ _ (h v' w' r1 r2 r3 r4)
theorem U64s.notOwn (u : U64s w Z A c l) (h : RowN w v) : U64s w (notOwn v) A c l := by
 cases hv : v.ownBlock with
 | none =>
   refine ⟨u.small, u.cap, u.max, u.nul, fun h0 => ?_⟩
   obtain ⟨b, o, e, _, _, hc⟩ := u.row h0
   exact ⟨b, o, e, (fun h => by rw [hv] at h; cases h), fun h => h.elim, hc⟩
 | some g => exact (u.offB (h g hv)).mono ⟨(fun b hb e => by rw [hv] at e; injection e with e; exact hb e.symm), fun h => h⟩
def IvsP (w : World) (v : Value) (xs : List Value) (ps : List Iv) : Prop :=
 ∀ j (hj : j < ps.length), ∃ A a B b, (xs[j * 6]? = some (.bool ps[j].n0) ∧ xs[j * 6 + 1]? = some (.bool ps[j].s0) ∧ xs[j * 6 + 2]? = some (.slice A ps[j].l0.length a) ∧ xs[j * 6 + 3]? = some (.bool ps[j].n1) ∧ xs[j * 6 + 4]? = some (.bool ps[j].s1) ∧ xs[j * 6 + 5]? = some (.slice B ps[j].l1.length b)) ∧ U64s w (notOwn v) A a ps[j].l0 ∧ U64s w (notOwn v) B b ps[j].l1
theorem IvsP.nil (w : World) (v : Value) (xs : List Value) : IvsP w v xs [] := fun j hj => absurd hj (by simp)
theorem IvsP.below {ps : List Iv} (h : IvsP w v xs ps) (hb : Below w.heap.size w w') : IvsP w' v xs ps := fun j hj => by
 obtain ⟨A, a, B, b, hc, h0, h1⟩ := h j hj
 exact ⟨A, a, B, b, hc, h0.below hb, h1.below hb⟩
theorem IvsP.snoc {ps : List Iv} (h : IvsP w v xs ps) (hl : xs.length = ps.length * 6) (hg : w.grownBy w' v.ownBlock) (hf : Fresh w v v') (hN : RowN w v) (hu : U64s w Z A a p.l0) (hv : U64s w Y B b p.l1) :
  IvsP w' v' (xs ++ [.bool p.n0, .bool p.s0, .slice A p.l0.length a, .bool p.n1, .bool p.s1, .slice B p.l1.length b]) (ps ++ [p]) := fun j hj => by
 rw [List.length_append, List.length_singleton] at hj
 by_cases hj2 : j < ps.length
 · obtain ⟨A', a', B', b', ⟨h0, h1, h2, h3, h4, h5⟩, u0, u1⟩ := h j hj2
   refine ⟨A', a', B', b', ?_, ?_, ?_⟩
   · rw [List.getElem_append_left hj2, List.getElem?_append_left (by omega), List.getElem?_append_left (by omega), List.getElem?_append_left (by omega), List.getElem?_append_left (by omega), List.getElem?_append_left (by omega), List.getElem?_append_left (by omega)]
     exact ⟨h0, h1, h2, h3, h4, h5⟩
   · rw [List.getElem_append_left hj2]; exact u0.growO hg hf
   · rw [List.getElem_append_left hj2]; exact u1.growO hg hf
 · obtain rfl : j = ps.length := by omega
   have e : (ps ++ [p])[ps.length]'(by simp) = p := by rw [List.getElem_append_right (by omega)]; simp
   refine ⟨A, a, B, b, ?_, ?_, ?_⟩
   · rw [e, List.getElem?_append_right (by omega), List.getElem?_append_right (by omega), List.getElem?_append_right (by omega), List.getElem?_append_right (by omega), List.getElem?_append_right (by omega), List.getElem?_append_right (by omega), hl, Nat.sub_self, show ps.length * 6 + 1 - ps.length * 6 = 1 by omega, show ps.length * 6 + 2 - ps.length * 6 = 2 by omega, show ps.length * 6 + 3 - ps.length * 6 = 3 by omega, show ps.length * 6 + 4 - ps.length * 6 = 4 by omega, show ps.length * 6 + 5 - ps.length * 6 = 5 by omega]
     exact ⟨rfl, rfl, rfl, rfl, rfl, rfl⟩
   · rw [e]; exact (hu.notOwn hN).growO hg hf
   · rw [e]; exact (hv.notOwn hN).growO hg hf
theorem IvsP.fin {B : Nat} {ps : List Iv} {e : TypeId} (h : IvsP w v xs ps) (hown : w.ownsRow B e 6 v ps.length xs) : ∃ A c, v = .slice A ps.length c ∧ IvsAt w old A c ps ∧ ∀ b o, A = some ⟨b, o, none⟩ → B ≤ b := by
 have hcase := hown.2
 rcases hcase with ⟨e1, h0⟩ | ⟨g, cap, cur, e1, hB, hh, hcap, hm, _⟩
 · have hq : ps = [] := List.eq_nil_of_length_eq_zero h0
   subst hq
   exact ⟨none, 0, e1, IvsAt.nil _ _, fun b o h => by cases h⟩
 · subst e1
   refine ⟨some ⟨g, 0, none⟩, cap, rfl, ⟨hcap, by simpa [maxLen] using hm, fun h0 => ⟨g, 0, rfl, (hown.lt g rfl).2, fun j hj => ?_⟩⟩, fun b o h => by injection h with h; injection h with h1 h2; omega⟩
   obtain ⟨A, a, B, b, ⟨c0, c1, c2, c3, c4, c5⟩, u0, u1⟩ := h j hj
   refine ⟨A, a, B, b, ⟨?_, ?_, ?_, ?_, ?_, ?_⟩, u0.mono (le_old _), u1.mono (le_old _)⟩
   · rw [Nat.zero_add, hown.cellAt (j * 6) (by omega)]; exact c0
   · rw [Nat.zero_add, hown.cellAt (j * 6 + 1) (by omega)]; exact c1
   · rw [Nat.zero_add, hown.cellAt (j * 6 + 2) (by omega)]; exact c2
   · rw [Nat.zero_add, hown.cellAt (j * 6 + 3) (by omega)]; exact c3
   · rw [Nat.zero_add, hown.cellAt (j * 6 + 4) (by omega)]; exact c4
   · rw [Nat.zero_add, hown.cellAt (j * 6 + 5) (by omega)]; exact c5
theorem six_noW {n0 s0 n1 s1 : Bool} {d : Nat} : ∀ u ∈ [Value.bool n0, .bool s0, .slice A a c, .bool n1, .bool s1, .slice B b d], noW u := by
 intro u hu n e
 subst e
 simp at hu
structure BX (W : World) (g : Nat) (r : Iv) (A : Option Addr) (a : Nat) (B : Option Addr) (b : Nat) : Prop where
 box : Box6 W g (.bool r.n0) (.bool r.s0) (.slice A r.l0.length a) (.bool r.n1) (.bool r.s1) (.slice B r.l1.length b)
 noU : NoU W g
 u0 : U64s W old A a r.l0
 u1 : U64s W old B b r.l1
theorem Box6.own6 {a b c : Value} (h : Box6 W g a b c d e f) (x0 x1 x2 x3 x4 x5 : Value) : Box6 ((((((W.setCell ⟨g, 0, none⟩ x0).setCell ⟨g, 1, none⟩ x1).setCell ⟨g, 2, none⟩ x2).setCell ⟨g, 3, none⟩ x3).setCell ⟨g, 4, none⟩ x4).setCell ⟨g, 5, none⟩ x5) g x0 x1 x2 x3 x4 x5 := BoxL.six ((((((((BoxL.of6 h).set 0 x0 rfl).set 1 x1 rfl).set 2 x2 rfl).set 3 x3 rfl).set 4 x4 rfl).set 5 x5 rfl))
theorem Box6.oth6 {r : Nat} {a b c : Value} (h : Box6 W g a b c d e f) (hn : r ≠ g) (x0 x1 x2 x3 x4 x5 : Value) : Box6 ((((((W.setCell ⟨r, 0, none⟩ x0).setCell ⟨r, 1, none⟩ x1).setCell ⟨r, 2, none⟩ x2).setCell ⟨r, 3, none⟩ x3).setCell ⟨r, 4, none⟩ x4).setCell ⟨r, 5, none⟩ x5) g a b c d e f := (h.oth3 r 0 1 2 hn x0 x1 x2).oth3 r 3 4 5 hn x3 x4 x5
section
variable {W W' : World} {g h : Nat} {r q : Iv} {A B C D : Option Addr} {a b c d : Nat} {Z Y : Zone}
theorem BX.below (h : BX W g r A a B b) (hb : Below W.heap.size W W') : BX W' g r A a B b := ⟨h.box.below hb, h.noU.below h.box.lt hb, h.u0.below hb, h.u1.below hb⟩
theorem BX.new {t : TypeId} (u : U64s W Z A a r.l0) (v : U64s W Y B b r.l1) : BX (W.alloc (.cells #[.bool r.n0, .bool r.s0, .slice A r.l0.length a, .bool r.n1, .bool r.s1, .slice B r.l1.length b] t)) W.heap.size r A a B b :=
 ⟨Box6.new W _ _ _ _ _ _ t, NoU.new6 W _ _ _ _ _ _ _ _ _ _ t, (u.below ((Below.refl _ W).alloc (Nat.le_refl _) _)).mono (le_old _), (v.below ((Below.refl _ W).alloc (Nat.le_refl _) _)).mono (le_old _)⟩
theorem BX.own (h : BX W g r A a B b) (u : U64s W Z C c q.l0) (v : U64s W Y D d q.l1) : BX ((((((W.setCell ⟨g, 0, none⟩ (.bool q.n0)).setCell ⟨g, 1, none⟩ (.bool q.s0)).setCell ⟨g, 2, none⟩ (.slice C q.l0.length c)).setCell ⟨g, 3, none⟩ (.bool q.n1)).setCell ⟨g, 4, none⟩ (.bool q.s1)).setCell ⟨g, 5, none⟩ (.slice D q.l1.length d)) g q C c D d :=
 ⟨h.box.own6 _ _ _ _ _ _, h.noU.own6 h.box _ _ _ _ _ _ _ _ _ _, u.set6n h.noU _ _ _ _ _ _, v.set6n h.noU _ _ _ _ _ _⟩
theorem BX.oth (H : BX W h r A a B b) (hn : g ≠ h) (N : NoU W g) (x0 x1 x2 x3 x4 x5 : Value) : BX ((((((W.setCell ⟨g, 0, none⟩ x0).setCell ⟨g, 1, none⟩ x1).setCell ⟨g, 2, none⟩ x2).setCell ⟨g, 3, none⟩ x3).setCell ⟨g, 4, none⟩ x4).setCell ⟨g, 5, none⟩ x5) h r A a B b :=
 ⟨H.box.oth6 hn _ _ _ _ _ _, H.noU.oth6 hn _ _ _ _ _ _, H.u0.set6n N _ _ _ _ _ _, H.u1.set6n N _ _ _ _ _ _⟩
end
theorem side_ok {P : IvP} (h : IvN N P.1 P.2) (hN : 1 ≤ N) (hN2 : N ≤ 60) (b : Bool) (hl : (sideP P b).1 ≤ (sideP P b).2) : IvN N (sideP P b).1 (sideP P b).2 := by
 obtain ⟨a1, a2, a3, a4, a5⟩ := h
 have h3 := big_one
 have h4 : (1 : Int) < wN N := by
  have := wN_mono hN
  have e : wN 1 = 18446744073709551616 := rfl
  omega
 have r1 := Ext.range a1 (by omega)
 have r2 := Ext.range a2 (by omega)
 unfold Ext at a1 a2
 have h5 := wN_pos N
 cases b <;> simp only [sideP, upP, dnP, cond_true, cond_false] at hl ⊢ <;> constructor <;> (try unfold Ext) <;> (try dsimp only) <;> omega
def partV (P : IvP) (b : Bool) : IvP := if (sideP P b).1 ≤ (sideP P b).2 then sideP P b else (0, 0)
theorem zero_ok : IvN N ((0, 0) : IvP).1 ((0, 0) : IvP).2 := by
 have h0 := bigZ_pos
 have h1 := wN_pos N
 constructor <;> (try unfold Ext) <;> (try dsimp only) <;> omega
theorem partV_ok {P : IvP} (h : IvN N P.1 P.2) (hN : 1 ≤ N) (hN2 : N ≤ 60) (b : Bool) : IvN N (partV P b).1 (partV P b).2 := by
 unfold partV
 split
 · exact side_ok h hN hN2 b ‹_›
 · exact zero_ok
theorem zero_iv (h : IvW (0, 0) r) : r.n0 = false ∧ r.s0 = false ∧ r.l0 = [] ∧ r.n1 = false ∧ r.s1 = false ∧ r.l1 = [] := by
 obtain ⟨⟨h0, h1, h2⟩, h3, h4, h5⟩ := h
 have hb := bigZ_pos
 refine ⟨h0.trans (decide_eq_false (by omega)), h1.trans (decide_eq_false (by omega)), h2.trans ?_, h3.trans (decide_eq_false (by omega)), h4.trans (decide_eq_false (by omega)), h5.trans ?_⟩
 · unfold lE; rw [if_pos (by omega)]; exact limbs_eq_nil.2 rfl
 · unfold lE; rw [if_pos (by omega)]; exact limbs_eq_nil.2 rfl
theorem down_part {P : IvP} : ivNg (if P.1 ≤ min P.2 (-1) then (P.1, min P.2 (-1)) else (0, 0)) = partV P true := by
 unfold partV sideP dnP
 simp only [cond_true]
 by_cases h : P.1 ≤ min P.2 (-1)
 · rw [if_pos h, if_pos (by omega)]
   exact Prod.ext (by simp only [ivNg]; omega) rfl
 · rw [if_neg h, if_neg (by omega)]; rfl
theorem prod_lo {n t r : Bool} {k : List Nat} (hN : N ≤ 32) (hx : Ext bigZ (wN N) x) (hy : Ext bigZ (wN N) y) (h1 : 0 < x ∧ x < bigZ) (h2 : 0 < y ∧ y < bigZ) (e1 : EndL x n s l) (e2 : EndL y m t k) (e3 : EndL (timesE bigZ x y) r rs rl) : ((n = true ∨ m = true) ∧ r = true ∧ rs = false ∧ rl = []) ∨ (n = false ∧ m = false ∧ r = false ∧ ∃ a b, Nm a s l ∧ Nm b t k ∧ Nm (a * b) rs rl) := by
 have h0 := bigZ_pos
 obtain ⟨rfl, rfl, rfl⟩ := e1
 obtain ⟨rfl, rfl, rfl⟩ := e2
 obtain ⟨rfl, rfl, rfl⟩ := e3
 have e : timesE bigZ x y = x * y := by unfold timesE; rw [if_neg (by omega), if_neg (by omega)]
 unfold Ext at hx hy
 have m1 := Int.mul_le_mul (show x ≤ wN N - 1 by omega) (show y ≤ wN N - 1 by omega) (by omega) (by omega)
 have m2 := Int.mul_pos h1.1 h2.1
 have m3 : (wN N - 1) * (wN N - 1) < wN N * wN N := Int.mul_lt_mul (by omega) (by omega) (by omega) (by omega)
 rw [wN_mul] at m3
 have m4 := wN_le (show N + N ≤ 64 by omega)
 rw [e]
 exact .inr ⟨decide_eq_false (by omega), decide_eq_false (by omega), decide_eq_false (by omega), x, y, nm_e (by omega), nm_e (by omega), nm_e (by omega)⟩
theorem prod_hi {n t r : Bool} {k : List Nat} (hN : N ≤ 32) (hx : Ext bigZ (wN N) x) (hy : Ext bigZ (wN N) y) (h1 : 0 < x) (h2 : 0 < y) (e1 : EndH x n s l) (e2 : EndH y m t k) (e3 : EndH (timesE bigZ x y) r rs rl) : ((n = true ∨ m = true) ∧ r = true ∧ rs = false ∧ rl = []) ∨ (n = false ∧ m = false ∧ r = false ∧ ∃ a b, Nm a s l ∧ Nm b t k ∧ Nm (a * b) rs rl) := by
 have h0 := bigZ_pos
 obtain ⟨rfl, rfl, rfl⟩ := e1
 obtain ⟨rfl, rfl, rfl⟩ := e2
 obtain ⟨rfl, rfl, rfl⟩ := e3
 by_cases h : x = bigZ ∨ y = bigZ
 · have e : timesE bigZ x y = bigZ := by unfold timesE; rw [if_neg (by omega), if_pos (by omega), if_pos ⟨fun _ => h2, fun _ => h1⟩]
   rw [e]
   refine .inl ⟨?_, decide_eq_true rfl, decide_eq_false (by omega), if_neg (by omega)⟩
   rcases h with h | h
   · exact .inl (decide_eq_true h)
   · exact .inr (decide_eq_true h)
 · have e : timesE bigZ x y = x * y := by unfold timesE; rw [if_neg (by omega), if_neg (by omega)]
   have m0 := wN_le (show N ≤ 64 by omega)
   unfold Ext at hx hy
   have m1 := Int.mul_le_mul (show x ≤ wN N - 1 by omega) (show y ≤ wN N - 1 by omega) (by omega) (by omega)
   have m2 := Int.mul_pos h1 h2
   have m3 : (wN N - 1) * (wN N - 1) < wN N * wN N := Int.mul_lt_mul (by omega) (by omega) (by omega) (by omega)
   rw [wN_mul] at m3
   have m4 := wN_le (show N + N ≤ 64 by omega)
   rw [e]
   exact .inr ⟨decide_eq_false (by omega), decide_eq_false (by omega), decide_eq_false (by omega), x, y, nm_e (by omega), nm_e (by omega), nm_e (by omega)⟩
theorem ivPr_ok {X Y : IvP} (h : IvN N X.1 X.2) (g : IvN N Y.1 Y.2) (hN : N ≤ 28) (h1 : 0 < X.1) (h2 : 0 < Y.1) : IvN (N + N) (ivPr X Y).1 (ivPr X Y).2 := by
 have h0 := bigZ_pos
 have hu := timesE_up (x := X.1) (y := Y.1) (a := X.2) (b := Y.2) h1 h2 h.le g.le (h.hi.range (by omega)).2 (g.hi.range (by omega)).2 (h.lo.up (by omega)) (g.lo.up (by omega)) (h.hi.up (by omega)) (g.hi.up (by omega))
 have hxl := h.le
 have hyl := g.le
 have hn1 := h.nlo
 have hn2 := g.nlo
 have hx1 := h.lo
 have hy1 := g.lo
 have hx2 := h.hi
 have hy2 := g.hi
 have m4 := wN_le (show N + N ≤ 64 by omega)
 have prod : ∀ a b : Int, 0 < a → 0 < b → a < wN N → b < wN N → 0 < a * b ∧ a * b < wN (N + N) := fun a b ha hb h3 h4 => by
  have m1 := Int.mul_le_mul (show a ≤ wN N - 1 by omega) (show b ≤ wN N - 1 by omega) (by omega) (by omega)
  have m3 : (wN N - 1) * (wN N - 1) < wN N * wN N := Int.mul_lt_mul (by omega) (by omega) (by omega) (by omega)
  rw [wN_mul] at m3
  exact ⟨Int.mul_pos ha hb, by omega⟩
 unfold Ext at hx1 hy1 hx2 hy2
 have l := prod X.1 Y.1 h1 h2 (by omega) (by omega)
 have el : timesE bigZ X.1 Y.1 = X.1 * Y.1 := by unfold timesE; rw [if_neg (by omega), if_neg (by omega)]
 unfold ivPr
 dsimp only at hu ⊢
 rw [el] at hu ⊢
 by_cases hh : X.2 = bigZ ∨ Y.2 = bigZ
 · have e : timesE bigZ X.2 Y.2 = bigZ := by unfold timesE; rw [if_neg (by omega), if_pos (by omega), if_pos ⟨fun _ => by omega, fun _ => by omega⟩]
   rw [e]
   exact ⟨.inr (.inr (by omega)), .inl rfl, by omega, by omega, by omega⟩
 · have e : timesE bigZ X.2 Y.2 = X.2 * Y.2 := by unfold timesE; rw [if_neg (by omega), if_neg (by omega)]
   have m := prod X.2 Y.2 (by omega) (by omega) (by omega) (by omega)
   rw [e] at hu ⊢
   exact ⟨.inr (.inr (by omega)), .inr (.inr (by omega)), hu, by omega, by omega⟩
def timesK (P Q : IvP) : Nat → List IvP
 | 0 => if (P.1 ≤ 0 ∧ 0 ≤ P.2) ∨ (Q.1 ≤ 0 ∧ 0 ≤ Q.2) then [(0, 0)] else []
 | k + 1 => timesK P Q k ++ roundP P Q k
theorem timesK_four (P Q : IvP) : timesK P Q 4 = timesL P Q := by simp only [timesK, timesL, List.append_assoc]
theorem round_ok {P : IvP} (h : IvN N P.1 P.2) (g : IvN N Q.1 Q.2) (h1 : 1 ≤ N) (hN : N ≤ 28) (k : Nat) : ∀ e ∈ roundP P Q k, IvN (N + N) e.1 e.2 := by
 unfold roundP
 split
 · rename_i hc
   have a := side_ok h h1 (by omega) _ hc.1
   have b := side_ok g h1 (by omega) _ hc.2
   have a1 : 0 < (sideP P (k % 2 == 1)).1 := by cases (k % 2 == 1) <;> simp only [sideP, upP, dnP, cond_true, cond_false] <;> omega
   have b1 : 0 < (sideP Q (k / 2 == 1)).1 := by cases (k / 2 == 1) <;> simp only [sideP, upP, dnP, cond_true, cond_false] <;> omega
   have c := ivPr_ok a b hN a1 b1
   intro e he
   rw [List.mem_singleton] at he
   subst he
   split
   · exact ivNg_ok c
   · exact c
 · intro e he; cases he
theorem timesK_ok {P : IvP} (h : IvN N P.1 P.2) (g : IvN N Q.1 Q.2) (h1 : 1 ≤ N) (hN : N ≤ 28) (k : Nat) : ∀ e ∈ timesK P Q k, IvN (N + N) e.1 e.2 := by
 induction k with
 | zero =>
   unfold timesK
   split
   · intro e he; rw [List.mem_singleton] at he; subst he; exact zero_ok
   · intro e he; cases he
 | succ k ih =>
   intro e he
   rcases List.mem_append.1 he with he | he
   · exact ih e he
   · exact round_ok h g h1 hN k e he
def hullK (L : List IvP) (k : Nat) : IvP := (L.tail.take k).foldl ivJ (L.headD (0, 0))
theorem hullK_zero {L : List IvP} (h : 0 < L.length) : hullK L 0 = L[0] := by
 cases L with
 | nil => cases h
 | cons a t => rfl
theorem hullK_succ {L : List IvP} {k : Nat} (h : k + 1 < L.length) : hullK L (k + 1) = ivJ (hullK L k) L[k + 1] := by
 unfold hullK
 rw [List.take_succ_eq_append_getElem (by rw [List.length_tail]; omega), List.foldl_append, List.getElem_tail]
 rfl
theorem hullK_all {L : List IvP} {k : Nat} (h : L.length = k + 1) : hullK L k = hullP L := by
 cases L with
 | nil => simp at h
 | cons a t =>
   unfold hullK hullP
   rw [List.tail_cons, List.headD_cons, List.take_of_length_le (by simp at h; omega)]
theorem hullK_ok {L : List IvP} (h0 : 0 < L.length) (hL : ∀ e ∈ L, IvN N e.1 e.2) : ∀ k, k < L.length → IvN N (hullK L k).1 (hullK L k).2 := by
 intro k
 induction k with
 | zero => intro hk; rw [hullK_zero h0]; exact hL _ (List.getElem_mem h0)
 | succ k ih => intro hk; rw [hullK_succ hk]; exact ivJ_ok (ih (by omega)) (hL _ (List.getElem_mem hk))
def RowAtN (w : World) (Z : Zone) (b9 o9 n : Nat) (L : List IvP) : Prop := ∀ j, j < n → ∃ (q : Iv) (F0 : Option Addr) (f0 : Nat) (F1 : Option Addr) (f1 : Nat), (w.cell? ⟨b9, o9 + j * 6, none⟩ = some (.bool q.n0) ∧ w.cell? ⟨b9, o9 + j * 6 + 1, none⟩ = some (.bool q.s0) ∧ w.cell? ⟨b9, o9 + j * 6 + 2, none⟩ = some (.slice F0 q.l0.length f0) ∧ w.cell? ⟨b9, o9 + j * 6 + 3, none⟩ = some (.bool q.n1) ∧ w.cell? ⟨b9, o9 + j * 6 + 4, none⟩ = some (.bool q.s1) ∧ w.cell? ⟨b9, o9 + j * 6 + 5, none⟩ = some (.slice F1 q.l1.length f1)) ∧ U64s w Z F0 f0 q.l0 ∧ U64s w Z F1 f1 q.l1 ∧ IvW (L.getD j (0, 0)) q
theorem RowAtN.below {n : Nat} {L : List IvP} (h : RowAtN w Z b9 o9 n L) (hb : Below w.heap.size w w') : RowAtN w' Z b9 o9 n L := fun j hj => by
 obtain ⟨q, F0, f0, F1, f1, hc, hu, hv, hq⟩ := h j hj
 exact ⟨q, F0, f0, F1, f1, six_keep hc hb, hu.below hb, hv.below hb, hq⟩
theorem RowAtN.off {n : Nat} {L : List IvP} (h : RowAtN w Z b9 o9 n L) (hn : NoU w g) : RowAtN w (zNe g) b9 o9 n L := fun j hj => by
 obtain ⟨q, F0, f0, F1, f1, hc, hu, hv, hq⟩ := h j hj
 exact ⟨q, F0, f0, F1, f1, hc, hu.offB hn, hv.offB hn, hq⟩
theorem RowAtN.just {n : Nat} {L : List IvP} (h : RowAtN w (zNe g) b9 o9 n L) (hj : Just g w w') (hb : b9 ≠ g) : RowAtN w' (zNe g) b9 o9 n L := fun j hjn => by
 obtain ⟨q, F0, f0, F1, f1, hc, hu, hv, hq⟩ := h j hjn
 exact ⟨q, F0, f0, F1, f1, six_just hj hb hc, hj.words (fun h => h rfl) hu, hj.words (fun h => h rfl) hv, hq⟩
theorem RowAtN.of {n : Nat} {L : List IvP} (h : IvsAt w Z A c (fmOf L)) (hn : L.length = n) (h0 : 0 < n) : ∃ b9 o9, A = some ⟨b9, o9, none⟩ ∧ b9 < w.heap.size ∧ RowAtN w Z b9 o9 n L := by
 obtain ⟨b9, o9, e, hlt, hcells⟩ := h.row (by rw [fmOf_len]; omega)
 refine ⟨b9, o9, e, hlt, fun j hj => ?_⟩
 obtain ⟨F0, f0, F1, f1, hc6, hu, hv⟩ := hcells j (by rw [fmOf_len]; omega)
 have e : (fmOf L)[j]'(by rw [fmOf_len]; omega) = ivOf (L.getD j (0, 0)).1 (L.getD j (0, 0)).2 := by
  have hj2 : j < L.length := by omega
  simp [fmOf, List.getD, hj2]
 rw [e] at hc6 hu hv
 exact ⟨_, F0, f0, F1, f1, hc6, hu, hv, IvW.mk _⟩
def hullJ (L : List IvP) (j : Nat) : IvP := hullK L (j - 1)
theorem hullJ_all {L : List IvP} {n : Nat} (hn : L.length = n) (h0 : 0 < n) : hullJ L n = hullP L := hullK_all (by omega)
theorem hullJ_ok {n : Nat} {L : List IvP} (hn : L.length = n) (h0 : 0 < n) (hL : ∀ e ∈ L, IvN N e.1 e.2) : ∀ j, 1 ≤ j → j ≤ n → IvN N (hullJ L j).1 (hullJ L j).2 := fun j h1 h2 => hullK_ok (by omega) hL (j - 1) (by omega)
theorem hullJ_succ {L : List IvP} {n : Nat} (hn : L.length = n) : ∀ j, 1 ≤ j → j < n → hullJ L (j + 1) = ivJ (hullJ L j) (L.getD j (0, 0)) := fun j h1 h2 => by
 have hj2 : j < L.length := by omega
 have h3 := hullK_succ (L := L) (k := j - 1) (by omega)
 have e : L.getD j (0, 0) = L[j - 1 + 1]'(by omega) := by simp [List.getD, show j - 1 + 1 = j by omega, hj2]
 rw [← e, show j - 1 + 1 = j by omega] at h3
 unfold hullJ
 rw [Nat.add_sub_cancel, h3]
theorem hullJ_one {L : List IvP} {n : Nat} (hn : L.length = n) (h0 : 0 < n) : hullJ L 1 = L.getD 0 (0, 0) := by
 have h1 : 0 < L.length := by omega
 unfold hullJ
 rw [Nat.sub_self, hullK_zero h1]
 simp [List.getD, h1]
theorem getD_ok {n : Nat} {L : List IvP} (hn : L.length = n) (hL : ∀ e ∈ L, IvN N e.1 e.2) : ∀ j, j < n → IvN N (L.getD j (0, 0)).1 (L.getD j (0, 0)).2 := fun j hj => by
 have hj2 : j < L.length := by omega
 have e : L.getD j (0, 0) = L[j] := by simp [List.getD, hj2]
 rw [e]
 exact hL _ (List.getElem_mem hj2)
theorem r16above_v {P : IvP} {g : Bool} (hp : IvW P p) (gp : IvN 59 P.1 P.2) (hr : IvW (partV P false) r) (hg : decide (max P.1 1 ≤ P.2) = g) (u1 : U64s w Z1 A a p.l0) (u2 : U64s w Z2 B b p.l1) :
  Calls Tryz.prog 74 #[.agg #[.bool p.n0, .bool p.s0, .slice A p.l0.length a, .bool p.n1, .bool p.s1, .slice B p.l1.length b]] w fun e w' => ∃ rA ra rB rb, e = .returned (.tuple #[.agg #[.bool r.n0, .bool r.s0, .slice rA r.l0.length ra, .bool r.n1, .bool r.s1, .slice rB r.l1.length rb], .bool g]) ∧ U64s w' old rA ra r.l0 ∧ U64s w' old rB rb r.l1 ∧ Below w.heap.size w w' := by
 cases g with
 | true =>
   rw [show (partV P false) = (max P.1 1, P.2) from if_pos (of_decide_eq_true hg)] at hr
   refine (r16above_w hp gp hr hg u1 u2).mono ?_
   rintro e w' ⟨rA, ra, rB, rb, rfl, h1, h2, h3⟩
   exact ⟨rA, ra, rB, rb, rfl, h1, h2, h3⟩
 | false =>
   rw [show (partV P false) = (0, 0) from if_neg (of_decide_eq_false hg)] at hr
   refine (r16above_w (r := ivOf ((max P.1 1, P.2) : IvP).1 ((max P.1 1, P.2) : IvP).2) hp gp (IvW.mk _) hg u1 u2).mono ?_
   rintro e w' ⟨rA, ra, rB, rb, rfl, h1, h2, h3⟩
   obtain ⟨e0, e1, e2, e3, e4, e5⟩ := zero_iv hr
   rw [e0, e1, e2, e3, e4, e5]
   exact ⟨none, 0, none, 0, rfl, U64s.nil _ _, U64s.nil _ _, h3⟩
theorem r16below_v {P : IvP} {g : Bool} (hp : IvW P p) (gp : IvN 59 P.1 P.2) (hr : IvW (if P.1 ≤ min P.2 (-1) then (P.1, min P.2 (-1)) else (0, 0)) r) (hg : decide (P.1 ≤ min P.2 (-1)) = g) (u1 : U64s w Z1 A a p.l0) (u2 : U64s w Z2 B b p.l1) :
  Calls Tryz.prog 75 #[.agg #[.bool p.n0, .bool p.s0, .slice A p.l0.length a, .bool p.n1, .bool p.s1, .slice B p.l1.length b]] w fun e w' => ∃ rA ra rB rb, e = .returned (.tuple #[.agg #[.bool r.n0, .bool r.s0, .slice rA r.l0.length ra, .bool r.n1, .bool r.s1, .slice rB r.l1.length rb], .bool g]) ∧ U64s w' old rA ra r.l0 ∧ U64s w' old rB rb r.l1 ∧ Below w.heap.size w w' := by
 cases g with
 | true =>
   rw [show (if P.1 ≤ min P.2 (-1) then (P.1, min P.2 (-1)) else (0, 0)) = (P.1, min P.2 (-1)) from if_pos (of_decide_eq_true hg)] at hr
   refine (r16below_w hp gp hr hg u1 u2).mono ?_
   rintro e w' ⟨rA, ra, rB, rb, rfl, h1, h2, h3⟩
   exact ⟨rA, ra, rB, rb, rfl, h1, h2, h3⟩
 | false =>
   rw [show (if P.1 ≤ min P.2 (-1) then (P.1, min P.2 (-1)) else (0, 0)) = (0, 0) from if_neg (of_decide_eq_false hg)] at hr
   refine (r16below_w (r := ivOf ((P.1, min P.2 (-1)) : IvP).1 ((P.1, min P.2 (-1)) : IvP).2) hp gp (IvW.mk _) hg u1 u2).mono ?_
   rintro e w' ⟨rA, ra, rB, rb, rfl, h1, h2, h3⟩
   obtain ⟨e0, e1, e2, e3, e4, e5⟩ := zero_iv hr
   rw [e0, e1, e2, e3, e4, e5]
   exact ⟨none, 0, none, 0, rfl, U64s.nil _ _, U64s.nil _ _, h3⟩
def HullR (W0 W2 w : World) (gO : Nat) (L : List IvP) (j : Nat) : Prop := ∃ (s : Iv) (E0 : Option Addr) (e0 : Nat) (E1 : Option Addr) (e1 : Nat), IvW (hullJ L j) s ∧ BX w gO s E0 e0 E1 e1 ∧ Just gO W2 w ∧ Below W0.heap.size W0 w
theorem r16either_v {P : IvP} {M : Nat} {d : Nat} (hp : IvW P p) (gp : IvN N P.1 P.2) (hN : N ≤ 60) (hq : IvW Q q) (gq : IvN M Q.1 Q.2) (hM : M ≤ 60) (hr : IvW (ivJ P Q) r) (u1 : U64s w Z1 A a p.l0) (u2 : U64s w Z2 B b p.l1) (u3 : U64s w Z3 C c q.l0) (u4 : U64s w Z4 D d q.l1) :
  Calls Tryz.prog 51 #[.agg #[.bool p.n0, .bool p.s0, .slice A p.l0.length a, .bool p.n1, .bool p.s1, .slice B p.l1.length b], .agg #[.bool q.n0, .bool q.s0, .slice C q.l0.length c, .bool q.n1, .bool q.s1, .slice D q.l1.length d]] w fun e w' => ∃ rA ra rB rb, e = .returned (.agg #[.bool r.n0, .bool r.s0, .slice rA r.l0.length ra, .bool r.n1, .bool r.s1, .slice rB r.l1.length rb]) ∧ U64s w' old rA ra r.l0 ∧ U64s w' old rB rb r.l1 ∧ Below w.heap.size w w' := by
 have kp := hp.k gp (by omega)
 have kq := hq.k gq (by omega)
 have o1 := okA_ends kp.ok
 have o2 := okA_ends kq.ok
 exact r16either_w u1 u2 u3 u4 o1.1 o1.2 o2.1 o2.2 (by have := kp.q0; omega) (by have := kp.q1; omega) (by have := kq.q0; omega) (by have := kq.q1; omega) (z0 := (ivJ P Q).1) (z1 := (ivJ P Q).2) (by rw [kp.lo, kq.lo]; rfl) (by rw [kp.hi, kq.hi]; rfl) hr.1 hr.2
structure BZ (W : World) (g : Nat) : Prop where
 box : Box6 W g (.bool false) (.bool false) (.slice none 0 0) (.bool false) (.bool false) (.slice none 0 0)
 noU : NoU W g
theorem BZ.new (W : World) (t : TypeId) : BZ (W.alloc (.cells #[.bool false, .bool false, .slice none 0 0, .bool false, .bool false, .slice none 0 0] t)) W.heap.size := ⟨Box6.new W _ _ _ _ _ _ t, NoU.new6 W _ _ _ _ _ _ _ _ _ _ t⟩
theorem BZ.below (h : BZ W g) (hb : Below W.heap.size W W') : BZ W' g := ⟨h.box.below hb, h.noU.below h.box.lt hb⟩
theorem BZ.own {d : Nat} (h : BZ W g) (u : U64s W Z C c q.l0) (v : U64s W Y D d q.l1) : BX ((((((W.setCell ⟨g, 0, none⟩ (.bool q.n0)).setCell ⟨g, 1, none⟩ (.bool q.s0)).setCell ⟨g, 2, none⟩ (.slice C q.l0.length c)).setCell ⟨g, 3, none⟩ (.bool q.n1)).setCell ⟨g, 4, none⟩ (.bool q.s1)).setCell ⟨g, 5, none⟩ (.slice D q.l1.length d)) g q C c D d :=
 ⟨h.box.own6 _ _ _ _ _ _, h.noU.own6 h.box _ _ _ _ _ _ _ _ _ _, u.set6n h.noU _ _ _ _ _ _, v.set6n h.noU _ _ _ _ _ _⟩
structure ResB (W0 w : World) (g : Nat) (r : Iv) (A : Option Addr) (a : Nat) (B : Option Addr) (b : Nat) : Prop where
 box : BX w g r A a B b
 lo : W0.heap.size ≤ g
 bel : Below W0.heap.size W0 w
theorem ResB.nw (Hc : Below W0.heap.size W0 w) (u : U64s w Z A a r.l0) (v : U64s w Y B b r.l1) : ResB W0 (w.alloc (.cells #[.bool r.n0, .bool r.s0, .slice A r.l0.length a, .bool r.n1, .bool r.s1, .slice B r.l1.length b] t)) w.heap.size r A a B b :=
 ⟨BX.new u v, Hc.size, from_ Hc bal_⟩
theorem ResB.ol (Hc : Below W0.heap.size W0 w) (H : BZ w g) (hg : W0.heap.size ≤ g) (u : U64s w Z A a r.l0) (v : U64s w Y B b r.l1) : ResB W0 ((((((w.setCell ⟨g, 0, none⟩ (.bool r.n0)).setCell ⟨g, 1, none⟩ (.bool r.s0)).setCell ⟨g, 2, none⟩ (.slice A r.l0.length a)).setCell ⟨g, 3, none⟩ (.bool r.n1)).setCell ⟨g, 4, none⟩ (.bool r.s1)).setCell ⟨g, 5, none⟩ (.slice B r.l1.length b)) g r A a B b :=
 ⟨H.own u v, hg, (H.box.put Hc hg _ _ _ _ _ _).bel⟩
theorem v12_al {o : Obj} (e : V = W.alloc o) (hs : (C6 W g a0 a1 a2 a3 a4 a5) ∧ C6 W h b0 b1 b2 b3 b4 b5) : (C6 V g a0 a1 a2 a3 a4 a5) ∧ C6 V h b0 b1 b2 b3 b4 b5 := by
 subst e
 exact d12_keep hs bal_
theorem v12_dr (e : V = W.drew) (hs : (C6 W g a0 a1 a2 a3 a4 a5) ∧ C6 W h b0 b1 b2 b3 b4 b5) : (C6 V g a0 a1 a2 a3 a4 a5) ∧ C6 V h b0 b1 b2 b3 b4 b5 := by
 subst e
 exact d12_keep hs bdr_
theorem v12_st6 {r : Nat} {x0 x1 x2 x3 x4 x5 : Value} (e : V = ((((((W.setCell ⟨r, 0, none⟩ x0).setCell ⟨r, 1, none⟩ x1).setCell ⟨r, 2, none⟩ x2).setCell ⟨r, 3, none⟩ x3).setCell ⟨r, 4, none⟩ x4).setCell ⟨r, 5, none⟩ x5)) (hg : r ≠ g) (hh : r ≠ h) (hs : (C6 W g a0 a1 a2 a3 a4 a5) ∧ C6 W h b0 b1 b2 b3 b4 b5) : (C6 V g a0 a1 a2 a3 a4 a5) ∧ C6 V h b0 b1 b2 b3 b4 b5 := by
 subst e
 exact d12_st6 hg hh hs
theorem down_dec {P : IvP} : decide (P.1 ≤ min P.2 (-1)) = decide ((sideP P true).1 ≤ (sideP P true).2) := by
 refine decide_eq_decide.2 ?_
 simp only [sideP, dnP, cond_true]
 omega
theorem side_pos (P : IvP) (b : Bool) : 0 < (sideP P b).1 := by cases b <;> simp only [sideP, upP, dnP, cond_true, cond_false] <;> omega
theorem fmOf_snoc (L : List IvP) (X : IvP) : fmOf (L ++ [X]) = fmOf L ++ [ivOf X.1 X.2] := by simp [fmOf]
theorem r16times_w {P : IvP} {d : Nat} (hp : IvW P p) (gp : IvN N P.1 P.2) (hq : IvW Q q) (gq : IvN N Q.1 Q.2) (h1 : 1 ≤ N) (hN : N ≤ 28) (hr : IvW (ivM P Q) r) (u1 : U64s w Z1 A a p.l0) (u2 : U64s w Z2 B b p.l1) (u3 : U64s w Z3 C c q.l0) (u4 : U64s w Z4 D d q.l1) :
  Calls Tryz.prog 34 #[.agg #[.bool p.n0, .bool p.s0, .slice A p.l0.length a, .bool p.n1, .bool p.s1, .slice B p.l1.length b], .agg #[.bool q.n0, .bool q.s0, .slice C q.l0.length c, .bool q.n1, .bool q.s1, .slice D q.l1.length d]] w fun e w' => ∃ rA ra rB rb, e = .returned (.agg #[.bool r.n0, .bool r.s0, .slice rA r.l0.length ra, .bool r.n1, .bool r.s1, .slice rB r.l1.length rb]) ∧ U64s w' old rA ra r.l0 ∧ U64s w' old rB rb r.l1 ∧ Below w.heap.size w w' := by
 have kp := hp.k gp (by omega)
 have kq := hq.k gq (by omega)
 have gp59 := gp.up (show N ≤ 59 by omega)
 have gq59 := gq.up (show N ≤ 59 by omega)
 obtain ⟨bA, bB, bR, hB0⟩ := boxX w (.bool p.n0) (.bool p.s0) (.slice A p.l0.length a) (.bool p.n1) (.bool p.s1) (.slice B p.l1.length b) (.bool q.n0) (.bool q.s0) (.slice C q.l0.length c) (.bool q.n1) (.bool q.s1) (.slice D q.l1.length d) (.bool false) (.bool false) (.slice none 0 0) (.bool false) (.bool false) (.slice none 0 0) 29
 have nR := NoU.new6 ((w.alloc (.cells #[.bool p.n0, .bool p.s0, .slice A p.l0.length a, .bool p.n1, .bool p.s1, .slice B p.l1.length b] 29)).alloc (.cells #[.bool q.n0, .bool q.s0, .slice C q.l0.length c, .bool q.n1, .bool q.s1, .slice D q.l1.length d] 29)) false false false false none none 0 0 0 0 29
 simp only [World.size_alloc] at nR
 obtain ⟨HA, HC, HR, HW0⟩ := hid4 bA bB (BZ.mk bR nR) hB0
 obtain ⟨z1, hz1⟩ : ∃ z, decide (P.1 ≤ 0 ∧ 0 ≤ P.2) = z := ⟨_, rfl⟩
 have WI1 := fun (W : World) (h : Below w.heap.size w W) => r16within_good (t := false) (k := []) (u1.below h) (u2.below h) (U64s.nil W old) (okA_ends kp.ok).1 (okA_ends kp.ok).2 (by decide) (by have := kp.q0; omega) (by have := kp.q1; omega) (by decide) (r := z1) (by rw [kp.lo, kp.hi]; exact hz1)
 simp only [List.length_nil] at WI1
 replace WI1 := hid WI1
 obtain ⟨z2, hz2⟩ : ∃ z, decide (Q.1 ≤ 0 ∧ 0 ≤ Q.2) = z := ⟨_, rfl⟩
 have WI2 := fun (W : World) (h : Below w.heap.size w W) => r16within_good (t := false) (k := []) (u3.below h) (u4.below h) (U64s.nil W old) (okA_ends kq.ok).1 (okA_ends kq.ok).2 (by decide) (by have := kq.q0; omega) (by have := kq.q1; omega) (by decide) (r := z2) (by rw [kq.lo, kq.hi]; exact hz2)
 simp only [List.length_nil] at WI2
 replace WI2 := hid WI2
 obtain ⟨zz, hzz⟩ : ∃ b, (z1 || z2) = b := ⟨_, rfl⟩
 have HZ := hid hzz
 have HZF := hid (fun hb : zz = false => (show ([] : List Iv) = fmOf (timesK P Q 0) by
  rw [hb, Bool.or_eq_false_iff] at hzz
  unfold timesK
  rw [if_neg (fun h => by rcases h with h | h; · rw [decide_eq_true h] at hz1; rw [← hz1] at hzz; cases hzz.1
                          · rw [decide_eq_true h] at hz2; rw [← hz2] at hzz; cases hzz.2)]
  rfl))
 have HZT := hid (fun hb : zz = true => (show [(⟨false, false, [], false, false, []⟩ : Iv)] = fmOf (timesK P Q 0) by
  rw [hb, Bool.or_eq_true] at hzz
  unfold timesK
  rw [if_pos (by rcases hzz with h | h; · exact .inl (of_decide_eq_true (hz1.trans h))
                 · exact .inr (of_decide_eq_true (hz2.trans h)))]
  obtain ⟨e0, e1, e2, e3, e4, e5⟩ := zero_iv (IvW.mk (0, 0))
  show [_] = [ivOf 0 0]
  rw [show ivOf 0 0 = (⟨(ivOf (0, 0).1 (0, 0).2).n0, (ivOf (0, 0).1 (0, 0).2).s0, (ivOf (0, 0).1 (0, 0).2).l0, (ivOf (0, 0).1 (0, 0).2).n1, (ivOf (0, 0).1 (0, 0).2).s1, (ivOf (0, 0).1 (0, 0).2).l1⟩ : Iv) from rfl, e0, e1, e2, e3, e4, e5]))
 obtain ⟨xu, hxu⟩ : ∃ r, IvW (partV P false) r := ⟨_, IvW.mk _⟩
 obtain ⟨xd, hxd⟩ : ∃ r, IvW (if P.1 ≤ min P.2 (-1) then (P.1, min P.2 (-1)) else (0, 0)) r := ⟨_, IvW.mk _⟩
 obtain ⟨gXu, hgXu⟩ : ∃ g, decide (max P.1 1 ≤ P.2) = g := ⟨_, rfl⟩
 obtain ⟨gXd, hgXd⟩ : ∃ g, decide (P.1 ≤ min P.2 (-1)) = g := ⟨_, rfl⟩
 obtain ⟨ABx, BLx⟩ := hid2 (fun (W : World) (h : Below w.heap.size w W) => r16above_v hp gp59 hxu hgXu (u1.below h) (u2.below h)) (fun (W : World) (h : Below w.heap.size w W) => r16below_v hp gp59 hxd hgXd (u1.below h) (u2.below h))
 have gdx : IvN 60 (if P.1 ≤ min P.2 (-1) then (P.1, min P.2 (-1)) else (0, 0) : IvP).1 (if P.1 ≤ min P.2 (-1) then (P.1, min P.2 (-1)) else (0, 0) : IvP).2 := by
  have h := ivNg_ok (partV_ok gp59 (by omega) (by omega) true)
  rw [← down_part] at h
  have e : ivNg (ivNg (if P.1 ≤ min P.2 (-1) then (P.1, min P.2 (-1)) else (0, 0) : IvP)) = (if P.1 ≤ min P.2 (-1) then (P.1, min P.2 (-1)) else (0, 0) : IvP) := Prod.ext (Int.neg_neg _) (Int.neg_neg _)
  rw [e] at h
  exact h.up (by omega)
 obtain ⟨Hxu, Hxd, HGxu, HGxd⟩ := hid4 hxu hxd hgXu hgXd
 clear hxu hgXu hgXd
 obtain ⟨yu, hyu⟩ : ∃ r, IvW (partV Q false) r := ⟨_, IvW.mk _⟩
 obtain ⟨yd, hyd⟩ : ∃ r, IvW (if Q.1 ≤ min Q.2 (-1) then (Q.1, min Q.2 (-1)) else (0, 0)) r := ⟨_, IvW.mk _⟩
 obtain ⟨gYu, hgYu⟩ : ∃ g, decide (max Q.1 1 ≤ Q.2) = g := ⟨_, rfl⟩
 obtain ⟨gYd, hgYd⟩ : ∃ g, decide (Q.1 ≤ min Q.2 (-1)) = g := ⟨_, rfl⟩
 obtain ⟨ABy, BLy⟩ := hid2 (fun (W : World) (h : Below w.heap.size w W) => r16above_v hq gq59 hyu hgYu (u3.below h) (u4.below h)) (fun (W : World) (h : Below w.heap.size w W) => r16below_v hq gq59 hyd hgYd (u3.below h) (u4.below h))
 have gdy : IvN 60 (if Q.1 ≤ min Q.2 (-1) then (Q.1, min Q.2 (-1)) else (0, 0) : IvP).1 (if Q.1 ≤ min Q.2 (-1) then (Q.1, min Q.2 (-1)) else (0, 0) : IvP).2 := by
  have h := ivNg_ok (partV_ok gq59 (by omega) (by omega) true)
  rw [← down_part] at h
  have e : ivNg (ivNg (if Q.1 ≤ min Q.2 (-1) then (Q.1, min Q.2 (-1)) else (0, 0) : IvP)) = (if Q.1 ≤ min Q.2 (-1) then (Q.1, min Q.2 (-1)) else (0, 0) : IvP) := Prod.ext (Int.neg_neg _) (Int.neg_neg _)
  rw [e] at h
  exact h.up (by omega)
 obtain ⟨Hyu, Hyd, HGyu, HGyd⟩ := hid4 hyu hyd hgYu hgYd
 clear hyu hgYu hgYd
 clear u1 u2 u3 u4 kp kq gp59 gq59 hz1 hz2 hzz hp hq
 obtain ⟨gR, hgR⟩ : ∃ g, g = w.heap.size + 2 := ⟨_, rfl⟩
 rw [← hgR] at HR
 have HgR := hid (show w.heap.size ≤ gR by omega)
 clear bA bB bR nR hB0
 go_enter Tryz.func34, Tryz.ntmps34
 go_upto_region 2 with fail
 (try simp only [show w.heap.size + 1 + 1 = w.heap.size + 2 from rfl])
 simp only [show w.heap.size + 2 = gR from hgR.symm]
 clear hgR
 generalize hW : (((w.alloc (.cells #[.bool p.n0, .bool p.s0, .slice A p.l0.length a, .bool p.n1, .bool p.s1, .slice B p.l1.length b] 29)).alloc (.cells #[.bool q.n0, .bool q.s0, .slice C q.l0.length c, .bool q.n1, .bool q.s1, .slice D q.l1.length d] 29)).alloc (.cells #[.bool false, .bool false, .slice none 0 0, .bool false, .bool false, .slice none 0 0] 29)) = W0 at *
 clear hW
 obtain ⟨y0, y1, y2, y3, y4, y5, _, _, _, _, _, _, _⟩ := id HA.out
 go_cut [21] (fun s21 wx => s21 = .bool zz ∧ Below W0.heap.size W0 wx)
 case first =>
  go_wp2_with fail
  refine (WI1.out _ HW0.out).mono ?_
  rintro e w2 ⟨rfl, hc⟩
  clear y0 y1 y2 y3 y4 y5
  cases z1 with
  | true =>
    obtain rfl : true = zz := HZ.out
    go_wp2_with fail
    go_meet
    exact ⟨rfl, hc⟩
  | false =>
    obtain rfl : z2 = zz := HZ.out
    obtain ⟨y0, y1, y2, y3, y4, y5, _, _, _, _, _, _, _⟩ := HC.out.below hc
    have Hc := hid hc
    clear hc
    go_wp2_with fail
    refine (WI2.out _ (from_ HW0.out Hc.out)).mono ?_
    rintro e w3 ⟨rfl, hc⟩
    go_wp2_with fail
    go_meet
    exact ⟨rfl, from_ Hc.out hc⟩
 case rest =>
  clear y0 y1 y2 y3 y4 y5 WI1 WI2 HZ z1 z2
  obtain ⟨rfl, hbz⟩ := hcut
  have Hbz := hid hbz
  clear hbz
  obtain ⟨WZ, hren⟩ : ∃ W, W = wc := ⟨_, rfl⟩
  subst hren
  go_upto_if 21 with fail
  go_cut [5] (fun s5 wx => ∃ (xs : List Value) (qs : List Iv), qs = fmOf (timesK P Q 0) ∧ qs.length ≤ 1 ∧ wx.ownsRow W0.heap.size 29 6 s5 qs.length xs ∧ IvsP wx s5 xs qs ∧ RowN wx s5 ∧ Below W0.heap.size W0 wx)
  case first =>
   cases zz with
   | false =>
     have Hnone := hid (HZF.out rfl)
     go_wp2_with fail
     go_meet
     exact ⟨[], [], Hnone.out, Nat.zero_le _, World.ownsRow_nil _ _ _ _, IvsP.nil _ _ _, RowN.nil _, Hbz.out⟩
   | true =>
     have hone := HZT.out rfl
     have Hone := hid hone
     clear hone
     go_wp2_with fail
     refine r16zero_w.mono ?_
     rintro e w4 ⟨A1, c1, A2, c2, rfl, o0, o1, hc⟩
     obtain ⟨Hal, Hb4⟩ := hid2 ((Below.refl w4.heap.size w4).alloc (Nat.le_refl _) (.cells #[.bool false, .bool false, .slice A1 0 c1, .bool false, .bool false, .slice A2 0 c2] 29)) (from_ Hbz.out hc)
     obtain ⟨Hbase, Hw0, Hw1⟩ := hid3 (show W0.heap.size ≤ (w4.alloc (.cells #[.bool false, .bool false, .slice A1 0 c1, .bool false, .bool false, .slice A2 0 c2] 29)).heap.size from (from_ Hb4.out Hal.out).size) (o0.below Hal.out) (o1.below Hal.out)
     obtain ⟨i0, hi, hz0, hz1, hz2⟩ := info_parts infoIv
     clear hc o0 o1
     go_wp2_with (at_builtin; go_loud (refine wpList_appN _ rfl _ _ 37 rfl W0.heap.size 29 i0 (.agg #[.bool false, .bool false, .slice none 0 0, .bool false, .bool false, .slice none 0 0]) 6 80 Tryz.underlying37 hi hz0 hz1 hz2 rfl (by omega) (by omega) (.slice none 0 0) 0 [] rfl (World.ownsRow_nil _ _ _ _) w4.heap.size [.bool false, .bool false, .slice A1 0 c1, .bool false, .bool false, .slice A2 0 c2] rfl rfl six_news (by simp [Value.oneCell']) (by omega) Hbase.out (RowN.nil _) six_noW six_noW ?_); intro v' wb hown' hgrow hfresh hnn)
     have hgB := (from_ Hb4.out Hal.out).grown hgrow (from_ Hb4.out Hal.out).size (fun b hb => by cases hb)
     obtain ⟨hiv', HO', HgB, HN'⟩ := hid4 (IvsP.snoc (p := ⟨false, false, [], false, false, []⟩) (IvsP.nil _ _ []) rfl hgrow hfresh (RowN.nil _) Hw0.out Hw1.out) hown' hgB hnn
     clear hgrow hfresh hown' hgB hnn
     go_wp2_with fail
     go_meet
     exact ⟨_, [⟨false, false, [], false, false, []⟩], Hone.out, Nat.le_refl _, HO'.out, hiv'.out, HN'.out, HgB.out⟩
  case rest =>
   clear HZF HZT Hbz zz WZ
   obtain ⟨xs0, qs0, hq0, hl0, hown0, hiv0, hnn0, hbz0⟩ := hcut
   obtain ⟨Hq0, Hl0, Ho0, Hi0, Hn0, Hb0'⟩ := hid6 hq0 hl0 hown0 hiv0 hnn0 hbz0
   clear hq0 hl0 hown0 hiv0 hnn0 hbz0
   obtain ⟨W1, hren⟩ : ∃ W, W = wc := ⟨_, rfl⟩
   subst hren
   go_wp2
   go_loopw [5, 6] (fun v i wr => ∃ (vr : Value) (k : Nat) (xs : List Value) (qs : List Iv), v = vr ∧ k ≤ 4 ∧ i = .int .i64 (k : Int) ∧ qs = fmOf (timesK P Q k) ∧ qs.length ≤ k + 1 ∧ wr.ownsRow W0.heap.size 29 6 vr qs.length xs ∧ IvsP wr vr xs qs ∧ RowN wr vr ∧ Below W0.heap.size W0 wr) (fun _ i _ => 4 - (intOf i).toNat)
   case atStart => exact ⟨_, 0, xs0, qs0, rfl, Nat.zero_le _, rfl, Hq0.out, by have := Hl0.out; omega, Ho0.out, Hi0.out, Hn0.out, Hb0'.out⟩
   case round =>
    clear Hq0 Hl0 Ho0 Hi0 Hn0 Hb0'
    obtain ⟨v, k, xs, qs, hvr, hk, rfl, hqs, hql, hown, hiv, hnn, hbel⟩ := hrel
    have hvr2 := hvr.symm
    subst hvr2
    by_cases hlt : k < 4
    · obtain ⟨bX, hbX⟩ : ∃ b, (k % 2 == 1) = b := ⟨_, rfl⟩
      obtain ⟨bY, hbY⟩ : ∃ b, (k / 2 == 1) = b := ⟨_, rfl⟩
      have tX : ((k : Int) % 2 == 1) = bX := by rw [← hbX]; obtain rfl | rfl | rfl | rfl : k = 0 ∨ k = 1 ∨ k = 2 ∨ k = 3 := (by omega) <;> rfl
      have tY : ((k : Int) / 2 == 1) = bY := by rw [← hbY]; obtain rfl | rfl | rfl | rfl : k = 0 ∨ k = 1 ∨ k = 2 ∨ k = 3 := (by omega) <;> rfl
      obtain ⟨gX, hgX⟩ : ∃ g, decide ((sideP P bX).1 ≤ (sideP P bX).2) = g := ⟨_, rfl⟩
      obtain ⟨gY, hgY⟩ : ∃ g, decide ((sideP Q bY).1 ≤ (sideP Q bY).2) = g := ⟨_, rfl⟩
      obtain ⟨rx, hrx⟩ : ∃ r, IvW (partV P bX) r := ⟨_, IvW.mk _⟩
      obtain ⟨ry, hry⟩ : ∃ r, IvW (partV Q bY) r := ⟨_, IvW.mk _⟩
      obtain ⟨OTx, OTy⟩ := hid2 (fun (hb : bX = true) (W : World) (Z1 Z2 : Zone) (A : Option Addr) (a : Nat) (B : Option Addr) (b : Nat) (u : U64s W Z1 A a xd.l0) (v : U64s W Z2 B b xd.l1) => r16other_w Hxd.out gdx (by rw [down_part, ← hb]; exact hrx) u v) (fun (hb : bY = true) (W : World) (Z1 Z2 : Zone) (A : Option Addr) (a : Nat) (B : Option Addr) (b : Nat) (u : U64s W Z1 A a yd.l0) (v : U64s W Z2 B b yd.l1) => r16other_w Hyd.out gdy (by rw [down_part, ← hb]; exact hry) u v)
      have hwr := from_ HW0.out hbel
      replace ABx := hid (fun (W : World) (h : Below wr.heap.size wr W) => ABx.out W (from_ hwr h))
      replace BLx := hid (fun (W : World) (h : Below wr.heap.size wr W) => BLx.out W (from_ hwr h))
      replace ABy := hid (fun (W : World) (h : Below wr.heap.size wr W) => ABy.out W (from_ hwr h))
      replace BLy := hid (fun (W : World) (h : Below wr.heap.size wr W) => BLy.out W (from_ hwr h))
      obtain ⟨HAr, HCr⟩ := hid2 (HA.out.below hbel) (HC.out.below hbel)
      have hi3 : (k : Int) < 4 := by omega
      have HstF := hid (fun (h : (gX && gY) = false) => (show qs = fmOf (timesK P Q (k + 1)) by
       unfold timesK roundP
       rw [hbX, hbY, if_neg (fun hc => by rw [← hgX, ← hgY, decide_eq_true hc.1, decide_eq_true hc.2] at h; cases h), List.append_nil]
       exact hqs))
      obtain ⟨HbX, HbY, HGxr, HGyr, Hxr, Hyr⟩ := hid6 hbX hbY hgX hgY hrx hry
      obtain ⟨Hqs, Hql, HO, Hiv, HN, Hbel⟩ := hid6 hqs hql hown hiv hnn hbel
      clear hbX hbY hgX hgY hrx hry hqs hql hown hiv hnn hbel hwr HR
      obtain ⟨y0, y1, y2, y3, y4, y5, _, _, _, _, _, _, _⟩ := id HAr.out
      go_wp2_with fail
      refine (ABx.out _ (Below.refl _ _)).mono ?_
      rintro e w2 ⟨V0, v0, V1, v1, rfl, o0, o1, hc⟩
      go_upto_if 37 with fail
      have BXx := hid (BX.new (t := 29) o0 o1)
      obtain ⟨gx, hgx⟩ : ∃ g, g = w2.heap.size := ⟨_, rfl⟩
      rw [← hgx] at BXx
      have Hal := hid ((Below.refl w2.heap.size w2).alloc (Nat.le_refl _) (.cells #[.bool xu.n0, .bool xu.s0, .slice V0 xu.l0.length v0, .bool xu.n1, .bool xu.s1, .slice V1 xu.l1.length v1] 29))
      obtain ⟨Hb, Hlx⟩ := hid2 (from_ hc Hal.out) (show wr.heap.size ≤ gx by rw [hgx]; exact hc.size)
      clear o0 o1 hc Hal
      generalize hV : w2.alloc (.cells #[.bool xu.n0, .bool xu.s0, .slice V0 xu.l0.length v0, .bool xu.n1, .bool xu.s1, .slice V1 xu.l1.length v1] 29) = V at *
      try simp only [← hgx]
      clear hV hgx
      go_cut [8] (fun s8 wx => ∃ (A : Option Addr) (a : Nat) (B : Option Addr) (b : Nat), s8 = .bool gX ∧ BX wx gx rx A a B b ∧ Below wr.heap.size wr wx)
      case first =>
       cases bX with
       | false =>
         obtain rfl : xu = rx := IvW.uniq Hxu.out Hxr.out
         obtain rfl : gXu = gX := HGxu.out.symm.trans HGxr.out
         go_wp2_with fail
         go_meet
         exact ⟨_, _, _, _, rfl, BXx.out, Hb.out⟩
       | true =>
         replace OTx := hid (OTx.out rfl)
         obtain rfl : gXd = gX := HGxd.out.symm.trans (down_dec.trans HGxr.out)
         obtain ⟨c0, c1, c2, c3, c4, c5, f0, f1, f2, f3, f4, f5, _⟩ := id BXx.out.box
         obtain ⟨y0, y1, y2, y3, y4, y5, _, _, _, _, _, _, _⟩ := HAr.out.below Hb.out
         go_wp2_with fail
         refine (BLx.out _ Hb.out).mono ?_
         rintro e w3 ⟨V2, v2, V3, v3, rfl, o2, o3, hc⟩
         clear c0 c1 c2 c3 c4 c5 f0 f1 f2 f3 f4 f5 y0 y1 y2 y3 y4 y5
         replace BXx := hid (BXx.out.below hc)
         replace Hb := hid (from_ Hb.out hc)
         clear hc
         obtain ⟨c0, c1, c2, c3, c4, c5, f0, f1, f2, f3, f4, f5, _⟩ := id BXx.out.box
         go_upto_region 10 with fail
         clear c0 c1 c2 c3 c4 c5 f0 f1 f2 f3 f4 f5
         replace Hb := hid (BXx.out.box.put Hb.out Hlx.out (.bool xd.n0) (.bool xd.s0) (.slice V2 xd.l0.length v2) (.bool xd.n1) (.bool xd.s1) (.slice V3 xd.l1.length v3)).bel
         replace BXx := hid (BXx.out.own (q := xd) o2 o3)
         clear o2 o3
         generalize hV : ((((((w3.setCell ⟨gx, 0, none⟩ (.bool xd.n0)).setCell ⟨gx, 1, none⟩ (.bool xd.s0)).setCell ⟨gx, 2, none⟩ (.slice V2 xd.l0.length v2)).setCell ⟨gx, 3, none⟩ (.bool xd.n1)).setCell ⟨gx, 4, none⟩ (.bool xd.s1)).setCell ⟨gx, 5, none⟩ (.slice V3 xd.l1.length v3)) = W at *
         clear hV
         obtain ⟨c0, c1, c2, c3, c4, c5, f0, f1, f2, f3, f4, f5, _⟩ := id BXx.out.box
         go_wp2_with fail
         refine (OTx.out _ _ _ _ _ _ _ BXx.out.u0 BXx.out.u1).mono ?_
         rintro e w4 ⟨V4, v4, V5, v5, rfl, o4, o5, hc⟩
         clear c0 c1 c2 c3 c4 c5 f0 f1 f2 f3 f4 f5
         replace BXx := hid (BXx.out.below hc)
         replace Hb := hid (from_ Hb.out hc)
         clear hc
         obtain ⟨c0, c1, c2, c3, c4, c5, f0, f1, f2, f3, f4, f5, _⟩ := id BXx.out.box
         have BF := hid (BXx.out.own (q := rx) o4 o5)
         have HbF := hid (BXx.out.box.put Hb.out Hlx.out (.bool rx.n0) (.bool rx.s0) (.slice V4 rx.l0.length v4) (.bool rx.n1) (.bool rx.s1) (.slice V5 rx.l1.length v5)).bel
         clear o4 o5
         go_wp2_with fail
         go_meet
         exact ⟨_, _, _, _, rfl, BF.out, HbF.out⟩
      case rest =>
       clear BXx Hb ABx BLx OTx
       obtain ⟨X0, x0, X1, x1, rfl, hbx, hbel2⟩ := hcut
       obtain ⟨BXx, Hb0⟩ := hid2 hbx hbel2
       clear hbx hbel2
       obtain ⟨WX, hren⟩ : ∃ W, W = wc := ⟨_, rfl⟩
       subst hren
       obtain ⟨y0, y1, y2, y3, y4, y5, _, _, _, _, _, _, _⟩ := HCr.out.below Hb0.out
       go_wp2_with fail
       refine (ABy.out _ Hb0.out).mono ?_
       rintro e w2 ⟨V0, v0, V1, v1, rfl, o0, o1, hc⟩
       go_upto_if 52 with fail
       have BXy := hid (BX.new (t := 29) o0 o1)
       obtain ⟨gy, hgy⟩ : ∃ g, g = w2.heap.size := ⟨_, rfl⟩
       rw [← hgy] at BXy
       have Hal := hid ((Below.refl w2.heap.size w2).alloc (Nat.le_refl _) (.cells #[.bool yu.n0, .bool yu.s0, .slice V0 yu.l0.length v0, .bool yu.n1, .bool yu.s1, .slice V1 yu.l1.length v1] 29))
       obtain ⟨Hb, Hly⟩ := hid2 (from_ (from_ Hb0.out hc) Hal.out) (show wr.heap.size ≤ gy by rw [hgy]; exact (from_ Hb0.out hc).size)
       replace BXx := hid (BXx.out.below hc)
       have Hxy := hid (show gy ≠ gx by have := BXx.out.box.lt; omega)
       replace BXx := hid (BXx.out.below Hal.out)
       clear o0 o1 hc Hal
       generalize hV : w2.alloc (.cells #[.bool yu.n0, .bool yu.s0, .slice V0 yu.l0.length v0, .bool yu.n1, .bool yu.s1, .slice V1 yu.l1.length v1] 29) = V at *
       try simp only [← hgy]
       clear hV hgy
       go_cut [10] (fun s10 wx => ∃ (A : Option Addr) (a : Nat) (B : Option Addr) (b : Nat), s10 = .bool gY ∧ BX wx gy ry A a B b ∧ BX wx gx rx X0 x0 X1 x1 ∧ Below wr.heap.size wr wx)
       case first =>
        cases bY with
        | false =>
          obtain rfl : yu = ry := IvW.uniq Hyu.out Hyr.out
          obtain rfl : gYu = gY := HGyu.out.symm.trans HGyr.out
          go_wp2_with fail
          go_meet
          exact ⟨_, _, _, _, rfl, BXy.out, BXx.out, Hb.out⟩
        | true =>
          replace OTy := hid (OTy.out rfl)
          obtain rfl : gYd = gY := HGyd.out.symm.trans (down_dec.trans HGyr.out)
          obtain ⟨c0, c1, c2, c3, c4, c5, f0, f1, f2, f3, f4, f5, _⟩ := id BXy.out.box
          obtain ⟨y0, y1, y2, y3, y4, y5, _, _, _, _, _, _, _⟩ := HCr.out.below Hb.out
          go_wp2_with fail
          refine (BLy.out _ Hb.out).mono ?_
          rintro e w3 ⟨V2, v2, V3, v3, rfl, o2, o3, hc⟩
          clear c0 c1 c2 c3 c4 c5 f0 f1 f2 f3 f4 f5 y0 y1 y2 y3 y4 y5
          replace BXy := hid (BXy.out.below hc)
          replace BXx := hid (BXx.out.below hc)
          replace Hb := hid (from_ Hb.out hc)
          clear hc
          obtain ⟨c0, c1, c2, c3, c4, c5, f0, f1, f2, f3, f4, f5, _⟩ := id BXy.out.box
          go_upto_region 14 with fail
          clear c0 c1 c2 c3 c4 c5 f0 f1 f2 f3 f4 f5
          replace Hb := hid (BXy.out.box.put Hb.out Hly.out (.bool yd.n0) (.bool yd.s0) (.slice V2 yd.l0.length v2) (.bool yd.n1) (.bool yd.s1) (.slice V3 yd.l1.length v3)).bel
          replace BXx := hid (BXx.out.oth Hxy.out BXy.out.noU (.bool yd.n0) (.bool yd.s0) (.slice V2 yd.l0.length v2) (.bool yd.n1) (.bool yd.s1) (.slice V3 yd.l1.length v3))
          replace BXy := hid (BXy.out.own (q := yd) o2 o3)
          clear o2 o3
          generalize hV : ((((((w3.setCell ⟨gy, 0, none⟩ (.bool yd.n0)).setCell ⟨gy, 1, none⟩ (.bool yd.s0)).setCell ⟨gy, 2, none⟩ (.slice V2 yd.l0.length v2)).setCell ⟨gy, 3, none⟩ (.bool yd.n1)).setCell ⟨gy, 4, none⟩ (.bool yd.s1)).setCell ⟨gy, 5, none⟩ (.slice V3 yd.l1.length v3)) = W at *
          clear hV
          obtain ⟨c0, c1, c2, c3, c4, c5, f0, f1, f2, f3, f4, f5, _⟩ := id BXy.out.box
          go_wp2_with fail
          refine (OTy.out _ _ _ _ _ _ _ BXy.out.u0 BXy.out.u1).mono ?_
          rintro e w4 ⟨V4, v4, V5, v5, rfl, o4, o5, hc⟩
          clear c0 c1 c2 c3 c4 c5 f0 f1 f2 f3 f4 f5
          replace BXy := hid (BXy.out.below hc)
          replace BXx := hid (BXx.out.below hc)
          replace Hb := hid (from_ Hb.out hc)
          clear hc
          obtain ⟨c0, c1, c2, c3, c4, c5, f0, f1, f2, f3, f4, f5, _⟩ := id BXy.out.box
          have BF := hid (BXy.out.own (q := ry) o4 o5)
          have HbF := hid (BXy.out.box.put Hb.out Hly.out (.bool ry.n0) (.bool ry.s0) (.slice V4 ry.l0.length v4) (.bool ry.n1) (.bool ry.s1) (.slice V5 ry.l1.length v5)).bel
          replace BXx := hid (BXx.out.oth Hxy.out BXy.out.noU (.bool ry.n0) (.bool ry.s0) (.slice V4 ry.l0.length v4) (.bool ry.n1) (.bool ry.s1) (.slice V5 ry.l1.length v5))
          clear o4 o5
          go_wp2_with fail
          go_meet
          exact ⟨_, _, _, _, rfl, BF.out, BXx.out, HbF.out⟩
       case rest =>
        clear BXy Hb ABy BLy OTy
        obtain ⟨Y0, y0, Y1, y1, rfl, hbx, hbo, hbel2⟩ := hcut
        have BXy := hid hbx
        replace BXx := hid hbo
        have Hb0 := hid hbel2
        clear hbx hbel2 hbo
        obtain ⟨WY, hren⟩ : ∃ W, W = wc := ⟨_, rfl⟩
        subst hren
        cases gX with
        | false =>
         go_wp2
         go_roundw
         case rel => exact ⟨_, k + 1, xs, qs, rfl, by omega, by go_num, HstF.out rfl, by have := Hql.out; omega, own_below HO.out Hb0.out, Hiv.out.below Hb0.out, HN.out.below HO.out Hb0.out, from_ Hbel.out Hb0.out⟩
         case measure => simp [intOf]; omega
        | true =>
          cases gY with
          | false =>
           go_wp2
           go_roundw
           case rel => exact ⟨_, k + 1, xs, qs, rfl, by omega, by go_num, HstF.out rfl, by have := Hql.out; omega, own_below HO.out Hb0.out, Hiv.out.below Hb0.out, HN.out.below HO.out Hb0.out, from_ Hbel.out Hb0.out⟩
           case measure => simp [intOf]; omega
          | true =>
           have hX := of_decide_eq_true HGxr.out
           have hY := of_decide_eq_true HGyr.out
           have hrx := Hxr.out
           rw [show partV P bX = sideP P bX from if_pos hX] at hrx
           have hry := Hyr.out
           rw [show partV Q bY = sideP Q bY from if_pos hY] at hry
           have gx_ := side_ok gp h1 (by omega) bX hX
           have gy_ := side_ok gq h1 (by omega) bY hY
           have px := side_pos P bX
           have py := side_pos Q bY
           obtain ⟨rp, hrp⟩ : ∃ r, IvW (ivPr (sideP P bX) (sideP Q bY)) r := ⟨_, IvW.mk _⟩
           have e1 := prod_lo (by omega) gx_.lo gy_.lo ⟨px, gx_.nlo⟩ ⟨py, gy_.nlo⟩ hrx.1 hry.1 hrp.1
           have e2 := prod_hi (by omega) gx_.hi gy_.hi (by have := gx_.le; omega) (by have := gy_.le; omega) hrx.2 hry.2 hrp.2
           have kx := hrx.k gx_ (by omega)
           have ky := hry.k gy_ (by omega)
           obtain ⟨C1, C2⟩ := hid2 (fun (W : World) (h : Below WY.heap.size WY W) => r16product_w e1 (by have := kx.q0; omega) (by have := ky.q0; omega) (BXx.out.u0.below h) (BXy.out.u0.below h)) (fun (W : World) (h : Below WY.heap.size WY W) => r16product_w e2 (by have := kx.q1; omega) (by have := ky.q1; omega) (BXx.out.u1.below h) (BXy.out.u1.below h))
           obtain ⟨bS, hbS⟩ : ∃ b, decide (k = 1 ∨ k = 2) = b := ⟨_, rfl⟩
           obtain ⟨rz, hrz⟩ : ∃ r, IvW (if k = 1 ∨ k = 2 then ivNg (ivPr (sideP P bX) (sideP Q bY)) else ivPr (sideP P bX) (sideP Q bY)) r := ⟨_, IvW.mk _⟩
           have gpr := (ivPr_ok gx_ gy_ hN px py).up (show N + N ≤ 60 by omega)
           obtain ⟨HzF, HzT, HbS⟩ := hid3 (fun hb : bS = false => (IvW.uniq hrp (by have h := hrz; rwa [if_neg (of_decide_eq_false (hbS.trans hb))] at h) : rp = rz)) (fun (hb : bS = true) (W : World) (Z1 Z2 : Zone) (A : Option Addr) (a : Nat) (B : Option Addr) (b : Nat) (u : U64s W Z1 A a rp.l0) (v : U64s W Z2 B b rp.l1) => r16other_w hrp gpr (by have h := hrz; rwa [if_pos (of_decide_eq_true (hbS.trans hb))] at h : IvW (ivNg (ivPr (sideP P bX) (sideP Q bY))) rz) u v) hbS
           have HstT := hid (show qs ++ [rz] = fmOf (timesK P Q (k + 1)) by
            have h1 := IvW.uniq hrz (IvW.mk _)
            unfold timesK roundP
            rw [HbX.out, HbY.out, if_pos ⟨hX, hY⟩, fmOf_snoc, ← Hqs.out, h1])
           clear hX hY hrx hry gx_ gy_ px py e1 e2 kx ky hrz gpr hbS hrp HGxr HGyr Hxr Hyr HbX HbY HstF
           go_upto_region 16 with fail
           have hs0 := And.intro BXx.out.box.all BXy.out.box.all
           have hs := d12_keep hs0 bdr_
           have Hc0 := hid (Below.refl WY.heap.size WY)
           have Hc := hid (Below.refl WY.heap.size WY).drew
           have hlx := BXx.out.box.lt
           have hly := BXy.out.box.lt
           go_cut [11] (fun s11 wx => ∃ (gp : Nat) (A : Option Addr) (a : Nat) (B : Option Addr) (b : Nat), s11 = .pointer (some ⟨gp, 0, none⟩) ∧ ResB WY wx gp rp A a B b)
           case first =>
            first | go_region_held3 (fun w' => (C6 w' gx (.bool rx.n0) (.bool rx.s0) (.slice X0 rx.l0.length x0) (.bool rx.n1) (.bool rx.s1) (.slice X1 rx.l1.length x1)) ∧ C6 w' gy (.bool ry.n0) (.bool ry.s0) (.slice Y0 ry.l0.length y0) (.bool ry.n1) (.bool ry.s1) (.slice Y1 ry.l1.length y1))
             ((repeat' (first | with_reducible apply v12_al rfl | with_reducible apply v12_st6 rfl)) <;> (first | with_reducible exact hs | (with_reducible apply v12_dr rfl; (repeat' (with_reducible apply v12_al rfl)); with_reducible exact hs0) | omega))
             (((first
               | (go_at_call 77; (first | (with_reducible refine (C1.out _ Hc.out).mono ?_) | (with_reducible refine (C1.out _ (from_ Hc.out bal_)).mono ?_) | (with_reducible refine (C1.out _ (from_ (from_ Hc0.out bal_) bdr_)).mono ?_)); rintro e w2 ⟨T0, t0, rfl, o0, hc2⟩)
               | (go_at_call 77; (first | (with_reducible refine (C2.out _ Hc.out).mono ?_) | (with_reducible refine (C2.out _ (from_ Hc.out bal_)).mono ?_) | (with_reducible refine (C2.out _ (from_ (from_ Hc0.out bal_) bdr_)).mono ?_)); rintro e w2 ⟨T1, t1, rfl, o1, hc2⟩)); (first | (with_reducible have hx := d12_keep hs hc2; have hb := hid (from_ Hc.out hc2); (try replace HF := hid (HF.out.below hc2)); (try replace o1 := o1.below hc2); (try replace o0 := o0.below hc2); skip) | (with_reducible have z1 := Hc.out.size; have hx := d12_keep (d12_keep hs bal_) hc2; have hb := hid (from_ (from_ Hc.out bal_) hc2); have HF := hid ((BZ.new _ 29).below hc2); (try replace o1 := (o1.below bal_).below hc2); (try replace o0 := (o0.below bal_).below hc2); skip) | (with_reducible have z1 := Hc0.out.size; have hx := d12_keep (d12_keep (d12_keep hs0 bal_) bdr_) hc2; have hb := hid (from_ (from_ (from_ Hc0.out bal_) bdr_) hc2); have HF := hid (((BZ.new _ 29).below bdr_).below hc2))); replace hs := hx; replace Hc := hb; clear hx hb; (try clear e0 e1 e2 e3 e4 e5 f0 f1 f2 f3 f4 f5); (try obtain ⟨e0, e1, e2, e3, e4, e5, f0, f1, f2, f3, f4, f5, _⟩ := id HF.out.box); clear hc2)) | fail
            all_goals
             clear hs hs0
             go_wp2_with fail
             go_meet
             (first | exact ⟨_, _, _, _, _, rfl, by with_reducible exact ResB.nw Hc.out o0 o1⟩ | exact ⟨_, _, _, _, _, rfl, by with_reducible exact ResB.ol Hc.out HF.out (by omega) o0 o1⟩)
           case rest =>
            obtain ⟨gp, G0, d0, G1, d1, rfl, hR⟩ := hcut
            clear hs hs0 Hc Hc0 hlx hly C1 C2
            obtain ⟨BXp, Hlp⟩ := hid2 hR.box (Nat.le_trans Hb0.out.size hR.lo)
            replace Hb0 := hid (from_ Hb0.out hR.bel)
            clear hR
            obtain ⟨WP, hren⟩ : ∃ W, W = wc := ⟨_, rfl⟩
            subst hren
            go_upto_region 17 with fail
            go_cut [82] (fun s82 wx => s82 = .bool bS ∧ wx = WP)
            case first =>
             have hbS := HbS.out
             obtain rfl | rfl | rfl | rfl : k = 0 ∨ k = 1 ∨ k = 2 ∨ k = 3 := by omega
             all_goals
              go_wp2_with fail
              go_meet
              exact ⟨by rw [← hbS]; rfl, rfl⟩
            case rest =>
             obtain ⟨rfl, rfl⟩ := hcut
             go_upto_if 82 with fail
             go_cut [] (fun wx => ∃ (A : Option Addr) (a : Nat) (B : Option Addr) (b : Nat), BX wx gp rz A a B b ∧ Below wr.heap.size wr wx)
             case first =>
              cases bS with
              | false =>
                obtain rfl : rp = rz := HzF.out rfl
                go_wp2_with fail
                go_meet
                exact ⟨_, _, _, _, BXp.out, Hb0.out⟩
              | true =>
                have OTz := hid (HzT.out rfl)
                obtain ⟨c0, c1, c2, c3, c4, c5, f0, f1, f2, f3, f4, f5, _⟩ := id BXp.out.box
                go_wp2_with fail
                refine (OTz.out _ _ _ _ _ _ _ BXp.out.u0 BXp.out.u1).mono ?_
                rintro e w4 ⟨V4, v4, V5, v5, rfl, o4, o5, hc⟩
                clear c0 c1 c2 c3 c4 c5 f0 f1 f2 f3 f4 f5
                replace BXp := hid (BXp.out.below hc)
                replace Hb0 := hid (from_ Hb0.out hc)
                clear hc
                obtain ⟨c0, c1, c2, c3, c4, c5, f0, f1, f2, f3, f4, f5, _⟩ := id BXp.out.box
                have BF := hid (BXp.out.own (q := rz) o4 o5)
                have HbF := hid (BXp.out.box.put Hb0.out Hlp.out (.bool rz.n0) (.bool rz.s0) (.slice V4 rz.l0.length v4) (.bool rz.n1) (.bool rz.s1) (.slice V5 rz.l1.length v5)).bel
                clear o4 o5
                go_wp2_with fail
                go_meet
                exact ⟨_, _, _, _, BF.out, HbF.out⟩
             case rest =>
              obtain ⟨G2, d2, G3, d3, hbx, hbel2⟩ := hcut
              replace BXp := hid hbx
              replace Hb0 := hid hbel2
              clear hbx hbel2 HzF HzT
              obtain ⟨WS, hren⟩ : ∃ W, W = wc := ⟨_, rfl⟩
              subst hren
              obtain ⟨c0, c1, c2, c3, c4, c5, _, _, _, _, _, _, _⟩ := id BXp.out.box
              have hla := Hql.out
              have Hal := hid ((Below.refl WS.heap.size WS).alloc (Nat.le_refl _) (.cells #[.bool rz.n0, .bool rz.s0, .slice G2 rz.l0.length d2, .bool rz.n1, .bool rz.s1, .slice G3 rz.l1.length d3] 29))
              obtain ⟨HO2, HN2, HI2, Hw0, Hw1, Hbase⟩ := hid6 (own_below HO.out (from_ Hb0.out Hal.out)) (HN.out.below HO.out (from_ Hb0.out Hal.out)) (Hiv.out.below (from_ Hb0.out Hal.out)) (BXp.out.u0.below Hal.out) (BXp.out.u1.below Hal.out) (show W0.heap.size ≤ (WS.alloc (.cells #[.bool rz.n0, .bool rz.s0, .slice G2 rz.l0.length d2, .bool rz.n1, .bool rz.s1, .slice G3 rz.l1.length d3] 29)).heap.size from (from_ (from_ Hbel.out Hb0.out) Hal.out).size)
              obtain ⟨i0, hi, hz0, hz1, hz2⟩ := info_parts infoIv
              go_wp2_with (at_builtin; go_loud (refine wpList_appN _ rfl _ _ 37 rfl W0.heap.size 29 i0 (.agg #[.bool false, .bool false, .slice none 0 0, .bool false, .bool false, .slice none 0 0]) 6 80 Tryz.underlying37 hi hz0 hz1 hz2 rfl (by omega) (by omega) _ _ _ rfl HO2.out WS.heap.size [.bool rz.n0, .bool rz.s0, .slice G2 rz.l0.length d2, .bool rz.n1, .bool rz.s1, .slice G3 rz.l1.length d3] rfl rfl six_news (by simp [Value.oneCell']) (by omega) Hbase.out HN2.out six_noW six_noW ?_); intro v' wb hown' hgrow hfresh hnn)
              have hgB := (from_ (from_ Hbel.out Hb0.out) Hal.out).grown hgrow (from_ (from_ Hbel.out Hb0.out) Hal.out).size (fun b hb => (HO.out.lt b hb).1)
              obtain ⟨hiv', HO', HgB, HN'⟩ := hid4 (IvsP.snoc (p := rz) HI2.out HO2.out.1 hgrow hfresh HN2.out Hw0.out Hw1.out) hown' hgB hnn
              clear hgrow hfresh hown' hgB hnn c0 c1 c2 c3 c4 c5 HO2 HN2 HI2 Hw0 Hw1 Hbase Hal
              go_wp2
              go_roundw
              case rel => exact ⟨_, k + 1, _, qs ++ [rz], rfl, by omega, by go_num, HstT.out, by rw [List.length_append, List.length_singleton]; omega, by rw [List.length_append, List.length_singleton]; exact HO'.out, hiv'.out, HN'.out, HgB.out⟩
              case measure => simp [intOf]; omega
    · obtain rfl : k = 4 := by omega
      obtain ⟨A9, a9, rfl, hX, hXb⟩ := hiv.fin hown
      simp only [show ((4 : Nat) : Int) = 4 from rfl]
      rw [timesK_four] at hqs
      obtain ⟨wE, hren⟩ : ∃ W, W = wr := ⟨_, rfl⟩
      subst hren
      obtain ⟨hnil, hhull⟩ := timesL_hull (gp.up (show N ≤ 32 by omega)) (gq.up (show N ≤ 32 by omega))
      have hLok : ∀ e ∈ timesL P Q, IvN 60 e.1 e.2 := fun e he => (timesK_ok gp gq h1 hN 4 e (by rw [timesK_four]; exact he)).up (by omega)
      obtain ⟨L, hL⟩ : ∃ L, timesL P Q = L := ⟨_, rfl⟩
      rw [hL] at hnil hhull hLok hqs
      obtain ⟨n, hn⟩ : ∃ n, L.length = n := ⟨_, rfl⟩
      have hn0 : 0 < n := by rw [← hn]; exact List.length_pos_iff.2 hnil
      have hqn : qs.length = n := by rw [hqs, fmOf_len]; exact hn
      have hnx : n ≤ 5 := by omega
      have hi0 : (0 : Int) < (n : Int) := by omega
      rw [hqs] at hX
      obtain ⟨b9, o9, rfl, hlt9, hrow⟩ := RowAtN.of hX hn hn0
      obtain ⟨HLok, Hhull, Hhok, Hsucc, Hone, Hb9⟩ := hid6 (getD_ok hn hLok) ((hullJ_all hn hn0).trans hhull) (hullJ_ok hn hn0 hLok) (hullJ_succ hn) (hullJ_one hn hn0) (hXb b9 o9 rfl)
      obtain ⟨Hlt9, Hbel, HROW⟩ := hid3 hlt9 hbel hrow
      rw [hqn]
      clear hown hiv hX hXb hnn hqs hL hn hhull hLok hlt9 hbel hnil hql hqn hrow HA HC 
      obtain ⟨q0, F0, f0, F1, f1, c6, o0, o1, hq0⟩ := HROW.out 0 hn0
      obtain ⟨Hq0, Ho0, Ho1⟩ := hid3 hq0 o0 o1
      simp only [Nat.zero_mul, Nat.add_zero] at c6
      obtain ⟨x0, x1, x2, x3, x4, x5⟩ := c6
      clear hq0 o0 o1
      go_upto_region 21 with fail
      have BXo := hid (BX.new (t := 29) Ho0.out Ho1.out)
      obtain ⟨gO, hgO⟩ : ∃ g, g = wE.heap.size := ⟨_, rfl⟩
      rw [← hgO] at BXo
      obtain ⟨Hal, HgO, Hne9⟩ := hid3 ((Below.refl wE.heap.size wE).alloc (Nat.le_refl _) (.cells #[.bool q0.n0, .bool q0.s0, .slice F0 q0.l0.length f0, .bool q0.n1, .bool q0.s1, .slice F1 q0.l1.length f1] 29)) (show W0.heap.size ≤ gO by rw [hgO]; exact Hbel.out.size) (show b9 ≠ gO by have := Hlt9.out; omega)
      replace HROW := hid ((HROW.out.below Hal.out).off BXo.out.noU)
      have Hb2 := hid (from_ Hbel.out Hal.out)
      clear x0 x1 x2 x3 x4 x5 Hbel Ho0 Ho1 Hal Hlt9 Hb9 hi0
      generalize hV : wE.alloc (.cells #[.bool q0.n0, .bool q0.s0, .slice F0 q0.l0.length f0, .bool q0.n1, .bool q0.s1, .slice F1 q0.l1.length f1] 29) = W2 at *
      try simp only [← hgO]
      clear hV hgO
      have HS0 := hid (show IvW (hullJ L 1) q0 by rw [Hone.out]; exact Hq0.out)
      clear Hone Hq0
      go_wp2
      go_loopw [13] (fun i wr => ∃ (j : Nat), 1 ≤ j ∧ j ≤ n ∧ i = .int .i64 (j : Int) ∧ HullR W0 W2 wr gO L j) (fun i _ => n - (intOf i).toNat)
      case atStart => exact ⟨1, Nat.le_refl _, hn0, rfl, q0, _, _, _, _, HS0.out, BXo.out, Just.refl _ _, Hb2.out⟩
      case round =>
       clear HS0 BXo Hb2
       obtain ⟨j, hj1, hjn, rfl, s, E0, e0, E1, e1, hs_, hx_, hj_, hb_⟩ := hrel
       obtain ⟨Hs, BXs, HJ, Hbel⟩ := hid4 hs_ hx_ hj_ hb_
       clear hs_ hx_ hj_ hb_
       by_cases hlt : j < n
       · obtain ⟨s2, hs2⟩ : ∃ s, IvW (hullJ L (j + 1)) s := ⟨_, IvW.mk _⟩
         obtain ⟨q, F0, f0, F1, f1, c6, o0, o1, hq⟩ := (HROW.out.just HJ.out Hne9.out) j hlt
         have gs := Hhok.out j hj1 hjn
         have gq_ := HLok.out j hlt
         obtain ⟨EI, Hs2⟩ := hid2 (r16either_v (w := wr.drew) Hs.out gs (by omega) hq gq_ (by omega) (by rw [← Hsucc.out j hj1 hlt]; exact hs2) (BXs.out.u0.below bdr_) (BXs.out.u1.below bdr_) (o0.below bdr_) (o1.below bdr_)) hs2
         have hi3 : (j : Int) < (n : Int) := by omega
         have hi4 : (0 : Int) ≤ (j : Int) := by omega
         obtain ⟨x0, x1, x2, x3, x4, x5⟩ := c6
         obtain ⟨c0, c1, c2, c3, c4, c5, _, _, _, _, _, _, _⟩ := id BXs.out.box
         clear hs2 o0 o1 hq gs gq_
         go_upto_region 24 with fail
         go_still_tail 5, (by kernel_rfl)
         change wpList _ _ _ _ _ wr.drew
         clear c0 c1 c2 c3 c4 c5 x0 x1 x2 x3 x4 x5
         go_wp2_with fail
         refine EI.out.mono ?_
         rintro e w5 ⟨V0, v0, V1, v1, rfl, o2, o3, hc⟩
         obtain ⟨BX2, HJ2, Hb2⟩ := hid3 ((BXs.out.below bdr_).below hc) (HJ.out.drew.step hc) (from_ Hbel.out.drew hc)
         clear hc EI
         obtain ⟨c0, c1, c2, c3, c4, c5, f0, f1, f2, f3, f4, f5, _⟩ := id BX2.out.box
         obtain ⟨BX3, HJ3⟩ := hid2 (BX2.out.own (q := s2) o2 o3) (((((((HJ2.out.setCell 0 (.bool s2.n0)).setCell 1 (.bool s2.s0)).setCell 2 (.slice V0 s2.l0.length v0)).setCell 3 (.bool s2.n1)).setCell 4 (.bool s2.s1)).setCell 5 (.slice V1 s2.l1.length v1)))
         have Hb3 := hid (BX2.out.box.put Hb2.out HgO.out (.bool s2.n0) (.bool s2.s0) (.slice V0 s2.l0.length v0) (.bool s2.n1) (.bool s2.s1) (.slice V1 s2.l1.length v1)).bel
         clear o2 o3
         go_wp2
         go_roundw
         case rel => exact ⟨j + 1, by omega, by omega, by go_num, s2, _, _, _, _, Hs2.out, BX3.out, HJ3.out, Hb3.out⟩
         case measure => simp [intOf]; omega
       · obtain rfl : j = n := by omega
         have hs := Hs.out
         rw [Hhull.out] at hs
         obtain rfl : r = s := IvW.uniq hr hs
         have HRr := hid (HR.out.below Hbel.out)
         have HF := hid (HRr.out.own (q := r) BXs.out.u0 BXs.out.u1)
         have HP := hid (HRr.out.box.put (w := w) (from_ HW0.out Hbel.out) HgR.out (.bool r.n0) (.bool r.s0) (.slice E0 r.l0.length e0) (.bool r.n1) (.bool r.s1) (.slice E1 r.l1.length e1)).bel
         obtain ⟨c0, c1, c2, c3, c4, c5, _, _, _, _, _, _, _⟩ := id BXs.out.box
         have d0 := HRr.out.box.cf
         have n1 : ¬ gR = gO := by have := HgO.out; have := HR.out.box.lt; omega
         have n2 : ¬ gO = gR := by omega
         clear hs hr HROW HLok Hhull Hhok Hsucc Hs HJ Hbel HRr BXs HR HW0 HgR HgO Hne9 hjn hj1 hlt hk gp gq h1 hN hnx
         go_upto_region 25 with fail
         go_cut [] (fun wx => BX wx gR r E0 e0 E1 e1 ∧ Below w.heap.size w wx)
         case first =>
          go_wp2_with fail
          go_meet
          exact ⟨HF.out, HP.out⟩
         case rest =>
          obtain ⟨hF, hP⟩ := hcut
          obtain ⟨HF2, HP2⟩ := hid2 hF hP
          clear hF hP HF HP c0 c1 c2 c3 c4 c5 d0
          refine (‹∀ (a : Act) (w : World), Code.wp Tryz.prog Code.ret _ a w → _›) _ _ ?_
          refine wp_ret ?_
          change bodyPost _ _ _ _ _ _
          refine bodyPost_ret (res_itv rfl _ gR rfl HF2.out.box) rfl ?_
          exact ⟨_, _, _, _, rfl, HF2.out.u0, HF2.out.u1, HP2.out⟩
structure BM (W : World) (g : Nat) (s : Bool) (l : List Nat) (A : Option Addr) (a : Nat) : Prop where
 box : Box W g (.bool s) (.slice A l.length a)
 noU : NoU W g
 u : U64s W old A a l
theorem NoU.newM (w : World) (s : Bool) (A : Option Addr) (a c : Nat) (t : TypeId) : NoU (w.alloc (.cells #[.bool s, .slice A a c] t)) w.heap.size := noU_of_heap (heap_alloc_new w _) (by
 intro u hu n e
 subst e
 simp at hu)
section
variable {W W' : World} {g h : Nat} {r q : Iv} {s t : Bool} {l k : List Nat} {A B C D : Option Addr} {a b c d : Nat} {Z Y : Zone} {x0 x1 x2 x3 x4 x5 : Value}
theorem BM.below (H : BM W g s l A a) (hb : Below W.heap.size W W') : BM W' g s l A a := ⟨H.box.below hb, H.noU.below H.box.lt hb, H.u.below hb⟩
theorem BM.new {ty : TypeId} (u : U64s W Z A a l) : BM (W.alloc (.cells #[.bool s, .slice A l.length a] ty)) W.heap.size s l A a := ⟨Box.new W _ _ ty, NoU.newM W _ _ _ _ ty, (u.below ((Below.refl _ W).alloc (Nat.le_refl _) _)).mono (le_old _)⟩
theorem U64s.set2n (u : U64s W Z A c l) (H : NoU W g) (x y : Value) : U64s ((W.setCell ⟨g, 0, none⟩ x).setCell ⟨g, 1, none⟩ y) old A c l := (((u.offB H).set1 g 0 (fun h => h rfl) x).set1 g 1 (fun h => h rfl) y).mono (le_old _)
theorem NoU.oth2 (u : NoU W h) (hn : g ≠ h) (x y : Value) : NoU ((W.setCell ⟨g, 0, none⟩ x).setCell ⟨g, 1, none⟩ y) h := fun o n e => by
 rw [World.cell?_setCell_other _ _ _ _ (fun h => hn (by injection h)), World.cell?_setCell_other _ _ _ _ (fun h => hn (by injection h))] at e
 exact u o n e
theorem BM.own (H : BM W g s l A a) (u : U64s W Z B b k) : BM ((W.setCell ⟨g, 0, none⟩ (.bool t)).setCell ⟨g, 1, none⟩ (.slice B k.length b)) g t k B b :=
 ⟨H.box.own2 _ _, (H.noU.one H.box.c0 (fun n e => by cases e)).one (by rw [World.cell?_setCell_other _ _ _ _ (fun e => by injection e with _ e; cases e)]; exact H.box.c1) (fun n e => by cases e), u.set2n H.noU _ _⟩
theorem BX.oth2 (H : BX W h r A a B b) (hn : g ≠ h) (N : NoU W g) (x y : Value) : BX ((W.setCell ⟨g, 0, none⟩ x).setCell ⟨g, 1, none⟩ y) h r A a B b := ⟨H.box.st2 hn _ _, H.noU.oth2 hn _ _, H.u0.set2n N _ _, H.u1.set2n N _ _⟩
theorem BZ.oth2 (H : BZ W h) (hn : g ≠ h) (x y : Value) : BZ ((W.setCell ⟨g, 0, none⟩ x).setCell ⟨g, 1, none⟩ y) h := ⟨H.box.st2 hn _ _, H.noU.oth2 hn _ _⟩
theorem BZ.oth6 (H : BZ W h) (hn : g ≠ h) (y0 y1 y2 y3 y4 y5 : Value) : BZ ((((((W.setCell ⟨g, 0, none⟩ y0).setCell ⟨g, 1, none⟩ y1).setCell ⟨g, 2, none⟩ y2).setCell ⟨g, 3, none⟩ y3).setCell ⟨g, 4, none⟩ y4).setCell ⟨g, 5, none⟩ y5) h := ⟨H.box.oth6 hn _ _ _ _ _ _, H.noU.oth6 hn _ _ _ _ _ _⟩
end
end Go.Proofs.YthpngihjcphigaaGreat
