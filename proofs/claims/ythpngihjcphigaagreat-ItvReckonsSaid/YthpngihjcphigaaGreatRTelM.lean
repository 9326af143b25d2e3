/- Intervals, the document's: quotients. No conditions but bounds on lengths. -/
import Derived.Test.YthpngihjcphigaaGreatRTelJ
set_option linter.unusedVariables false
set_option linter.unusedSimpArgs false
set_option maxRecDepth 100000
set_option maxHeartbeats 40000000
namespace Go.Proofs.YthpngihjcphigaaGreat
open Go.Lib (hid)
open Go.RowKit
variable {A B C D : Option Addr} {N a b c d g h : Nat} {P Q : IvP} {V W w : World} {Z1 Z2 Z3 Z4 : Zone} {a0 a1 a2 a3 a4 a5 b0 b1 x0 x1 x2 x3 x4 x5 : Value} {l rl : List Nat} {m n rs s t : Bool} {p q r : Iv} {x y : Int}
def partS (P : IvP) (b : Bool) : IvP := if (sdP P b).1 ≤ (sdP P b).2 then sdP P b else (0, 0)
theorem sd_ok (h : IvN N P.1 P.2) (hN2 : N ≤ 60) (b : Bool) (hl : (sdP P b).1 ≤ (sdP P b).2) : IvN N (sdP P b).1 (sdP P b).2 := by
 obtain ⟨a1, a2, a3, a4, a5⟩ := h
 have h3 := bigZ_pos
 have h4 := wN_pos N
 have r1 := Ext.range a1 (by omega)
 have r2 := Ext.range a2 (by omega)
 unfold Ext at a1 a2
 cases b <;> simp only [sdP, cond_true, cond_false] at hl ⊢ <;> constructor <;> (try unfold Ext) <;> (try dsimp only) <;> omega
theorem sd_pos (P : IvP) (b : Bool) : 0 ≤ (sdP P b).1 := by cases b <;> simp only [sdP, cond_true, cond_false] <;> omega
theorem half_ok (h : IvN N P.1 P.2) (g : IvN N Q.1 Q.2) : IvN N (if max P.1 Q.1 ≤ min P.2 Q.2 then (max P.1 Q.1, min P.2 Q.2) else (0, 0) : IvP).1 (if max P.1 Q.1 ≤ min P.2 Q.2 then (max P.1 Q.1, min P.2 Q.2) else (0, 0) : IvP).2 := by
 split
 · rename_i hl
   have a := h.nlo
   have b := h.nhi
   have c := g.nlo
   have d := g.nhi
   exact ⟨ext_max h.lo g.lo, ext_min h.hi g.hi, hl, by dsimp only; omega, by dsimp only; omega⟩
 · exact zero_ok
def onZ : Iv := ⟨false, false, [], true, false, []⟩
def toZ : Iv := ⟨true, false, [], false, false, []⟩
theorem limbs_z : limbs (0 : Int).natAbs = [] := limbs_eq_nil.2 rfl
theorem onZ_w : IvW (0, bigZ) onZ := by
 have h0 := bigZ_pos
 refine ⟨⟨?_, ?_, ?_⟩, ?_, ?_, ?_⟩
 · exact (decide_eq_false (p := (0 : Int) = -bigZ) (by omega)).symm
 · exact (decide_eq_false (p := -bigZ < (0 : Int) ∧ (0 : Int) < 0) (by omega)).symm
 · exact ((if_pos (c := -bigZ < (0 : Int) ∧ (0 : Int) < bigZ) (by omega)).trans limbs_z).symm
 · exact (decide_eq_true (p := bigZ = bigZ) rfl).symm
 · exact (decide_eq_false (p := -bigZ < bigZ ∧ bigZ < 0) (by omega)).symm
 · exact (if_neg (c := -bigZ < bigZ ∧ bigZ < bigZ) (t := limbs bigZ.natAbs) (by omega)).symm
theorem toZ_w : IvW (-bigZ, 0) toZ := by
 have h0 := bigZ_pos
 refine ⟨⟨?_, ?_, ?_⟩, ?_, ?_, ?_⟩
 · exact (decide_eq_true (p := -bigZ = -bigZ) rfl).symm
 · exact (decide_eq_false (p := -bigZ < -bigZ ∧ -bigZ < 0) (by omega)).symm
 · exact (if_neg (c := -bigZ < -bigZ ∧ -bigZ < bigZ) (t := limbs (-bigZ).natAbs) (by omega)).symm
 · exact (decide_eq_false (p := (0 : Int) = bigZ) (by omega)).symm
 · exact (decide_eq_false (p := -bigZ < (0 : Int) ∧ (0 : Int) < 0) (by omega)).symm
 · exact ((if_pos (c := -bigZ < (0 : Int) ∧ (0 : Int) < bigZ) (by omega)).trans limbs_z).symm
theorem onZ_ok : IvN N ((0, bigZ) : IvP).1 ((0, bigZ) : IvP).2 := by
 have h0 := bigZ_pos
 have h1 := wN_pos N
 exact ⟨.inr (.inr (by omega)), .inl rfl, by dsimp only; omega, by dsimp only; omega, by dsimp only; omega⟩
theorem toZ_ok : IvN N ((-bigZ, 0) : IvP).1 ((-bigZ, 0) : IvP).2 := by
 have h0 := bigZ_pos
 have h1 := wN_pos N
 exact ⟨.inr (.inl rfl), .inr (.inr (by omega)), by dsimp only; omega, by dsimp only; omega, by dsimp only; omega⟩
theorem up_half (h : P.2 ≤ bigZ) : (if max P.1 0 ≤ min P.2 bigZ then (max P.1 0, min P.2 bigZ) else (0, 0) : IvP) = partS P false := by
 have e : min P.2 bigZ = P.2 := by omega
 rw [e]
 rfl
theorem up_hdec (h : P.2 ≤ bigZ) : decide (max P.1 0 ≤ min P.2 bigZ) = decide ((sdP P false).1 ≤ (sdP P false).2) := by
 have e : min P.2 bigZ = P.2 := by omega
 rw [e]
 rfl
theorem dn_half (h : -bigZ ≤ P.1) : ivNg (if max P.1 (-bigZ) ≤ min P.2 0 then (max P.1 (-bigZ), min P.2 0) else (0, 0) : IvP) = partS P true := by
 have e : max P.1 (-bigZ) = P.1 := by omega
 rw [e]
 unfold partS sdP
 simp only [cond_true]
 by_cases h : P.1 ≤ min P.2 0
 · rw [if_pos h, if_pos (by omega)]
   exact Prod.ext (by simp only [ivNg]; omega) rfl
 · rw [if_neg h, if_neg (by omega)]; rfl
theorem dn_hdec (h : -bigZ ≤ P.1) : decide (max P.1 (-bigZ) ≤ min P.2 0) = decide ((sdP P true).1 ≤ (sdP P true).2) := by
 refine decide_eq_decide.2 ?_
 simp only [sdP, cond_true]
 omega
theorem quo_lo {r : Bool} {k : List Nat} (hN : N ≤ 60) (hx : Ext bigZ (wN N) x) (hy : Ext bigZ (wN N) y) (h1 : 0 ≤ x ∧ x < bigZ) (h2 : 0 < y) (e1 : EndL x n s l) (e2 : EndH y m t k) (e3 : EndL (overE bigZ x y) r rs rl) : (m = true ∧ r = false ∧ rs = false ∧ rl = []) ∨ (m = false ∧ n = true ∧ r = true ∧ rs = s ∧ rl = l) ∨ (m = false ∧ n = false ∧ r = false ∧ ∃ x y, Nm x s l ∧ Nm y t k ∧ y ≠ 0 ∧ Nm (rq x y true) rs rl) := by
 have h0 := bigZ_pos
 have ho := ext_over (y := y) hx
 have hle := wN_le (show N ≤ 64 by omega)
 obtain ⟨rfl, rfl, rfl⟩ := e1
 obtain ⟨rfl, rfl, rfl⟩ := e2
 obtain ⟨rfl, rfl, rfl⟩ := e3
 by_cases hb : y = bigZ
 · have e : overE bigZ x y = 0 := by unfold overE; rw [if_pos (.inl hb)]
   rw [e]
   refine .inl ⟨decide_eq_true hb, decide_eq_false (by omega), decide_eq_false (by omega), ?_⟩
   unfold lE
   rw [if_pos (by omega), limbs_z]
 · unfold Ext at hx hy
   have e : overE bigZ x y = Int.tdiv x y := by unfold overE; rw [if_neg (by omega), if_neg (by omega)]
   have hd := Int.tdiv_nonneg h1.1 (show 0 ≤ y by omega)
   rw [e] at ho ⊢
   unfold Ext at ho
   have hd2 : Int.tdiv x y ≤ x := Int.tdiv_le_self _ h1.1
   have eq : rq x y true = Int.tdiv x y := by rw [rq_down h2, Int.fdiv_eq_ediv_of_nonneg _ (by omega), Int.tdiv_eq_ediv_of_nonneg h1.1]
   exact .inr (.inr ⟨decide_eq_false (by omega), decide_eq_false (by omega), decide_eq_false (by omega), x, y, nm_e (by omega), nm_e (by omega), by omega, by rw [eq]; exact nm_e (by omega)⟩)
theorem quo_hi {r : Bool} {k : List Nat} (hN : N ≤ 60) (hx : Ext bigZ (wN N) x) (hy : Ext bigZ (wN N) y) (h1 : 0 ≤ x) (h2 : 0 < y ∧ y < bigZ) (e1 : EndH x n s l) (e2 : EndL y m t k) (e3 : EndH (overE bigZ x y) r rs rl) : (m = true ∧ r = false ∧ rs = false ∧ rl = []) ∨ (m = false ∧ n = true ∧ r = true ∧ rs = s ∧ rl = l) ∨ (m = false ∧ n = false ∧ r = false ∧ ∃ x y, Nm x s l ∧ Nm y t k ∧ y ≠ 0 ∧ Nm (rq x y true) rs rl) := by
 have h0 := bigZ_pos
 have ho := ext_over (y := y) hx
 have hle := wN_le (show N ≤ 64 by omega)
 obtain ⟨rfl, rfl, rfl⟩ := e1
 obtain ⟨rfl, rfl, rfl⟩ := e2
 obtain ⟨rfl, rfl, rfl⟩ := e3
 by_cases hb : x = bigZ
 · have e : overE bigZ x y = x := by unfold overE; rw [if_neg (by omega), if_pos (.inl hb), if_pos ⟨fun _ => by omega, fun _ => by omega⟩, hb]
   rw [e]
   exact .inr (.inl ⟨decide_eq_false (by omega), decide_eq_true hb, decide_eq_true hb, rfl, rfl⟩)
 · unfold Ext at hx hy
   have e : overE bigZ x y = Int.tdiv x y := by unfold overE; rw [if_neg (by omega), if_neg (by omega)]
   have hd := Int.tdiv_nonneg h1 (show 0 ≤ y by omega)
   rw [e] at ho ⊢
   unfold Ext at ho
   have hd2 : Int.tdiv x y ≤ x := Int.tdiv_le_self _ h1
   have eq : rq x y true = Int.tdiv x y := by rw [rq_down h2.1, Int.fdiv_eq_ediv_of_nonneg _ (by omega), Int.tdiv_eq_ediv_of_nonneg h1]
   exact .inr (.inr ⟨decide_eq_false (by omega), decide_eq_false (by omega), decide_eq_false (by omega), x, y, nm_e (by omega), nm_e (by omega), by omega, by rw [eq]; exact nm_e (by omega)⟩)
theorem ovPr_ok {X Y : IvP} (h : IvN N X.1 X.2) (g : IvN N Y.1 Y.2) (hN : N ≤ 32) (h1 : 0 ≤ X.1) (h2 : 0 < Y.1) : IvN N (ovPr X Y).1 (ovPr X Y).2 := by
 have h0 := bigZ_pos
 have hxl := h.le
 have hyl := g.le
 have hn1 := h.nlo
 have hn2 := g.nlo
 have hu := overE_up (x := X.1) (a := X.2) (b := Y.1) (y := Y.2) h1 h2 hxl hyl (h.lo.up (by omega)) (h.hi.up (by omega)) (g.lo.up (by omega)) (g.hi.up (by omega))
 have hlo := ext_over (y := Y.2) h.lo
 have hhi := ext_over (y := Y.1) h.hi
 have hx1 := h.lo
 have hle := wN_le (show N ≤ 64 by omega)
 have hl0 : 0 ≤ overE bigZ X.1 Y.2 ∧ overE bigZ X.1 Y.2 < bigZ := by
  unfold overE
  split
  · omega
  · rw [if_neg (by omega)]
    have := Int.tdiv_nonneg h1 (show 0 ≤ Y.2 by omega)
    have : Int.tdiv X.1 Y.2 ≤ X.1 := Int.tdiv_le_self _ h1
    omega
 exact ⟨hlo, hhi, hu, hl0.2, by unfold ovPr; dsimp only; omega⟩
def overK (P Q : IvP) : Nat → List IvP
 | 0 => []
 | k + 1 => overK P Q k ++ ovRound P Q k
theorem overK_four (P Q : IvP) : overK P Q 4 = overL P Q := by simp only [overK, overL, List.append_assoc, List.nil_append]
theorem overK_ok (h : IvN N P.1 P.2) (g : IvN N Q.1 Q.2) (h1 : 1 ≤ N) (hN : N ≤ 32) (k : Nat) : ∀ e ∈ overK P Q k, IvN N e.1 e.2 := by
 induction k with
 | zero => intro e he; cases he
 | succ k ih =>
   intro e he
   rcases List.mem_append.1 he with he | he
   · exact ih e he
   · unfold ovRound at he
     split at he
     · rename_i hc
       have a := sd_ok h (by omega) _ hc.1
       have b := side_ok g h1 (by omega) _ hc.2
       have c := ovPr_ok a b hN (sd_pos _ _) (side_pos _ _)
       rw [List.mem_singleton] at he
       subst he
       split
       · exact ivNg_ok c
       · exact c
     · cases he
theorem r16both_v {M : Nat} {g : Bool} (hp : IvW P p) (gp : IvN N P.1 P.2) (hN : N ≤ 60) (hq : IvW Q q) (gq : IvN M Q.1 Q.2) (hM : M ≤ 60) (hr : IvW (if max P.1 Q.1 ≤ min P.2 Q.2 then (max P.1 Q.1, min P.2 Q.2) else (0, 0)) r) (hg : decide (max P.1 Q.1 ≤ min P.2 Q.2) = g) (u1 : U64s w Z1 A a p.l0) (u2 : U64s w Z2 B b p.l1) (u3 : U64s w Z3 C c q.l0) (u4 : U64s w Z4 D d q.l1) :
  Calls Tryz.prog 47 #[.agg #[.bool p.n0, .bool p.s0, .slice A p.l0.length a, .bool p.n1, .bool p.s1, .slice B p.l1.length b], .agg #[.bool q.n0, .bool q.s0, .slice C q.l0.length c, .bool q.n1, .bool q.s1, .slice D q.l1.length d]] w fun e w' => ∃ rA ra rB rb, e = .returned (.tuple #[.agg #[.bool r.n0, .bool r.s0, .slice rA r.l0.length ra, .bool r.n1, .bool r.s1, .slice rB r.l1.length rb], .bool g]) ∧ U64s w' old rA ra r.l0 ∧ U64s w' old rB rb r.l1 ∧ Below w.heap.size w w' := by
 have kp := hp.k gp (by omega)
 have kq := hq.k gq (by omega)
 have o1 := okA_ends kp.ok
 have o2 := okA_ends kq.ok
 have ep : -bigZ ≤ max P.1 Q.1 ∧ max P.1 Q.1 < bigZ := by have := gp.nlo; have := gq.nlo; have := (gp.lo.range (by omega)).1; omega
 have eq : -bigZ < min P.2 Q.2 ∧ min P.2 Q.2 ≤ bigZ := by have := gp.nhi; have := gq.nhi; have := (gp.hi.range (by omega)).2; omega
 have hz := IvW.mk (max P.1 Q.1, min P.2 Q.2)
 have hok := ok_dec (r := ivOf (max P.1 Q.1) (min P.2 Q.2)) hz.1 hz.2 ep eq
 rw [hg] at hok
 refine (r16both_w u1 u2 u3 u4 o1.1 o1.2 o2.1 o2.2 (by have := kp.q0; omega) (by have := kp.q1; omega) (by have := kq.q0; omega) (by have := kq.q1; omega) (z0 := max P.1 Q.1) (z1 := min P.2 Q.2) (by rw [kp.lo, kq.lo]) (by rw [kp.hi, kq.hi]) hz.1 hz.2 (g := g) hok).mono ?_
 rintro e w' ⟨rA, ra, rB, rb, rfl, h1, h2, h3⟩
 cases g with
 | true =>
   rw [if_pos (of_decide_eq_true hg)] at hr
   obtain rfl := IvW.uniq hr hz
   exact ⟨rA, ra, rB, rb, rfl, h1, h2, h3⟩
 | false =>
   rw [if_neg (of_decide_eq_false hg)] at hr
   obtain ⟨e0, e1, e2, e3, e4, e5⟩ := zero_iv hr
   rw [e0, e1, e2, e3, e4, e5]
   exact ⟨none, 0, none, 0, rfl, U64s.nil _ _, U64s.nil _ _, h3⟩
theorem v6_al {o : Obj} (e : V = W.alloc o) (hs : C6 W g a0 a1 a2 a3 a4 a5) : C6 V g a0 a1 a2 a3 a4 a5 := by
 subst e
 exact box6_keep hs bal_
theorem v6_dr (e : V = W.drew) (hs : C6 W g a0 a1 a2 a3 a4 a5) : C6 V g a0 a1 a2 a3 a4 a5 := by
 subst e
 exact box6_keep hs bdr_
theorem v6_st6 {r : Nat} (e : V = ((((((W.setCell ⟨r, 0, none⟩ x0).setCell ⟨r, 1, none⟩ x1).setCell ⟨r, 2, none⟩ x2).setCell ⟨r, 3, none⟩ x3).setCell ⟨r, 4, none⟩ x4).setCell ⟨r, 5, none⟩ x5)) (hg : r ≠ g) (hs : C6 W g a0 a1 a2 a3 a4 a5) : C6 V g a0 a1 a2 a3 a4 a5 := by
 subst e
 exact box6_st6 hg hs
theorem r16over_w (hp : IvW P p) (gp : IvN N P.1 P.2) (hq : IvW Q q) (gq : IvN N Q.1 Q.2) (h1 : 1 ≤ N) (hN : N ≤ 28) {gz : Bool} (hr : IvW (if partsP Q = [] then (0, 0) else ivD P Q) r) (hgz : decide (partsP Q ≠ []) = gz) (u1 : U64s w Z1 A a p.l0) (u2 : U64s w Z2 B b p.l1) (u3 : U64s w Z3 C c q.l0) (u4 : U64s w Z4 D d q.l1) :
  Calls Tryz.prog 38 #[.agg #[.bool p.n0, .bool p.s0, .slice A p.l0.length a, .bool p.n1, .bool p.s1, .slice B p.l1.length b], .agg #[.bool q.n0, .bool q.s0, .slice C q.l0.length c, .bool q.n1, .bool q.s1, .slice D q.l1.length d]] w fun e w' => ∃ rA ra rB rb, e = .returned (.tuple #[.agg #[.bool r.n0, .bool r.s0, .slice rA r.l0.length ra, .bool r.n1, .bool r.s1, .slice rB r.l1.length rb], .bool gz]) ∧ U64s w' old rA ra r.l0 ∧ U64s w' old rB rb r.l1 ∧ Below w.heap.size w w' := by
 have kp := hp.k gp (by omega)
 have kq := hq.k gq (by omega)
 have gp59 := gp.up (show N ≤ 59 by omega)
 have gq59 := gq.up (show N ≤ 59 by omega)
 obtain ⟨bA, bB, bR, hB0⟩ := boxX w (.bool p.n0) (.bool p.s0) (.slice A p.l0.length a) (.bool p.n1) (.bool p.s1) (.slice B p.l1.length b) (.bool q.n0) (.bool q.s0) (.slice C q.l0.length c) (.bool q.n1) (.bool q.s1) (.slice D q.l1.length d) (.bool false) (.bool false) (.slice none 0 0) (.bool false) (.bool false) (.slice none 0 0) 29
 have nR := NoU.new6 ((w.alloc (.cells #[.bool p.n0, .bool p.s0, .slice A p.l0.length a, .bool p.n1, .bool p.s1, .slice B p.l1.length b] 29)).alloc (.cells #[.bool q.n0, .bool q.s0, .slice C q.l0.length c, .bool q.n1, .bool q.s1, .slice D q.l1.length d] 29)) false false false false none none 0 0 0 0 29
 simp only [World.size_alloc] at nR
 obtain ⟨HA, HC, HR, HW0⟩ := hid4 bA bB (BZ.mk bR nR) hB0
 obtain ⟨xu, hxu⟩ : ∃ r, IvW (if max P.1 0 ≤ min P.2 bigZ then (max P.1 0, min P.2 bigZ) else (0, 0)) r := ⟨_, IvW.mk _⟩
 obtain ⟨xd, hxd⟩ : ∃ r, IvW (if max P.1 (-bigZ) ≤ min P.2 0 then (max P.1 (-bigZ), min P.2 0) else (0, 0)) r := ⟨_, IvW.mk _⟩
 obtain ⟨gXu, hgXu⟩ : ∃ g, decide (max P.1 0 ≤ min P.2 bigZ) = g := ⟨_, rfl⟩
 obtain ⟨gXd, hgXd⟩ : ∃ g, decide (max P.1 (-bigZ) ≤ min P.2 0) = g := ⟨_, rfl⟩
 have hbP1 := (gp.lo.range (by omega)).1
 have hbP2 := (gp.hi.range (by omega)).2
 have ABx := fun (W : World) (Z : Zone) (E : Option Addr) (e : Nat) (h : Below w.heap.size w W) (v : U64s W Z E e []) => r16both_v (Q := (0, bigZ)) (q := onZ) hp gp59 (by omega) onZ_w (onZ_ok (N := 60)) (by omega) hxu hgXu (u1.below h) (u2.below h) v (U64s.nil W old)
 have BLx := fun (W : World) (Z : Zone) (E : Option Addr) (e : Nat) (h : Below w.heap.size w W) (v : U64s W Z E e []) => r16both_v (Q := (-bigZ, 0)) (q := toZ) hp gp59 (by omega) toZ_w (toZ_ok (N := 60)) (by omega) hxd hgXd (u1.below h) (u2.below h) (U64s.nil W old) v
 simp only [onZ, toZ, List.length_nil] at ABx BLx
 replace ABx := hid ABx
 replace BLx := hid BLx
 have EN := fun (W : World) => r16end_w (x := 0) (s := false) (l := []) (A := none) (c := 0) ⟨rfl, rfl⟩ (by decide) (U64s.nil W old)
 simp only [List.length_nil] at EN
 replace EN := hid EN
 have gdx : IvN 60 (if max P.1 (-bigZ) ≤ min P.2 0 then (max P.1 (-bigZ), min P.2 0) else (0, 0) : IvP).1 (if max P.1 (-bigZ) ≤ min P.2 0 then (max P.1 (-bigZ), min P.2 0) else (0, 0) : IvP).2 := half_ok (Q := (-bigZ, 0)) (gp.up (by omega)) toZ_ok
 obtain ⟨Hxu, Hxd, HGxu, HGxd⟩ := hid4 hxu hxd hgXu hgXd
 clear hxu hgXu hgXd
 obtain ⟨yu, hyu⟩ : ∃ r, IvW (partV Q false) r := ⟨_, IvW.mk _⟩
 obtain ⟨yd, hyd⟩ : ∃ r, IvW (if Q.1 ≤ min Q.2 (-1) then (Q.1, min Q.2 (-1)) else (0, 0)) r := ⟨_, IvW.mk _⟩
 obtain ⟨gYu, hgYu⟩ : ∃ g, decide (max Q.1 1 ≤ Q.2) = g := ⟨_, rfl⟩
 obtain ⟨gYd, hgYd⟩ : ∃ g, decide (Q.1 ≤ min Q.2 (-1)) = g := ⟨_, rfl⟩
 obtain ⟨ABy, BLy⟩ := hid2 (fun (W : World) (h : Below w.heap.size w W) => r16above_v hq gq59 hyu hgYu (u3.below h) (u4.below h)) (fun (W : World) (h : Below w.heap.size w W) => r16below_v hq gq59 hyd hgYd (u3.below h) (u4.below h))
 have gdy : IvN 60 (if Q.1 ≤ min Q.2 (-1) then (Q.1, min Q.2 (-1)) else (0, 0) : IvP).1 (if Q.1 ≤ min Q.2 (-1) then (Q.1, min Q.2 (-1)) else (0, 0) : IvP).2 := by
  have h := ivNg_ok (partV_ok gq59 (by omega) (by omega) true)
  rw [← down_part] at h
  have e : ivNg (ivNg (if Q.1 ≤ min Q.2 (-1) then (Q.1, min Q.2 (-1)) else (0, 0) : IvP)) = (if Q.1 ≤ min Q.2 (-1) then (Q.1, min Q.2 (-1)) else (0, 0) : IvP) := Prod.ext (Int.neg_neg _) (Int.neg_neg _)
  rw [e] at h
  exact h.up (by omega)
 obtain ⟨Hyu, Hyd, HGyu, HGyd⟩ := hid4 hyu hyd hgYu hgYd
 clear hyu hgYu hgYd
 clear u1 u2 u3 u4 kp kq gp59 gq59 hp hq
 obtain ⟨gR, hgR⟩ : ∃ g, g = w.heap.size + 2 := ⟨_, rfl⟩
 rw [← hgR] at HR
 have HgR := hid (show w.heap.size ≤ gR by omega)
 clear bA bB bR nR hB0
 go_enter Tryz.func38, Tryz.ntmps38
 go_upto_region 2 with fail
 (try simp only [show w.heap.size + 1 + 1 = w.heap.size + 2 from rfl])
 simp only [show w.heap.size + 2 = gR from hgR.symm]
 clear hgR
 generalize hW : (((w.alloc (.cells #[.bool p.n0, .bool p.s0, .slice A p.l0.length a, .bool p.n1, .bool p.s1, .slice B p.l1.length b] 29)).alloc (.cells #[.bool q.n0, .bool q.s0, .slice C q.l0.length c, .bool q.n1, .bool q.s1, .slice D q.l1.length d] 29)).alloc (.cells #[.bool false, .bool false, .slice none 0 0, .bool false, .bool false, .slice none 0 0] 29)) = W0 at *
 clear hW
 go_wp2
 go_loopw [6, 7] (fun v i wr => ∃ (vr : Value) (k : Nat) (xs : List Value) (qs : List Iv), v = vr ∧ k ≤ 4 ∧ i = .int .i64 (k : Int) ∧ qs = fmOf (overK P Q k) ∧ qs.length ≤ k + 1 ∧ wr.ownsRow W0.heap.size 29 6 vr qs.length xs ∧ IvsP wr vr xs qs ∧ RowN wr vr ∧ Below W0.heap.size W0 wr) (fun _ i _ => 4 - (intOf i).toNat)
 case atStart => exact ⟨_, 0, [], [], rfl, Nat.zero_le _, rfl, rfl, Nat.zero_le _, World.ownsRow_nil _ _ _ _, IvsP.nil _ _ _, RowN.nil _, Below.refl _ _⟩
 case round =>
  obtain ⟨v, k, xs, qs, hvr, hk, rfl, hqs, hql, hown, hiv, hnn, hbel⟩ := hrel
  have hvr2 := hvr.symm
  subst hvr2
  by_cases hlt : k < 4
  · obtain ⟨bX, hbX⟩ : ∃ b, (k % 2 == 1) = b := ⟨_, rfl⟩
    obtain ⟨bY, hbY⟩ : ∃ b, (k / 2 == 1) = b := ⟨_, rfl⟩
    have tX : ((k : Int) % 2 == 1) = bX := by rw [← hbX]; obtain rfl | rfl | rfl | rfl : k = 0 ∨ k = 1 ∨ k = 2 ∨ k = 3 := (by omega) <;> rfl
    have tY : ((k : Int) / 2 == 1) = bY := by rw [← hbY]; obtain rfl | rfl | rfl | rfl : k = 0 ∨ k = 1 ∨ k = 2 ∨ k = 3 := (by omega) <;> rfl
    obtain ⟨gX, hgX⟩ : ∃ g, decide ((sdP P bX).1 ≤ (sdP P bX).2) = g := ⟨_, rfl⟩
    obtain ⟨gY, hgY⟩ : ∃ g, decide ((sideP Q bY).1 ≤ (sideP Q bY).2) = g := ⟨_, rfl⟩
    obtain ⟨rx, hrx⟩ : ∃ r, IvW (partS P bX) r := ⟨_, IvW.mk _⟩
    obtain ⟨ry, hry⟩ : ∃ r, IvW (partV Q bY) r := ⟨_, IvW.mk _⟩
    obtain ⟨OTx, OTy⟩ := hid2 (fun (hb : bX = true) (W : World) (Z1 Z2 : Zone) (A : Option Addr) (a : Nat) (B : Option Addr) (b : Nat) (u : U64s W Z1 A a xd.l0) (v : U64s W Z2 B b xd.l1) => r16other_w Hxd.out gdx (by rw [dn_half hbP1, ← hb]; exact hrx) u v) (fun (hb : bY = true) (W : World) (Z1 Z2 : Zone) (A : Option Addr) (a : Nat) (B : Option Addr) (b : Nat) (u : U64s W Z1 A a yd.l0) (v : U64s W Z2 B b yd.l1) => r16other_w Hyd.out gdy (by rw [down_part, ← hb]; exact hry) u v)
    have hwr := from_ HW0.out hbel
    replace ABx := hid (fun (W : World) (Z : Zone) (E : Option Addr) (e : Nat) (h : Below wr.heap.size wr W) (v : U64s W Z E e []) => ABx.out W Z E e (from_ hwr h) v)
    replace BLx := hid (fun (W : World) (Z : Zone) (E : Option Addr) (e : Nat) (h : Below wr.heap.size wr W) (v : U64s W Z E e []) => BLx.out W Z E e (from_ hwr h) v)
    replace ABy := hid (fun (W : World) (h : Below wr.heap.size wr W) => ABy.out W (from_ hwr h))
    replace BLy := hid (fun (W : World) (h : Below wr.heap.size wr W) => BLy.out W (from_ hwr h))
    obtain ⟨HAr, HCr⟩ := hid2 (HA.out.below hbel) (HC.out.below hbel)
    have hi3 : (k : Int) < 4 := by omega
    have HstF := hid (fun (h : (gX && gY) = false) => (show qs = fmOf (overK P Q (k + 1)) by
     unfold overK ovRound
     rw [hbX, hbY, if_neg (fun hc => by rw [← hgX, ← hgY, decide_eq_true hc.1, decide_eq_true hc.2] at h; cases h), List.append_nil]
     exact hqs))
    obtain ⟨HbX, HbY, HGxr, HGyr, Hxr, Hyr⟩ := hid6 hbX hbY hgX hgY hrx hry
    obtain ⟨Hqs, Hql, HO, Hiv, HN, Hbel⟩ := hid6 hqs hql hown hiv hnn hbel
    clear hbX hbY hgX hgY hrx hry hqs hql hown hiv hnn hbel hwr HR
    go_upto_region 5 with fail
    have hs0 := HAr.out.all
    have hs := box6_keep hs0 bdr_
    have Hc0 := hid (Below.refl wr.heap.size wr)
    have Hc := hid (Below.refl wr.heap.size wr).drew
    have N1 := hid (show wr.heap.size ≠ w.heap.size by have := HAr.out.lt; omega)
    have hla := HAr.out.lt
    go_cut [8, 9] (fun s8 s9 wx => ∃ (gx : Nat) (A : Option Addr) (a : Nat) (B : Option Addr) (b : Nat), s8 = .pointer (some ⟨gx, 0, none⟩) ∧ s9 = .bool gXu ∧ ResB wr wx gx xu A a B b)
    case first =>
     first | go_region_held3 (fun w' => C6 w' w.heap.size (.bool p.n0) (.bool p.s0) (.slice A p.l0.length a) (.bool p.n1) (.bool p.s1) (.slice B p.l1.length b))
      ((repeat' (first | with_reducible apply v6_al rfl | with_reducible apply v6_st6 rfl)) <;> (first | with_reducible exact hs | (with_reducible apply v6_dr rfl; (repeat' (with_reducible apply v6_al rfl)); with_reducible exact hs0) | (with_reducible exact N1.out) | omega))
      (((first
        | (go_at_call 82; (first | (with_reducible refine (EN.out _).mono ?_) | (with_reducible refine (EN.out _).mono ?_) | (with_reducible refine (EN.out _).mono ?_)); rintro e w2 ⟨E1, e1, rfl, x1, hc2⟩)
        | (go_at_call 47; (first | (with_reducible refine (ABx.out _ _ _ _ Hc.out x1).mono ?_) | (with_reducible refine (ABx.out _ _ _ _ (from_ Hc.out bal_) (x1.below bal_)).mono ?_) | (with_reducible refine (ABx.out _ _ _ _ (from_ (from_ Hc0.out bal_) bdr_) x1).mono ?_)); rintro e w2 ⟨T0, t0, T1, t1, rfl, o0, o1, hc2⟩)); (first | (with_reducible have hx := box6_keep hs hc2; have hb := hid (from_ Hc.out hc2); (try replace HF := hid (HF.out.below hc2)); skip) | (with_reducible have z1 := Hc.out.size; have hx := box6_keep (box6_keep hs bal_) hc2; have hb := hid (from_ (from_ Hc.out bal_) hc2); have HF := hid ((BZ.new _ 29).below hc2); skip) | (with_reducible have z1 := Hc0.out.size; have hx := box6_keep (box6_keep (box6_keep hs0 bal_) bdr_) hc2; have hb := hid (from_ (from_ (from_ Hc0.out bal_) bdr_) hc2); have HF := hid (((BZ.new _ 29).below bdr_).below hc2))); replace hs := hx; replace Hc := hb; clear hx hb; (try clear e0 e1 e2 e3 e4 e5 f0 f1 f2 f3 f4 f5); (try obtain ⟨e0, e1, e2, e3, e4, e5, f0, f1, f2, f3, f4, f5, _⟩ := id HF.out.box); clear hc2)) | fail
     all_goals
      clear hs hs0
      go_wp2_with fail
      go_meet
      (first | exact ⟨_, _, _, _, _, rfl, rfl, by with_reducible exact ResB.nw Hc.out o0 o1⟩ | exact ⟨_, _, _, _, _, rfl, rfl, by with_reducible exact ResB.ol Hc.out HF.out (by omega) o0 o1⟩)
    case rest =>
     obtain ⟨gx, X0, x0, X1, x1, rfl, rfl, hR⟩ := hcut
     clear hs hs0 Hc Hc0 N1 ABx hla
     obtain ⟨BXx, Hlx, Hb0⟩ := hid3 hR.box hR.lo hR.bel
     clear hR
     obtain ⟨WA, hren⟩ : ∃ W, W = wc := ⟨_, rfl⟩
     subst hren
     go_upto_if 30 with fail
     go_cut [9] (fun s9 wx => ∃ (A : Option Addr) (a : Nat) (B : Option Addr) (b : Nat), s9 = .bool gX ∧ BX wx gx rx A a B b ∧ Below wr.heap.size wr wx)
     case first =>
      cases bX with
      | false =>
        obtain rfl : xu = rx := IvW.uniq (by have h := Hxu.out; rwa [up_half hbP2] at h) Hxr.out
        obtain rfl : gXu = gX := HGxu.out.symm.trans ((up_hdec hbP2).trans HGxr.out)
        go_wp2_with fail
        go_meet
        exact ⟨_, _, _, _, rfl, BXx.out, Hb0.out⟩
      | true =>
        replace OTx := hid (OTx.out rfl)
        obtain rfl : gXd = gX := HGxd.out.symm.trans ((dn_hdec hbP1).trans HGxr.out)
        have hs := (HAr.out.below Hb0.out).all
        replace hs := box6_keep hs bdr_
        have Hc := hid (Below.refl WA.heap.size WA).drew
        obtain ⟨HX, N1⟩ := hid2 (BXx.out.below bdr_) (show gx ≠ w.heap.size by have := HAr.out.lt; have := Hlx.out; omega)
        go_upto_region 7 with fail
        go_cut [9] (fun s9 wx => ∃ (A : Option Addr) (a : Nat) (B : Option Addr) (b : Nat), s9 = .bool gXd ∧ BX wx gx xd A a B b ∧ Below wr.heap.size wr wx)
        case first =>
         first | go_region_held3 (fun w' => C6 w' w.heap.size (.bool p.n0) (.bool p.s0) (.slice A p.l0.length a) (.bool p.n1) (.bool p.s1) (.slice B p.l1.length b))
          (first | with_reducible exact hs | (with_reducible apply v6_st6 rfl N1.out; with_reducible exact hs) | (with_reducible apply v6_dr rfl; with_reducible exact hs))
          (first
           | (go_at_call 82; with_reducible refine (EN.out _).mono ?_; rintro e w2 ⟨E1, e1, rfl, y1, hc2⟩; replace hs := box6_keep hs hc2; replace HX := hid (HX.out.below hc2); replace Hc := hid (from_ Hc.out hc2))
           | (go_at_call 47; with_reducible refine (BLx.out _ _ _ _ (from_ Hb0.out Hc.out) y1).mono ?_; rintro e w3 ⟨T0, t0, T1, t1, rfl, o0, o1, hc2⟩; replace hs := box6_keep hs hc2; replace HX := hid (HX.out.below hc2); replace Hc := hid (from_ Hc.out hc2); obtain ⟨g0, g1, g2, g3, g4, g5, f0, f1, f2, f3, f4, f5, _⟩ := id HX.out.box)) | fail
         all_goals
          have BF := hid (HX.out.own (q := xd) o0 o1)
          have HbF := hid (HX.out.box.put (from_ Hb0.out Hc.out) Hlx.out (.bool xd.n0) (.bool xd.s0) (.slice T0 xd.l0.length t0) (.bool xd.n1) (.bool xd.s1) (.slice T1 xd.l1.length t1)).bel
          clear o0 o1
          go_wp2_with fail
          go_meet
          exact ⟨_, _, _, _, rfl, BF.out, HbF.out⟩
        case rest =>
         clear hs Hc HX N1
         obtain ⟨X2, x2, X3, x3, rfl, hbx, hbel2⟩ := hcut
         replace BXx := hid hbx
         replace Hb0 := hid hbel2
         clear hbx hbel2
         obtain ⟨WB, hren⟩ : ∃ W, W = wc := ⟨_, rfl⟩
         subst hren
         obtain ⟨c0, c1, c2, c3, c4, c5, f0, f1, f2, f3, f4, f5, _⟩ := id BXx.out.box
         go_wp2_with fail
         refine (OTx.out _ _ _ _ _ _ _ BXx.out.u0 BXx.out.u1).mono ?_
         rintro e w4 ⟨V4, v4, V5, v5, rfl, o4, o5, hc⟩
         clear c0 c1 c2 c3 c4 c5 f0 f1 f2 f3 f4 f5
         replace BXx := hid (BXx.out.below hc)
         replace Hb0 := hid (from_ Hb0.out hc)
         clear hc
         obtain ⟨c0, c1, c2, c3, c4, c5, f0, f1, f2, f3, f4, f5, _⟩ := id BXx.out.box
         have BF := hid (BXx.out.own (q := rx) o4 o5)
         have HbF := hid (BXx.out.box.put Hb0.out Hlx.out (.bool rx.n0) (.bool rx.s0) (.slice V4 rx.l0.length v4) (.bool rx.n1) (.bool rx.s1) (.slice V5 rx.l1.length v5)).bel
         clear o4 o5
         go_wp2_with fail
         go_meet
         exact ⟨_, _, _, _, rfl, BF.out, HbF.out⟩
     case rest =>
      clear BXx Hb0 BLx OTx X0 x0 X1 x1
      obtain ⟨X0, x0, X1, x1, rfl, hbx, hbel2⟩ := hcut
      obtain ⟨BXx, Hb0⟩ := hid2 hbx hbel2
      clear hbx hbel2
      obtain ⟨WX, hren⟩ : ∃ W, W = wc := ⟨_, rfl⟩
      subst hren
      obtain ⟨y0, y1, y2, y3, y4, y5, _, _, _, _, _, _, _⟩ := HCr.out.below Hb0.out
      go_wp2_with fail
      refine (ABy.out _ Hb0.out).mono ?_
      rintro e w2 ⟨V0, v0, V1, v1, rfl, o0, o1, hc⟩
      go_upto_if 49 with fail
      have BXy := hid (BX.new (t := 29) o0 o1)
      obtain ⟨gy, hgy⟩ : ∃ g, g = w2.heap.size := ⟨_, rfl⟩
      rw [← hgy] at BXy
      have Hal := hid ((Below.refl w2.heap.size w2).alloc (Nat.le_refl _) (.cells #[.bool yu.n0, .bool yu.s0, .slice V0 yu.l0.length v0, .bool yu.n1, .bool yu.s1, .slice V1 yu.l1.length v1] 29))
      obtain ⟨Hb, Hly⟩ := hid2 (from_ (from_ Hb0.out hc) Hal.out) (show wr.heap.size ≤ gy by rw [hgy]; exact (from_ Hb0.out hc).size)
      replace BXx := hid (BXx.out.below hc)
      have Hxy := hid (show gy ≠ gx by have := BXx.out.box.lt; omega)
      replace BXx := hid (BXx.out.below Hal.out)
      clear o0 o1 hc Hal
      generalize hV : w2.alloc (.cells #[.bool yu.n0, .bool yu.s0, .slice V0 yu.l0.length v0, .bool yu.n1, .bool yu.s1, .slice V1 yu.l1.length v1] 29) = V at *
      try simp only [← hgy]
      clear hV hgy
      go_cut [11] (fun s11 wx => ∃ (A : Option Addr) (a : Nat) (B : Option Addr) (b : Nat), s11 = .bool gY ∧ BX wx gy ry A a B b ∧ BX wx gx rx X0 x0 X1 x1 ∧ Below wr.heap.size wr wx)
      case first =>
       cases bY with
       | false =>
         obtain rfl : yu = ry := IvW.uniq Hyu.out Hyr.out
         obtain rfl : gYu = gY := HGyu.out.symm.trans HGyr.out
         go_wp2_with fail
         go_meet
         exact ⟨_, _, _, _, rfl, BXy.out, BXx.out, Hb.out⟩
       | true =>
         replace OTy := hid (OTy.out rfl)
         obtain rfl : gYd = gY := HGyd.out.symm.trans (down_dec.trans HGyr.out)
         obtain ⟨c0, c1, c2, c3, c4, c5, f0, f1, f2, f3, f4, f5, _⟩ := id BXy.out.box
         obtain ⟨y0, y1, y2, y3, y4, y5, _, _, _, _, _, _, _⟩ := HCr.out.below Hb.out
         go_wp2_with fail
         refine (BLy.out _ Hb.out).mono ?_
         rintro e w3 ⟨V2, v2, V3, v3, rfl, o2, o3, hc⟩
         clear c0 c1 c2 c3 c4 c5 f0 f1 f2 f3 f4 f5 y0 y1 y2 y3 y4 y5
         replace BXy := hid (BXy.out.below hc)
         replace BXx := hid (BXx.out.below hc)
         replace Hb := hid (from_ Hb.out hc)
         clear hc
         obtain ⟨c0, c1, c2, c3, c4, c5, f0, f1, f2, f3, f4, f5, _⟩ := id BXy.out.box
         go_upto_region 12 with fail
         clear c0 c1 c2 c3 c4 c5 f0 f1 f2 f3 f4 f5
         replace Hb := hid (BXy.out.box.put Hb.out Hly.out (.bool yd.n0) (.bool yd.s0) (.slice V2 yd.l0.length v2) (.bool yd.n1) (.bool yd.s1) (.slice V3 yd.l1.length v3)).bel
         replace BXx := hid (BXx.out.oth Hxy.out BXy.out.noU (.bool yd.n0) (.bool yd.s0) (.slice V2 yd.l0.length v2) (.bool yd.n1) (.bool yd.s1) (.slice V3 yd.l1.length v3))
         replace BXy := hid (BXy.out.own (q := yd) o2 o3)
         clear o2 o3
         generalize hV : ((((((w3.setCell ⟨gy, 0, none⟩ (.bool yd.n0)).setCell ⟨gy, 1, none⟩ (.bool yd.s0)).setCell ⟨gy, 2, none⟩ (.slice V2 yd.l0.length v2)).setCell ⟨gy, 3, none⟩ (.bool yd.n1)).setCell ⟨gy, 4, none⟩ (.bool yd.s1)).setCell ⟨gy, 5, none⟩ (.slice V3 yd.l1.length v3)) = W at *
         clear hV
         obtain ⟨c0, c1, c2, c3, c4, c5, f0, f1, f2, f3, f4, f5, _⟩ := id BXy.out.box
         go_wp2_with fail
         refine (OTy.out _ _ _ _ _ _ _ BXy.out.u0 BXy.out.u1).mono ?_
         rintro e w4 ⟨V4, v4, V5, v5, rfl, o4, o5, hc⟩
         clear c0 c1 c2 c3 c4 c5 f0 f1 f2 f3 f4 f5
         replace BXy := hid (BXy.out.below hc)
         replace BXx := hid (BXx.out.below hc)
         replace Hb := hid (from_ Hb.out hc)
         clear hc
         obtain ⟨c0, c1, c2, c3, c4, c5, f0, f1, f2, f3, f4, f5, _⟩ := id BXy.out.box
         have BF := hid (BXy.out.own (q := ry) o4 o5)
         have HbF := hid (BXy.out.box.put Hb.out Hly.out (.bool ry.n0) (.bool ry.s0) (.slice V4 ry.l0.length v4) (.bool ry.n1) (.bool ry.s1) (.slice V5 ry.l1.length v5)).bel
         replace BXx := hid (BXx.out.oth Hxy.out BXy.out.noU (.bool ry.n0) (.bool ry.s0) (.slice V4 ry.l0.length v4) (.bool ry.n1) (.bool ry.s1) (.slice V5 ry.l1.length v5))
         clear o4 o5
         go_wp2_with fail
         go_meet
         exact ⟨_, _, _, _, rfl, BF.out, BXx.out, HbF.out⟩
      case rest =>
       clear BXy Hb ABy BLy OTy
       obtain ⟨Y0, y0, Y1, y1, rfl, hbx, hbo, hbel2⟩ := hcut
       have BXy := hid hbx
       replace BXx := hid hbo
       have Hb0 := hid hbel2
       clear hbx hbel2 hbo
       obtain ⟨WY, hren⟩ : ∃ W, W = wc := ⟨_, rfl⟩
       subst hren
       cases gX with
       | false =>
         go_wp2
         go_roundw
         case rel => exact ⟨_, k + 1, xs, qs, rfl, by omega, by go_num, HstF.out rfl, by have := Hql.out; omega, own_below HO.out Hb0.out, Hiv.out.below Hb0.out, HN.out.below HO.out Hb0.out, from_ Hbel.out Hb0.out⟩
         case measure => simp [intOf]; omega
       | true =>
         cases gY with
         | false =>
           go_wp2
           go_roundw
           case rel => exact ⟨_, k + 1, xs, qs, rfl, by omega, by go_num, HstF.out rfl, by have := Hql.out; omega, own_below HO.out Hb0.out, Hiv.out.below Hb0.out, HN.out.below HO.out Hb0.out, from_ Hbel.out Hb0.out⟩
           case measure => simp [intOf]; omega
         | true =>
           have hX := of_decide_eq_true HGxr.out
           have hY := of_decide_eq_true HGyr.out
           have hrx := Hxr.out
           rw [show partS P bX = sdP P bX from if_pos hX] at hrx
           have hry := Hyr.out
           rw [show partV Q bY = sideP Q bY from if_pos hY] at hry
           have gx_ := sd_ok gp (by omega) bX hX
           have gy_ := side_ok gq h1 (by omega) bY hY
           have px := sd_pos P bX
           have py := side_pos Q bY
           obtain ⟨rp, hrp⟩ : ∃ r, IvW (ovPr (sdP P bX) (sideP Q bY)) r := ⟨_, IvW.mk _⟩
           have e1 := quo_lo (by omega) gx_.lo gy_.hi ⟨px, gx_.nlo⟩ (by have := gy_.le; omega) hrx.1 hry.2 hrp.1
           have e2 := quo_hi (by omega) gx_.hi gy_.lo (by have := gx_.le; omega) ⟨py, gy_.nlo⟩ hrx.2 hry.1 hrp.2
           have kx := hrx.k gx_ (by omega)
           have ky := hry.k gy_ (by omega)
           obtain ⟨C1, C2⟩ := hid2 (fun (W : World) (h : Below WY.heap.size WY W) => r16quotient_w e1 (by have := kx.q0; omega) (by have := ky.q1; omega) (BXx.out.u0.below h) (BXy.out.u1.below h)) (fun (W : World) (h : Below WY.heap.size WY W) => r16quotient_w e2 (by have := kx.q1; omega) (by have := ky.q0; omega) (BXx.out.u1.below h) (BXy.out.u0.below h))
           obtain ⟨bS, hbS⟩ : ∃ b, decide (k = 1 ∨ k = 2) = b := ⟨_, rfl⟩
           obtain ⟨rz, hrz⟩ : ∃ r, IvW (if k = 1 ∨ k = 2 then ivNg (ovPr (sdP P bX) (sideP Q bY)) else ovPr (sdP P bX) (sideP Q bY)) r := ⟨_, IvW.mk _⟩
           have gpr := (ovPr_ok gx_ gy_ (by omega) px py).up (show N ≤ 60 by omega)
           obtain ⟨HzF, HzT, HbS⟩ := hid3 (fun hb : bS = false => (IvW.uniq hrp (by have h := hrz; rwa [if_neg (of_decide_eq_false (hbS.trans hb))] at h) : rp = rz)) (fun (hb : bS = true) (W : World) (Z1 Z2 : Zone) (A : Option Addr) (a : Nat) (B : Option Addr) (b : Nat) (u : U64s W Z1 A a rp.l0) (v : U64s W Z2 B b rp.l1) => r16other_w hrp gpr (by have h := hrz; rwa [if_pos (of_decide_eq_true (hbS.trans hb))] at h : IvW (ivNg (ovPr (sdP P bX) (sideP Q bY))) rz) u v) hbS
           have HstT := hid (show qs ++ [rz] = fmOf (overK P Q (k + 1)) by
            have h1 := IvW.uniq hrz (IvW.mk _)
            unfold overK ovRound
            rw [HbX.out, HbY.out, if_pos ⟨hX, hY⟩, fmOf_snoc, ← Hqs.out, h1])
           clear hX hY hrx hry gx_ gy_ px py e1 e2 kx ky hrz gpr hbS hrp HGxr HGyr Hxr Hyr HbX HbY HstF
           go_upto_region 14 with fail
           have hs0 := And.intro BXx.out.box.all BXy.out.box.all
           have hs := d12_keep hs0 bdr_
           have Hc0 := hid (Below.refl WY.heap.size WY)
           have Hc := hid (Below.refl WY.heap.size WY).drew
           have hlx := BXx.out.box.lt
           have hly := BXy.out.box.lt
           go_cut [12] (fun s12 wx => ∃ (gp : Nat) (A : Option Addr) (a : Nat) (B : Option Addr) (b : Nat), s12 = .pointer (some ⟨gp, 0, none⟩) ∧ ResB WY wx gp rp A a B b)
           case first =>
            first | go_region_held3 (fun w' => (C6 w' gx (.bool rx.n0) (.bool rx.s0) (.slice X0 rx.l0.length x0) (.bool rx.n1) (.bool rx.s1) (.slice X1 rx.l1.length x1)) ∧ C6 w' gy (.bool ry.n0) (.bool ry.s0) (.slice Y0 ry.l0.length y0) (.bool ry.n1) (.bool ry.s1) (.slice Y1 ry.l1.length y1))
             ((repeat' (first | with_reducible apply v12_al rfl | with_reducible apply v12_st6 rfl)) <;> (first | with_reducible exact hs | (with_reducible apply v12_dr rfl; (repeat' (with_reducible apply v12_al rfl)); with_reducible exact hs0) | omega))
             (((first
               | (go_at_call 83; (first | (with_reducible refine (C1.out _ Hc.out).mono ?_) | (with_reducible refine (C1.out _ (from_ Hc.out bal_)).mono ?_) | (with_reducible refine (C1.out _ (from_ (from_ Hc0.out bal_) bdr_)).mono ?_)); rintro e w2 ⟨T0, t0, rfl, o0, hc2⟩)
               | (go_at_call 83; (first | (with_reducible refine (C2.out _ Hc.out).mono ?_) | (with_reducible refine (C2.out _ (from_ Hc.out bal_)).mono ?_) | (with_reducible refine (C2.out _ (from_ (from_ Hc0.out bal_) bdr_)).mono ?_)); rintro e w2 ⟨T1, t1, rfl, o1, hc2⟩)); (first | (with_reducible have hx := d12_keep hs hc2; have hb := hid (from_ Hc.out hc2); (try replace HF := hid (HF.out.below hc2)); (try replace o1 := o1.below hc2); (try replace o0 := o0.below hc2); skip) | (with_reducible have z1 := Hc.out.size; have hx := d12_keep (d12_keep hs bal_) hc2; have hb := hid (from_ (from_ Hc.out bal_) hc2); have HF := hid ((BZ.new _ 29).below hc2); (try replace o1 := (o1.below bal_).below hc2); (try replace o0 := (o0.below bal_).below hc2); skip) | (with_reducible have z1 := Hc0.out.size; have hx := d12_keep (d12_keep (d12_keep hs0 bal_) bdr_) hc2; have hb := hid (from_ (from_ (from_ Hc0.out bal_) bdr_) hc2); have HF := hid (((BZ.new _ 29).below bdr_).below hc2))); replace hs := hx; replace Hc := hb; clear hx hb; (try clear e0 e1 e2 e3 e4 e5 f0 f1 f2 f3 f4 f5); (try obtain ⟨e0, e1, e2, e3, e4, e5, f0, f1, f2, f3, f4, f5, _⟩ := id HF.out.box); clear hc2)) | fail
            all_goals
             clear hs hs0
             go_wp2_with fail
             go_meet
             (first | exact ⟨_, _, _, _, _, rfl, by with_reducible exact ResB.nw Hc.out o0 o1⟩ | exact ⟨_, _, _, _, _, rfl, by with_reducible exact ResB.ol Hc.out HF.out (by omega) o0 o1⟩)
           case rest =>
            obtain ⟨gp, G0, d0, G1, d1, rfl, hR⟩ := hcut
            clear hs hs0 Hc Hc0 hlx hly C1 C2
            obtain ⟨BXp, Hlp⟩ := hid2 hR.box (Nat.le_trans Hb0.out.size hR.lo)
            replace Hb0 := hid (from_ Hb0.out hR.bel)
            clear hR
            obtain ⟨WP, hren⟩ : ∃ W, W = wc := ⟨_, rfl⟩
            subst hren
            go_upto_region 15 with fail
            go_cut [79] (fun s79 wx => s79 = .bool bS ∧ wx = WP)
            case first =>
             have hbS := HbS.out
             obtain rfl | rfl | rfl | rfl : k = 0 ∨ k = 1 ∨ k = 2 ∨ k = 3 := by omega
             all_goals
              go_wp2_with fail
              go_meet
              exact ⟨by rw [← hbS]; rfl, rfl⟩
            case rest =>
             obtain ⟨rfl, rfl⟩ := hcut
             go_upto_if 79 with fail
             go_cut [] (fun wx => ∃ (A : Option Addr) (a : Nat) (B : Option Addr) (b : Nat), BX wx gp rz A a B b ∧ Below wr.heap.size wr wx)
             case first =>
              cases bS with
              | false =>
                obtain rfl : rp = rz := HzF.out rfl
                go_wp2_with fail
                go_meet
                exact ⟨_, _, _, _, BXp.out, Hb0.out⟩
              | true =>
                have OTz := hid (HzT.out rfl)
                obtain ⟨c0, c1, c2, c3, c4, c5, f0, f1, f2, f3, f4, f5, _⟩ := id BXp.out.box
                go_wp2_with fail
                refine (OTz.out _ _ _ _ _ _ _ BXp.out.u0 BXp.out.u1).mono ?_
                rintro e w4 ⟨V4, v4, V5, v5, rfl, o4, o5, hc⟩
                clear c0 c1 c2 c3 c4 c5 f0 f1 f2 f3 f4 f5
                replace BXp := hid (BXp.out.below hc)
                replace Hb0 := hid (from_ Hb0.out hc)
                clear hc
                obtain ⟨c0, c1, c2, c3, c4, c5, f0, f1, f2, f3, f4, f5, _⟩ := id BXp.out.box
                have BF := hid (BXp.out.own (q := rz) o4 o5)
                have HbF := hid (BXp.out.box.put Hb0.out Hlp.out (.bool rz.n0) (.bool rz.s0) (.slice V4 rz.l0.length v4) (.bool rz.n1) (.bool rz.s1) (.slice V5 rz.l1.length v5)).bel
                clear o4 o5
                go_wp2_with fail
                go_meet
                exact ⟨_, _, _, _, BF.out, HbF.out⟩
             case rest =>
              obtain ⟨G2, d2, G3, d3, hbx, hbel2⟩ := hcut
              replace BXp := hid hbx
              replace Hb0 := hid hbel2
              clear hbx hbel2 HzF HzT
              obtain ⟨WS, hren⟩ : ∃ W, W = wc := ⟨_, rfl⟩
              subst hren
              obtain ⟨c0, c1, c2, c3, c4, c5, _, _, _, _, _, _, _⟩ := id BXp.out.box
              have hla := Hql.out
              have Hal := hid ((Below.refl WS.heap.size WS).alloc (Nat.le_refl _) (.cells #[.bool rz.n0, .bool rz.s0, .slice G2 rz.l0.length d2, .bool rz.n1, .bool rz.s1, .slice G3 rz.l1.length d3] 29))
              obtain ⟨HO2, HN2, HI2, Hw0, Hw1, Hbase⟩ := hid6 (own_below HO.out (from_ Hb0.out Hal.out)) (HN.out.below HO.out (from_ Hb0.out Hal.out)) (Hiv.out.below (from_ Hb0.out Hal.out)) (BXp.out.u0.below Hal.out) (BXp.out.u1.below Hal.out) (show W0.heap.size ≤ (WS.alloc (.cells #[.bool rz.n0, .bool rz.s0, .slice G2 rz.l0.length d2, .bool rz.n1, .bool rz.s1, .slice G3 rz.l1.length d3] 29)).heap.size from (from_ (from_ Hbel.out Hb0.out) Hal.out).size)
              obtain ⟨i0, hi, hz0, hz1, hz2⟩ := info_parts infoIv
              go_wp2_with (at_builtin; go_loud (refine wpList_appN _ rfl _ _ 37 rfl W0.heap.size 29 i0 (.agg #[.bool false, .bool false, .slice none 0 0, .bool false, .bool false, .slice none 0 0]) 6 80 Tryz.underlying37 hi hz0 hz1 hz2 rfl (by omega) (by omega) _ _ _ rfl HO2.out WS.heap.size [.bool rz.n0, .bool rz.s0, .slice G2 rz.l0.length d2, .bool rz.n1, .bool rz.s1, .slice G3 rz.l1.length d3] rfl rfl six_news (by simp [Value.oneCell']) (by omega) Hbase.out HN2.out six_noW six_noW ?_); intro v' wb hown' hgrow hfresh hnn)
              have hgB := (from_ (from_ Hbel.out Hb0.out) Hal.out).grown hgrow (from_ (from_ Hbel.out Hb0.out) Hal.out).size (fun b hb => (HO.out.lt b hb).1)
              obtain ⟨hiv', HO', HgB, HN'⟩ := hid4 (IvsP.snoc (p := rz) HI2.out HO2.out.1 hgrow hfresh HN2.out Hw0.out Hw1.out) hown' hgB hnn
              clear hgrow hfresh hown' hgB hnn c0 c1 c2 c3 c4 c5 HO2 HN2 HI2 Hw0 Hw1 Hbase Hal
              go_wp2
              go_roundw
              case rel => exact ⟨_, k + 1, _, qs ++ [rz], rfl, by omega, by go_num, HstT.out, by rw [List.length_append, List.length_singleton]; omega, by rw [List.length_append, List.length_singleton]; exact HO'.out, hiv'.out, HN'.out, HgB.out⟩
              case measure => simp [intOf]; omega
  · obtain rfl : k = 4 := by omega
    rw [overK_four] at hqs
    by_cases hne : partsP Q = []
    · have hq0 : qs = [] := by rw [hqs, overL_nil hne gq.le]; rfl
      subst hq0
      obtain ⟨A9, a9, rfl, _, _⟩ := hiv.fin hown
      rw [if_pos hne] at hr
      obtain ⟨e0, e1, e2, e3, e4, e5⟩ := zero_iv hr
      obtain rfl : gz = false := hgz.symm.trans (decide_eq_false (fun h => h hne))
      have HRr := hid (HR.out.below hbel)
      have HP := hid (HRr.out.box.put (w := w) (from_ HW0.out hbel) HgR.out (.bool false) (.bool false) (.slice none 0 0) (.bool false) (.bool false) (.slice none 0 0))
      obtain ⟨d0, d1, d2, d3, d4, d5, f0, f1, f2, f3, f4, f5, _⟩ := id HRr.out.box
      have He := hid (And.intro e0 (And.intro e1 (And.intro e2 (And.intro e3 (And.intro e4 e5)))))
      clear hown hiv hnn hqs hql hbel HA HC hne hgz hr e0 e1 e2 e3 e4 e5
      simp only [List.length_nil]
      go_wp2
      refine bodyPost_ret (res_itv2 rfl _ gR rfl HP.out.box) rfl ?_
      obtain ⟨e0, e1, e2, e3, e4, e5⟩ := He.out
      exact ⟨none, 0, none, 0, by rw [e0, e1, e2, e3, e4, e5]; rfl, by rw [e2]; exact U64s.nil _ _, by rw [e5]; exact U64s.nil _ _, HP.out.bel⟩
    · obtain ⟨hnil, hhull⟩ := overL_hull (gp.up (show N ≤ 32 by omega)) (gq.up (show N ≤ 32 by omega)) hne
      have hLok : ∀ e ∈ overL P Q, IvN 60 e.1 e.2 := fun e he => (overK_ok gp gq h1 (by omega) 4 e (by rw [overK_four]; exact he)).up (by omega)
      obtain ⟨A9, a9, rfl, hX, hXb⟩ := hiv.fin hown
      simp only [show ((4 : Nat) : Int) = 4 from rfl]
      obtain ⟨wE, hren⟩ : ∃ W, W = wr := ⟨_, rfl⟩
      subst hren
      rw [if_neg hne] at hr
      obtain rfl : gz = true := hgz.symm.trans (decide_eq_true hne)
      have hqpos : (qs.length : Int) ≠ 0 := by rw [hqs, fmOf_len]; have := List.length_pos_iff.2 hnil; omega
      have hqp2 : ((qs.length : Int) == 0) = false := beq_eq_false_iff_ne.2 hqpos
      obtain ⟨L, hL⟩ : ∃ L, overL P Q = L := ⟨_, rfl⟩
      rw [hL] at hnil hhull hLok hqs
      obtain ⟨n, hn⟩ : ∃ n, L.length = n := ⟨_, rfl⟩
      have hn0 : 0 < n := by rw [← hn]; exact List.length_pos_iff.2 hnil
      have hqn : qs.length = n := by rw [hqs, fmOf_len]; exact hn
      have hnx : n ≤ 5 := by omega
      have hi0 : (0 : Int) < (n : Int) := by omega
      rw [hqs] at hX
      obtain ⟨b9, o9, rfl, hlt9, hrow⟩ := RowAtN.of hX hn hn0
      obtain ⟨HLok, Hhull, Hhok, Hsucc, Hone, Hb9⟩ := hid6 (getD_ok hn hLok) ((hullJ_all hn hn0).trans hhull) (hullJ_ok hn hn0 hLok) (hullJ_succ hn) (hullJ_one hn hn0) (hXb b9 o9 rfl)
      obtain ⟨Hlt9, Hbel, HROW⟩ := hid3 hlt9 hbel hrow
      rw [hqn] at hqp2 ⊢
      clear hqpos hown hiv hX hXb hnn hqs hL hn hhull hLok hlt9 hbel hnil hql hqn hrow HA HC hgz hne
      obtain ⟨q0, F0, f0, F1, f1, c6, o0, o1, hq0⟩ := HROW.out 0 hn0
      obtain ⟨Hq0, Ho0, Ho1⟩ := hid3 hq0 o0 o1
      simp only [Nat.zero_mul, Nat.add_zero] at c6
      obtain ⟨x0, x1, x2, x3, x4, x5⟩ := c6
      clear hq0 o0 o1
      go_upto_region 21 with fail
      have BXo := hid (BX.new (t := 29) Ho0.out Ho1.out)
      obtain ⟨gO, hgO⟩ : ∃ g, g = wE.heap.size := ⟨_, rfl⟩
      rw [← hgO] at BXo
      obtain ⟨Hal, HgO, Hne9⟩ := hid3 ((Below.refl wE.heap.size wE).alloc (Nat.le_refl _) (.cells #[.bool q0.n0, .bool q0.s0, .slice F0 q0.l0.length f0, .bool q0.n1, .bool q0.s1, .slice F1 q0.l1.length f1] 29)) (show W0.heap.size ≤ gO by rw [hgO]; exact Hbel.out.size) (show b9 ≠ gO by have := Hlt9.out; omega)
      replace HROW := hid ((HROW.out.below Hal.out).off BXo.out.noU)
      have Hb2 := hid (from_ Hbel.out Hal.out)
      clear x0 x1 x2 x3 x4 x5 Hbel Ho0 Ho1 Hal Hlt9 Hb9 hi0
      generalize hV : wE.alloc (.cells #[.bool q0.n0, .bool q0.s0, .slice F0 q0.l0.length f0, .bool q0.n1, .bool q0.s1, .slice F1 q0.l1.length f1] 29) = W2 at *
      try simp only [← hgO]
      clear hV hgO
      have HS0 := hid (show IvW (hullJ L 1) q0 by rw [Hone.out]; exact Hq0.out)
      clear Hone Hq0
      go_wp2
      go_loopw [14] (fun i wr => ∃ (j : Nat), 1 ≤ j ∧ j ≤ n ∧ i = .int .i64 (j : Int) ∧ HullR W0 W2 wr gO L j) (fun i _ => n - (intOf i).toNat)
      case atStart => exact ⟨1, Nat.le_refl _, hn0, rfl, q0, _, _, _, _, HS0.out, BXo.out, Just.refl _ _, Hb2.out⟩
      case round =>
       clear HS0 BXo Hb2
       obtain ⟨j, hj1, hjn, rfl, s, E0, e0, E1, e1, hs_, hx_, hj_, hb_⟩ := hrel
       obtain ⟨Hs, BXs, HJ, Hbel⟩ := hid4 hs_ hx_ hj_ hb_
       clear hs_ hx_ hj_ hb_
       by_cases hlt : j < n
       · obtain ⟨s2, hs2⟩ : ∃ s, IvW (hullJ L (j + 1)) s := ⟨_, IvW.mk _⟩
         obtain ⟨q, F0, f0, F1, f1, c6, o0, o1, hq⟩ := (HROW.out.just HJ.out Hne9.out) j hlt
         have gs := Hhok.out j hj1 hjn
         have gq_ := HLok.out j hlt
         obtain ⟨EI, Hs2⟩ := hid2 (r16either_v (w := wr.drew) Hs.out gs (by omega) hq gq_ (by omega) (by rw [← Hsucc.out j hj1 hlt]; exact hs2) (BXs.out.u0.below bdr_) (BXs.out.u1.below bdr_) (o0.below bdr_) (o1.below bdr_)) hs2
         have hi3 : (j : Int) < (n : Int) := by omega
         have hi4 : (0 : Int) ≤ (j : Int) := by omega
         obtain ⟨x0, x1, x2, x3, x4, x5⟩ := c6
         obtain ⟨c0, c1, c2, c3, c4, c5, _, _, _, _, _, _, _⟩ := id BXs.out.box
         clear hs2 o0 o1 hq gs gq_
         go_upto_region 24 with fail
         go_still_tail 5, (by kernel_rfl)
         change wpList _ _ _ _ _ wr.drew
         clear c0 c1 c2 c3 c4 c5 x0 x1 x2 x3 x4 x5
         go_wp2_with fail
         refine EI.out.mono ?_
         rintro e w5 ⟨V0, v0, V1, v1, rfl, o2, o3, hc⟩
         obtain ⟨BX2, HJ2, Hb2⟩ := hid3 ((BXs.out.below bdr_).below hc) (HJ.out.drew.step hc) (from_ Hbel.out.drew hc)
         clear hc EI
         obtain ⟨c0, c1, c2, c3, c4, c5, f0, f1, f2, f3, f4, f5, _⟩ := id BX2.out.box
         obtain ⟨BX3, HJ3⟩ := hid2 (BX2.out.own (q := s2) o2 o3) (((((((HJ2.out.setCell 0 (.bool s2.n0)).setCell 1 (.bool s2.s0)).setCell 2 (.slice V0 s2.l0.length v0)).setCell 3 (.bool s2.n1)).setCell 4 (.bool s2.s1)).setCell 5 (.slice V1 s2.l1.length v1)))
         have Hb3 := hid (BX2.out.box.put Hb2.out HgO.out (.bool s2.n0) (.bool s2.s0) (.slice V0 s2.l0.length v0) (.bool s2.n1) (.bool s2.s1) (.slice V1 s2.l1.length v1)).bel
         clear o2 o3
         go_wp2
         go_roundw
         case rel => exact ⟨j + 1, by omega, by omega, by go_num, s2, _, _, _, _, Hs2.out, BX3.out, HJ3.out, Hb3.out⟩
         case measure => simp [intOf]; omega
       · obtain rfl : j = n := by omega
         have hs := Hs.out
         rw [Hhull.out] at hs
         obtain rfl : r = s := IvW.uniq hr hs
         have HRr := hid (HR.out.below Hbel.out)
         have HF := hid (HRr.out.own (q := r) BXs.out.u0 BXs.out.u1)
         have HP := hid (HRr.out.box.put (w := w) (from_ HW0.out Hbel.out) HgR.out (.bool r.n0) (.bool r.s0) (.slice E0 r.l0.length e0) (.bool r.n1) (.bool r.s1) (.slice E1 r.l1.length e1)).bel
         obtain ⟨c0, c1, c2, c3, c4, c5, _, _, _, _, _, _, _⟩ := id BXs.out.box
         have d0 := HRr.out.box.cf
         have n1 : ¬ gR = gO := by have := HgO.out; have := HR.out.box.lt; omega
         have n2 : ¬ gO = gR := by omega
         clear hs hr HROW HLok Hhull Hhok Hsucc Hs HJ Hbel HRr BXs HR HW0 HgR HgO Hne9 hjn hj1 hlt hk gp gq h1 hN hnx
         go_upto_region 25 with fail
         go_cut [5] (fun s5 wx => s5 = .bool true ∧ BX wx gR r E0 e0 E1 e1 ∧ Below w.heap.size w wx)
         case first =>
          go_wp2_with fail
          go_meet
          exact ⟨rfl, HF.out, HP.out⟩
         case rest =>
          obtain ⟨rfl, hF, hP⟩ := hcut
          obtain ⟨HF2, HP2⟩ := hid2 hF hP
          clear hF hP HF HP c0 c1 c2 c3 c4 c5 d0
          refine (‹∀ (a : Act) (w : World), Code.wp Tryz.prog Code.ret _ a w → _›) _ _ ?_
          refine wp_ret ?_
          change bodyPost _ _ _ _ _ _
          refine bodyPost_ret (res_itv2 rfl _ gR rfl HF2.out.box) rfl ?_
          exact ⟨_, _, _, _, rfl, HF2.out.u0, HF2.out.u1, HP2.out⟩
structure BM (W : World) (g : Nat) (s : Bool) (l : List Nat) (A : Option Addr) (a : Nat) : Prop where
 box : Box W g (.bool s) (.slice A l.length a)
 noU : NoU W g
 u : U64s W old A a l
theorem NoU.newM (w : World) (s : Bool) (A : Option Addr) (a c : Nat) (t : TypeId) : NoU (w.alloc (.cells #[.bool s, .slice A a c] t)) w.heap.size := noU_of_heap (heap_alloc_new w _) (by
 intro u hu n e
 subst e
 simp at hu)
section
variable {W W' : World} {g h : Nat} {r q : Iv} {s t : Bool} {l k : List Nat} {A B C D : Option Addr} {a b c d : Nat} {Z Y : Zone} {x0 x1 x2 x3 x4 x5 : Value}
theorem BM.below (H : BM W g s l A a) (hb : Below W.heap.size W W') : BM W' g s l A a := ⟨H.box.below hb, H.noU.below H.box.lt hb, H.u.below hb⟩
theorem BM.new {ty : TypeId} (u : U64s W Z A a l) : BM (W.alloc (.cells #[.bool s, .slice A l.length a] ty)) W.heap.size s l A a := ⟨Box.new W _ _ ty, NoU.newM W _ _ _ _ ty, (u.below ((Below.refl _ W).alloc (Nat.le_refl _) _)).mono (le_old _)⟩
theorem U64s.set2n (u : U64s W Z A c l) (H : NoU W g) (x y : Value) : U64s ((W.setCell ⟨g, 0, none⟩ x).setCell ⟨g, 1, none⟩ y) old A c l := (((u.offB H).set1 g 0 (fun h => h rfl) x).set1 g 1 (fun h => h rfl) y).mono (le_old _)
theorem NoU.oth2 (u : NoU W h) (hn : g ≠ h) (x y : Value) : NoU ((W.setCell ⟨g, 0, none⟩ x).setCell ⟨g, 1, none⟩ y) h := fun o n e => by
 rw [World.cell?_setCell_other _ _ _ _ (fun h => hn (by injection h)), World.cell?_setCell_other _ _ _ _ (fun h => hn (by injection h))] at e
 exact u o n e
theorem BM.own (H : BM W g s l A a) (u : U64s W Z B b k) : BM ((W.setCell ⟨g, 0, none⟩ (.bool t)).setCell ⟨g, 1, none⟩ (.slice B k.length b)) g t k B b :=
 ⟨H.box.own2 _ _, (H.noU.one H.box.c0 (fun n e => by cases e)).one (by rw [World.cell?_setCell_other _ _ _ _ (fun e => by injection e with _ e; cases e)]; exact H.box.c1) (fun n e => by cases e), u.set2n H.noU _ _⟩
theorem BX.oth2 (H : BX W h r A a B b) (hn : g ≠ h) (N : NoU W g) (x y : Value) : BX ((W.setCell ⟨g, 0, none⟩ x).setCell ⟨g, 1, none⟩ y) h r A a B b := ⟨H.box.st2 hn _ _, H.noU.oth2 hn _ _, H.u0.set2n N _ _, H.u1.set2n N _ _⟩
theorem BZ.oth2 (H : BZ W h) (hn : g ≠ h) (x y : Value) : BZ ((W.setCell ⟨g, 0, none⟩ x).setCell ⟨g, 1, none⟩ y) h := ⟨H.box.st2 hn _ _, H.noU.oth2 hn _ _⟩
theorem BZ.oth6 (H : BZ W h) (hn : g ≠ h) (y0 y1 y2 y3 y4 y5 : Value) : BZ ((((((W.setCell ⟨g, 0, none⟩ y0).setCell ⟨g, 1, none⟩ y1).setCell ⟨g, 2, none⟩ y2).setCell ⟨g, 3, none⟩ y3).setCell ⟨g, 4, none⟩ y4).setCell ⟨g, 5, none⟩ y5) h := ⟨H.box.oth6 hn _ _ _ _ _ _, H.noU.oth6 hn _ _ _ _ _ _⟩
end
def topI : Iv := ⟨true, false, [], true, false, []⟩
theorem topI_w : IvW (-bigZ, bigZ) topI := ⟨toZ_w.1, onZ_w.2⟩
theorem modM_top (h : IvN N Q.1 Q.2) (hN : N ≤ 60) (hb : Q.1 = -bigZ ∨ Q.2 = bigZ) : modM Q = bigZ := by
 have h0 := big_one
 have r1 := (h.lo.range (by omega))
 have r2 := (h.hi.range (by omega))
 have e : max (-Q.1) Q.2 = bigZ := by omega
 unfold modM plusE
 rw [e, if_neg (by omega), if_pos (.inl rfl)]
theorem modM_fin (h : IvN N Q.1 Q.2) (hN : N ≤ 60) (hb : ¬ (Q.1 = -bigZ ∨ Q.2 = bigZ)) : modM Q = max (-Q.1) Q.2 + -1 := by
 have h0 := big_one
 have r1 := (h.lo.range (by omega))
 have r2 := (h.hi.range (by omega))
 have n1 := h.nlo
 have n2 := h.nhi
 unfold modM plusE
 rw [if_neg (by omega), if_neg (by omega)]
theorem size_ok (h : IvN N Q.1 Q.2) (h0 : ¬ (Q.1 = 0 ∧ Q.2 = 0)) (hN : N ≤ 60) : IvN N ((-modM Q, modM Q) : IvP).1 ((-modM Q, modM Q) : IvP).2 := by
 obtain ⟨m1, m2, _, _⟩ := modM_ok h h0 hN
 have hb := bigZ_pos
 exact ⟨m1.neg, m1, by dsimp only; omega, by dsimp only; omega, by dsimp only; omega⟩
theorem len_of_ext (h : Ext bigZ (wN N) x) (hb : -bigZ < x ∧ x < bigZ) (n : Nm x s l) : l.length ≤ N := by
 have hp : Pl x 0 s l := .inl ⟨rfl, n, hb.1, hb.2⟩
 exact hp.len_of h
theorem v8_dr (e : V = W.drew) (hs : (C6 W g a0 a1 a2 a3 a4 a5) ∧ W.cell? ⟨h, 0, none⟩ = some b0 ∧ W.cell? ⟨h, 1, none⟩ = some b1) : (C6 V g a0 a1 a2 a3 a4 a5) ∧ V.cell? ⟨h, 0, none⟩ = some b0 ∧ V.cell? ⟨h, 1, none⟩ = some b1 := by
 subst e
 exact ⟨box6_keep hs.1 bdr_, keepC bdr_ hs.2.1, keepC bdr_ hs.2.2⟩
theorem v8_keep (hs : (C6 W g a0 a1 a2 a3 a4 a5) ∧ W.cell? ⟨h, 0, none⟩ = some b0 ∧ W.cell? ⟨h, 1, none⟩ = some b1) (hb : Below W.heap.size W V) : (C6 V g a0 a1 a2 a3 a4 a5) ∧ V.cell? ⟨h, 0, none⟩ = some b0 ∧ V.cell? ⟨h, 1, none⟩ = some b1 := ⟨box6_keep hs.1 hb, keepC hb hs.2.1, keepC hb hs.2.2⟩
theorem v2_st6 {r : Nat} (e : V = ((((((W.setCell ⟨r, 0, none⟩ x0).setCell ⟨r, 1, none⟩ x1).setCell ⟨r, 2, none⟩ x2).setCell ⟨r, 3, none⟩ x3).setCell ⟨r, 4, none⟩ x4).setCell ⟨r, 5, none⟩ x5)) (hn : r ≠ h) (hs : W.cell? ⟨h, 0, none⟩ = some b0 ∧ W.cell? ⟨h, 1, none⟩ = some b1) : V.cell? ⟨h, 0, none⟩ = some b0 ∧ V.cell? ⟨h, 1, none⟩ = some b1 := by
 subst e
 exact ⟨st6 hs.1 hn, st6 hs.2 hn⟩
theorem v2_dr (e : V = W.drew) (hs : W.cell? ⟨h, 0, none⟩ = some b0 ∧ W.cell? ⟨h, 1, none⟩ = some b1) : V.cell? ⟨h, 0, none⟩ = some b0 ∧ V.cell? ⟨h, 1, none⟩ = some b1 := by
 subst e
 exact ⟨keepC bdr_ hs.1, keepC bdr_ hs.2⟩
theorem r16rest_w (hp : IvW P p) (gp : IvN N P.1 P.2) (hq : IvW Q q) (gq : IvN N Q.1 Q.2) (hN : N ≤ 59) (h0 : ¬ (Q.1 = 0 ∧ Q.2 = 0)) (hr : IvW (modP P Q) r) (u1 : U64s w Z1 A a p.l0) (u2 : U64s w Z2 B b p.l1) (u3 : U64s w Z3 C c q.l0) (u4 : U64s w Z4 D d q.l1) :
  Calls Tryz.prog 45 #[.agg #[.bool p.n0, .bool p.s0, .slice A p.l0.length a, .bool p.n1, .bool p.s1, .slice B p.l1.length b], .agg #[.bool q.n0, .bool q.s0, .slice C q.l0.length c, .bool q.n1, .bool q.s1, .slice D q.l1.length d]] w fun e w' => ∃ rA ra rB rb, e = .returned (.agg #[.bool r.n0, .bool r.s0, .slice rA r.l0.length ra, .bool r.n1, .bool r.s1, .slice rB r.l1.length rb]) ∧ U64s w' old rA ra r.l0 ∧ U64s w' old rB rb r.l1 ∧ Below w.heap.size w w' := by
 obtain ⟨bA, bB, bR, hB0⟩ := boxX w (.bool p.n0) (.bool p.s0) (.slice A p.l0.length a) (.bool p.n1) (.bool p.s1) (.slice B p.l1.length b) (.bool q.n0) (.bool q.s0) (.slice C q.l0.length c) (.bool q.n1) (.bool q.s1) (.slice D q.l1.length d) (.bool false) (.bool false) (.slice none 0 0) (.bool false) (.bool false) (.slice none 0 0) 29
 have nR := NoU.new6 ((w.alloc (.cells #[.bool p.n0, .bool p.s0, .slice A p.l0.length a, .bool p.n1, .bool p.s1, .slice B p.l1.length b] 29)).alloc (.cells #[.bool q.n0, .bool q.s0, .slice C q.l0.length c, .bool q.n1, .bool q.s1, .slice D q.l1.length d] 29)) false false false false none none 0 0 0 0 29
 simp only [World.size_alloc] at nR
 have hal : Below (((w.alloc (.cells #[.bool p.n0, .bool p.s0, .slice A p.l0.length a, .bool p.n1, .bool p.s1, .slice B p.l1.length b] 29)).alloc (.cells #[.bool q.n0, .bool q.s0, .slice C q.l0.length c, .bool q.n1, .bool q.s1, .slice D q.l1.length d] 29)).alloc (.cells #[.bool false, .bool false, .slice none 0 0, .bool false, .bool false, .slice none 0 0] 29)).heap.size (((w.alloc (.cells #[.bool p.n0, .bool p.s0, .slice A p.l0.length a, .bool p.n1, .bool p.s1, .slice B p.l1.length b] 29)).alloc (.cells #[.bool q.n0, .bool q.s0, .slice C q.l0.length c, .bool q.n1, .bool q.s1, .slice D q.l1.length d] 29)).alloc (.cells #[.bool false, .bool false, .slice none 0 0, .bool false, .bool false, .slice none 0 0] 29)) ((((w.alloc (.cells #[.bool p.n0, .bool p.s0, .slice A p.l0.length a, .bool p.n1, .bool p.s1, .slice B p.l1.length b] 29)).alloc (.cells #[.bool q.n0, .bool q.s0, .slice C q.l0.length c, .bool q.n1, .bool q.s1, .slice D q.l1.length d] 29)).alloc (.cells #[.bool false, .bool false, .slice none 0 0, .bool false, .bool false, .slice none 0 0] 29)).alloc (.cells #[.bool true, .bool false, .slice none 0 0, .bool true, .bool false, .slice none 0 0] 29)) := bal_
 have bS : BX ((((w.alloc (.cells #[.bool p.n0, .bool p.s0, .slice A p.l0.length a, .bool p.n1, .bool p.s1, .slice B p.l1.length b] 29)).alloc (.cells #[.bool q.n0, .bool q.s0, .slice C q.l0.length c, .bool q.n1, .bool q.s1, .slice D q.l1.length d] 29)).alloc (.cells #[.bool false, .bool false, .slice none 0 0, .bool false, .bool false, .slice none 0 0] 29)).alloc (.cells #[.bool true, .bool false, .slice none 0 0, .bool true, .bool false, .slice none 0 0] 29)) (((w.alloc (.cells #[.bool p.n0, .bool p.s0, .slice A p.l0.length a, .bool p.n1, .bool p.s1, .slice B p.l1.length b] 29)).alloc (.cells #[.bool q.n0, .bool q.s0, .slice C q.l0.length c, .bool q.n1, .bool q.s1, .slice D q.l1.length d] 29)).alloc (.cells #[.bool false, .bool false, .slice none 0 0, .bool false, .bool false, .slice none 0 0] 29)).heap.size topI none 0 none 0 := BX.new (r := topI) (U64s.nil _ old) (U64s.nil _ old)
 obtain ⟨HA, HB, HR, BXs, Hb1⟩ := hid5 (bA.below hal) (bB.below hal) ((BZ.mk bR nR).below hal) bS (from_ hB0 hal)
 have e3 : (((w.alloc (.cells #[.bool p.n0, .bool p.s0, .slice A p.l0.length a, .bool p.n1, .bool p.s1, .slice B p.l1.length b] 29)).alloc (.cells #[.bool q.n0, .bool q.s0, .slice C q.l0.length c, .bool q.n1, .bool q.s1, .slice D q.l1.length d] 29)).alloc (.cells #[.bool false, .bool false, .slice none 0 0, .bool false, .bool false, .slice none 0 0] 29)).heap.size = w.heap.size + 3 := by simp
 rw [e3] at BXs
 have kq := hq.k gq (by omega)
 obtain ⟨sz, hszw⟩ : ∃ s, IvW (-modM Q, modM Q) s := ⟨_, IvW.mk _⟩
 have gsz := (size_ok gq h0 (by omega)).up (show N ≤ 60 by omega)
 obtain ⟨sd, hsd⟩ : ∃ s, IvW (ivJ P (0, 0)) s := ⟨_, IvW.mk _⟩
 have gsd := ivJ_ok gp (zero_ok (N := N))
 have hzw : IvW (0, 0) (⟨false, false, [], false, false, []⟩ : Iv) := ⟨onZ_w.1, toZ_w.2⟩
 have EI := fun (W : World) (Z3 Z4 : Zone) (E F : Option Addr) (e f : Nat) (h : Below w.heap.size w W) (u : U64s W Z3 E e []) (v : U64s W Z4 F f []) => r16either_v (q := ⟨false, false, [], false, false, []⟩) hp gp (by omega) hzw (zero_ok (N := 60)) (by omega) hsd (u1.below h) (u2.below h) u v
 simp only [List.length_nil] at EI
 replace EI := hid EI
 have hm0 := (modM_ok gq h0 (by omega)).2.1
 have hall : max (ivJ P (0, 0)).1 (-modM Q, modM Q).1 ≤ min (ivJ P (0, 0)).2 (-modM Q, modM Q).2 := by
  have h1 := gp.le
  simp only [ivJ]
  omega
 obtain ⟨BO, Hszw⟩ := hid2 (fun (W : World) (Z1 Z2 Z3 Z4 : Zone) (E F G H : Option Addr) (e f g h : Nat) (u1 : U64s W Z1 E e sd.l0) (u2 : U64s W Z2 F f sd.l1) (u3 : U64s W Z3 G g sz.l0) (u4 : U64s W Z4 H h sz.l1) => r16both_v (g := true) (r := r) hsd gsd (by omega) hszw gsz (by omega) (by rw [if_pos hall]; have h := rest_mod gp gq h0 (by omega); simp only [ivJ]; rw [h]; exact hr) (decide_eq_true hall) u1 u2 u3 u4) hszw
 have Hfin := hid (show q.n0 = false → q.n1 = false → ¬ (Q.1 = -bigZ ∨ Q.2 = bigZ) from fun e1 e2 h => by
  rw [hq.1.1] at e1
  rw [hq.2.1] at e2
  rcases h with h | h
  · have := of_decide_eq_false e1; exact this h
  · have := of_decide_eq_false e2; exact this h)
 have Htop := hid (show (q.n0 = true ∨ q.n1 = true) → sz = topI from fun h => by
  have hb : Q.1 = -bigZ ∨ Q.2 = bigZ := by
   rcases h with h | h
   · rw [hq.1.1] at h; exact .inl (of_decide_eq_true h)
   · rw [hq.2.1] at h; exact .inr (of_decide_eq_true h)
  rw [modM_top gq (by omega) hb] at hszw
  exact IvW.uniq hszw topI_w)
 have Hnm := hid (show ¬ (Q.1 = -bigZ ∨ Q.2 = bigZ) → Nm Q.1 q.s0 q.l0 ∧ Nm Q.2 q.s1 q.l1 from fun h => by
  have r1 := gq.lo.range (show N ≤ 64 by omega)
  have r2 := gq.hi.range (show N ≤ 64 by omega)
  have n1 := gq.nlo
  have n2 := gq.nhi
  have a1 := nm_e (n := Q.1) ⟨by omega, n1⟩
  have a2 := nm_e (n := Q.2) ⟨n2, by omega⟩
  exact ⟨⟨hq.1.2.1.trans a1.1, hq.1.2.2.trans a1.2⟩, hq.2.2.1.trans a2.1, hq.2.2.2.trans a2.2⟩)
 clear bA bB bR nR hB0 hal bS hp hq kq hszw gsz hsd gsd hzw hm0 hall e3
 obtain ⟨gR, hgR⟩ : ∃ g, g = w.heap.size + 2 := ⟨_, rfl⟩
 obtain ⟨gS, hgS⟩ : ∃ g, g = w.heap.size + 3 := ⟨_, rfl⟩
 rw [← hgR] at HR
 rw [← hgS] at BXs
 obtain ⟨HgR, HgS, NR, NA⟩ := hid4 (show w.heap.size ≤ gR by omega) (show w.heap.size ≤ gS by omega) (show gS ≠ gR by omega) (show gS ≠ w.heap.size by omega)
 go_enter Tryz.func45, Tryz.ntmps45
 go_upto_region 2 with fail
 (try simp only [show w.heap.size + 1 + 1 = w.heap.size + 2 from rfl, show w.heap.size + 2 + 1 = w.heap.size + 3 from rfl])
 simp only [show w.heap.size + 2 = gR from hgR.symm, show w.heap.size + 3 = gS from hgS.symm]
 clear hgR hgS
 generalize hW : ((((w.alloc (.cells #[.bool p.n0, .bool p.s0, .slice A p.l0.length a, .bool p.n1, .bool p.s1, .slice B p.l1.length b] 29)).alloc (.cells #[.bool q.n0, .bool q.s0, .slice C q.l0.length c, .bool q.n1, .bool q.s1, .slice D q.l1.length d] 29)).alloc (.cells #[.bool false, .bool false, .slice none 0 0, .bool false, .bool false, .slice none 0 0] 29)).alloc (.cells #[.bool true, .bool false, .slice none 0 0, .bool true, .bool false, .slice none 0 0] 29)) = W1 at *
 clear hW
 obtain ⟨b0, b1, b2, b3, b4, b5, _, _, _, _, _, _, _⟩ := id HB.out
 obtain ⟨n0, hn0⟩ : ∃ b, q.n0 = b := ⟨_, rfl⟩
 obtain ⟨n1, hn1⟩ : ∃ b, q.n1 = b := ⟨_, rfl⟩
 rw [hn0] at b0 Hfin Htop
 rw [hn1] at b3 Hfin Htop
 clear hn0 hn1
 go_cut [22] (fun s22 wx => s22 = .bool (!n0 && !n1) ∧ wx = W1)
 case first =>
  cases n0 <;> cases n1
  all_goals
   go_wp2_with fail
   go_meet
   exact ⟨rfl, rfl⟩
 case rest =>
  obtain ⟨rfl, hwc⟩ := hcut
  replace hwc := hwc.symm
  subst hwc
  clear b0 b1 b2 b3 b4 b5
  go_upto_if 22 with fail
  go_cut [] (fun wx => ∃ (S0 : Option Addr) (s0 : Nat) (S1 : Option Addr) (s1 : Nat), BX wx gS sz S0 s0 S1 s1 ∧ Box6 wx w.heap.size (.bool p.n0) (.bool p.s0) (.slice A p.l0.length a) (.bool p.n1) (.bool p.s1) (.slice B p.l1.length b) ∧ BZ wx gR ∧ Below w.heap.size w wx)
  case first =>
   cases n0 with
   | true =>
     have He := hid (Htop.out (.inl rfl))
     simp only [Bool.not_true, Bool.false_and]
     clear Htop Hfin
     go_wp2_with fail
     go_meet
     exact ⟨_, _, _, _, by rw [He.out]; exact BXs.out, HA.out, HR.out, Hb1.out⟩
   | false =>
     cases n1 with
     | true =>
       have He := hid (Htop.out (.inr rfl))
       simp only [Bool.not_true, Bool.not_false, Bool.and_false]
       clear Htop Hfin
       go_wp2_with fail
       go_meet
       exact ⟨_, _, _, _, by rw [He.out]; exact BXs.out, HA.out, HR.out, Hb1.out⟩
     | false =>
       have hfin := Hfin.out rfl rfl
       simp only [Bool.not_false, Bool.and_true]
       clear Htop Hfin
       obtain ⟨nq0, nq1⟩ := Hnm.out hfin
       obtain ⟨ts, tl, nt⟩ : ∃ s l, Nm (-Q.1) s l := ⟨_, _, rfl, rfl⟩
       obtain ⟨zs, zl, nz⟩ : ∃ s l, Nm (max (-Q.1) Q.2) s l := ⟨_, _, rfl, rfl⟩
       obtain ⟨os, ol, no⟩ : ∃ s l, Nm (-1 : Int) s l := ⟨_, _, rfl, rfl⟩
       obtain ⟨ms, ml, nm⟩ : ∃ s l, Nm (modM Q) s l := ⟨_, _, rfl, rfl⟩
       obtain ⟨vs, vl, nv⟩ : ∃ s l, Nm (-modM Q) s l := ⟨_, _, rfl, rfl⟩
       obtain ⟨em, em0, ez, ez1⟩ := modM_ok gq h0 (by omega)
       have hmf := modM_fin gq (by omega) hfin
       have fz : max (-Q.1) Q.2 < bigZ := by have := gq.nhi; have := gq.nlo; have := gq.lo.range (show N ≤ 64 by omega); have := gq.hi.range (show N ≤ 64 by omega); omega
       have hb1 := big_one
       have l0 := len_of_ext (N := N) gq.lo ⟨by have := gq.lo.range (show N ≤ 64 by omega); omega, gq.nlo⟩ nq0
       have l1 := len_of_ext (N := N) gq.hi ⟨gq.nhi, by have := gq.hi.range (show N ≤ 64 by omega); omega⟩ nq1
       have lt_ := len_of_ext (N := N) gq.lo.neg ⟨by have := gq.nlo; omega, by have := gq.lo.range (show N ≤ 64 by omega); omega⟩ nt
       have lz := len_of_ext (N := N) ez ⟨by omega, fz⟩ nz
       have lo_ : ol.length ≤ 1 := by rw [no.2]; exact len_limbs_le (by decide)
       have lm := len_of_ext (N := N) em ⟨by omega, by omega⟩ nm
       have lv := len_of_ext (N := N) em.neg ⟨by omega, by omega⟩ nv
       obtain ⟨gg, hgg⟩ : ∃ g, sgn (-Q.1 - Q.2) = g := ⟨_, rfl⟩
       obtain ⟨TB_, CM, OF, SM, TM, BW⟩ := hid6 (fun (W : World) (h : Below w.heap.size w W) => r5turned_v nq0 nt rfl (by omega) (u3.below h)) (fun (W : World) (Z : Zone) (E : Option Addr) (e : Nat) (h : Below w.heap.size w W) (v : U64s W Z E e tl) => r5compared_w nt nq1 hgg (by omega) (by omega) v (u4.below h)) (fun (W : World) => r05of_p (w := W) no (by omega)) (fun (W : World) (Z Y : Zone) (E F : Option Addr) (e f : Nat) (u : U64s W Z E e zl) (v : U64s W Y F f ol) => r5sum_n nz no nm hmf.symm (by omega) (by omega) u v) (fun (W : World) (Z : Zone) (E : Option Addr) (e : Nat) (u : U64s W Z E e ml) => r5turned_v nm nv rfl (by omega) u) (fun (W : World) (Z Y : Zone) (E F : Option Addr) (e f : Nat) (u : U64s W Z E e vl) (v : U64s W Y F f ml) => r16between_w nv nm (by omega) (by omega) u v)
       have Hz := hid (show ∀ b, decide (0 < gg) = b → (b = true → ts = zs ∧ tl = zl) ∧ (b = false → q.s1 = zs ∧ q.l1 = zl) from fun b hb => ⟨fun h => (by
        have h1 := of_decide_eq_true (hb.trans h)
        have e : -Q.1 = max (-Q.1) Q.2 := by rw [← hgg] at h1; unfold sgn at h1; split at h1 <;> (try split at h1) <;> omega
        rw [e] at nt
        exact ⟨nt.1.trans nz.1.symm, nt.2.trans nz.2.symm⟩), fun h => (by
        have h1 := of_decide_eq_false (hb.trans h)
        have e : Q.2 = max (-Q.1) Q.2 := by rw [← hgg] at h1; unfold sgn at h1; split at h1 <;> (try split at h1) <;> omega
        rw [e] at nq1
        exact ⟨nq1.1.trans nz.1.symm, nq1.2.trans nz.2.symm⟩)⟩)
       have Hsz := hid (show sz = ⟨false, vs, vl, false, ms, ml⟩ from by
        refine IvW.uniq Hszw.out ?_
        have a1 := nm_e (n := modM Q) ⟨by omega, by omega⟩
        have a2 := nm_e (n := -modM Q) ⟨by omega, by omega⟩
        exact ⟨⟨(decide_eq_false (by dsimp only; omega)).symm, nv.1.trans a2.1.symm, nv.2.trans a2.2.symm⟩, (decide_eq_false (by dsimp only; omega)).symm, nm.1.trans a1.1.symm, nm.2.trans a1.2.symm⟩)
       clear nt nz no nm nv nq0 nq1 em em0 ez ez1 hmf fz hb1 l0 l1 lt_ lz lo_ lm lv hgg hfin
       obtain ⟨b0, b1, b2, b3, b4, b5, _, _, _, _, _, _, _⟩ := id HB.out
       go_upto_region 4 with fail
       have BMm := hid (BM.new (W := W1) (ty := 25) (s := q.s1) (u4.below Hb1.out))
       obtain ⟨gM, hgM⟩ : ∃ g, g = W1.heap.size := ⟨_, rfl⟩
       rw [← hgM] at BMm
       obtain ⟨Hal, HgM, NSM, NSR, NSA, NSB⟩ := hid6 ((Below.refl W1.heap.size W1).alloc (Nat.le_refl _) (.cells #[.bool q.s1, .slice D q.l1.length d] 25)) (show w.heap.size ≤ gM by rw [hgM]; exact Hb1.out.size) (show gM ≠ gS by have := BXs.out.box.lt; omega) (show gM ≠ gR by have := HR.out.box.lt; omega) (show gM ≠ w.heap.size by have := HA.out.lt; omega) (show gM ≠ w.heap.size + 1 by have := HB.out.lt; omega)
       replace HA := hid (HA.out.below Hal.out)
       replace HB := hid (HB.out.below Hal.out)
       replace HR := hid (HR.out.below Hal.out)
       replace BXs := hid (BXs.out.below Hal.out)
       have Hb2 := hid (from_ Hb1.out Hal.out)
       clear b0 b1 b2 b3 b4 b5 Hb1 Hal
       generalize hV : W1.alloc (.cells #[.bool q.s1, .slice D q.l1.length d] 25) = W2 at *
       try simp only [← hgM]
       clear hV hgM
       have hs := And.intro HB.out.all (And.intro BMm.out.box.c0 BMm.out.box.c1)
       replace hs := v8_keep hs bdr_
       have Hc := hid (Below.refl W2.heap.size W2).drew
       go_cut [32] (fun s32 wx => s32 = .bool (decide (0 < gg)) ∧ Below W2.heap.size W2 wx)
       case first =>
        first | go_region_held3 (fun w' => (C6 w' (w.heap.size + 1) (.bool q.n0) (.bool q.s0) (.slice C q.l0.length c) (.bool q.n1) (.bool q.s1) (.slice D q.l1.length d)) ∧ w'.cell? ⟨gM, 0, none⟩ = some (.bool q.s1) ∧ w'.cell? ⟨gM, 1, none⟩ = some (.slice D q.l1.length d))
         (first | with_reducible exact hs | (with_reducible apply v8_dr rfl; with_reducible exact hs))
         (((first
           | (go_at_call 89; with_reducible refine (TB_.out _ (from_ Hb2.out Hc.out)).mono ?_; rintro e w3 ⟨E1, e1, rfl, x1, hc2⟩)
           | (go_at_call 88; with_reducible refine (CM.out _ _ _ _ (from_ Hb2.out Hc.out) x1).mono ?_; rintro e w4 ⟨rfl, hc2⟩)); replace hs := v8_keep hs hc2; replace Hc := hid (from_ Hc.out hc2))) | fail
        all_goals
         clear hs
         go_wp2_with fail
         go_meet
         exact ⟨rfl, Hc.out⟩
       case rest =>
        clear hs Hc CM
        obtain ⟨rfl, hbel2⟩ := hcut
        obtain ⟨bG, hbG⟩ : ∃ b, decide (0 < gg) = b := ⟨_, rfl⟩
        obtain ⟨hz1, hz2⟩ := Hz.out bG hbG
        obtain ⟨Hz1, Hz2⟩ := hid2 hz1 hz2
        rw [hbG]
        replace HA := hid (HA.out.below hbel2)
        replace HB := hid (HB.out.below hbel2)
        replace HR := hid (HR.out.below hbel2)
        replace BXs := hid (BXs.out.below hbel2)
        replace BMm := hid (BMm.out.below hbel2)
        replace Hb2 := hid (from_ Hb2.out hbel2)
        clear hbel2 hbG hz1 hz2 Hz
        obtain ⟨W3, hren⟩ : ∃ W, W = wc := ⟨_, rfl⟩
        subst hren
        go_upto_if 32 with fail
        go_cut [] (fun wx => ∃ (E : Option Addr) (e : Nat), BM wx gM zs zl E e ∧ BX wx gS topI none 0 none 0 ∧ Box6 wx w.heap.size (.bool p.n0) (.bool p.s0) (.slice A p.l0.length a) (.bool p.n1) (.bool p.s1) (.slice B p.l1.length b) ∧ BZ wx gR ∧ Below w.heap.size w wx)
        case first =>
         cases bG with
         | false =>
           obtain ⟨e1, e2⟩ := Hz2.out rfl
           rw [e1, e2] at BMm
           have BMn := BMm
           clear BMm e1 e2 Hz1 Hz2
           go_wp2_with fail
           go_meet
           exact ⟨_, _, BMn.out, BXs.out, HA.out, HR.out, Hb2.out⟩
         | true =>
           obtain ⟨e1, e2⟩ := Hz1.out rfl
           have He := hid (And.intro e1 e2)
           clear e1 e2 Hz1 Hz2
           obtain ⟨b0, b1, b2, b3, b4, b5, _, _, _, _, _, _, _⟩ := id HB.out
           go_wp2_with fail
           refine (TB_.out _ Hb2.out).mono ?_
           rintro e w4 ⟨E1, e1, rfl, x1, hc⟩
           replace HA := hid (HA.out.below hc)
           replace HB := hid (HB.out.below hc)
           replace HR := hid (HR.out.below hc)
           replace BXs := hid (BXs.out.below hc)
           replace BMm := hid (BMm.out.below hc)
           replace Hb2 := hid (from_ Hb2.out hc)
           clear hc b0 b1 b2 b3 b4 b5
           have BMn := hid (show BM ((w4.setCell ⟨gM, 0, none⟩ (.bool ts)).setCell ⟨gM, 1, none⟩ (.slice E1 tl.length e1)) gM zs zl E1 e1 from by
            have h := BMm.out.own (t := ts) x1
            rw [← He.out.1, ← He.out.2]
            exact h)
           have HbN := hid (BMm.out.box.put Hb2.out HgM.out (.bool ts) (.slice E1 tl.length e1)).bel
           obtain ⟨BXn, HRn, HAn⟩ := hid3 (BXs.out.oth2 NSM.out BMm.out.noU (.bool ts) (.slice E1 tl.length e1)) (HR.out.oth2 NSR.out (.bool ts) (.slice E1 tl.length e1)) (HA.out.st2 NSA.out (.bool ts) (.slice E1 tl.length e1))
           obtain ⟨c0, c1, f0, f1, _⟩ := id BMm.out.box
           clear x1
           go_wp2_with fail
           go_meet
           exact ⟨_, _, BMn.out, BXn.out, HAn.out, HRn.out, HbN.out⟩
        case rest =>
         clear TB_ Hz1 Hz2 BMm BXs HA HR Hb2 HB NSB
         obtain ⟨M0, m0, hbm, hbx, hba, hbr, hbel2⟩ := hcut
         obtain ⟨BMm, BXs, HA, HR, Hb2⟩ := hid5 hbm hbx hba hbr hbel2
         clear hbm hbx hba hbr hbel2
         obtain ⟨W4, hren⟩ : ∃ W, W = wc := ⟨_, rfl⟩
         subst hren
         go_upto_region 6 with fail
         go_cut [] (fun wx => ∃ (E : Option Addr) (e : Nat), BM wx gM ms ml E e ∧ BX wx gS topI none 0 none 0 ∧ Box6 wx w.heap.size (.bool p.n0) (.bool p.s0) (.slice A p.l0.length a) (.bool p.n1) (.bool p.s1) (.slice B p.l1.length b) ∧ BZ wx gR ∧ Below w.heap.size w wx)
         case first =>
          have HT := And.intro BMm.out.box.c0 BMm.out.box.c1
          replace HT := And.intro (keepC (Below.refl _ W4).drew HT.1) (keepC (Below.refl _ W4).drew HT.2)
          refine wp_region_L (fun _ : World => True) (fun w' : World => w'.cell? ⟨gM, 0, none⟩ = some (.bool zs) ∧ w'.cell? ⟨gM, 1, none⟩ = some (.slice M0 zl.length m0)) 2 (by kernel_rfl) ?_
          show wpAnyL _ _ _ _ _ _ _ 4 _ _ _
          replace HT := And.intro trivial HT
          refine wpAnyL_take (i := 0) (v := ?_) rfl (by kernel_rfl) (by kernel_rfl) (by kernel_rfl) (fun _ _ _ h => h) (by kernel_rfl) (by rfl) (by rfl) (Or.inl ⟨by rfl, ?_⟩) HT ?_
          rotate_left
          · intro w' hSw; (try dsimp only at hSw); go_simp; (try with_reducible rfl)
          try simp only [Act.put, List.setIfInBounds_toArray, List.set_cons_zero, List.set_cons_succ]
          refine anyL_one (i := 1) (by kernel_rfl) (wpOp_step rfl (by rfl) fun K hK => ?_)
          go_simp
          refine (OF.out _).mono ?_
          rintro e w5 ⟨F1, f1_, rfl, x1, hc⟩
          have tT := And.intro (keepC hc HT.2.1) (keepC hc HT.2.2)
          replace BMm := hid (BMm.out.below bdr_)
          replace BXs := hid (BXs.out.below bdr_)
          replace HA := hid (HA.out.below bdr_)
          replace HR := hid (HR.out.below bdr_)
          replace BMm := hid (BMm.out.below hc)
          replace BXs := hid (BXs.out.below hc)
          replace HA := hid (HA.out.below hc)
          replace HR := hid (HR.out.below hc)
          replace Hb2 := hid (from_ Hb2.out.drew hc)
          refine hK _ _ ⟨⟨trivial, fun _ => tT⟩, ?_⟩
          clear hK K hc HT tT
          try simp only [Act.put, List.setIfInBounds_toArray, List.set_cons_zero, List.set_cons_succ]
          refine anyL_last (by kernel_rfl) (by rfl) (wpOp_step rfl (by rfl) fun K hK => ?_)
          go_simp
          refine (SM.out _ _ _ _ _ _ _ BMm.out.u x1).mono ?_
          rintro e w6 ⟨F2, f2_, rfl, x2, hc⟩
          replace BMm := hid (BMm.out.below hc)
          replace BXs := hid (BXs.out.below hc)
          replace HA := hid (HA.out.below hc)
          replace HR := hid (HR.out.below hc)
          replace Hb2 := hid (from_ Hb2.out hc)
          have BMn := hid (BMm.out.own (t := ms) x2)
          have HbN := hid (BMm.out.box.put Hb2.out HgM.out (.bool ms) (.slice F2 ml.length f2_)).bel
          obtain ⟨BXn, HRn, HAn⟩ := hid3 (BXs.out.oth2 NSM.out BMm.out.noU (.bool ms) (.slice F2 ml.length f2_)) (HR.out.oth2 NSR.out (.bool ms) (.slice F2 ml.length f2_)) (HA.out.st2 NSA.out (.bool ms) (.slice F2 ml.length f2_))
          obtain ⟨c0, c1, f0, f1, _⟩ := id BMm.out.box
          refine hK _ _ ⟨trivial, ?_⟩
          clear hK K hc x1 x2
          try simp only [Act.put, List.setIfInBounds_toArray, List.set_cons_zero, List.set_cons_succ]
          refine anyH_one (i := 3) (by kernel_rfl) (wpOp_step rfl (by rfl) fun K hK => ?_)
          go_simp
          refine hK _ _ ⟨trivial, ?_⟩
          clear hK K c0 c1 f0 f1
          try simp only [Act.put, List.setIfInBounds_toArray, List.set_cons_zero, List.set_cons_succ]
          refine wpAnyH_done (by kernel_rfl) ?_ _
          go_wp2_with fail
          go_meet
          exact ⟨_, _, BMn.out, BXn.out, HAn.out, HRn.out, HbN.out⟩
         case rest =>
          clear BMm BXs HA HR Hb2 OF SM M0 m0
          obtain ⟨M0, m0, hbm, hbx, hba, hbr, hbel2⟩ := hcut
          obtain ⟨BMm, BXs, HA, HR, Hb2⟩ := hid5 hbm hbx hba hbr hbel2
          clear hbm hbx hba hbr hbel2
          obtain ⟨W5, hren⟩ : ∃ W, W = wc := ⟨_, rfl⟩
          subst hren
          go_upto_region 7 with fail
          have hs := And.intro BMm.out.box.c0 BMm.out.box.c1
          replace hs := And.intro (keepC (Below.refl _ W5).drew hs.1) (keepC (Below.refl _ W5).drew hs.2)
          replace BMm := hid (BMm.out.below bdr_)
          replace BXs := hid (BXs.out.below bdr_)
          replace HA := hid (HA.out.below bdr_)
          replace HR := hid (HR.out.below bdr_)
          have Hc := hid (from_ Hb2.out (Below.refl _ W5).drew)
          first | go_region_held3 (fun w' => w'.cell? ⟨gM, 0, none⟩ = some (.bool ms) ∧ w'.cell? ⟨gM, 1, none⟩ = some (.slice M0 ml.length m0))
           (first | with_reducible exact hs | (with_reducible apply v2_st6 rfl NSM.out.symm; with_reducible exact hs) | (with_reducible apply v2_dr rfl; with_reducible exact hs))
           (first
            | (go_at_call 89; with_reducible refine (TM.out _ _ _ _ BMm.out.u).mono ?_; rintro e w7 ⟨E1, e1, rfl, x1, hc2⟩; replace hs := And.intro (keepC hc2 hs.1) (keepC hc2 hs.2); replace BMm := hid (BMm.out.below hc2); replace BXs := hid (BXs.out.below hc2); replace HA := hid (HA.out.below hc2); replace HR := hid (HR.out.below hc2); replace Hc := hid (from_ Hc.out hc2))
            | (go_at_call 48; with_reducible refine (BW.out _ _ _ _ _ _ _ x1 BMm.out.u).mono ?_; rintro e w8 ⟨E2, e2, E3, e3, rfl, x2, x3, hc2⟩; replace hs := And.intro (keepC hc2 hs.1) (keepC hc2 hs.2); replace BMm := hid (BMm.out.below hc2); replace BXs := hid (BXs.out.below hc2); replace HA := hid (HA.out.below hc2); replace HR := hid (HR.out.below hc2); replace Hc := hid (from_ Hc.out hc2); obtain ⟨g0, g1, g2, g3, g4, g5, f0, f1, f2, f3, f4, f5, _⟩ := id BXs.out.box)) | fail
          all_goals
           have BXn := hid (BXs.out.own (q := ⟨false, vs, vl, false, ms, ml⟩) x2 x3)
           have HbN := hid (BXs.out.box.put Hc.out HgS.out (.bool false) (.bool vs) (.slice E2 vl.length e2) (.bool false) (.bool ms) (.slice E3 ml.length e3)).bel
           obtain ⟨HRn, HAn⟩ := hid2 (HR.out.oth6 NR.out (.bool false) (.bool vs) (.slice E2 vl.length e2) (.bool false) (.bool ms) (.slice E3 ml.length e3)) (HA.out.oth6 NA.out (.bool false) (.bool vs) (.slice E2 vl.length e2) (.bool false) (.bool ms) (.slice E3 ml.length e3))
           clear x2 x3 hs
           go_wp2_with fail
           go_meet
           exact ⟨_, _, _, _, by rw [Hsz.out]; exact BXn.out, HAn.out, HRn.out, HbN.out⟩
  case rest =>
   clear HA HR BXs HB Hb1 Hfin Htop Hnm Hszw
   obtain ⟨S0, s0, S1, s1, hbx, hba, hbr, hbel2⟩ := hcut
   obtain ⟨BXs, HA, HR, Hb2⟩ := hid4 hbx hba hbr hbel2
   clear hbx hba hbr hbel2
   obtain ⟨W6, hren⟩ : ∃ W, W = wc := ⟨_, rfl⟩
   subst hren
   go_upto_region 8 with fail
   have hs0 := HA.out.all
   have hs := box6_keep hs0 bdr_
   have Hc0 := hid (Below.refl W6.heap.size W6)
   have Hc := hid (Below.refl W6.heap.size W6).drew
   have hla := HA.out.lt
   go_cut [7] (fun s7 wx => ∃ (gx : Nat) (A : Option Addr) (a : Nat) (B : Option Addr) (b : Nat), s7 = .pointer (some ⟨gx, 0, none⟩) ∧ ResB W6 wx gx sd A a B b)
   case first =>
    first | go_region_held3 (fun w' => C6 w' w.heap.size (.bool p.n0) (.bool p.s0) (.slice A p.l0.length a) (.bool p.n1) (.bool p.s1) (.slice B p.l1.length b))
     ((repeat' (first | with_reducible apply v6_al rfl | with_reducible apply v6_st6 rfl)) <;> (first | with_reducible exact hs | (with_reducible apply v6_dr rfl; (repeat' (with_reducible apply v6_al rfl)); with_reducible exact hs0) | omega))
     (((first
       | (go_at_call 44; (first | (with_reducible refine (r16zero_w).mono ?_) | (with_reducible refine (r16zero_w).mono ?_) | (with_reducible refine (r16zero_w).mono ?_)); rintro e w2 ⟨E1, e1, E2, e2, rfl, x1, x2, hc2⟩)
       | (go_at_call 51; (first | (with_reducible refine (EI.out _ _ _ _ _ _ _ (from_ Hb2.out Hc.out) x1 x2).mono ?_) | (with_reducible refine (EI.out _ _ _ _ _ _ _ (from_ Hb2.out (from_ Hc.out bal_)) (x1.below bal_) (x2.below bal_)).mono ?_) | (with_reducible refine (EI.out _ _ _ _ _ _ _ (from_ Hb2.out (from_ (from_ Hc0.out bal_) bdr_)) x1 x2).mono ?_)); rintro e w2 ⟨T0, t0, T1, t1, rfl, o0, o1, hc2⟩)); (first | (with_reducible have hx := box6_keep hs hc2; have hb := hid (from_ Hc.out hc2); (try replace HF := hid (HF.out.below hc2)); skip) | (with_reducible have z1 := Hc.out.size; have hx := box6_keep (box6_keep hs bal_) hc2; have hb := hid (from_ (from_ Hc.out bal_) hc2); have HF := hid ((BZ.new _ 29).below hc2); skip) | (with_reducible have z1 := Hc0.out.size; have hx := box6_keep (box6_keep (box6_keep hs0 bal_) bdr_) hc2; have hb := hid (from_ (from_ (from_ Hc0.out bal_) bdr_) hc2); have HF := hid (((BZ.new _ 29).below bdr_).below hc2))); replace hs := hx; replace Hc := hb; clear hx hb; (try clear e0 e1 e2 e3 e4 e5 f0 f1 f2 f3 f4 f5); (try obtain ⟨e0, e1, e2, e3, e4, e5, f0, f1, f2, f3, f4, f5, _⟩ := id HF.out.box); clear hc2)) | fail
    all_goals
     clear hs hs0
     go_wp2_with fail
     go_meet
     (first | exact ⟨_, _, _, _, _, rfl, by with_reducible exact ResB.nw Hc.out o0 o1⟩ | exact ⟨_, _, _, _, _, rfl, by with_reducible exact ResB.ol Hc.out HF.out (by omega) o0 o1⟩)
   case rest =>
    clear hs hs0 Hc Hc0 hla EI
    obtain ⟨gx, X0, x0, X1, x1, rfl, hR⟩ := hcut
    have BXx := hid hR.box
    replace BXs := hid (BXs.out.below hR.bel)
    replace HR := hid (HR.out.below hR.bel)
    replace Hb2 := hid (from_ Hb2.out hR.bel)
    clear hR HA
    obtain ⟨W7, hren⟩ : ∃ W, W = wc := ⟨_, rfl⟩
    subst hren
    obtain ⟨c0, c1, c2, c3, c4, c5, _, _, _, _, _, _, _⟩ := id BXx.out.box
    obtain ⟨d0, d1, d2, d3, d4, d5, _, _, _, _, _, _, _⟩ := id BXs.out.box
    go_wp2_with fail
    refine (BO.out _ _ _ _ _ _ _ _ _ _ _ _ _ BXx.out.u0 BXx.out.u1 BXs.out.u0 BXs.out.u1).mono ?_
    rintro e w9 ⟨Y0, y0, Y1, y1, rfl, o0, o1, hc⟩
    clear c0 c1 c2 c3 c4 c5 d0 d1 d2 d3 d4 d5
    go_upto_region 10 with fail
    obtain ⟨Hal, BXo⟩ := hid2 ((Below.refl w9.heap.size w9).alloc (Nat.le_refl _) (.cells #[.bool r.n0, .bool r.s0, .slice Y0 r.l0.length y0, .bool r.n1, .bool r.s1, .slice Y1 r.l1.length y1] 29)) (BX.new (t := 29) o0 o1)
    obtain ⟨gO, hgO⟩ : ∃ g, g = w9.heap.size := ⟨_, rfl⟩
    rw [← hgO] at BXo
    replace HR := hid (HR.out.below hc)
    have n1 : ¬ gR = gO := by have := HR.out.box.lt; omega
    have n2 : ¬ gO = gR := by omega
    replace HR := hid (HR.out.below Hal.out)
    replace Hb2 := hid (from_ (from_ Hb2.out hc) Hal.out)
    clear hc o0 o1 Hal BXx BXs BO
    generalize hV : w9.alloc (.cells #[.bool r.n0, .bool r.s0, .slice Y0 r.l0.length y0, .bool r.n1, .bool r.s1, .slice Y1 r.l1.length y1] 29) = W8 at *
    try simp only [← hgO]
    clear hV hgO
    have HF := hid (HR.out.own (q := r) BXo.out.u0 BXo.out.u1)
    have HP := hid (HR.out.box.put (w := w) Hb2.out HgR.out (.bool r.n0) (.bool r.s0) (.slice Y0 r.l0.length y0) (.bool r.n1) (.bool r.s1) (.slice Y1 r.l1.length y1)).bel
    obtain ⟨c0, c1, c2, c3, c4, c5, _, _, _, _, _, _, _⟩ := id BXo.out.box
    have d0 := HR.out.box.cf
    go_cut [] (fun wx => BX wx gR r Y0 y0 Y1 y1 ∧ Below w.heap.size w wx)
    case first =>
     go_wp2_with fail
     go_meet
     exact ⟨HF.out, HP.out⟩
    case rest =>
     obtain ⟨hF, hP⟩ := hcut
     obtain ⟨HF2, HP2⟩ := hid2 hF hP
     clear hF hP HF HP c0 c1 c2 c3 c4 c5 d0
     refine (‹∀ (a : Act) (w : World), Code.wp Tryz.prog Code.ret _ a w → _›) _ _ ?_
     refine wp_ret ?_
     change bodyPost _ _ _ _ _ _
     refine bodyPost_ret (res_itv rfl _ gR rfl HF2.out.box) rfl ?_
     exact ⟨_, _, _, _, rfl, HF2.out.u0, HF2.out.u1, HP2.out⟩
theorem r16all_bad {F : Nat} (hF : F = 7 ∨ F = 9 ∨ F = 11 ∨ F = 13 ∨ F = 15 ∨ F = 17) (u1 : U64s w Z1 A a p.l0) (u2 : U64s w Z2 B b p.l1) (u3 : U64s w Z3 C c q.l0) (u4 : U64s w Z4 D d q.l1) (q1 : p.l0.length ≤ 60) (q2 : p.l1.length ≤ 60) (q3 : q.l0.length ≤ 60) (q4 : q.l1.length ≤ 60) (hb : ¬ (p.ok = true ∧ q.ok = true)) :
  Calls Tryz.prog F #[.agg #[.bool p.n0, .bool p.s0, .slice A p.l0.length a, .bool p.n1, .bool p.s1, .slice B p.l1.length b], .agg #[.bool q.n0, .bool q.s0, .slice C q.l0.length c, .bool q.n1, .bool q.s1, .slice D q.l1.length d]] w fun e w' => e = .returned (.tuple #[.agg #[.bool false, .bool false, .slice none 0 0, .bool false, .bool false, .slice none 0 0], .int .i64 8]) ∧ Below w.heap.size w w' := by
 obtain ⟨bA, bB, bR, hB0⟩ := boxX w (.bool p.n0) (.bool p.s0) (.slice A p.l0.length a) (.bool p.n1) (.bool p.s1) (.slice B p.l1.length b) (.bool q.n0) (.bool q.s0) (.slice C q.l0.length c) (.bool q.n1) (.bool q.s1) (.slice D q.l1.length d) (.bool false) (.bool false) (.slice none 0 0) (.bool false) (.bool false) (.slice none 0 0) 29
 have nR := NoU.new6 ((w.alloc (.cells #[.bool p.n0, .bool p.s0, .slice A p.l0.length a, .bool p.n1, .bool p.s1, .slice B p.l1.length b] 29)).alloc (.cells #[.bool q.n0, .bool q.s0, .slice C q.l0.length c, .bool q.n1, .bool q.s1, .slice D q.l1.length d] 29)) false false false false none none 0 0 0 0 29
 rw [World.size_alloc, World.size_alloc] at nR
 obtain ⟨TW, HA, HBb, HR, HN, HB⟩ := hid6 (fun (W : World) (h : Below w.heap.size w W) => r16two_any (w := W) (n0 := p.n0) (s0 := p.s0) (n1 := p.n1) (s1 := p.s1) (m0 := q.n0) (t0 := q.s0) (m1 := q.n1) (t1 := q.s1) (u1.below h) (u2.below h) (u3.below h) (u4.below h) q1 q2 q3 q4 rfl rfl) bA bB bR (show NoU _ (w.heap.size + 2) from nR) hB0
 have a0 := bA.all
 have b0 := bB.all
 rw [show errA2 (okA p.n0 p.s0 p.l0 p.n1 p.s1 p.l1) (okA q.n0 q.s0 q.l0 q.n1 q.s1 q.l1) = 8 from errA2_bad hb] at TW
 clear u1 u2 u3 u4 q1 q2 q3 q4 nR bR hB0 hb
 rcases hF with rfl | rfl | rfl | rfl | rfl | rfl
 all_goals
  (first | (go_enter Tryz.func7, Tryz.ntmps7) | (go_enter Tryz.func9, Tryz.ntmps9) | (go_enter Tryz.func11, Tryz.ntmps11) | (go_enter Tryz.func13, Tryz.ntmps13) | (go_enter Tryz.func15, Tryz.ntmps15) | (go_enter Tryz.func17, Tryz.ntmps17))
  go_wp2_with fail
  refine (TW.out _ HB.out).mono ?_
  rintro e w1 ⟨rfl, hc⟩
  clear a0 b0 TW
  replace HN := hid (HN.out.below HR.out.lt hc)
  replace HA := hid (HA.out.below hc)
  replace HBb := hid (HBb.out.below hc)
  replace HR := hid (HR.out.below hc)
  replace HB := hid (from_ HB.out hc)
  clear hc
  have HP := hid (HR.out.put HB.out (show w.heap.size ≤ w.heap.size + 2 by omega) (.bool false) (.bool false) (.slice none 0 0) (.bool false) (.bool false) (.slice none 0 0))
  have g0 := HR.out.cf
  go_wp2
  refine bodyPost_ret (res_itv2 rfl _ (w.heap.size + 2) rfl HP.out.box) rfl ?_
  exact ⟨by first | rfl | trivial, HP.out.bel⟩
theorem r16mul_good (u1 : U64s w Z1 A a p.l0) (u2 : U64s w Z2 B b p.l1) (u3 : U64s w Z3 C c q.l0) (u4 : U64s w Z4 D d q.l1) (q1 : p.l0.length ≤ 60) (q2 : p.l1.length ≤ 60) (q3 : q.l0.length ≤ 60) (q4 : q.l1.length ≤ 60) (h1 : p.ok = true) (h2 : q.ok = true) (hp : IvW P p) (gp : IvN N P.1 P.2) (hq : IvW Q q) (gq : IvN N Q.1 Q.2) (hN1 : 1 ≤ N) (hN : N ≤ 28) (hr : IvW (ivM P Q) r) :
  Calls Tryz.prog 9 #[.agg #[.bool p.n0, .bool p.s0, .slice A p.l0.length a, .bool p.n1, .bool p.s1, .slice B p.l1.length b], .agg #[.bool q.n0, .bool q.s0, .slice C q.l0.length c, .bool q.n1, .bool q.s1, .slice D q.l1.length d]] w fun e w' => ∃ rA ra rB rb, e = .returned (.tuple #[.agg #[.bool r.n0, .bool r.s0, .slice rA r.l0.length ra, .bool r.n1, .bool r.s1, .slice rB r.l1.length rb], .int .i64 0]) ∧ U64s w' old rA ra r.l0 ∧ U64s w' old rB rb r.l1 ∧ Below w.heap.size w w' := by
 obtain ⟨bA, bB, bR, hB0⟩ := boxX w (.bool p.n0) (.bool p.s0) (.slice A p.l0.length a) (.bool p.n1) (.bool p.s1) (.slice B p.l1.length b) (.bool q.n0) (.bool q.s0) (.slice C q.l0.length c) (.bool q.n1) (.bool q.s1) (.slice D q.l1.length d) (.bool false) (.bool false) (.slice none 0 0) (.bool false) (.bool false) (.slice none 0 0) 29
 have nR := NoU.new6 ((w.alloc (.cells #[.bool p.n0, .bool p.s0, .slice A p.l0.length a, .bool p.n1, .bool p.s1, .slice B p.l1.length b] 29)).alloc (.cells #[.bool q.n0, .bool q.s0, .slice C q.l0.length c, .bool q.n1, .bool q.s1, .slice D q.l1.length d] 29)) false false false false none none 0 0 0 0 29
 rw [World.size_alloc, World.size_alloc] at nR
 obtain ⟨TW, EI, HA, HBb, HR, HN⟩ := hid6 (fun (W : World) (h : Below w.heap.size w W) => r16two_any (w := W) (n0 := p.n0) (s0 := p.s0) (n1 := p.n1) (s1 := p.s1) (m0 := q.n0) (t0 := q.s0) (m1 := q.n1) (t1 := q.s1) (u1.below h) (u2.below h) (u3.below h) (u4.below h) q1 q2 q3 q4 h1 h2) (fun (W : World) (h : Below w.heap.size w W) => r16times_w hp gp hq gq hN1 hN hr (u1.below h) (u2.below h) (u3.below h) (u4.below h)) bA bB bR (show NoU _ (w.heap.size + 2) from nR)
 have HB := hid hB0
 obtain ⟨a0, a1, a2, a3, a4, a5, _, _, _, _, _, _, _⟩ := bA
 obtain ⟨b0, b1, b2, b3, b4, b5, _, _, _, _, _, _, _⟩ := bB
 rw [show errA2 true true = 0 by decide] at TW
 clear u1 u2 u3 u4 q1 q2 q3 q4 nR bR hB0 h1 h2 hp gp hq gq hr
 go_enter Tryz.func9, Tryz.ntmps9
 go_wp2_with fail
 refine (TW.out _ HB.out).mono ?_
 rintro e w1 ⟨rfl, hc⟩
 clear a0 a1 a2 a3 a4 a5 b0 b1 b2 b3 b4 b5 TW
 replace HN := hid (HN.out.below HR.out.lt hc)
 replace HA := hid (HA.out.below hc)
 replace HBb := hid (HBb.out.below hc)
 replace HR := hid (HR.out.below hc)
 replace HB := hid (from_ HB.out hc)
 clear hc
 have a0 := HA.out.all
 have b0 := HBb.out.all
 go_wp2_with fail
 refine (EI.out _ HB.out).mono ?_
 rintro e w2 ⟨D1, d1, D2, d2, rfl, v1, v2, hc⟩
 replace HN := hid (HN.out.below HR.out.lt hc)
 replace HA := hid (HA.out.below hc)
 replace HBb := hid (HBb.out.below hc)
 replace HR := hid (HR.out.below hc)
 replace HB := hid (from_ HB.out hc)
 clear hc a0 b0
 obtain ⟨HP, U1, U2⟩ := hid3 (HR.out.put HB.out (show w.heap.size ≤ w.heap.size + 2 by omega) (.bool r.n0) (.bool r.s0) (.slice D1 r.l0.length d1) (.bool r.n1) (.bool r.s1) (.slice D2 r.l1.length d2)) (v1.set6n HN.out (.bool r.n0) (.bool r.s0) (.slice D1 r.l0.length d1) (.bool r.n1) (.bool r.s1) (.slice D2 r.l1.length d2)) (v2.set6n HN.out (.bool r.n0) (.bool r.s0) (.slice D1 r.l0.length d1) (.bool r.n1) (.bool r.s1) (.slice D2 r.l1.length d2))
 have g0 := HR.out.cf
 clear v1 v2
 go_wp2
 refine bodyPost_ret (res_itv2 rfl _ (w.heap.size + 2) rfl HP.out.box) rfl ?_
 exact ⟨_, _, _, _, rfl, U1.out, U2.out, HP.out.bel⟩
theorem hzw : IvW (0, 0) (⟨false, false, [], false, false, []⟩ : Iv) := ⟨onZ_w.1, toZ_w.2⟩
theorem r16div_good (u1 : U64s w Z1 A a p.l0) (u2 : U64s w Z2 B b p.l1) (u3 : U64s w Z3 C c q.l0) (u4 : U64s w Z4 D d q.l1) (q1 : p.l0.length ≤ 60) (q2 : p.l1.length ≤ 60) (q3 : q.l0.length ≤ 60) (q4 : q.l1.length ≤ 60) (h1 : p.ok = true) (h2 : q.ok = true) (hp : IvW P p) (gp : IvN N P.1 P.2) (hq : IvW Q q) (gq : IvN N Q.1 Q.2) (hN1 : 1 ≤ N) (hN : N ≤ 28) (hne : partsP Q ≠ []) (hr : IvW (ivD P Q) r) :
  Calls Tryz.prog 11 #[.agg #[.bool p.n0, .bool p.s0, .slice A p.l0.length a, .bool p.n1, .bool p.s1, .slice B p.l1.length b], .agg #[.bool q.n0, .bool q.s0, .slice C q.l0.length c, .bool q.n1, .bool q.s1, .slice D q.l1.length d]] w fun e w' => ∃ rA ra rB rb, e = .returned (.tuple #[.agg #[.bool r.n0, .bool r.s0, .slice rA r.l0.length ra, .bool r.n1, .bool r.s1, .slice rB r.l1.length rb], .int .i64 0]) ∧ U64s w' old rA ra r.l0 ∧ U64s w' old rB rb r.l1 ∧ Below w.heap.size w w' := by
 obtain ⟨bA, bB, bR, hB0⟩ := boxX w (.bool p.n0) (.bool p.s0) (.slice A p.l0.length a) (.bool p.n1) (.bool p.s1) (.slice B p.l1.length b) (.bool q.n0) (.bool q.s0) (.slice C q.l0.length c) (.bool q.n1) (.bool q.s1) (.slice D q.l1.length d) (.bool false) (.bool false) (.slice none 0 0) (.bool false) (.bool false) (.slice none 0 0) 29
 have nR := NoU.new6 ((w.alloc (.cells #[.bool p.n0, .bool p.s0, .slice A p.l0.length a, .bool p.n1, .bool p.s1, .slice B p.l1.length b] 29)).alloc (.cells #[.bool q.n0, .bool q.s0, .slice C q.l0.length c, .bool q.n1, .bool q.s1, .slice D q.l1.length d] 29)) false false false false none none 0 0 0 0 29
 rw [World.size_alloc, World.size_alloc] at nR
 obtain ⟨TW, EI, HA, HBb, HR, HN⟩ := hid6 (fun (W : World) (h : Below w.heap.size w W) => r16two_any (w := W) (n0 := p.n0) (s0 := p.s0) (n1 := p.n1) (s1 := p.s1) (m0 := q.n0) (t0 := q.s0) (m1 := q.n1) (t1 := q.s1) (u1.below h) (u2.below h) (u3.below h) (u4.below h) q1 q2 q3 q4 h1 h2) (fun (W : World) (h : Below w.heap.size w W) => r16over_w (gz := true) hp gp hq gq hN1 hN (by rw [if_neg hne]; exact hr) (decide_eq_true hne) (u1.below h) (u2.below h) (u3.below h) (u4.below h)) bA bB bR (show NoU _ (w.heap.size + 2) from nR)
 have HB := hid hB0
 obtain ⟨a0, a1, a2, a3, a4, a5, _, _, _, _, _, _, _⟩ := bA
 obtain ⟨b0, b1, b2, b3, b4, b5, _, _, _, _, _, _, _⟩ := bB
 rw [show errA2 true true = 0 by decide] at TW
 clear u1 u2 u3 u4 q1 q2 q3 q4 nR bR hB0 h1 h2 hp gp hq gq hr hne
 go_enter Tryz.func11, Tryz.ntmps11
 go_wp2_with fail
 refine (TW.out _ HB.out).mono ?_
 rintro e w1 ⟨rfl, hc⟩
 clear a0 a1 a2 a3 a4 a5 b0 b1 b2 b3 b4 b5 TW
 replace HN := hid (HN.out.below HR.out.lt hc)
 replace HA := hid (HA.out.below hc)
 replace HBb := hid (HBb.out.below hc)
 replace HR := hid (HR.out.below hc)
 replace HB := hid (from_ HB.out hc)
 clear hc
 have a0 := HA.out.all
 have b0 := HBb.out.all
 go_wp2_with fail
 refine (EI.out _ HB.out).mono ?_
 rintro e w2 ⟨D1, d1, D2, d2, rfl, v1, v2, hc⟩
 clear a0 b0
 go_upto_region 5 with fail
 have hax : Below w2.heap.size w2 (w2.alloc (.cells #[.bool r.n0, .bool r.s0, .slice D1 r.l0.length d1, .bool r.n1, .bool r.s1, .slice D2 r.l1.length d2] 29)) := (Below.refl _ _).alloc (Nat.le_refl _) _
 have BO := hid (Box6.new w2 (.bool r.n0) (.bool r.s0) (.slice D1 r.l0.length d1) (.bool r.n1) (.bool r.s1) (.slice D2 r.l1.length d2) 29)
 have hlt := HR.out.lt
 have hcs := hc.size
 obtain ⟨gO, hgO⟩ : ∃ g, g = w2.heap.size := ⟨_, rfl⟩
 rw [← hgO] at BO
 have hc8 := from_ hc hax
 replace HN := hid (HN.out.below HR.out.lt hc8)
 replace HR := hid (HR.out.below hc8)
 replace HB := hid (from_ HB.out hc8)
 replace v1 := v1.below hax
 replace v2 := v2.below hax
 clear hc hc8 hax
 generalize hWx : w2.alloc (.cells #[.bool r.n0, .bool r.s0, .slice D1 r.l0.length d1, .bool r.n1, .bool r.s1, .slice D2 r.l1.length d2] 29) = W2 at *
 try simp only [← hgO]
 have n1 : ¬ gO = w.heap.size + 2 := by omega
 have n2 : ¬ w.heap.size + 2 = gO := by omega
 clear hWx hgO hlt hcs HA HBb
 obtain ⟨HP, U1, U2⟩ := hid3 (HR.out.put HB.out (show w.heap.size ≤ w.heap.size + 2 by omega) (.bool r.n0) (.bool r.s0) (.slice D1 r.l0.length d1) (.bool r.n1) (.bool r.s1) (.slice D2 r.l1.length d2)) (v1.set6n HN.out (.bool r.n0) (.bool r.s0) (.slice D1 r.l0.length d1) (.bool r.n1) (.bool r.s1) (.slice D2 r.l1.length d2)) (v2.set6n HN.out (.bool r.n0) (.bool r.s0) (.slice D1 r.l0.length d1) (.bool r.n1) (.bool r.s1) (.slice D2 r.l1.length d2))
 have g0 := HR.out.cf
 have y0 := BO.out.all
 clear v1 v2
 go_wp2
 refine bodyPost_ret (res_itv2 rfl _ (w.heap.size + 2) rfl HP.out.box) rfl ?_
 exact ⟨_, _, _, _, rfl, U1.out, U2.out, HP.out.bel⟩
theorem r16div_zero (u1 : U64s w Z1 A a p.l0) (u2 : U64s w Z2 B b p.l1) (u3 : U64s w Z3 C c q.l0) (u4 : U64s w Z4 D d q.l1) (q1 : p.l0.length ≤ 60) (q2 : p.l1.length ≤ 60) (q3 : q.l0.length ≤ 60) (q4 : q.l1.length ≤ 60) (h1 : p.ok = true) (h2 : q.ok = true) (hp : IvW P p) (gp : IvN N P.1 P.2) (hq : IvW Q q) (gq : IvN N Q.1 Q.2) (hN1 : 1 ≤ N) (hN : N ≤ 28) (hne : partsP Q = []) :
  Calls Tryz.prog 11 #[.agg #[.bool p.n0, .bool p.s0, .slice A p.l0.length a, .bool p.n1, .bool p.s1, .slice B p.l1.length b], .agg #[.bool q.n0, .bool q.s0, .slice C q.l0.length c, .bool q.n1, .bool q.s1, .slice D q.l1.length d]] w fun e w' => e = .returned (.tuple #[.agg #[.bool false, .bool false, .slice none 0 0, .bool false, .bool false, .slice none 0 0], .int .i64 30]) ∧ Below w.heap.size w w' := by
 obtain ⟨bA, bB, bR, hB0⟩ := boxX w (.bool p.n0) (.bool p.s0) (.slice A p.l0.length a) (.bool p.n1) (.bool p.s1) (.slice B p.l1.length b) (.bool q.n0) (.bool q.s0) (.slice C q.l0.length c) (.bool q.n1) (.bool q.s1) (.slice D q.l1.length d) (.bool false) (.bool false) (.slice none 0 0) (.bool false) (.bool false) (.slice none 0 0) 29
 have nR := NoU.new6 ((w.alloc (.cells #[.bool p.n0, .bool p.s0, .slice A p.l0.length a, .bool p.n1, .bool p.s1, .slice B p.l1.length b] 29)).alloc (.cells #[.bool q.n0, .bool q.s0, .slice C q.l0.length c, .bool q.n1, .bool q.s1, .slice D q.l1.length d] 29)) false false false false none none 0 0 0 0 29
 rw [World.size_alloc, World.size_alloc] at nR
 have TW := hid (fun (W : World) (h : Below w.heap.size w W) => r16two_any (w := W) (n0 := p.n0) (s0 := p.s0) (n1 := p.n1) (s1 := p.s1) (m0 := q.n0) (t0 := q.s0) (m1 := q.n1) (t1 := q.s1) (u1.below h) (u2.below h) (u3.below h) (u4.below h) q1 q2 q3 q4 h1 h2)
 have EI := fun (W : World) (h : Below w.heap.size w W) => r16over_w (gz := false) (r := ⟨false, false, [], false, false, []⟩) hp gp hq gq hN1 hN (by rw [if_pos hne]; exact hzw) (decide_eq_false (fun h => h hne)) (u1.below h) (u2.below h) (u3.below h) (u4.below h)
 simp only [List.length_nil] at EI
 replace EI := hid EI
 obtain ⟨HA, HBb, HR, HN, HB⟩ := hid5 bA bB bR (show NoU _ (w.heap.size + 2) from nR) hB0
 obtain ⟨a0, a1, a2, a3, a4, a5, _, _, _, _, _, _, _⟩ := bA
 obtain ⟨b0, b1, b2, b3, b4, b5, _, _, _, _, _, _, _⟩ := bB
 rw [show errA2 true true = 0 by decide] at TW
 clear u1 u2 u3 u4 q1 q2 q3 q4 nR bR hB0 h1 h2 hp gp hq gq hne
 go_enter Tryz.func11, Tryz.ntmps11
 go_wp2_with fail
 refine (TW.out _ HB.out).mono ?_
 rintro e w1 ⟨rfl, hc⟩
 clear a0 a1 a2 a3 a4 a5 b0 b1 b2 b3 b4 b5 TW
 replace HN := hid (HN.out.below HR.out.lt hc)
 replace HA := hid (HA.out.below hc)
 replace HBb := hid (HBb.out.below hc)
 replace HR := hid (HR.out.below hc)
 replace HB := hid (from_ HB.out hc)
 clear hc
 have a0 := HA.out.all
 have b0 := HBb.out.all
 go_wp2_with fail
 refine (EI.out _ HB.out).mono ?_
 rintro e w2 ⟨D1, d1, D2, d2, rfl, v1, v2, hc⟩
 clear v1 v2
 clear a0 b0
 go_upto_region 5 with fail
 have hax : Below w2.heap.size w2 (w2.alloc (.cells #[.bool false, .bool false, .slice D1 0 d1, .bool false, .bool false, .slice D2 0 d2] 29)) := (Below.refl _ _).alloc (Nat.le_refl _) _
 have BO := hid (Box6.new w2 (.bool false) (.bool false) (.slice D1 0 d1) (.bool false) (.bool false) (.slice D2 0 d2) 29)
 have hlt := HR.out.lt
 have hcs := hc.size
 obtain ⟨gO, hgO⟩ : ∃ g, g = w2.heap.size := ⟨_, rfl⟩
 rw [← hgO] at BO
 have hc8 := from_ hc hax
 replace HN := hid (HN.out.below HR.out.lt hc8)
 replace HR := hid (HR.out.below hc8)
 replace HB := hid (from_ HB.out hc8)
 clear hc hc8 hax
 generalize hWx : w2.alloc (.cells #[.bool false, .bool false, .slice D1 0 d1, .bool false, .bool false, .slice D2 0 d2] 29) = W2 at *
 try simp only [← hgO]
 have n1 : ¬ gO = w.heap.size + 2 := by omega
 have n2 : ¬ w.heap.size + 2 = gO := by omega
 clear hWx hgO hlt hcs HA HBb
 clear BO n1 n2
 have HP := hid (HR.out.put HB.out (show w.heap.size ≤ w.heap.size + 2 by omega) (.bool false) (.bool false) (.slice none 0 0) (.bool false) (.bool false) (.slice none 0 0))
 have g0 := HR.out.cf
 go_wp2
 refine bodyPost_ret (res_itv2 rfl _ (w.heap.size + 2) rfl HP.out.box) rfl ?_
 exact ⟨by first | rfl | trivial, HP.out.bel⟩
theorem r16mod_good (u1 : U64s w Z1 A a p.l0) (u2 : U64s w Z2 B b p.l1) (u3 : U64s w Z3 C c q.l0) (u4 : U64s w Z4 D d q.l1) (q1 : p.l0.length ≤ 60) (q2 : p.l1.length ≤ 60) (q3 : q.l0.length ≤ 60) (q4 : q.l1.length ≤ 60) (h1 : p.ok = true) (h2 : q.ok = true) (hp : IvW P p) (gp : IvN N P.1 P.2) (hq : IvW Q q) (gq : IvN N Q.1 Q.2) (hN1 : 1 ≤ N) (hN : N ≤ 28) (h0 : ¬ (Q.1 = 0 ∧ Q.2 = 0)) (hr : IvW (modP P Q) r) :
  Calls Tryz.prog 13 #[.agg #[.bool p.n0, .bool p.s0, .slice A p.l0.length a, .bool p.n1, .bool p.s1, .slice B p.l1.length b], .agg #[.bool q.n0, .bool q.s0, .slice C q.l0.length c, .bool q.n1, .bool q.s1, .slice D q.l1.length d]] w fun e w' => ∃ rA ra rB rb, e = .returned (.tuple #[.agg #[.bool r.n0, .bool r.s0, .slice rA r.l0.length ra, .bool r.n1, .bool r.s1, .slice rB r.l1.length rb], .int .i64 0]) ∧ U64s w' old rA ra r.l0 ∧ U64s w' old rB rb r.l1 ∧ Below w.heap.size w w' := by
 have hdz : decide ((q.n0 = false ∧ q.s0 = false ∧ q.l0 = []) ∧ q.n1 = false ∧ q.s1 = false ∧ q.l1 = []) = false := by
  have kq := hq.k gq (by omega)
  refine decide_eq_false (fun h => h0 ?_)
  obtain ⟨⟨e0, e1, e2⟩, e3, e4, e5⟩ := h
  have a1 := kq.lo
  have a2 := kq.hi
  rw [e0, e1, e2] at a1
  rw [e3, e4, e5] at a2
  exact ⟨a1.symm.trans rfl, a2.symm.trans rfl⟩
 obtain ⟨bA, bB, bR, hB0⟩ := boxX w (.bool p.n0) (.bool p.s0) (.slice A p.l0.length a) (.bool p.n1) (.bool p.s1) (.slice B p.l1.length b) (.bool q.n0) (.bool q.s0) (.slice C q.l0.length c) (.bool q.n1) (.bool q.s1) (.slice D q.l1.length d) (.bool false) (.bool false) (.slice none 0 0) (.bool false) (.bool false) (.slice none 0 0) 29
 have nR := NoU.new6 ((w.alloc (.cells #[.bool p.n0, .bool p.s0, .slice A p.l0.length a, .bool p.n1, .bool p.s1, .slice B p.l1.length b] 29)).alloc (.cells #[.bool q.n0, .bool q.s0, .slice C q.l0.length c, .bool q.n1, .bool q.s1, .slice D q.l1.length d] 29)) false false false false none none 0 0 0 0 29
 rw [World.size_alloc, World.size_alloc] at nR
 have TW := hid (fun (W : World) (h : Below w.heap.size w W) => r16two_any (w := W) (n0 := p.n0) (s0 := p.s0) (n1 := p.n1) (s1 := p.s1) (m0 := q.n0) (t0 := q.s0) (m1 := q.n1) (t1 := q.s1) (u1.below h) (u2.below h) (u3.below h) (u4.below h) q1 q2 q3 q4 h1 h2)
 have SM_ := fun (W : World) (Z3 Z4 : Zone) (E F : Option Addr) (e f : Nat) (h : Below w.heap.size w W) (x : U64s W Z3 E e []) (y : U64s W Z4 F f []) => r16same_any (n0 := q.n0) (s0 := q.s0) (n1 := q.n1) (s1 := q.s1) (m0 := false) (t0 := false) (m1 := false) (t1 := false) (u3.below h) (u4.below h) x y
 simp only [hdz, List.length_nil] at SM_
 replace SM_ := hid SM_
 obtain ⟨EI, HA, HBb, HR, HN, HB⟩ := hid6 (fun (W : World) (h : Below w.heap.size w W) => r16rest_w hp gp hq gq (by omega) h0 hr (u1.below h) (u2.below h) (u3.below h) (u4.below h)) bA bB bR (show NoU _ (w.heap.size + 2) from nR) hB0
 obtain ⟨a0, a1, a2, a3, a4, a5, _, _, _, _, _, _, _⟩ := bA
 obtain ⟨b0, b1, b2, b3, b4, b5, _, _, _, _, _, _, _⟩ := bB
 rw [show errA2 true true = 0 by decide] at TW
 clear u1 u2 u3 u4 q1 q2 q3 q4 nR bR hB0 h1 h2 hp gp hq gq h0 hdz hr
 go_enter Tryz.func13, Tryz.ntmps13
 go_wp2_with fail
 refine (TW.out _ HB.out).mono ?_
 rintro e w1 ⟨rfl, hc⟩
 clear a0 a1 a2 a3 a4 a5 b0 b1 b2 b3 b4 b5 TW
 replace HN := hid (HN.out.below HR.out.lt hc)
 replace HA := hid (HA.out.below hc)
 replace HBb := hid (HBb.out.below hc)
 replace HR := hid (HR.out.below hc)
 replace HB := hid (from_ HB.out hc)
 clear hc
 go_upto_region 4 with fail
 have hs0 := HBb.out.all
 have hs := box6_keep hs0 bdr_
 have Hc := hid (from_ HB.out (Below.refl w1.heap.size w1).drew)
 have Hc1 := hid (Below.refl w1.heap.size w1).drew
 go_cut [16] (fun s16 wx => s16 = .bool false ∧ Below w1.heap.size w1 wx)
 case first =>
  first | go_region_held3 (fun w' => C6 w' (w.heap.size + 1) (.bool q.n0) (.bool q.s0) (.slice C q.l0.length c) (.bool q.n1) (.bool q.s1) (.slice D q.l1.length d))
   (first | with_reducible exact hs | (with_reducible apply v6_dr rfl; with_reducible exact hs))
   (((first
     | (go_at_call 44; with_reducible refine (r16zero_w).mono ?_; rintro e w2 ⟨E1, e1, E2, e2, rfl, x1, x2, hc2⟩)
     | (go_at_call 18; with_reducible refine (SM_.out _ _ _ _ _ _ _ Hc.out x1 x2).mono ?_; rintro e w2 ⟨rfl, hc2⟩)); replace hs := box6_keep hs hc2; replace Hc := hid (from_ Hc.out hc2); replace Hc1 := hid (from_ Hc1.out hc2))) | fail
  all_goals
   clear hs hs0
   go_wp2_with fail
   go_meet
   exact ⟨by first | rfl | trivial, Hc1.out⟩
 case rest =>
  obtain ⟨rfl, hc⟩ := hcut
  clear hs hs0 Hc Hc1 SM_
  obtain ⟨W2, hren⟩ : ∃ W, W = wc := ⟨_, rfl⟩
  subst hren
  replace HN := hid (HN.out.below HR.out.lt hc)
  replace HA := hid (HA.out.below hc)
  replace HBb := hid (HBb.out.below hc)
  replace HR := hid (HR.out.below hc)
  replace HB := hid (from_ HB.out hc)
  clear hc
  obtain ⟨a0, a1, a2, a3, a4, a5, _, _, _, _, _, _, _⟩ := id HA.out
  have b0 := HBb.out.all
  go_wp2_with fail
  refine (EI.out _ HB.out).mono ?_
  rintro e w2 ⟨D1, d1, D2, d2, rfl, v1, v2, hc⟩
  replace HN := hid (HN.out.below HR.out.lt hc)
  replace HA := hid (HA.out.below hc)
  replace HBb := hid (HBb.out.below hc)
  replace HR := hid (HR.out.below hc)
  replace HB := hid (from_ HB.out hc)
  clear hc a0 a1 a2 a3 a4 a5 b0
  obtain ⟨HP, U1, U2⟩ := hid3 (HR.out.put HB.out (show w.heap.size ≤ w.heap.size + 2 by omega) (.bool r.n0) (.bool r.s0) (.slice D1 r.l0.length d1) (.bool r.n1) (.bool r.s1) (.slice D2 r.l1.length d2)) (v1.set6n HN.out (.bool r.n0) (.bool r.s0) (.slice D1 r.l0.length d1) (.bool r.n1) (.bool r.s1) (.slice D2 r.l1.length d2)) (v2.set6n HN.out (.bool r.n0) (.bool r.s0) (.slice D1 r.l0.length d1) (.bool r.n1) (.bool r.s1) (.slice D2 r.l1.length d2))
  have g0 := HR.out.cf
  clear v1 v2
  go_wp2
  refine bodyPost_ret (res_itv2 rfl _ (w.heap.size + 2) rfl HP.out.box) rfl ?_
  exact ⟨_, _, _, _, rfl, U1.out, U2.out, HP.out.bel⟩
theorem r16mod_zero (u1 : U64s w Z1 A a p.l0) (u2 : U64s w Z2 B b p.l1) (u3 : U64s w Z3 C c q.l0) (u4 : U64s w Z4 D d q.l1) (q1 : p.l0.length ≤ 60) (q2 : p.l1.length ≤ 60) (q3 : q.l0.length ≤ 60) (q4 : q.l1.length ≤ 60) (h1 : p.ok = true) (h2 : q.ok = true) (hp : IvW P p) (gp : IvN N P.1 P.2) (hq : IvW Q q) (gq : IvN N Q.1 Q.2) (hN1 : 1 ≤ N) (hN : N ≤ 28) (h0 : Q.1 = 0 ∧ Q.2 = 0) :
  Calls Tryz.prog 13 #[.agg #[.bool p.n0, .bool p.s0, .slice A p.l0.length a, .bool p.n1, .bool p.s1, .slice B p.l1.length b], .agg #[.bool q.n0, .bool q.s0, .slice C q.l0.length c, .bool q.n1, .bool q.s1, .slice D q.l1.length d]] w fun e w' => e = .returned (.tuple #[.agg #[.bool false, .bool false, .slice none 0 0, .bool false, .bool false, .slice none 0 0], .int .i64 30]) ∧ Below w.heap.size w w' := by
 have hdz : decide ((q.n0 = false ∧ q.s0 = false ∧ q.l0 = []) ∧ q.n1 = false ∧ q.s1 = false ∧ q.l1 = []) = true := by
  obtain ⟨e0, e1, e2, e3, e4, e5⟩ := zero_iv (r := q) (by rw [show ((0, 0) : IvP) = Q from Prod.ext h0.1.symm h0.2.symm]; exact hq)
  exact decide_eq_true ⟨⟨e0, e1, e2⟩, e3, e4, e5⟩
 obtain ⟨bA, bB, bR, hB0⟩ := boxX w (.bool p.n0) (.bool p.s0) (.slice A p.l0.length a) (.bool p.n1) (.bool p.s1) (.slice B p.l1.length b) (.bool q.n0) (.bool q.s0) (.slice C q.l0.length c) (.bool q.n1) (.bool q.s1) (.slice D q.l1.length d) (.bool false) (.bool false) (.slice none 0 0) (.bool false) (.bool false) (.slice none 0 0) 29
 have nR := NoU.new6 ((w.alloc (.cells #[.bool p.n0, .bool p.s0, .slice A p.l0.length a, .bool p.n1, .bool p.s1, .slice B p.l1.length b] 29)).alloc (.cells #[.bool q.n0, .bool q.s0, .slice C q.l0.length c, .bool q.n1, .bool q.s1, .slice D q.l1.length d] 29)) false false false false none none 0 0 0 0 29
 rw [World.size_alloc, World.size_alloc] at nR
 have TW := hid (fun (W : World) (h : Below w.heap.size w W) => r16two_any (w := W) (n0 := p.n0) (s0 := p.s0) (n1 := p.n1) (s1 := p.s1) (m0 := q.n0) (t0 := q.s0) (m1 := q.n1) (t1 := q.s1) (u1.below h) (u2.below h) (u3.below h) (u4.below h) q1 q2 q3 q4 h1 h2)
 have SM_ := fun (W : World) (Z3 Z4 : Zone) (E F : Option Addr) (e f : Nat) (h : Below w.heap.size w W) (x : U64s W Z3 E e []) (y : U64s W Z4 F f []) => r16same_any (n0 := q.n0) (s0 := q.s0) (n1 := q.n1) (s1 := q.s1) (m0 := false) (t0 := false) (m1 := false) (t1 := false) (u3.below h) (u4.below h) x y
 simp only [hdz, List.length_nil] at SM_
 replace SM_ := hid SM_
 obtain ⟨HA, HBb, HR, HN, HB⟩ := hid5 bA bB bR (show NoU _ (w.heap.size + 2) from nR) hB0
 have a0 := bA.all
 have b0 := bB.all
 rw [show errA2 true true = 0 by decide] at TW
 clear u1 u2 u3 u4 q1 q2 q3 q4 nR bR hB0 h1 h2 hp gp hq gq h0 hdz
 go_enter Tryz.func13, Tryz.ntmps13
 go_wp2_with fail
 refine (TW.out _ HB.out).mono ?_
 rintro e w1 ⟨rfl, hc⟩
 clear a0 b0 TW
 replace HN := hid (HN.out.below HR.out.lt hc)
 replace HA := hid (HA.out.below hc)
 replace HBb := hid (HBb.out.below hc)
 replace HR := hid (HR.out.below hc)
 replace HB := hid (from_ HB.out hc)
 clear hc
 go_upto_region 4 with fail
 have hs0 := HBb.out.all
 have hs := box6_keep hs0 bdr_
 have Hc := hid (from_ HB.out (Below.refl w1.heap.size w1).drew)
 have Hc1 := hid (Below.refl w1.heap.size w1).drew
 go_cut [16] (fun s16 wx => s16 = .bool true ∧ Below w1.heap.size w1 wx)
 case first =>
  first | go_region_held3 (fun w' => C6 w' (w.heap.size + 1) (.bool q.n0) (.bool q.s0) (.slice C q.l0.length c) (.bool q.n1) (.bool q.s1) (.slice D q.l1.length d))
   (first | with_reducible exact hs | (with_reducible apply v6_dr rfl; with_reducible exact hs))
   (((first
     | (go_at_call 44; with_reducible refine (r16zero_w).mono ?_; rintro e w2 ⟨E1, e1, E2, e2, rfl, x1, x2, hc2⟩)
     | (go_at_call 18; with_reducible refine (SM_.out _ _ _ _ _ _ _ Hc.out x1 x2).mono ?_; rintro e w2 ⟨rfl, hc2⟩)); replace hs := box6_keep hs hc2; replace Hc := hid (from_ Hc.out hc2); replace Hc1 := hid (from_ Hc1.out hc2))) | fail
  all_goals
   clear hs hs0
   go_wp2_with fail
   go_meet
   exact ⟨by first | rfl | trivial, Hc1.out⟩
 case rest =>
  obtain ⟨rfl, hc⟩ := hcut
  clear hs hs0 Hc Hc1 SM_
  obtain ⟨W2, hren⟩ : ∃ W, W = wc := ⟨_, rfl⟩
  subst hren
  replace HN := hid (HN.out.below HR.out.lt hc)
  replace HA := hid (HA.out.below hc)
  replace HBb := hid (HBb.out.below hc)
  replace HR := hid (HR.out.below hc)
  replace HB := hid (from_ HB.out hc)
  clear hc
  have HP := hid (HR.out.put HB.out (show w.heap.size ≤ w.heap.size + 2 by omega) (.bool false) (.bool false) (.slice none 0 0) (.bool false) (.bool false) (.slice none 0 0))
  have g0 := HR.out.cf
  go_wp2
  refine bodyPost_ret (res_itv2 rfl _ (w.heap.size + 2) rfl HP.out.box) rfl ?_
  exact ⟨by first | rfl | trivial, HP.out.bel⟩
end Go.Proofs.YthpngihjcphigaaGreat
