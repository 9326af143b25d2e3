/- line.boxed and line.packed where they say yes. No conditions but bounds. -/
import Derived.LoopN
import Derived.Test.YtcheajjjdbllfaaGreatNLnM
set_option linter.unusedVariables false
set_option linter.unusedSimpArgs false
set_option maxRecDepth 100000
set_option maxHeartbeats 40000000
namespace Go.Proofs.YtcheajjjdbllfaaGreat
open Go.Lib (hid)
open Go.RowKit
variable {A : Option Addr} {P : IvP} {V : Int} {b c gg gl o : Nat} {g1 g2 g3 g4 g5 : Value} {w : World}
theorem lboxed1_in {Z1 Z2 : Zone} {B : Option Addr} {a : Nat} {p : Iv} (hp : IvW P p) (gp : IvN 60 P.1 P.2) (u1 : U64s w Z1 A a p.l0) (u2 : U64s w Z2 B b p.l1) (hin : allP.1 ≤ P.1 ∧ P.2 ≤ allP.2) :
  Calls Tryz.prog 34 #[.agg #[.bool p.n0, .bool p.s0, .slice A p.l0.length a, .bool p.n1, .bool p.s1, .slice B p.l1.length b]] w fun e w' => e = .returned (.bool false) ∧ Below w.heap.size w w' := by
 obtain ⟨q, hq⟩ : ∃ r, IvW allP r := ⟨_, IvW.mk _⟩
 have hB0 : Below w.heap.size w (w.alloc (.cells #[.bool p.n0, .bool p.s0, .slice A p.l0.length a, .bool p.n1, .bool p.s1, .slice B p.l1.length b] 29)) := (Below.refl _ w).alloc (Nat.le_refl _) _
 obtain ⟨W1, hW1⟩ : ∃ W, w.alloc (.cells #[.bool p.n0, .bool p.s0, .slice A p.l0.length a, .bool p.n1, .bool p.s1, .slice B p.l1.length b] 29) = W := ⟨_, rfl⟩
 rw [hW1] at hB0
 have HA : Hid (Box6 W1 w.heap.size (.bool p.n0) (.bool p.s0) (.slice A p.l0.length a) (.bool p.n1) (.bool p.s1) (.slice B p.l1.length b)) := hid (by rw [← hW1]; exact Box6.new w _ _ _ _ _ _ _)
 obtain ⟨HB, HAL, HK⟩ := hid3 hB0 (lall_r (w := W1.drew) hq) (fun (W : World) (h : Below w.heap.size w W) (C D : Option Addr) (c d : Nat) (K : Nat) (u3 : U64s W (new K) C c q.l0) (u4 : U64s W (new K) D d q.l1) => iin_w (w := W) hp gp hq allP_n (u1.below h) (u2.below h) u3 u4 (decide_eq_true hin))
 have z0 := HA.out.all
 clear hB0 hp gp hq u1 u2 hin
 go_enter Tryz.func34, Tryz.ntmps34
 go_wp2
 clear hW1
 first | go_region_with (first
  | (go_at_call 36; with_reducible refine HAL.out.mono ?_; rintro e w2 ⟨C, c, D, d, rfl, v1, v2, hc⟩; have hc2 : Below W1.heap.size W1 w2 := from_ ((Below.refl W1.heap.size W1).drew) hc; have hB2 := from_ HB.out hc2; have y0 := (HA.out.below hc2).all)
  | (go_at_call 35; with_reducible refine (HK.out _ hB2 _ _ _ _ _ v1 v2).mono ?_; rintro e w3 ⟨rfl, hc3⟩; have HB3 := hid (from_ hB2 hc3))) | fail
 all_goals
  clear y0 z0 v1 v2 hc hc2 hB2 hc3 HK HAL HA
  go_wp2
  go_ret
  exact ⟨rfl, HB3.out⟩
theorem goes34 : Goes 34 := goes_of Tryz.func34 rfl rfl
theorem lboxed_one {Z : Zone} {C D : Option Addr} {ca d : Nat} {p : Iv} (hr : RowK 6 w A ca 1 (fun _ i => [.bool p.n0, .bool p.s0, .slice C p.l0.length c, .bool p.n1, .bool p.s1, .slice D p.l1.length d].getD i undef)) (hp : IvW P p) (gp : IvN 60 P.1 P.2) (u1 : U64s w Z C c p.l0) (u2 : U64s w Z D d p.l1) (hin : allP.1 ≤ P.1 ∧ P.2 ≤ allP.2) :
  Calls Tryz.prog 15 #[.agg #[.int .i64 1, g1, g2, g3, g4, g5], .slice A 1 ca] w fun e w' => e = .returned (.bool true) ∧ Below w.heap.size w w' := by
 have hB0 : Below w.heap.size w (w.alloc (.cells #[.int .i64 1, g1, g2, g3, g4, g5] 45)) := (Below.refl _ w).alloc (Nat.le_refl _) _
 have hC := scontains_itv (caps := #[]) (f := fun _ => false) goes34 (hr.below hB0) fun j hj W hW => by
  exact lboxed1_in hp gp ((u1.below hB0).below hW) ((u2.below hB0).below hW) hin
 rw [show (List.range 1).any (fun _ => false) = false from rfl] at hC
 obtain ⟨HC, HB⟩ := hid2 hC hB0
 clear hC hB0 hr hp gp u1 u2 hin
 go_enter Tryz.func15, Tryz.ntmps15
 go_wp2_with fail
 refine HC.out.mono ?_
 rintro e w2 ⟨rfl, hc⟩
 have hb := from_ HB.out hc
 go_wp2
 go_ret
 exact ⟨rfl, hb⟩
theorem lpacked1 {n l : Int} (hl : w.cell? ⟨gl, 0, none⟩ = some (.int .i64 l)) (hf : w.frozen? ⟨gl, 0, none⟩ = false) (hg : w.cell? ⟨gg, 0, none⟩ = some (.int .i64 V)) (h1 : l < n) (h2 : n < V) :
  Calls Tryz.prog 37 #[.int .i64 n, .pointer (some ⟨gl, 0, none⟩), .pointer (some ⟨gg, 0, none⟩)] w fun e w' => e = .returned (.bool false) ∧ w' = w.setCell ⟨gl, 0, none⟩ (.int .i64 n) := by
 have t1 : decide (n ≤ l) = false := decide_eq_false (by omega)
 have t2 : decide (V ≤ n) = false := decide_eq_false (by omega)
 go_enter Tryz.func37, Tryz.ntmps37
 go_wp2
 go_ret
 exact ⟨rfl, rfl⟩
theorem lpacked_index {n l : Int} (hx : w.cell? ⟨b, o, none⟩ = some (.int .i64 n)) (hl : w.cell? ⟨gl, 0, none⟩ = some (.int .i64 l)) (hf : w.frozen? ⟨gl, 0, none⟩ = false) (hg : w.cell? ⟨gg, 0, none⟩ = some (.int .i64 V)) (h1 : l < n) (h2 : n < V) :
  Calls Tryz.prog 48 #[.slice (some ⟨b, o, none⟩) 1 c, .func (.func 37) #[] #[.pointer (some ⟨gl, 0, none⟩), .pointer (some ⟨gg, 0, none⟩)]] w fun e w' => e = .returned (.int .i64 (-1)) ∧ w' = w.setCell ⟨gl, 0, none⟩ (.int .i64 n) := by
 have HC := hid (lpacked1 hl hf hg h1 h2)
 clear hl hf hg h1 h2
 go_enter Tryz.func48, Tryz.ntmps48
 go_wp2
 refine wp_loop_rounds 2 ?_
 rw [rounds_succ]
 go_wp2_with fail
 refine HC.out.mono ?_
 rintro e w2 ⟨rfl, rfl⟩
 go_wp2
 rw [rounds_succ]
 go_wp2
 go_ret
 exact ⟨rfl, rfl⟩
theorem lpacked_contains {n l : Int} (hx : w.cell? ⟨b, o, none⟩ = some (.int .i64 n)) (hl : w.cell? ⟨gl, 0, none⟩ = some (.int .i64 l)) (hf : w.frozen? ⟨gl, 0, none⟩ = false) (hg : w.cell? ⟨gg, 0, none⟩ = some (.int .i64 V)) (h1 : l < n) (h2 : n < V) :
  Calls Tryz.prog 26 #[.slice (some ⟨b, o, none⟩) 1 c, .func (.func 37) #[] #[.pointer (some ⟨gl, 0, none⟩), .pointer (some ⟨gg, 0, none⟩)]] w fun e w' => e = .returned (.bool false) ∧ w' = w.setCell ⟨gl, 0, none⟩ (.int .i64 n) := by
 have HC := hid (lpacked_index (c := c) hx hl hf hg h1 h2)
 clear hx hl hf hg h1 h2
 go_enter Tryz.func26, Tryz.ntmps26
 go_wp2_with fail
 refine HC.out.mono ?_
 rintro e w2 ⟨rfl, rfl⟩
 go_wp2
 go_ret
 exact ⟨rfl, rfl⟩
theorem lpacked_one {n : Int} (hx : w.cell? ⟨b, o, none⟩ = some (.int .i64 n)) (h1 : 0 ≤ n) (h2 : n < V) :
  Calls Tryz.prog 16 #[.agg #[.int .i64 V, g1, g2, g3, g4, g5], .slice (some ⟨b, o, none⟩) 1 c] w fun e w' => e = .returned (.bool true) ∧ Below w.heap.size w w' := by
 have hB1 : Below w.heap.size w (w.alloc (.cells #[.int .i64 V, g1, g2, g3, g4, g5] 45)) := (Below.refl _ w).alloc (Nat.le_refl _) _
 have hB0 := hB1.alloc hB1.size (.cells #[.int .i64 (-1)] 3)
 have hal := (Below.refl (w.alloc (.cells #[.int .i64 V, g1, g2, g3, g4, g5] 45)).heap.size (w.alloc (.cells #[.int .i64 V, g1, g2, g3, g4, g5] 45))).alloc (Nat.le_refl _) (.cells #[.int .i64 (-1)] 3)
 have hg := keepC hal (Box6.new w (.int .i64 V) g1 g2 g3 g4 g5 45).c0
 have hl : ((w.alloc (.cells #[.int .i64 V, g1, g2, g3, g4, g5] 45)).alloc (.cells #[.int .i64 (-1)] 3)).cell? ⟨w.heap.size + 1, 0, none⟩ = some (.int .i64 (-1)) := cell_newest (by simp) rfl
 obtain ⟨HC, HB⟩ := hid2 (lpacked_contains (c := c) (keepC hB0 hx) hl (by simp) hg (by omega) h2) (hB1.alloc hB1.size (.cells #[.int .i64 n] 3))
 clear hB1 hB0 hal hg hl hx h1 h2
 go_enter Tryz.func16, Tryz.ntmps16
 go_wp2_with fail
 refine HC.out.mono ?_
 rintro e w2 ⟨rfl, rfl⟩
 go_wp2
 go_ret
 exact ⟨rfl, HB.out⟩
end Go.Proofs.YtcheajjjdbllfaaGreat
