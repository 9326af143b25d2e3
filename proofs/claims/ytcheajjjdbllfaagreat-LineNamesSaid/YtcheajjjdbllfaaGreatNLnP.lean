/- (*looker).expr of a number and of a scalar that stands first in the pack. No conditions but bounds. -/
import Derived.LoopN
import Derived.Deep.DeepCutAuto
import Derived.Test.YtcheajjjdbllfaaGreatNLnN
set_option linter.unusedVariables false
set_option linter.unusedSimpArgs false
set_option maxRecDepth 100000
set_option maxHeartbeats 40000000
namespace Go.Proofs.YtcheajjjdbllfaaGreat
open Go.Lib (hid)
open Go.RowKit
variable {AX An Av C D : Option Addr} {P Q : IvP} {W w : World} {Zq : Zone} {a0 a1 a10 a11 a12 a13 a2 a3 a4 a5 a6 a7 a8 a9 g0 g1 g2 g3 g4 g5 : Value} {bb bc bn bo c cn cv cx d eb eo g lk pb pc pn po : Nat} {pp pq pv : Int} {q r : Iv} {w0 w1 w2 w3 w4 w5 : Bool}
theorem lexpr_num {PA BA : Option Addr} {nm : ByteArray} {n : Int} (hk : BoxL w lk [g0, g1, g2, g3, g4, g5, .slice PA pn pc, .slice BA bn bc, .bool w0, .bool w1, .bool w2, .bool w3, .bool w4, .bool w5]) (hd : pn ≤ 63) (hn : -9223372036854775808 ≤ n ∧ n ≤ 9223372036854775807) (hr : IvW (n, n) r) :
  Calls Tryz.prog 18 #[.pointer (some ⟨lk, 0, none⟩), .agg #[.int .u8 1, .string nm, .int .i64 n, .slice AX 0 cx, .int .i64 pp]] w fun e w' => ∃ A a B b F f, e = .returned (.tuple #[.agg #[.bool r.n0, .bool r.s0, .slice A r.l0.length a, .bool r.n1, .bool r.s1, .slice B r.l1.length b, .slice F (pn + 1) f], .bool true]) ∧ U64s w' (new w.heap.size) A a r.l0 ∧ U64s w' (new w.heap.size) B b r.l1 ∧ IvsAt w' (new w.heap.size) F f (fmOf (constL pn (n, n))) ∧ NewA w.heap.size F ∧ Below w.heap.size w w' := by
 obtain ⟨W1, hW1⟩ : ∃ W, (((w.alloc (.cells #[.int .u8 1, .string nm, .int .i64 n, .slice AX 0 cx, .int .i64 pp] 50)).alloc (.cells #[.bool false, .bool false, .slice none 0 0, .bool false, .bool false, .slice none 0 0, .slice none 0 0] 70)).alloc (.cells #[.bool false, .bool false, .slice none 0 0, .bool false, .bool false, .slice none 0 0, .slice none 0 0, .bool false, .bool false, .slice none 0 0, .bool false, .bool false, .slice none 0 0, .slice none 0 0] 94)) = W := ⟨_, rfl⟩
 have hB0 : Below w.heap.size w W1 := by
  rw [← hW1]
  exact (((Below.refl _ w).alloc (Nat.le_refl _) _).alloc (by simp) _).alloc (by first | (simp; done) | (simp; omega)) _
 have HX : Hid (BoxL W1 w.heap.size [.int .u8 1, .string nm, .int .i64 n, .slice AX 0 cx, .int .i64 pp]) := hid (by
  rw [← hW1]
  exact ((BoxL.new w [.int .u8 1, .string nm, .int .i64 n, .slice AX 0 cx, .int .i64 pp] 50).alloc _).alloc _)
 have HR : Hid (BoxL W1 (w.heap.size + 1) [.bool false, .bool false, .slice none 0 0, .bool false, .bool false, .slice none 0 0, .slice none 0 0]) := hid (by
  rw [← hW1]
  have h := (BoxL.new (w.alloc (.cells #[.int .u8 1, .string nm, .int .i64 n, .slice AX 0 cx, .int .i64 pp] 50)) [.bool false, .bool false, .slice none 0 0, .bool false, .bool false, .slice none 0 0, .slice none 0 0] 70).alloc (.cells #[.bool false, .bool false, .slice none 0 0, .bool false, .bool false, .slice none 0 0, .slice none 0 0, .bool false, .bool false, .slice none 0 0, .bool false, .bool false, .slice none 0 0, .slice none 0 0] 94)
  rw [show (w.alloc (.cells #[.int .u8 1, .string nm, .int .i64 n, .slice AX 0 cx, .int .i64 pp] 50)).heap.size = w.heap.size + 1 by simp] at h
  exact h)
 have HL : Hid (BoxL W1 (w.heap.size + 2) [.bool false, .bool false, .slice none 0 0, .bool false, .bool false, .slice none 0 0, .slice none 0 0, .bool false, .bool false, .slice none 0 0, .bool false, .bool false, .slice none 0 0, .slice none 0 0]) := hid (by
  rw [← hW1]
  have h := BoxL.new ((w.alloc (.cells #[.int .u8 1, .string nm, .int .i64 n, .slice AX 0 cx, .int .i64 pp] 50)).alloc (.cells #[.bool false, .bool false, .slice none 0 0, .bool false, .bool false, .slice none 0 0, .slice none 0 0] 70)) [.bool false, .bool false, .slice none 0 0, .bool false, .bool false, .slice none 0 0, .slice none 0 0, .bool false, .bool false, .slice none 0 0, .bool false, .bool false, .slice none 0 0, .slice none 0 0] 94
  rw [show ((w.alloc (.cells #[.int .u8 1, .string nm, .int .i64 n, .slice AX 0 cx, .int .i64 pp] 50)).alloc (.cells #[.bool false, .bool false, .slice none 0 0, .bool false, .bool false, .slice none 0 0, .slice none 0 0] 70)).heap.size = w.heap.size + 2 by simp] at h
  exact h)
 have hsz : w.heap.size + 3 ≤ W1.heap.size := by rw [← hW1]; simp
 obtain ⟨HZ, HB, HLK⟩ := hid3 hsz hB0 (hk.below hB0)
 have hlk : lk < w.heap.size := hk.lt
 obtain ⟨HLT, HBT, HCN⟩ := hid3 hlk (lbetween_r (w := W1) hr hn hn (Int.le_refl n)) (fun (W : World) (E G : Option Addr) (e g K : Nat) (h : W.cell? ⟨lk, 6, none⟩ = some (.slice PA pn pc)) (v1 : U64s W (new K) E e r.l0) (v2 : U64s W (new K) G g r.l1) => lconstant_r (w := W) h hd hr (iv_n (N := 60) hn hn (Int.le_refl n) (by omega)) (by omega) v1 v2)
 have x0 := HX.out.c 0 _ rfl
 have x2 := HX.out.c 2 _ rfl
 have x3 := HX.out.c 3 _ rfl
 clear hB0 hk hd hn hr hsz hlk
 go_enter Tryz.func18, Tryz.ntmps18
 go_wp2
 refine wp_loop_rounds 1 ?_
 rw [rounds_succ]
 go_wp2_with fail
 refine HBT.out.mono ?_
 rintro e w2 ⟨A, a, B, b, rfl, v1, v2, hc⟩
 have HLK2 := HLK.out.below hc
 obtain ⟨HCO, HR2, HB2, HZ2, V1, V2⟩ := hid6 (HCN.out w2 A B a b _ (HLK2.c 6 _ rfl) v1 v2) (HR.out.below hc) (from_ HB.out hc) (Nat.le_trans HZ.out hc.size) v1 v2
 clear hW1 x0 x2 x3 HBT HCN v1 v2 hc HLK2 HR HLK
 go_wp2_with fail
 refine HCO.out.mono ?_
 rintro e w3 ⟨F, f, rfl, hf, hn, hc⟩
 have hgr := grown_set7 w3 (w.heap.size + 1) (.bool r.n0) (.bool r.s0) (.slice A r.l0.length a) (.bool r.n1) (.bool r.s1) (.slice B r.l1.length b) (.slice F (pn + 1) f)
 obtain ⟨HP, HBF, U1, U2, U3, HN⟩ := hid6 ((HR2.out.below hc).put7 (.bool r.n0) (.bool r.s0) (.slice A r.l0.length a) (.bool r.n1) (.bool r.s1) (.slice B r.l1.length b) (.slice F (pn + 1) f)) ((from_ HB2.out hc).grown hgr (by have := HB2.out.size; have := hc.size; omega) (fun k e => by injection e; omega)) (((V1.out.below hc).keepN hgr (fun h => by have h' : W1.heap.size ≤ w.heap.size + 1 := h; have := HZ.out; omega)).mono (Y := new w.heap.size) (new_le (by have := HZ.out; omega))) (((V2.out.below hc).keepN hgr (fun h => by have h' : W1.heap.size ≤ w.heap.size + 1 := h; have := HZ.out; omega)).mono (Y := new w.heap.size) (new_le (by have := HZ.out; omega))) ((hf.keepN hn hgr (fun h => by have h' : _ ≤ w.heap.size + 1 := h; have := HZ2.out; omega) (by have := HZ2.out; omega)).mono (Y := new w.heap.size) (new_le (by have := HZ2.out; omega))) (show NewA w.heap.size F from fun b o e => by have h1 := hn b o e; have := HZ2.out; omega)
 have HR3 := hid (HR2.out.below hc)
 obtain ⟨⟨r0, r1, r2, r3, r4, r5, r6⟩, q0, q1, q2, q3, q4, q5, q6⟩ := HR3.out.all7
 clear hc hgr hf hn V1 V2 HCO HR2
 go_wp2
 refine bodyPost_ret (res_lined2 rfl _ (w.heap.size + 1) rfl HP.out) rfl ?_
 exact ⟨_, _, _, _, _, _, rfl, U1.out, U2.out, U3.out, HN.out, HBF.out⟩
theorem lexpr_var {nm : ByteArray} (hk : BoxL w lk [g0, g1, g2, g3, g4, g5, .slice (some ⟨pb, po, none⟩) pn pc, .slice (some ⟨bb, bo, none⟩) bn bc, .bool w0, .bool w1, .bool w2, .bool w3, .bool w4, .bool w5]) (hd : pn ≤ 63) (h1 : 1 ≤ pn) (hb : 1 ≤ bn) (hbc : bn ≤ 9223372036854775807) (hp : w.cell? ⟨pb, po, none⟩ = some (.int .i64 0))
  (b0 : w.cell? ⟨bb, bo, none⟩ = some (.bool q.n0)) (b1 : w.cell? ⟨bb, bo + 1, none⟩ = some (.bool q.s0)) (b2 : w.cell? ⟨bb, bo + 2, none⟩ = some (.slice C q.l0.length c)) (b3 : w.cell? ⟨bb, bo + 3, none⟩ = some (.bool q.n1)) (b4 : w.cell? ⟨bb, bo + 4, none⟩ = some (.bool q.s1)) (b5 : w.cell? ⟨bb, bo + 5, none⟩ = some (.slice D q.l1.length d)) :
  Calls Tryz.prog 18 #[.pointer (some ⟨lk, 0, none⟩), .agg #[.int .u8 2, .string nm, .int .i64 0, .slice AX 0 cx, .int .i64 pp]] w fun e w' => ∃ F f, e = .returned (.tuple #[.agg #[.bool q.n0, .bool q.s0, .slice C q.l0.length c, .bool q.n1, .bool q.s1, .slice D q.l1.length d, .slice F (pn + 1) f], .bool true]) ∧ IvsAt w' (new w.heap.size) F f (fmOf (varL pn 1)) ∧ NewA w.heap.size F ∧ Below w.heap.size w w' := by
 obtain ⟨W1, hW1⟩ : ∃ W, (((w.alloc (.cells #[.int .u8 2, .string nm, .int .i64 0, .slice AX 0 cx, .int .i64 pp] 50)).alloc (.cells #[.bool false, .bool false, .slice none 0 0, .bool false, .bool false, .slice none 0 0, .slice none 0 0] 70)).alloc (.cells #[.bool false, .bool false, .slice none 0 0, .bool false, .bool false, .slice none 0 0, .slice none 0 0, .bool false, .bool false, .slice none 0 0, .bool false, .bool false, .slice none 0 0, .slice none 0 0] 94)) = W := ⟨_, rfl⟩
 have hB0 : Below w.heap.size w W1 := by
  rw [← hW1]
  exact (((Below.refl _ w).alloc (Nat.le_refl _) _).alloc (by simp) _).alloc (by first | (simp; done) | (simp; omega)) _
 have HX : Hid (BoxL W1 w.heap.size [.int .u8 2, .string nm, .int .i64 0, .slice AX 0 cx, .int .i64 pp]) := hid (by
  rw [← hW1]
  exact ((BoxL.new w [.int .u8 2, .string nm, .int .i64 0, .slice AX 0 cx, .int .i64 pp] 50).alloc _).alloc _)
 have HR : Hid (BoxL W1 (w.heap.size + 1) [.bool false, .bool false, .slice none 0 0, .bool false, .bool false, .slice none 0 0, .slice none 0 0]) := hid (by
  rw [← hW1]
  have h := (BoxL.new (w.alloc (.cells #[.int .u8 2, .string nm, .int .i64 0, .slice AX 0 cx, .int .i64 pp] 50)) [.bool false, .bool false, .slice none 0 0, .bool false, .bool false, .slice none 0 0, .slice none 0 0] 70).alloc (.cells #[.bool false, .bool false, .slice none 0 0, .bool false, .bool false, .slice none 0 0, .slice none 0 0, .bool false, .bool false, .slice none 0 0, .bool false, .bool false, .slice none 0 0, .slice none 0 0] 94)
  rw [show (w.alloc (.cells #[.int .u8 2, .string nm, .int .i64 0, .slice AX 0 cx, .int .i64 pp] 50)).heap.size = w.heap.size + 1 by simp] at h
  exact h)
 have HL : Hid (BoxL W1 (w.heap.size + 2) [.bool false, .bool false, .slice none 0 0, .bool false, .bool false, .slice none 0 0, .slice none 0 0, .bool false, .bool false, .slice none 0 0, .bool false, .bool false, .slice none 0 0, .slice none 0 0]) := hid (by
  rw [← hW1]
  have h := BoxL.new ((w.alloc (.cells #[.int .u8 2, .string nm, .int .i64 0, .slice AX 0 cx, .int .i64 pp] 50)).alloc (.cells #[.bool false, .bool false, .slice none 0 0, .bool false, .bool false, .slice none 0 0, .slice none 0 0] 70)) [.bool false, .bool false, .slice none 0 0, .bool false, .bool false, .slice none 0 0, .slice none 0 0, .bool false, .bool false, .slice none 0 0, .bool false, .bool false, .slice none 0 0, .slice none 0 0] 94
  rw [show ((w.alloc (.cells #[.int .u8 2, .string nm, .int .i64 0, .slice AX 0 cx, .int .i64 pp] 50)).alloc (.cells #[.bool false, .bool false, .slice none 0 0, .bool false, .bool false, .slice none 0 0, .slice none 0 0] 70)).heap.size = w.heap.size + 2 by simp] at h
  exact h)
 have hsz : w.heap.size + 3 ≤ W1.heap.size := by rw [← hW1]; simp
 obtain ⟨HZ, HB, HLK⟩ := hid3 hsz hB0 (hk.below hB0)
 have hlk : lk < w.heap.size := hk.lt
 have HLT := hid hlk
 have p1 := keepC hB0 hp
 have HIX := hid (fun q => sindex_first (w := W1.drewN q) (b := pb) (o := po) (c := pc) (n := pn) (x := 0) p1 h1 (by omega))
 have HVR : Hid (∀ W : World, Calls Tryz.prog 41 #[.int .i64 (pn : Int), .int .i64 1] W fun e w' => ∃ Av cv, e = .returned (.tuple #[.slice Av (pn + 1) cv, .int .i64 0]) ∧ IvsAt w' (new W.heap.size) Av cv (fmOf (varL pn 1)) ∧ Below W.heap.size W w' ∧ NewA W.heap.size Av) := fun W => lvar_goodN (d := pn) (i := 1) hd (by omega) h1
 have HBB := hid (And.intro (keepC hB0 b0) (And.intro (keepC hB0 b1) (And.intro (keepC hB0 b2) (And.intro (keepC hB0 b3) (And.intro (keepC hB0 b4) (keepC hB0 b5))))))
 have hbp : (0 : Int) < (bn : Int) := by omega
 have x0 := HX.out.c 0 _ rfl
 have x2 := HX.out.c 2 _ rfl
 have x3 := HX.out.c 3 _ rfl
 have l6 := HLK.out.c 6 _ rfl
 clear hB0 hk hd h1 hp b0 b1 b2 b3 b4 b5 hsz hlk p1
 go_enter Tryz.func18, Tryz.ntmps18
 go_wp2
 refine wp_loop_rounds 1 ?_
 rw [rounds_succ]
 go_wp2
 first | go_quiet ((go_at_call 40; exact Calls.quiet_of_same ((HIX.out _).mono fun e w' h => ⟨h.1, h.2.symm⟩))) | fail
 go_wp2_with fail
 refine (HVR.out _).mono ?_
 rintro e w2 ⟨F, f, rfl, hf, hc', hn'⟩
 have hc : Below W1.heap.size W1 w2 := from_ (below_drewN' (Below.refl W1.heap.size W1) _) hc'
 have hn : NewA W1.heap.size F := hn'
 have HLK2 := HLK.out.below hc
 have l7 := HLK2.c 7 _ rfl
 have x2' := (HX.out.below hc).c 2 _ rfl
 obtain ⟨b0, b1, b2, b3, b4, b5⟩ := HBB.out
 replace b0 := keepC hc b0
 replace b1 := keepC hc b1
 replace b2 := keepC hc b2
 replace b3 := keepC hc b3
 replace b4 := keepC hc b4
 replace b5 := keepC hc b5
 have hgr := grown_set7 w2 (w.heap.size + 1) (.bool q.n0) (.bool q.s0) (.slice C q.l0.length c) (.bool q.n1) (.bool q.s1) (.slice D q.l1.length d) (.slice F (pn + 1) f)
 have HP := hid ((HR.out.below hc).put7 (.bool q.n0) (.bool q.s0) (.slice C q.l0.length c) (.bool q.n1) (.bool q.s1) (.slice D q.l1.length d) (.slice F (pn + 1) f)).drew
 have HBF := hid ((from_ HB.out hc).grown hgr (by have := HB.out.size; have := hc.size; omega) (fun k e => by injection e; omega)).drew
 have hf2 : IvsAt w2 (new W1.heap.size) F f (fmOf (varL pn 1)) := hf
 obtain ⟨U3, HN, HR3⟩ := hid3 (((hf2.keepN hn hgr (fun h => by have h' : W1.heap.size ≤ w.heap.size + 1 := h; have := HZ.out; omega) (by have := HZ.out; omega)).mono (Y := new w.heap.size) (new_le (by have := HZ.out; omega))).below bdr_) (show NewA w.heap.size F from fun b o e => by have h1 := hn b o e; have := HZ.out; omega) (HR.out.below hc)
 obtain ⟨⟨r0, r1, r2, r3, r4, r5, r6⟩, q0, q1, q2, q3, q4, q5, q6⟩ := HR3.out.all7
 clear hc hc' hn' hgr hf hf2 hn HR HLK2 x0 x2 x3 l6 hW1 HIX HVR HBB
 go_wp2
 go_region
 all_goals
  go_wp2
  refine bodyPost_ret (res_lined2 rfl _ (w.heap.size + 1) rfl HP.out) rfl ?_
  exact ⟨_, _, rfl, U3.out, HN.out, HBF.out⟩
theorem BoxL.kept {W' : World} {vs : List Value} {r : Nat} (h : BoxL W g vs) (hg : W.grownBy W' (some r)) (hr : r ≠ g) : BoxL W' g vs := by
 have hb := hg.block g h.lt (fun e => hr (by injection e with e; exact e.symm))
 exact ⟨fun j v e => (World.cell?_of_block (a := ⟨g, j, none⟩) hb).trans (h.c j v e), fun j v e => (World.frozen?_of_block (a := ⟨g, j, none⟩) hb).trans (h.f j v e), Nat.lt_of_lt_of_le h.lt hg.size⟩
theorem fm_repl (d i : Nat) (hP : IvN 32 P.1 P.2) : ∀ j (h : j < ((List.replicate (d + 1) ((0 : Int), (0 : Int))).set i P).length), IvN 32 ((List.replicate (d + 1) ((0 : Int), (0 : Int))).set i P)[j].1 ((List.replicate (d + 1) ((0 : Int), (0 : Int))).set i P)[j].2 := fun j h => by
 rw [List.getElem_set]
 split
 · exact hP
 · rw [List.getElem_replicate]
   exact iv_n (x := 0) (y := 0) (by omega) (by omega) (by omega) (by omega)
theorem fm_var (d : Nat) : FmW 32 (varL d 1) (fmOf (varL d 1)) := FmW.of (fm_repl d 1 (P := (1, 1)) (iv_n (x := 1) (y := 1) (by omega) (by omega) (by omega) (by omega)))
theorem fm_const (d : Nat) (hP : IvN 32 P.1 P.2) : FmW 32 (constL d P) (fmOf (constL d P)) := FmW.of (fm_repl d 0 hP)
theorem grown_set7b (W : World) (g : Nat) (x0 x1 x2 x3 x4 x5 x6 : Value) : W.grownBy (((((((W.setCell ⟨g, 7, none⟩ x0).setCell ⟨g, 8, none⟩ x1).setCell ⟨g, 9, none⟩ x2).setCell ⟨g, 10, none⟩ x3).setCell ⟨g, 11, none⟩ x4).setCell ⟨g, 12, none⟩ x5).setCell ⟨g, 13, none⟩ x6) (some g) :=
 (((((((grown_set W g 7 x0).trans (grown_set _ g 8 x1)).trans (grown_set _ g 9 x2)).trans (grown_set _ g 10 x3)).trans (grown_set _ g 11 x4)).trans (grown_set _ g 12 x5)).trans (grown_set _ g 13 x6))
theorem BoxL.all14 (H : BoxL W g [a0, a1, a2, a3, a4, a5, a6, a7, a8, a9, a10, a11, a12, a13]) : W.cell? ⟨g, 0, none⟩ = some a0 ∧ W.cell? ⟨g, 1, none⟩ = some a1 ∧ W.cell? ⟨g, 2, none⟩ = some a2 ∧ W.cell? ⟨g, 3, none⟩ = some a3 ∧ W.cell? ⟨g, 4, none⟩ = some a4 ∧ W.cell? ⟨g, 5, none⟩ = some a5 ∧ W.cell? ⟨g, 6, none⟩ = some a6 ∧ W.frozen? ⟨g, 0, none⟩ = false ∧ W.frozen? ⟨g, 1, none⟩ = false ∧ W.frozen? ⟨g, 2, none⟩ = false ∧ W.frozen? ⟨g, 3, none⟩ = false ∧ W.frozen? ⟨g, 4, none⟩ = false ∧ W.frozen? ⟨g, 5, none⟩ = false ∧ W.frozen? ⟨g, 6, none⟩ = false := ⟨H.c 0 _ rfl, H.c 1 _ rfl, H.c 2 _ rfl, H.c 3 _ rfl, H.c 4 _ rfl, H.c 5 _ rfl, H.c 6 _ rfl, H.f 0 _ rfl, H.f 1 _ rfl, H.f 2 _ rfl, H.f 3 _ rfl, H.f 4 _ rfl, H.f 5 _ rfl, H.f 6 _ rfl⟩
theorem BoxL.all14b (H : BoxL W g [a0, a1, a2, a3, a4, a5, a6, a7, a8, a9, a10, a11, a12, a13]) : W.cell? ⟨g, 7, none⟩ = some a7 ∧ W.cell? ⟨g, 8, none⟩ = some a8 ∧ W.cell? ⟨g, 9, none⟩ = some a9 ∧ W.cell? ⟨g, 10, none⟩ = some a10 ∧ W.cell? ⟨g, 11, none⟩ = some a11 ∧ W.cell? ⟨g, 12, none⟩ = some a12 ∧ W.cell? ⟨g, 13, none⟩ = some a13 ∧ W.frozen? ⟨g, 7, none⟩ = false ∧ W.frozen? ⟨g, 8, none⟩ = false ∧ W.frozen? ⟨g, 9, none⟩ = false ∧ W.frozen? ⟨g, 10, none⟩ = false ∧ W.frozen? ⟨g, 11, none⟩ = false ∧ W.frozen? ⟨g, 12, none⟩ = false ∧ W.frozen? ⟨g, 13, none⟩ = false := ⟨H.c 7 _ rfl, H.c 8 _ rfl, H.c 9 _ rfl, H.c 10 _ rfl, H.c 11 _ rfl, H.c 12 _ rfl, H.c 13 _ rfl, H.f 7 _ rfl, H.f 8 _ rfl, H.f 9 _ rfl, H.f 10 _ rfl, H.f 11 _ rfl, H.f 12 _ rfl, H.f 13 _ rfl⟩
theorem BoxL.allc14 (H : BoxL W g [a0, a1, a2, a3, a4, a5, a6, a7, a8, a9, a10, a11, a12, a13]) : W.cell? ⟨g, 0, none⟩ = some a0 ∧ W.cell? ⟨g, 1, none⟩ = some a1 ∧ W.cell? ⟨g, 2, none⟩ = some a2 ∧ W.cell? ⟨g, 3, none⟩ = some a3 ∧ W.cell? ⟨g, 4, none⟩ = some a4 ∧ W.cell? ⟨g, 5, none⟩ = some a5 ∧ W.cell? ⟨g, 6, none⟩ = some a6 ∧ W.cell? ⟨g, 7, none⟩ = some a7 ∧ W.cell? ⟨g, 8, none⟩ = some a8 ∧ W.cell? ⟨g, 9, none⟩ = some a9 ∧ W.cell? ⟨g, 10, none⟩ = some a10 ∧ W.cell? ⟨g, 11, none⟩ = some a11 ∧ W.cell? ⟨g, 12, none⟩ = some a12 ∧ W.cell? ⟨g, 13, none⟩ = some a13 := ⟨H.c 0 _ rfl, H.c 1 _ rfl, H.c 2 _ rfl, H.c 3 _ rfl, H.c 4 _ rfl, H.c 5 _ rfl, H.c 6 _ rfl, H.c 7 _ rfl, H.c 8 _ rfl, H.c 9 _ rfl, H.c 10 _ rfl, H.c 11 _ rfl, H.c 12 _ rfl, H.c 13 _ rfl⟩
theorem lexpr_add {nm sv sn : ByteArray} {n : Int} (hk : BoxL w lk [g0, g1, g2, g3, g4, g5, .slice (some ⟨pb, po, none⟩) pn pc, .slice (some ⟨bb, bo, none⟩) bn bc, .bool w0, .bool w1, .bool w2, .bool w3, .bool w4, .bool w5]) (hd : pn ≤ 59) (h1 : 1 ≤ pn) (hb : 1 ≤ bn) (hbc : bn ≤ 9223372036854775807) (hp : w.cell? ⟨pb, po, none⟩ = some (.int .i64 0)) (b0 : w.cell? ⟨bb, bo, none⟩ = some (.bool q.n0)) (b1 : w.cell? ⟨bb, bo + 1, none⟩ = some (.bool q.s0)) (b2 : w.cell? ⟨bb, bo + 2, none⟩ = some (.slice C q.l0.length c)) (b3 : w.cell? ⟨bb, bo + 3, none⟩ = some (.bool q.n1)) (b4 : w.cell? ⟨bb, bo + 4, none⟩ = some (.bool q.s1)) (b5 : w.cell? ⟨bb, bo + 5, none⟩ = some (.slice D q.l1.length d))
  (i0 : w.cell? ⟨eb, eo, none⟩ = some (.int .u8 2)) (i1 : w.cell? ⟨eb, eo + 1, none⟩ = some (.string sv)) (i2 : w.cell? ⟨eb, eo + 2, none⟩ = some (.int .i64 0)) (i3 : w.cell? ⟨eb, eo + 3, none⟩ = some (.slice Av 0 cv)) (i4 : w.cell? ⟨eb, eo + 4, none⟩ = some (.int .i64 pv)) (j0 : w.cell? ⟨eb, eo + 5, none⟩ = some (.int .u8 1)) (j1 : w.cell? ⟨eb, eo + 5 + 1, none⟩ = some (.string sn)) (j2 : w.cell? ⟨eb, eo + 5 + 2, none⟩ = some (.int .i64 n)) (j3 : w.cell? ⟨eb, eo + 5 + 3, none⟩ = some (.slice An 0 cn)) (j4 : w.cell? ⟨eb, eo + 5 + 4, none⟩ = some (.int .i64 pq))
  (iq : IvW Q q) (gq : IvN 59 Q.1 Q.2) (u3 : U64s w Zq C c q.l0) (u4 : U64s w Zq D d q.l1) (hn : -9223372036854775808 ≤ n ∧ n ≤ 9223372036854775807) (hr : IvW (ivA Q (n, n)) r) (hin : allP.1 ≤ (ivA Q (n, n)).1 ∧ (ivA Q (n, n)).2 ≤ allP.2) (gr : IvN 60 (ivA Q (n, n)).1 (ivA Q (n, n)).2) :
  Calls Tryz.prog 18 #[.pointer (some ⟨lk, 0, none⟩), .agg #[.int .u8 5, .string nm, .int .i64 0, .slice (some ⟨eb, eo, none⟩) 2 cx, .int .i64 pp]] w fun e w' => ∃ rA ra rB rb F f, e = .returned (.tuple #[.agg #[.bool r.n0, .bool r.s0, .slice rA r.l0.length ra, .bool r.n1, .bool r.s1, .slice rB r.l1.length rb, .slice F (fmOf (addLL (varL pn 1) (constL pn (n, n)))).length f], .bool true]) ∧ U64s w' (new w.heap.size) rA ra r.l0 ∧ U64s w' (new w.heap.size) rB rb r.l1 ∧ IvsAt w' (new w.heap.size) F f (fmOf (addLL (varL pn 1) (constL pn (n, n)))) ∧ NewA w.heap.size F ∧ Below w.heap.size w w' := by
 obtain ⟨W1, hW1⟩ : ∃ W, (((w.alloc (.cells #[.int .u8 5, .string nm, .int .i64 0, .slice (some ⟨eb, eo, none⟩) 2 cx, .int .i64 pp] 50)).alloc (.cells #[.bool false, .bool false, .slice none 0 0, .bool false, .bool false, .slice none 0 0, .slice none 0 0] 70)).alloc (.cells #[.bool false, .bool false, .slice none 0 0, .bool false, .bool false, .slice none 0 0, .slice none 0 0, .bool false, .bool false, .slice none 0 0, .bool false, .bool false, .slice none 0 0, .slice none 0 0] 94)) = W := ⟨_, rfl⟩
 have hB0 : Below w.heap.size w W1 := by
  rw [← hW1]
  exact (((Below.refl _ w).alloc (Nat.le_refl _) _).alloc (by simp) _).alloc (by first | (simp; done) | (simp; omega)) _
 have HX : Hid (BoxL W1 w.heap.size [.int .u8 5, .string nm, .int .i64 0, .slice (some ⟨eb, eo, none⟩) 2 cx, .int .i64 pp]) := hid (by
  rw [← hW1]
  exact ((BoxL.new w [.int .u8 5, .string nm, .int .i64 0, .slice (some ⟨eb, eo, none⟩) 2 cx, .int .i64 pp] 50).alloc _).alloc _)
 have HR : Hid (BoxL W1 (w.heap.size + 1) [.bool false, .bool false, .slice none 0 0, .bool false, .bool false, .slice none 0 0, .slice none 0 0]) := hid (by
  rw [← hW1]
  have h := (BoxL.new (w.alloc (.cells #[.int .u8 5, .string nm, .int .i64 0, .slice (some ⟨eb, eo, none⟩) 2 cx, .int .i64 pp] 50)) [.bool false, .bool false, .slice none 0 0, .bool false, .bool false, .slice none 0 0, .slice none 0 0] 70).alloc (.cells #[.bool false, .bool false, .slice none 0 0, .bool false, .bool false, .slice none 0 0, .slice none 0 0, .bool false, .bool false, .slice none 0 0, .bool false, .bool false, .slice none 0 0, .slice none 0 0] 94)
  rw [show (w.alloc (.cells #[.int .u8 5, .string nm, .int .i64 0, .slice (some ⟨eb, eo, none⟩) 2 cx, .int .i64 pp] 50)).heap.size = w.heap.size + 1 by simp] at h
  exact h)
 have HL : Hid (BoxL W1 (w.heap.size + 2) [.bool false, .bool false, .slice none 0 0, .bool false, .bool false, .slice none 0 0, .slice none 0 0, .bool false, .bool false, .slice none 0 0, .bool false, .bool false, .slice none 0 0, .slice none 0 0]) := hid (by
  rw [← hW1]
  have h := BoxL.new ((w.alloc (.cells #[.int .u8 5, .string nm, .int .i64 0, .slice (some ⟨eb, eo, none⟩) 2 cx, .int .i64 pp] 50)).alloc (.cells #[.bool false, .bool false, .slice none 0 0, .bool false, .bool false, .slice none 0 0, .slice none 0 0] 70)) [.bool false, .bool false, .slice none 0 0, .bool false, .bool false, .slice none 0 0, .slice none 0 0, .bool false, .bool false, .slice none 0 0, .bool false, .bool false, .slice none 0 0, .slice none 0 0] 94
  rw [show ((w.alloc (.cells #[.int .u8 5, .string nm, .int .i64 0, .slice (some ⟨eb, eo, none⟩) 2 cx, .int .i64 pp] 50)).alloc (.cells #[.bool false, .bool false, .slice none 0 0, .bool false, .bool false, .slice none 0 0, .slice none 0 0] 70)).heap.size = w.heap.size + 2 by simp] at h
  exact h)
 have hsz : w.heap.size + 3 ≤ W1.heap.size := by rw [← hW1]; simp
 obtain ⟨HZ, HB, HLK⟩ := hid3 hsz hB0 (hk.below hB0)
 have hlk : lk < w.heap.size := hk.lt
 have HLT := hid hlk
 obtain ⟨z, hz0⟩ : ∃ r, IvW (n, n) r := ⟨_, IvW.mk _⟩
 have gz := fun (N : Nat) (h : 8 ≤ N) => iv_n (N := N) hn hn (Int.le_refl n) h
 obtain ⟨HCN, HCV, HEI, HEJ⟩ := hid4 (fun (W : World) (h : BoxL W lk [g0, g1, g2, g3, g4, g5, .slice (some ⟨pb, po, none⟩) pn pc, .slice (some ⟨bb, bo, none⟩) bn bc, .bool w0, .bool w1, .bool w2, .bool w3, .bool w4, .bool w5]) => lexpr_num (w := W) (cx := cn) (AX := An) (nm := sn) (pp := pq) h (by omega) hn hz0) (fun (W : World) (h : BoxL W lk [g0, g1, g2, g3, g4, g5, .slice (some ⟨pb, po, none⟩) pn pc, .slice (some ⟨bb, bo, none⟩) bn bc, .bool w0, .bool w1, .bool w2, .bool w3, .bool w4, .bool w5]) (hw : Below w.heap.size w W) => lexpr_var (w := W) (cx := cv) (AX := Av) (nm := sv) (pp := pv) (q := q) (C := C) (c := c) (D := D) (d := d) h (by omega) h1 hb hbc (keepC hw hp) (keepC hw b0) (keepC hw b1) (keepC hw b2) (keepC hw b3) (keepC hw b4) (keepC hw b5)) (And.intro (keepC hB0 i0) (And.intro (keepC hB0 i1) (And.intro (keepC hB0 i2) (And.intro (keepC hB0 i3) (keepC hB0 i4))))) (And.intro (keepC hB0 j0) (And.intro (keepC hB0 j1) (And.intro (keepC hB0 j2) (And.intro (keepC hB0 j3) (keepC hB0 j4)))))
 have lv : (fmOf (varL pn 1)).length = pn + 1 := by rw [fmOf_len, varL_len]
 have lc : (fmOf (constL pn (n, n))).length = pn + 1 := by rw [fmOf_len, constL_len]
 obtain ⟨HU3, HU4, HCF⟩ := hid3 u3 u4 (fun (W : World) (hw : Below w.heap.size w W) (Fv Fn E G : Option Addr) (fv fn e1 e2 K1 K2 : Nat) (k1 : IvsAt W (new K1) Fv fv (fmOf (varL pn 1))) (k2 : IvsAt W (new K2) Fn fn (fmOf (constL pn (n, n)))) (k3 : U64s W (new K2) E e1 z.l0) (k4 : U64s W (new K2) G e2 z.l1) => lstraight_add (w := W) (lk := lk) k1 k2 (fm_var pn) (fm_const pn (gz 32 (by omega))) (by rw [varL_len]; omega) (by rw [varL_len, constL_len]) iq gq hz0 (gz 59 (by omega)) (u3.below hw) (u4.below hw) k3 k4 hr hin gr)
 rw [lv, lc] at HCF
 obtain ⟨HEI, HEJ, HLW⟩ := hid3 (fun (W : World) (hw : Below w.heap.size w W) => And.intro (keepC hw i0) (And.intro (keepC hw i1) (And.intro (keepC hw i2) (And.intro (keepC hw i3) (keepC hw i4))))) (fun (W : World) (hw : Below w.heap.size w W) => And.intro (keepC hw j0) (And.intro (keepC hw j1) (And.intro (keepC hw j2) (And.intro (keepC hw j3) (keepC hw j4))))) (fun (W : World) (hw : Below w.heap.size w W) => hk.below hw)
 clear lv lc iq gq u3 u4 hr hin gr gz hz0 hB0 hk hd h1 hp b0 b1 b2 b3 b4 b5 hsz hlk i0 i1 i2 i3 i4 j0 j1 j2 j3 j4 HLK
 generalize fmOf (addLL (varL pn 1) (constL pn (n, n))) = rs at *
 have x0 := HX.out.c 0 _ rfl
 have x3 := HX.out.c 3 _ rfl
 obtain ⟨i0, i1, i2, i3, i4⟩ := HEI.out _ HB.out
 have ha1 := (Below.refl W1.heap.size W1).alloc (Nat.le_refl _) (.cells #[.int .u8 2, .string sv, .int .i64 0, .slice Av 0 cv, .int .i64 pv] 50)
 have HB2 := hid (from_ HB.out ha1)
 obtain ⟨HC0, HX2, HR2, HL2, HZ2⟩ := hid5 (HCV.out _ (HLW.out _ HB2.out) HB2.out) (HX.out.below ha1) (HR.out.below ha1) (HL.out.below ha1) (Nat.le_trans HZ.out ha1.size)
 clear ha1 HR HL HEI HX HB
 go_enter Tryz.func18, Tryz.ntmps18
 go_wp2
 refine wp_loop_rounds 3 ?_
 rw [rounds_succ]
 go_wp2_with fail
 refine HC0.out.mono ?_
 rintro e w3 ⟨Fv, fv, rfl, hfv, hnv, hc⟩
 clear x0 x3 i0 i1 i2 i3 i4 HC0 hW1
 have HL3 := hid (HL2.out.below hc)
 obtain ⟨W4, hW4⟩ : ∃ W, (((((((w3.setCell ⟨(w.heap.size + 2), 0, none⟩ (.bool q.n0)).setCell ⟨(w.heap.size + 2), 1, none⟩ (.bool q.s0)).setCell ⟨(w.heap.size + 2), 2, none⟩ (.slice C q.l0.length c)).setCell ⟨(w.heap.size + 2), 3, none⟩ (.bool q.n1)).setCell ⟨(w.heap.size + 2), 4, none⟩ (.bool q.s1)).setCell ⟨(w.heap.size + 2), 5, none⟩ (.slice D q.l1.length d)).setCell ⟨(w.heap.size + 2), 6, none⟩ (.slice Fv (pn + 1) fv)) = W := ⟨_, rfl⟩
 have hg0 : w3.grownBy W4 (some (w.heap.size + 2)) := by rw [← hW4]; exact grown_set7 _ _ _ _ _ _ _ _ _
 have HB4 : Hid (Below w.heap.size w W4) := hid ((from_ HB2.out hc).grown hg0 (by have := HB2.out.size; have := hc.size; omega) (fun k e => by injection e; omega))
 have HL4 : Hid (BoxL W4 (w.heap.size + 2) [.bool q.n0, .bool q.s0, .slice C q.l0.length c, .bool q.n1, .bool q.s1, .slice D q.l1.length d, .slice Fv (pn + 1) fv, .bool false, .bool false, .slice none 0 0, .bool false, .bool false, .slice none 0 0, .slice none 0 0]) := hid (by rw [← hW4]; exact (((((((HL3.out.set 0 (.bool q.n0) rfl).set 1 (.bool q.s0) rfl).set 2 (.slice C q.l0.length c) rfl).set 3 (.bool q.n1) rfl).set 4 (.bool q.s1) rfl).set 5 (.slice D q.l1.length d) rfl).set 6 (.slice Fv (pn + 1) fv) rfl))
 obtain ⟨HX4, HR4, HZ4, HFv⟩ := hid4 ((HX2.out.below hc).kept hg0 (by omega)) ((HR2.out.below hc).kept hg0 (by omega)) (Nat.le_trans HZ2.out (Nat.le_trans hc.size hg0.size)) (And.intro (hfv.keepN hnv hg0 (fun h => by have h' : _ ≤ w.heap.size + 2 := h; have := HZ2.out; omega) (by have := HZ2.out; omega)) hnv)
 have z3 := HL3.out.all14
 obtain ⟨y0, y1, y2, y3, y4, y5, y6, f0, f1, f2, f3, f4, f5, f6⟩ := z3
 have ha5 := (Below.refl W4.heap.size W4).alloc (Nat.le_refl _) (.cells #[.int .u8 1, .string sn, .int .i64 n, .slice An 0 cn, .int .i64 pq] 50)
 obtain ⟨j0, j1, j2, j3, j4⟩ := HEJ.out _ HB4.out
 have HB5 := hid (from_ HB4.out ha5)
 obtain ⟨HC1, HX5, HR5, HL5, HZ5⟩ := hid5 (HCN.out _ (HLW.out _ HB5.out)) (HX4.out.below ha5) (HR4.out.below ha5) (HL4.out.below ha5) (Nat.le_trans HZ4.out ha5.size)
 replace HFv := hid (And.intro (HFv.out.1.below ha5) HFv.out.2)
 clear hc hg0 HX2 HR2 HL2 HX4 HR4 HL4 HL3 HB2 ha5 HEJ hfv hnv
 go_wp2
 rw [rounds_succ]
 go_wp2_with fail
 refine HC1.out.mono ?_
 rintro e w6 ⟨E, e1, G, e2, Fn, fn, rfl, o1, o2, hfn, hnn, hc⟩
 clear hW4 y0 y1 y2 y3 y4 y5 y6 f0 f1 f2 f3 f4 f5 f6 j0 j1 j2 j3 j4 HC1
 have HL6 := hid (HL5.out.below hc)
 obtain ⟨W7, hW7⟩ : ∃ W, (((((((w6.setCell ⟨(w.heap.size + 2), 7, none⟩ (.bool z.n0)).setCell ⟨(w.heap.size + 2), 8, none⟩ (.bool z.s0)).setCell ⟨(w.heap.size + 2), 9, none⟩ (.slice E z.l0.length e1)).setCell ⟨(w.heap.size + 2), 10, none⟩ (.bool z.n1)).setCell ⟨(w.heap.size + 2), 11, none⟩ (.bool z.s1)).setCell ⟨(w.heap.size + 2), 12, none⟩ (.slice G z.l1.length e2)).setCell ⟨(w.heap.size + 2), 13, none⟩ (.slice Fn (pn + 1) fn)) = W := ⟨_, rfl⟩
 have hg1 : w6.grownBy W7 (some (w.heap.size + 2)) := by rw [← hW7]; exact grown_set7b _ _ _ _ _ _ _ _ _
 have HB7 : Hid (Below w.heap.size w W7) := hid ((from_ HB5.out hc).grown hg1 (by have := HB5.out.size; have := hc.size; omega) (fun k e => by injection e; omega))
 have HL7 : Hid (BoxL W7 (w.heap.size + 2) [.bool q.n0, .bool q.s0, .slice C q.l0.length c, .bool q.n1, .bool q.s1, .slice D q.l1.length d, .slice Fv (pn + 1) fv, .bool z.n0, .bool z.s0, .slice E z.l0.length e1, .bool z.n1, .bool z.s1, .slice G z.l1.length e2, .slice Fn (pn + 1) fn]) := hid (by rw [← hW7]; exact (((((((HL6.out.set 7 (.bool z.n0) rfl).set 8 (.bool z.s0) rfl).set 9 (.slice E z.l0.length e1) rfl).set 10 (.bool z.n1) rfl).set 11 (.bool z.s1) rfl).set 12 (.slice G z.l1.length e2) rfl).set 13 (.slice Fn (pn + 1) fn) rfl))
 obtain ⟨HX7, HR7, HZ7⟩ := hid3 ((HX5.out.below hc).kept hg1 (by omega)) ((HR5.out.below hc).kept hg1 (by omega)) (Nat.le_trans HZ5.out (Nat.le_trans hc.size hg1.size))
 replace HFv := hid (And.intro (HFv.out.1.below hc) HFv.out.2)
 replace HFv := hid (And.intro (HFv.out.1.keepN HFv.out.2 hg1 (fun h => by have h' : _ ≤ w.heap.size + 2 := h; have := HZ2.out; omega) (by have := HZ2.out; omega)) HFv.out.2)
 obtain ⟨HFn, HO1, HO2⟩ := hid3 (And.intro (hfn.keepN hnn hg1 (fun h => by have h' : _ ≤ w.heap.size + 2 := h; have := HZ5.out; omega) (by have := HZ5.out; omega)) hnn) (o1.keepN hg1 (fun h => by have h' : _ ≤ w.heap.size + 2 := h; have := HZ5.out; omega)) (o2.keepN hg1 (fun h => by have h' : _ ≤ w.heap.size + 2 := h; have := HZ5.out; omega))
 have z6 := HL6.out.all14b
 obtain ⟨y0, y1, y2, y3, y4, y5, y6, f0, f1, f2, f3, f4, f5, f6⟩ := z6
 have HCC := hid (HCF.out W7 HB7.out _ _ _ _ _ _ _ _ _ _ HFv.out.1 HFn.out.1 HO1.out HO2.out)
 have x0 := HX7.out.c 0 _ rfl
 have z7 := HL7.out.allc14
 obtain ⟨c0, c1, c2, c3, c4, c5, c6, d0, d1, d2, d3, d4, d5, d6⟩ := z7
 clear hc hg1 HX5 HR5 HL5 HL6 HL7 HB5 HCF HCV HCN HLW HX7 o1 o2 hfn hnn HFv HFn HO1 HO2
 go_wp2
 rw [rounds_succ]
 go_wp2_with fail
 refine HCC.out.mono ?_
 rintro e w8 ⟨rA, ra, rB, rb, F, f, rfl, v1, v2, hf, hn, hc⟩
 clear hW7 y0 y1 y2 y3 y4 y5 y6 f0 f1 f2 f3 f4 f5 f6 x0 c0 c1 c2 c3 c4 c5 c6 d0 d1 d2 d3 d4 d5 d6 HCC
 have hgr := grown_set7 w8 (w.heap.size + 1) (.bool r.n0) (.bool r.s0) (.slice rA r.l0.length ra) (.bool r.n1) (.bool r.s1) (.slice rB r.l1.length rb) (.slice F rs.length f)
 have hsz8 := hc.size
 obtain ⟨HP, U1, U2, U3, HN, HR8⟩ := hid6 ((HR7.out.below hc).put7 (.bool r.n0) (.bool r.s0) (.slice rA r.l0.length ra) (.bool r.n1) (.bool r.s1) (.slice rB r.l1.length rb) (.slice F rs.length f)) ((v1.keepN hgr (fun h => by have h' : W7.heap.size ≤ w.heap.size + 1 := h; have := HZ7.out; omega)).mono (Y := new w.heap.size) (new_le (by have := HZ7.out; omega))) ((v2.keepN hgr (fun h => by have h' : W7.heap.size ≤ w.heap.size + 1 := h; have := HZ7.out; omega)).mono (Y := new w.heap.size) (new_le (by have := HZ7.out; omega))) ((hf.keepN hn hgr (fun h => by have h' : W7.heap.size ≤ w.heap.size + 1 := h; have := HZ7.out; omega) (by have := HZ7.out; omega)).mono (Y := new w.heap.size) (new_le (by have := HZ7.out; omega))) (show NewA w.heap.size F from fun b o e => by have h1 := hn b o e; have := HZ7.out; omega) (HR7.out.below hc)
 have HBF := hid ((from_ HB7.out hc).grown hgr (by have := HB7.out.size; omega) (fun k e => by injection e; omega))
 clear hc hgr hsz8 v1 v2 hf hn HR7
 obtain ⟨⟨r0, r1, r2, r3, r4, r5, r6⟩, q0, q1, q2, q3, q4, q5, q6⟩ := HR8.out.all7
 go_wp2
 refine bodyPost_ret (res_lined2 rfl _ (w.heap.size + 1) rfl HP.out) rfl ?_
 exact ⟨_, _, _, _, _, _, rfl, U1.out, U2.out, U3.out, HN.out, HBF.out⟩
theorem lexpr_div {nm sv sn : ByteArray} {n : Int} (hk : BoxL w lk [g0, g1, g2, g3, g4, g5, .slice (some ⟨pb, po, none⟩) pn pc, .slice (some ⟨bb, bo, none⟩) bn bc, .bool w0, .bool w1, .bool w2, .bool w3, .bool w4, .bool w5]) (hd : pn ≤ 59) (h1 : 1 ≤ pn) (hb : 1 ≤ bn) (hbc : bn ≤ 9223372036854775807) (hp : w.cell? ⟨pb, po, none⟩ = some (.int .i64 0)) (b0 : w.cell? ⟨bb, bo, none⟩ = some (.bool q.n0)) (b1 : w.cell? ⟨bb, bo + 1, none⟩ = some (.bool q.s0)) (b2 : w.cell? ⟨bb, bo + 2, none⟩ = some (.slice C q.l0.length c)) (b3 : w.cell? ⟨bb, bo + 3, none⟩ = some (.bool q.n1)) (b4 : w.cell? ⟨bb, bo + 4, none⟩ = some (.bool q.s1)) (b5 : w.cell? ⟨bb, bo + 5, none⟩ = some (.slice D q.l1.length d))
  (i0 : w.cell? ⟨eb, eo, none⟩ = some (.int .u8 1)) (i1 : w.cell? ⟨eb, eo + 1, none⟩ = some (.string sn)) (i2 : w.cell? ⟨eb, eo + 2, none⟩ = some (.int .i64 n)) (i3 : w.cell? ⟨eb, eo + 3, none⟩ = some (.slice An 0 cn)) (i4 : w.cell? ⟨eb, eo + 4, none⟩ = some (.int .i64 pq)) (j0 : w.cell? ⟨eb, eo + 5, none⟩ = some (.int .u8 2)) (j1 : w.cell? ⟨eb, eo + 5 + 1, none⟩ = some (.string sv)) (j2 : w.cell? ⟨eb, eo + 5 + 2, none⟩ = some (.int .i64 0)) (j3 : w.cell? ⟨eb, eo + 5 + 3, none⟩ = some (.slice Av 0 cv)) (j4 : w.cell? ⟨eb, eo + 5 + 4, none⟩ = some (.int .i64 pv))
  (iq : IvW Q q) (gq : IvN 59 Q.1 Q.2) (u3 : U64s w Zq C c q.l0) (u4 : U64s w Zq D d q.l1) (hn : -9223372036854775808 ≤ n ∧ n ≤ 9223372036854775807) (hz : ¬ Zq.blk lk) (h0 : Q.1 ≤ 0 ∧ 0 ≤ Q.2) (hne : partsP Q ≠ []) (hr : IvW (ivD (n, n) Q) r) (hin : allP.1 ≤ (ivD (n, n) Q).1 ∧ (ivD (n, n) Q).2 ≤ allP.2) (gr : IvN 60 (ivD (n, n) Q).1 (ivD (n, n) Q).2) :
  Calls Tryz.prog 18 #[.pointer (some ⟨lk, 0, none⟩), .agg #[.int .u8 8, .string nm, .int .i64 0, .slice (some ⟨eb, eo, none⟩) 2 cx, .int .i64 pp]] w fun e w' => ∃ rA ra rB rb F f, e = .returned (.tuple #[.agg #[.bool r.n0, .bool r.s0, .slice rA r.l0.length ra, .bool r.n1, .bool r.s1, .slice rB r.l1.length rb, .slice F (pn + 1) f], .bool true]) ∧ U64s w' (new w.heap.size) rA ra r.l0 ∧ U64s w' (new w.heap.size) rB rb r.l1 ∧ IvsAt w' (new w.heap.size) F f (fmOf (constL pn (ivD (n, n) Q))) ∧ NewA w.heap.size F ∧ w.grownBy w' (some lk) ∧ BoxL w' lk [g0, g1, g2, g3, g4, g5, .slice (some ⟨pb, po, none⟩) pn pc, .slice (some ⟨bb, bo, none⟩) bn bc, .bool w0, .bool w1, .bool w2, .bool true, .bool w4, .bool w5] := by
 obtain ⟨W1, hW1⟩ : ∃ W, (((w.alloc (.cells #[.int .u8 8, .string nm, .int .i64 0, .slice (some ⟨eb, eo, none⟩) 2 cx, .int .i64 pp] 50)).alloc (.cells #[.bool false, .bool false, .slice none 0 0, .bool false, .bool false, .slice none 0 0, .slice none 0 0] 70)).alloc (.cells #[.bool false, .bool false, .slice none 0 0, .bool false, .bool false, .slice none 0 0, .slice none 0 0, .bool false, .bool false, .slice none 0 0, .bool false, .bool false, .slice none 0 0, .slice none 0 0] 94)) = W := ⟨_, rfl⟩
 have hB0 : Below w.heap.size w W1 := by
  rw [← hW1]
  exact (((Below.refl _ w).alloc (Nat.le_refl _) _).alloc (by simp) _).alloc (by first | (simp; done) | (simp; omega)) _
 have HX : Hid (BoxL W1 w.heap.size [.int .u8 8, .string nm, .int .i64 0, .slice (some ⟨eb, eo, none⟩) 2 cx, .int .i64 pp]) := hid (by
  rw [← hW1]
  exact ((BoxL.new w [.int .u8 8, .string nm, .int .i64 0, .slice (some ⟨eb, eo, none⟩) 2 cx, .int .i64 pp] 50).alloc _).alloc _)
 have HR : Hid (BoxL W1 (w.heap.size + 1) [.bool false, .bool false, .slice none 0 0, .bool false, .bool false, .slice none 0 0, .slice none 0 0]) := hid (by
  rw [← hW1]
  have h := (BoxL.new (w.alloc (.cells #[.int .u8 8, .string nm, .int .i64 0, .slice (some ⟨eb, eo, none⟩) 2 cx, .int .i64 pp] 50)) [.bool false, .bool false, .slice none 0 0, .bool false, .bool false, .slice none 0 0, .slice none 0 0] 70).alloc (.cells #[.bool false, .bool false, .slice none 0 0, .bool false, .bool false, .slice none 0 0, .slice none 0 0, .bool false, .bool false, .slice none 0 0, .bool false, .bool false, .slice none 0 0, .slice none 0 0] 94)
  rw [show (w.alloc (.cells #[.int .u8 8, .string nm, .int .i64 0, .slice (some ⟨eb, eo, none⟩) 2 cx, .int .i64 pp] 50)).heap.size = w.heap.size + 1 by simp] at h
  exact h)
 have HL : Hid (BoxL W1 (w.heap.size + 2) [.bool false, .bool false, .slice none 0 0, .bool false, .bool false, .slice none 0 0, .slice none 0 0, .bool false, .bool false, .slice none 0 0, .bool false, .bool false, .slice none 0 0, .slice none 0 0]) := hid (by
  rw [← hW1]
  have h := BoxL.new ((w.alloc (.cells #[.int .u8 8, .string nm, .int .i64 0, .slice (some ⟨eb, eo, none⟩) 2 cx, .int .i64 pp] 50)).alloc (.cells #[.bool false, .bool false, .slice none 0 0, .bool false, .bool false, .slice none 0 0, .slice none 0 0] 70)) [.bool false, .bool false, .slice none 0 0, .bool false, .bool false, .slice none 0 0, .slice none 0 0, .bool false, .bool false, .slice none 0 0, .bool false, .bool false, .slice none 0 0, .slice none 0 0] 94
  rw [show ((w.alloc (.cells #[.int .u8 8, .string nm, .int .i64 0, .slice (some ⟨eb, eo, none⟩) 2 cx, .int .i64 pp] 50)).alloc (.cells #[.bool false, .bool false, .slice none 0 0, .bool false, .bool false, .slice none 0 0, .slice none 0 0] 70)).heap.size = w.heap.size + 2 by simp] at h
  exact h)
 have hsz : w.heap.size + 3 ≤ W1.heap.size := by rw [← hW1]; simp
 obtain ⟨HZ, HB, HLK⟩ := hid3 hsz hB0 (hk.below hB0)
 have hlk : lk < w.heap.size := hk.lt
 have HLT := hid hlk
 obtain ⟨z, hz0⟩ : ∃ r, IvW (n, n) r := ⟨_, IvW.mk _⟩
 have gz := fun (N : Nat) (h : 8 ≤ N) => iv_n (N := N) hn hn (Int.le_refl n) h
 obtain ⟨HCN, HCV, HEI, HEJ⟩ := hid4 (fun (W : World) (h : BoxL W lk [g0, g1, g2, g3, g4, g5, .slice (some ⟨pb, po, none⟩) pn pc, .slice (some ⟨bb, bo, none⟩) bn bc, .bool w0, .bool w1, .bool w2, .bool w3, .bool w4, .bool w5]) => lexpr_num (w := W) (cx := cn) (AX := An) (nm := sn) (pp := pq) h (by omega) hn hz0) (fun (W : World) (h : BoxL W lk [g0, g1, g2, g3, g4, g5, .slice (some ⟨pb, po, none⟩) pn pc, .slice (some ⟨bb, bo, none⟩) bn bc, .bool w0, .bool w1, .bool w2, .bool w3, .bool w4, .bool w5]) (hw : Below w.heap.size w W) => lexpr_var (w := W) (cx := cv) (AX := Av) (nm := sv) (pp := pv) (q := q) (C := C) (c := c) (D := D) (d := d) h (by omega) h1 hb hbc (keepC hw hp) (keepC hw b0) (keepC hw b1) (keepC hw b2) (keepC hw b3) (keepC hw b4) (keepC hw b5)) (And.intro (keepC hB0 i0) (And.intro (keepC hB0 i1) (And.intro (keepC hB0 i2) (And.intro (keepC hB0 i3) (keepC hB0 i4))))) (And.intro (keepC hB0 j0) (And.intro (keepC hB0 j1) (And.intro (keepC hB0 j2) (And.intro (keepC hB0 j3) (keepC hB0 j4)))))
 have lv : (fmOf (varL pn 1)).length = pn + 1 := by rw [fmOf_len, varL_len]
 have lc : (fmOf (constL pn (n, n))).length = pn + 1 := by rw [fmOf_len, constL_len]
 obtain ⟨HU3, HU4, HCF, HEI, HEJ, HLW⟩ := hid6 u3 u4 (fun (W : World) (hkW : BoxL W lk [g0, g1, g2, g3, g4, g5, .slice (some ⟨pb, po, none⟩) pn pc, .slice (some ⟨bb, bo, none⟩) bn bc, .bool w0, .bool w1, .bool w2, .bool w3, .bool w4, .bool w5]) (hw : Below w.heap.size w W) (Fv Fn E G : Option Addr) (fv fn e1 e2 K2 : Nat) (hK : lk < K2) (k3 : U64s W (new K2) E e1 z.l0) (k4 : U64s W (new K2) G e2 z.l1) => lother_div (w := W) (lk := lk) (FA := Fn) (fa := fn) (L := pn + 1) (FB := Fv) (fb := fv) (M := pn + 1) hkW (by omega) hz0 (gz 60 (by omega)) iq (gq.up (by omega)) k3 k4 (u3.below hw) (u4.below hw) (fun h => by have h' : K2 ≤ lk := h; omega) (fun h => by have h' : K2 ≤ lk := h; omega) hz hz h0 hne hr hin gr) (fun (W : World) (hw : Below w.heap.size w W) => And.intro (keepC hw i0) (And.intro (keepC hw i1) (And.intro (keepC hw i2) (And.intro (keepC hw i3) (keepC hw i4))))) (fun (W : World) (hw : Below w.heap.size w W) => And.intro (keepC hw j0) (And.intro (keepC hw j1) (And.intro (keepC hw j2) (And.intro (keepC hw j3) (keepC hw j4))))) (fun (W : World) (hw : Below w.heap.size w W) => hk.below hw)
 clear lv lc iq gq u3 u4 hr hin gr gz hz0 hB0 hk hd h1 hp b0 b1 b2 b3 b4 b5 hsz hlk i0 i1 i2 i3 i4 j0 j1 j2 j3 j4 HLK hz h0 hne
 generalize fmOf (constL pn (ivD (n, n) Q)) = rs at *
 have x0 := HX.out.c 0 _ rfl
 have x3 := HX.out.c 3 _ rfl
 obtain ⟨i0, i1, i2, i3, i4⟩ := HEI.out _ HB.out
 have ha1 := (Below.refl W1.heap.size W1).alloc (Nat.le_refl _) (.cells #[.int .u8 1, .string sn, .int .i64 n, .slice An 0 cn, .int .i64 pq] 50)
 have HB2 := hid (from_ HB.out ha1)
 obtain ⟨HC0, HX2, HR2, HL2, HZ2⟩ := hid5 (HCN.out _ (HLW.out _ HB2.out)) (HX.out.below ha1) (HR.out.below ha1) (HL.out.below ha1) (Nat.le_trans HZ.out ha1.size)
 clear ha1 HR HL HEI HX HB
 go_enter Tryz.func18, Tryz.ntmps18
 go_wp2
 refine wp_loop_rounds 3 ?_
 rw [rounds_succ]
 go_wp2_with fail
 refine HC0.out.mono ?_
 rintro e w3 ⟨E, e1, G, e2, Fn, fn, rfl, o1, o2, hfn, hnn, hc⟩
 clear x0 x3 i0 i1 i2 i3 i4 HC0 hW1
 have HL3 := hid (HL2.out.below hc)
 obtain ⟨W4, hW4⟩ : ∃ W, (((((((w3.setCell ⟨(w.heap.size + 2), 0, none⟩ (.bool z.n0)).setCell ⟨(w.heap.size + 2), 1, none⟩ (.bool z.s0)).setCell ⟨(w.heap.size + 2), 2, none⟩ (.slice E z.l0.length e1)).setCell ⟨(w.heap.size + 2), 3, none⟩ (.bool z.n1)).setCell ⟨(w.heap.size + 2), 4, none⟩ (.bool z.s1)).setCell ⟨(w.heap.size + 2), 5, none⟩ (.slice G z.l1.length e2)).setCell ⟨(w.heap.size + 2), 6, none⟩ (.slice Fn (pn + 1) fn)) = W := ⟨_, rfl⟩
 have hg0 : w3.grownBy W4 (some (w.heap.size + 2)) := by rw [← hW4]; exact grown_set7 _ _ _ _ _ _ _ _ _
 have HB4 : Hid (Below w.heap.size w W4) := hid ((from_ HB2.out hc).grown hg0 (by have := HB2.out.size; have := hc.size; omega) (fun k e => by injection e; omega))
 have HL4 : Hid (BoxL W4 (w.heap.size + 2) [.bool z.n0, .bool z.s0, .slice E z.l0.length e1, .bool z.n1, .bool z.s1, .slice G z.l1.length e2, .slice Fn (pn + 1) fn, .bool false, .bool false, .slice none 0 0, .bool false, .bool false, .slice none 0 0, .slice none 0 0]) := hid (by rw [← hW4]; exact (((((((HL3.out.set 0 (.bool z.n0) rfl).set 1 (.bool z.s0) rfl).set 2 (.slice E z.l0.length e1) rfl).set 3 (.bool z.n1) rfl).set 4 (.bool z.s1) rfl).set 5 (.slice G z.l1.length e2) rfl).set 6 (.slice Fn (pn + 1) fn) rfl))
 obtain ⟨HX4, HR4, HZ4, HFn, HO1, HO2⟩ := hid6 ((HX2.out.below hc).kept hg0 (by omega)) ((HR2.out.below hc).kept hg0 (by omega)) (Nat.le_trans HZ2.out (Nat.le_trans hc.size hg0.size)) (And.intro (hfn.keepN hnn hg0 (fun h => by have h' : _ ≤ w.heap.size + 2 := h; have := HZ2.out; omega) (by have := HZ2.out; omega)) hnn) (o1.keepN hg0 (fun h => by have h' : _ ≤ w.heap.size + 2 := h; have := HZ2.out; omega)) (o2.keepN hg0 (fun h => by have h' : _ ≤ w.heap.size + 2 := h; have := HZ2.out; omega))
 have z3 := HL3.out.all14
 obtain ⟨y0, y1, y2, y3, y4, y5, y6, f0, f1, f2, f3, f4, f5, f6⟩ := z3
 have ha5 := (Below.refl W4.heap.size W4).alloc (Nat.le_refl _) (.cells #[.int .u8 2, .string sv, .int .i64 0, .slice Av 0 cv, .int .i64 pv] 50)
 obtain ⟨j0, j1, j2, j3, j4⟩ := HEJ.out _ HB4.out
 have HB5 := hid (from_ HB4.out ha5)
 obtain ⟨HC1, HX5, HR5, HL5, HZ5⟩ := hid5 (HCV.out _ (HLW.out _ HB5.out) HB5.out) (HX4.out.below ha5) (HR4.out.below ha5) (HL4.out.below ha5) (Nat.le_trans HZ4.out ha5.size)
 replace HFn := hid (And.intro (HFn.out.1.below ha5) HFn.out.2)
 replace HO1 := hid (HO1.out.below ha5)
 replace HO2 := hid (HO2.out.below ha5)
 clear hc hg0 HX2 HR2 HL2 HX4 HR4 HL4 HL3 HB2 ha5 HEJ o1 o2 hfn hnn
 go_wp2
 rw [rounds_succ]
 go_wp2_with fail
 refine HC1.out.mono ?_
 rintro e w6 ⟨Fv, fv, rfl, hfv, hnv, hc⟩
 clear hW4 y0 y1 y2 y3 y4 y5 y6 f0 f1 f2 f3 f4 f5 f6 j0 j1 j2 j3 j4 HC1
 have HL6 := hid (HL5.out.below hc)
 obtain ⟨W7, hW7⟩ : ∃ W, (((((((w6.setCell ⟨(w.heap.size + 2), 7, none⟩ (.bool q.n0)).setCell ⟨(w.heap.size + 2), 8, none⟩ (.bool q.s0)).setCell ⟨(w.heap.size + 2), 9, none⟩ (.slice C q.l0.length c)).setCell ⟨(w.heap.size + 2), 10, none⟩ (.bool q.n1)).setCell ⟨(w.heap.size + 2), 11, none⟩ (.bool q.s1)).setCell ⟨(w.heap.size + 2), 12, none⟩ (.slice D q.l1.length d)).setCell ⟨(w.heap.size + 2), 13, none⟩ (.slice Fv (pn + 1) fv)) = W := ⟨_, rfl⟩
 have hg1 : w6.grownBy W7 (some (w.heap.size + 2)) := by rw [← hW7]; exact grown_set7b _ _ _ _ _ _ _ _ _
 have HB7 : Hid (Below w.heap.size w W7) := hid ((from_ HB5.out hc).grown hg1 (by have := HB5.out.size; have := hc.size; omega) (fun k e => by injection e; omega))
 have HL7 : Hid (BoxL W7 (w.heap.size + 2) [.bool z.n0, .bool z.s0, .slice E z.l0.length e1, .bool z.n1, .bool z.s1, .slice G z.l1.length e2, .slice Fn (pn + 1) fn, .bool q.n0, .bool q.s0, .slice C q.l0.length c, .bool q.n1, .bool q.s1, .slice D q.l1.length d, .slice Fv (pn + 1) fv]) := hid (by rw [← hW7]; exact (((((((HL6.out.set 7 (.bool q.n0) rfl).set 8 (.bool q.s0) rfl).set 9 (.slice C q.l0.length c) rfl).set 10 (.bool q.n1) rfl).set 11 (.bool q.s1) rfl).set 12 (.slice D q.l1.length d) rfl).set 13 (.slice Fv (pn + 1) fv) rfl))
 obtain ⟨HX7, HR7, HZ7⟩ := hid3 ((HX5.out.below hc).kept hg1 (by omega)) ((HR5.out.below hc).kept hg1 (by omega)) (Nat.le_trans HZ5.out (Nat.le_trans hc.size hg1.size))
 replace HFn := hid (And.intro (HFn.out.1.below hc) HFn.out.2)
 replace HO1 := hid (HO1.out.below hc)
 replace HO2 := hid (HO2.out.below hc)
 replace HFn := hid (And.intro (HFn.out.1.keepN HFn.out.2 hg1 (fun h => by have h' : _ ≤ w.heap.size + 2 := h; have := HZ2.out; omega) (by have := HZ2.out; omega)) HFn.out.2)
 replace HO1 := hid (HO1.out.keepN hg1 (fun h => by have h' : _ ≤ w.heap.size + 2 := h; have := HZ2.out; omega))
 replace HO2 := hid (HO2.out.keepN hg1 (fun h => by have h' : _ ≤ w.heap.size + 2 := h; have := HZ2.out; omega))
 have HFv := hid (And.intro (hfv.keepN hnv hg1 (fun h => by have h' : _ ≤ w.heap.size + 2 := h; have := HZ5.out; omega) (by have := HZ5.out; omega)) hnv)
 have z6 := HL6.out.all14b
 obtain ⟨y0, y1, y2, y3, y4, y5, y6, f0, f1, f2, f3, f4, f5, f6⟩ := z6
 have HCC := hid (HCF.out W7 (HLW.out _ HB7.out) HB7.out Fv Fn _ _ fv fn _ _ _ (by have := HLT.out; have := HZ2.out; omega) HO1.out HO2.out)
 have x0 := HX7.out.c 0 _ rfl
 have z7 := HL7.out.allc14
 obtain ⟨c0, c1, c2, c3, c4, c5, c6, d0, d1, d2, d3, d4, d5, d6⟩ := z7
 clear hc hg1 HX5 HR5 HL5 HL6 HL7 HB5 HCF HCV HCN HLW HX7 hfv hnv HFv HFn HO1 HO2
 go_wp2
 rw [rounds_succ]
 go_wp2_with fail
 refine HCC.out.mono ?_
 rintro e w8 ⟨rA, ra, rB, rb, F, f, rfl, v1, v2, hf, hn, hG, hK⟩
 clear hW7 y0 y1 y2 y3 y4 y5 y6 f0 f1 f2 f3 f4 f5 f6 x0 c0 c1 c2 c3 c4 c5 c6 d0 d1 d2 d3 d4 d5 d6 HCC
 have hgr := grown_set7 w8 (w.heap.size + 1) (.bool r.n0) (.bool r.s0) (.slice rA r.l0.length ra) (.bool r.n1) (.bool r.s1) (.slice rB r.l1.length rb) (.slice F (pn + 1) f)
 have hsz8 := hG.size
 obtain ⟨HP, U1, U2, U3, HN, HR8⟩ := hid6 ((HR7.out.kept hG (by have := HLT.out; omega)).put7 (.bool r.n0) (.bool r.s0) (.slice rA r.l0.length ra) (.bool r.n1) (.bool r.s1) (.slice rB r.l1.length rb) (.slice F (pn + 1) f)) ((v1.keepN hgr (fun h => by have h' : W7.heap.size ≤ w.heap.size + 1 := h; have := HZ7.out; omega)).mono (Y := new w.heap.size) (new_le (by have := HZ7.out; omega))) ((v2.keepN hgr (fun h => by have h' : W7.heap.size ≤ w.heap.size + 1 := h; have := HZ7.out; omega)).mono (Y := new w.heap.size) (new_le (by have := HZ7.out; omega))) ((hf.keepN hn hgr (fun h => by have h' : W7.heap.size ≤ w.heap.size + 1 := h; have := HZ7.out; omega) (by have := HZ7.out; omega)).mono (Y := new w.heap.size) (new_le (by have := HZ7.out; omega))) (show NewA w.heap.size F from fun b o e => by have h1 := hn b o e; have := HZ7.out; omega) (HR7.out.kept hG (by have := HLT.out; omega))
 obtain ⟨HGF, HKF⟩ := hid2 (((grownB HB7.out (some lk)).trans hG).andThen hgr (fun j e => by injection e with e; left; omega)) (hK.kept hgr (by have := HLT.out; omega))
 clear hG hK hgr hsz8 v1 v2 hf hn HR7
 obtain ⟨⟨r0, r1, r2, r3, r4, r5, r6⟩, q0, q1, q2, q3, q4, q5, q6⟩ := HR8.out.all7
 go_wp2
 refine bodyPost_ret (res_lined2 rfl _ (w.heap.size + 1) rfl HP.out) rfl ?_
 exact ⟨_, _, _, _, _, _, rfl, U1.out, U2.out, U3.out, HN.out, HGF.out, HKF.out⟩
end Go.Proofs.YtcheajjjdbllfaaGreat
