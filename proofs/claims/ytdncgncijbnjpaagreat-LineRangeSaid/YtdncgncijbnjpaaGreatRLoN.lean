/- (*looker).load, whatever comes of it. No conditions but bounds. -/
import Derived.LoopN
import Derived.Deep.DeepCutAuto
import Derived.RegionCalls
import Derived.Laws.EntriesVeiled
import Derived.Maps.Range
import Derived.Deep.RegionHeld3
import Derived.Deep.CutBlock
import Derived.Test.YtdncgncijbnjpaaGreatRLnP
import Derived.Test.YtdncgncijbnjpaaGreatRLnS
import Derived.Test.YtdncgncijbnjpaaGreatRLnR
import Derived.Test.YtdncgncijbnjpaaGreatRLnQ
import Derived.Test.YtdncgncijbnjpaaGreatRWhV
import Derived.Test.YtdncgncijbnjpaaGreatRTelJ
import Derived.Test.YtdncgncijbnjpaaGreatRLnN
set_option linter.unusedVariables false
set_option linter.unusedSimpArgs false
set_option maxRecDepth 100000
set_option maxHeartbeats 40000000
namespace Go.Proofs.YtdncgncijbnjpaaGreat
open Go.Lib (hid)
open Go.RowKit
variable {A A1 AX B C D FA FB pA : Option Addr} {F L L1 M N a b bb bc bn bo c c1 cx d eb eo fa fb g gE ga gb j lk o pc pn r : Nat} {P Q RD : IvP} {V W W' w' : World} {Z Z1 Z2 Z3 Z4 Z5 Z6 : Zone} {a0 a1 a2 a3 a4 a5 a6 a7 a8 e f g0 g1 g2 g3 g4 g5 v x0 x1 x2 x3 x4 x5 y : Value} {k1 kk p1 pp sz : Int} {q : Iv} {vs : List Value} {w0 w1 w2 w3 w4 w5 z : Bool}
theorem idx6 (W : World) (b0 b1 b2 b3 b4 b5 : Bool) : (Instr.index 81 (.agg #[.bool b0, .bool b1, .bool b2, .bool b3, .bool b4, .bool b5]) (.int .i64 0)).run Tryz.prog W = .ok (.bool b0) W ∧ (Instr.index 81 (.agg #[.bool b0, .bool b1, .bool b2, .bool b3, .bool b4, .bool b5]) (.int .i64 1)).run Tryz.prog W = .ok (.bool b1) W ∧ (Instr.index 81 (.agg #[.bool b0, .bool b1, .bool b2, .bool b3, .bool b4, .bool b5]) (.int .i64 2)).run Tryz.prog W = .ok (.bool b2) W ∧ (Instr.index 81 (.agg #[.bool b0, .bool b1, .bool b2, .bool b3, .bool b4, .bool b5]) (.int .i64 3)).run Tryz.prog W = .ok (.bool b3) W ∧ (Instr.index 81 (.agg #[.bool b0, .bool b1, .bool b2, .bool b3, .bool b4, .bool b5]) (.int .i64 4)).run Tryz.prog W = .ok (.bool b4) W ∧ (Instr.index 81 (.agg #[.bool b0, .bool b1, .bool b2, .bool b3, .bool b4, .bool b5]) (.int .i64 5)).run Tryz.prog W = .ok (.bool b5) W := ⟨by kernel_rfl, by kernel_rfl, by kernel_rfl, by kernel_rfl, by kernel_rfl, by kernel_rfl⟩
theorem infoU8 : (Tryz.prog.info? 5).map (fun i => (i.zero, i.size, i.bytes)) = some (some (.int .u8 0), 1, 1) := by kernel_rfl
theorem loadVar_Lined {w : World} (h : BoxL w g [a0, a1, a2, a3, a4, a5, a6, a7, a8]) :
  (loadVar 43 ⟨g, 0, none⟩).run Tryz.prog w = .ok (.agg #[a0, a1, a2, a3, a4, a5, a6, a7, a8]) w := by
 obtain ⟨⟨B, C, D, E, F, G, H, I, J⟩, _⟩ := h.all9
 unfold loadVar
 go_simp
theorem res_Lined2 {fn : Func} {p u : Tmp} (h : fn.results = #[.cell p 43, .tmp u]) (tmps : Array Value) {w : World} (g : Nat) (hp : tmps.getD p undef = .pointer (some ⟨g, 0, none⟩)) (hB : BoxL w g [a0, a1, a2, a3, a4, a5, a6, a7, a8]) :
  (results fn tmps).run Tryz.prog w = .ok (.tuple #[.agg #[a0, a1, a2, a3, a4, a5, a6, a7, a8], tmps.getD u undef]) w := by
 rw [results_cell_tmp h, hp]
 simp [asAddr, Result.andThen, loadVar_Lined hB]
structure BoxE (W : World) (g : Nat) (vs : List Value) : Prop where
 b : BoxL W g vs
 e : ∀ o, vs.length ≤ o → W.cell? ⟨g, o, none⟩ = none
theorem BoxE.new (w : World) (vs : List Value) (t : TypeId) : BoxE (w.alloc (.cells vs.toArray t)) w.heap.size vs :=
 ⟨BoxL.new w vs t, fun o ho => by
  rw [cell_of_row _ w.heap.size o vs.toArray t (0, 0) (heap_alloc_new w _)]
  simpa using ho⟩
theorem BoxE.below (h : BoxE W g vs) (hb : Below W.heap.size W W') : BoxE W' g vs :=
 ⟨h.b.below hb, fun o ho => (World.cell?_of_block (w := W) (a := ⟨g, o, none⟩) (hb.block g h.b.lt)).trans (h.e o ho)⟩
theorem BoxE.kept {r : Option Nat} (h : BoxE W g vs) (hg : W.grownBy W' r) (hr : r ≠ some g) : BoxE W' g vs :=
 ⟨h.b.keptR hg hr, fun o ho => (World.cell?_of_block (w := W) (a := ⟨g, o, none⟩) (hg.block g h.b.lt (fun e => hr e.symm))).trans (h.e o ho)⟩
theorem BoxE.set (h : BoxE W g vs) (k : Nat) (x : Value) (hk : vs[k]? = some v) : BoxE (W.setCell ⟨g, k, none⟩ x) g (vs.set k x) :=
 ⟨h.b.set k x hk, fun o ho => by
  have A : k < vs.length := (List.getElem?_eq_some_iff.1 hk).1
  rw [List.length_set] at ho
  rw [World.cell?_setCell_other _ _ _ _ (fun e => by injection e with _ e1; omega)]
  exact h.e o ho⟩
theorem BoxE.cell (h : BoxE W g vs) (hc : W.cell? ⟨g, o, none⟩ = some v) : vs[o]? = some v := by
 rcases Nat.lt_or_ge o vs.length with h1 | h1
 · have A := h.b.c o _ (List.getElem?_eq_getElem h1)
   rw [List.getElem?_eq_getElem h1, ← A, hc]
 · rw [h.e o h1] at hc
   cases hc
theorem BoxE.noU (h : BoxE W g vs) (hn : ∀ v ∈ vs, ∀ n, v ≠ .int .u64 n) : NoU W g := fun o n e => hn _ (List.mem_of_getElem? (h.cell e)) n rfl
theorem U64s.keepE {l : List Nat} (u : U64s W Z A c l) (h : NoU W g) (hg : W.grownBy W' (some g)) : U64s W' old A c l := by
 refine ((u.offB h).keepN hg (fun h => h rfl)).mono (le_old _)
theorem BoxE.al (h : BoxE W g vs) (o : Obj) : BoxE (W.alloc o) g vs := h.below ((Below.refl _ W).alloc (Nat.le_refl _) o)
theorem BoxE.newAt {n : Nat} (h : W.heap.size = n) (vs : List Value) (t : TypeId) : BoxE (W.alloc (.cells vs.toArray t)) n vs := h ▸ BoxE.new W vs t
theorem al1 (w : World) (a : List Value) (s : TypeId) : ∃ W, w.alloc (.cells a.toArray s) = W ∧ Below w.heap.size w W ∧ BoxE W w.heap.size a ∧ w.heap.size + 1 ≤ W.heap.size :=
 ⟨_, rfl, (Below.refl _ w).alloc (Nat.le_refl _) _, BoxE.new w a s, by simp⟩
theorem al2 (w : World) (a : List Value) (s : TypeId) (b : List Value) (t : TypeId) : ∃ W, (w.alloc (.cells a.toArray s)).alloc (.cells b.toArray t) = W ∧ Below w.heap.size w W ∧ BoxE W w.heap.size a ∧ BoxE W (w.heap.size + 1) b ∧ w.heap.size + 2 ≤ W.heap.size := by
 obtain ⟨W, rfl, h, A, B⟩ := al1 w a s
 exact ⟨_, rfl, h.alloc h.size _, A.al _, BoxE.newAt (by simp) b t, by simp⟩
theorem al3 (w : World) (a : List Value) (s : TypeId) (b : List Value) (t : TypeId) (c : List Value) (u : TypeId) : ∃ W, ((w.alloc (.cells a.toArray s)).alloc (.cells b.toArray t)).alloc (.cells c.toArray u) = W ∧ Below w.heap.size w W ∧ BoxE W w.heap.size a ∧ BoxE W (w.heap.size + 1) b ∧ BoxE W (w.heap.size + 2) c ∧ w.heap.size + 3 ≤ W.heap.size := by
 obtain ⟨W, rfl, h, A, B, C⟩ := al2 w a s b t
 exact ⟨_, rfl, h.alloc h.size _, A.al _, B.al _, BoxE.newAt (by simp) c u, by simp⟩
theorem al4 (w : World) (a : List Value) (s : TypeId) (b : List Value) (t : TypeId) (c : List Value) (u : TypeId) (d : List Value) (v : TypeId) : ∃ W, (((w.alloc (.cells a.toArray s)).alloc (.cells b.toArray t)).alloc (.cells c.toArray u)).alloc (.cells d.toArray v) = W ∧ Below w.heap.size w W ∧ BoxE W w.heap.size a ∧ BoxE W (w.heap.size + 1) b ∧ BoxE W (w.heap.size + 2) c ∧ BoxE W (w.heap.size + 3) d ∧ w.heap.size + 4 ≤ W.heap.size := by
 obtain ⟨W, rfl, h, A, B, C, D⟩ := al3 w a s b t c u
 exact ⟨_, rfl, h.alloc h.size _, A.al _, B.al _, C.al _, BoxE.newAt (by simp) d v, by simp⟩
theorem al5 (w : World) (a : List Value) (s : TypeId) (b : List Value) (t : TypeId) (c : List Value) (u : TypeId) (d : List Value) (v : TypeId) (e : List Value) (x : TypeId) : ∃ W, ((((w.alloc (.cells a.toArray s)).alloc (.cells b.toArray t)).alloc (.cells c.toArray u)).alloc (.cells d.toArray v)).alloc (.cells e.toArray x) = W ∧ Below w.heap.size w W ∧ BoxE W w.heap.size a ∧ BoxE W (w.heap.size + 1) b ∧ BoxE W (w.heap.size + 2) c ∧ BoxE W (w.heap.size + 3) d ∧ BoxE W (w.heap.size + 4) e ∧ w.heap.size + 5 ≤ W.heap.size := by
 obtain ⟨W, rfl, h, A, B, C, D, E⟩ := al4 w a s b t c u d v
 exact ⟨_, rfl, h.alloc h.size _, A.al _, B.al _, C.al _, D.al _, BoxE.newAt (by simp) e x, by simp⟩
theorem grown_bel {w : World} {r : Option Nat} (h : w.grownBy W r) (hb : Below W.heap.size W W') : w.grownBy W' r :=
 ⟨hb.os.trans h.os, hb.tape.trans h.tape, hb.output.trans h.output, Nat.le_trans h.size hb.size, fun k hk hn => (hb.block k (Nat.lt_of_lt_of_le hk h.size)).trans (h.block k hk hn)⟩
theorem grown_own {w : World} {r : Option Nat} (h : w.grownBy W r) (hg : W.grownBy W' (some g)) (hn : w.heap.size ≤ g) : w.grownBy W' r :=
 ⟨hg.os.trans h.os, hg.tape.trans h.tape, hg.output.trans h.output, Nat.le_trans h.size hg.size, fun k hk hk2 => (hg.block k (Nat.lt_of_lt_of_le hk h.size) (fun e => by injection e with e; omega)).trans (h.block k hk hk2)⟩
theorem grown_any {w : World} {r : Option Nat} (hb : Below w.heap.size w W) : w.grownBy W r := ⟨hb.os, hb.tape, hb.output, hb.size, fun k hk _ => hb.block k hk⟩
theorem Box6.keptR {a b c d : Value} {r : Option Nat} (h : Box6 W g a b c d e f) (hg : W.grownBy W' r) (hr : r ≠ some g) : Box6 W' g a b c d e f := ((BoxL.of6 h).keptR hg hr).six
structure LkG where
 V : Int
 Aa : Option Addr
 na : Nat
 ca : Nat
 no : Int
 st : Int
 la : Int
 EA : Option Addr
 ne : Nat
 ce : Nat
 PA : Option Addr
 pn : Nat
 pc : Nat
 BA : Option Addr
 bn : Nat
 bc : Nat
def lkL (G : LkG) (m : Nat → Bool) : List Value := [.int .i64 G.V, .slice G.Aa G.na G.ca, .int .i64 G.no, .int .i64 G.st, .int .i64 G.la, .slice G.EA G.ne G.ce, .slice G.PA G.pn G.pc, .slice G.BA G.bn G.bc, .bool (m 0), .bool (m 1), .bool (m 2), .bool (m 3), .bool (m 4), .bool (m 5)]
def markF (m : Nat → Bool) (r : Nat) (b : Bool) : Nat → Bool := fun i => m i || (b && decide (i = r))
theorem markF_no (m : Nat → Bool) (r : Nat) : markF m r false = m := by funext i; simp [markF]
theorem lkL_set {G : LkG} {m : Nat → Bool} (hr : r < 6) : (lkL G m).set (8 + r) (.bool true) = lkL G (markF m r true) := by
 rcases r with _ | _ | _ | _ | _ | _ | r
 all_goals first | (exfalso; omega) | simp [lkL, markF]
theorem lkL_at {G : LkG} {m : Nat → Bool} (hr : r < 6) : (lkL G m)[8 + r]? = some (.bool (m r)) := by
 rcases r with _ | _ | _ | _ | _ | _ | r
 all_goals first | (exfalso; omega) | rfl
theorem lkL_noW {G : LkG} {m : Nat → Bool} : ∀ v ∈ lkL G m, ∀ n, v ≠ .int .u64 n := fun v hv n e => by
 subst e
 simp [lkL] at hv
def meetOk (P Q : IvP) : Bool := decide (max P.1 Q.1 ≤ min P.2 Q.2)
def meetP (P Q : IvP) : IvP := (max P.1 Q.1, min P.2 Q.2)
def meetZ (P Q : IvP) : IvP := bif meetOk P Q then meetP P Q else (0, 0)
def keepIn (P Q : IvP) : Bool := decide (Q.1 ≤ P.1 ∧ P.2 ≤ Q.2)
theorem keepIn_meet (h : keepIn P Q = true) (hp : P.1 ≤ P.2) : meetOk P Q = true ∧ meetP P Q = P := by
 have h := of_decide_eq_true h
 have A : max P.1 Q.1 = P.1 := by omega
 have B : min P.2 Q.2 = P.2 := by omega
 refine ⟨decide_eq_true (by rw [A, B]; exact hp), ?_⟩
 unfold meetP
 rw [A, B]
theorem imeet_u {w : World} {p : Iv} (hp : IvW P p) (gp : IvN 6000 P.1 P.2) (hq : IvW Q q) (gq : IvN 6000 Q.1 Q.2) (u1 : U64s w Z1 A a p.l0) (u2 : U64s w Z2 B b p.l1) (u3 : U64s w Z3 C c q.l0) (u4 : U64s w Z4 D d q.l1) :
  Calls Tryz.prog 32 #[.agg #[.bool p.n0, .bool p.s0, .slice A p.l0.length a, .bool p.n1, .bool p.s1, .slice B p.l1.length b], .agg #[.bool q.n0, .bool q.s0, .slice C q.l0.length c, .bool q.n1, .bool q.s1, .slice D q.l1.length d]] w fun e w' => ∃ (t : Iv) (rA : Option Addr) (ra : Nat) (rB : Option Addr) (rb : Nat), e = .returned (.tuple #[.agg #[.bool t.n0, .bool t.s0, .slice rA t.l0.length ra, .bool t.n1, .bool t.s1, .slice rB t.l1.length rb], .int .i64 (bif meetOk P Q then 0 else 6)]) ∧ IvW (meetZ P Q) t ∧ U64s w' (new w.heap.size) rA ra t.l0 ∧ U64s w' (new w.heap.size) rB rb t.l1 ∧ Below w.heap.size w w' := by
 cases h : meetOk P Q with
 | true =>
   refine (imeetG_w hp gp hq gq u1 u2 u3 u4 (IvW.mk (meetP P Q)) (of_decide_eq_true h)).mono ?_
   rintro e w' ⟨rA, ra, rB, rb, rfl, I, J, G⟩
   exact ⟨_, rA, ra, rB, rb, rfl, by unfold meetZ; rw [h]; exact IvW.mk _, I, J, G⟩
 | false =>
   have E := hp.k gp (by omega)
   have F := hq.k gq (by omega)
   obtain ⟨r, H⟩ : ∃ r, IvW (meetP P Q) r := ⟨_, IvW.mk _⟩
   refine (iMeet_none u1 u2 u3 u4 E.ok F.ok (by have := E.q0; omega) (by have := E.q1; omega) (by have := F.q0; omega) (by have := F.q1; omega) (z0 := max P.1 Q.1) (z1 := min P.2 Q.2) (by rw [E.lo, F.lo]) (by rw [E.hi, F.hi]) H.1 H.2 (Int.not_le.1 (of_decide_eq_false h))).mono ?_
   rintro e w' ⟨rfl, G⟩
   exact ⟨zeroI, none, 0, none, 0, rfl, by unfold meetZ; rw [h]; exact zero_w, U64s.nil _ _, U64s.nil _ _, G⟩
theorem lkeep_any {w : World} {G : LkG} {m : Nat → Bool} {p : Iv} {ri : Int} (hk : BoxE w lk (lkL G m)) (hr : r < 6) (hri : ri = (r : Int)) (hp : IvW P p) (gp : IvN 6000 P.1 P.2) (hq : IvW Q q) (gq : IvN 6000 Q.1 Q.2) (u1 : U64s w Z1 A a p.l0) (u2 : U64s w Z2 B b p.l1) (u3 : U64s w Z3 C c q.l0) (u4 : U64s w Z4 D d q.l1) :
  Calls Tryz.prog 122 #[.pointer (some ⟨lk, 0, none⟩), .agg #[.bool p.n0, .bool p.s0, .slice A p.l0.length a, .bool p.n1, .bool p.s1, .slice B p.l1.length b], .agg #[.bool q.n0, .bool q.s0, .slice C q.l0.length c, .bool q.n1, .bool q.s1, .slice D q.l1.length d], .int .u8 ri] w fun e w' => ∃ (t : Iv) (rA : Option Addr) (ra : Nat) (rB : Option Addr) (rb : Nat), e = .returned (.tuple #[.agg #[.bool t.n0, .bool t.s0, .slice rA t.l0.length ra, .bool t.n1, .bool t.s1, .slice rB t.l1.length rb], .bool (meetOk P Q)]) ∧ (IvW (meetZ P Q) t ∧ U64s w' old rA ra t.l0 ∧ U64s w' old rB rb t.l1) ∧ BoxE w' lk (lkL G (markF m r (!keepIn P Q))) ∧ w.grownBy w' (some lk) := by
 subst hri
 cases hkk : keepIn P Q with
 | true =>
   obtain ⟨h1, h2⟩ := keepIn_meet hkk gp.le
   have hz : meetZ P Q = P := by unfold meetZ; rw [h1]; exact h2
   rw [h1, hz]
   refine (lkeep_in (lk := lk) (m := (r : Int)) hp gp hq gq u1 u2 u3 u4 (of_decide_eq_true hkk)).mono ?_
   rintro e w' ⟨rfl, u⟩
   have O := grown_of_below u
   exact ⟨p, A, a, B, b, rfl, ⟨hp, (u1.below u).mono (le_old _), (u2.below u).mono (le_old _)⟩, by rw [show (!true) = false from rfl, markF_no]; exact hk.below u, ⟨O.os, O.tape, O.output, O.size, fun k hk _ => O.block k hk (by simp)⟩⟩
 | false =>
   obtain ⟨gM, Kg⟩ : ∃ g, meetOk P Q = g := ⟨_, rfl⟩
   obtain ⟨E, hE⟩ : ∃ E : Int, (bif gM then 0 else 6) = E := ⟨_, rfl⟩
   have Kn : (E == 0) = gM := by rw [← hE]; cases gM <;> rfl
   have Ka : Below w.heap.size w (w.alloc (.cells #[.bool p.n0, .bool p.s0, .slice A p.l0.length a, .bool p.n1, .bool p.s1, .slice B p.l1.length b] 39)) := (Below.refl _ w).alloc (Nat.le_refl _) _
   have Kb := Ka.alloc Ka.size (.cells #[.bool q.n0, .bool q.s0, .slice C q.l0.length c, .bool q.n1, .bool q.s1, .slice D q.l1.length d] 39)
   have F := Kb.alloc Kb.size (.cells #[.bool false, .bool false, .slice none 0 0, .bool false, .bool false, .slice none 0 0] 39)
   have R := Q3.new w (.bool p.n0) (.bool p.s0) (.slice A p.l0.length a) (.bool p.n1) (.bool p.s1) (.slice B p.l1.length b) (.bool q.n0) (.bool q.s0) (.slice C q.l0.length c) (.bool q.n1) (.bool q.s1) (.slice D q.l1.length d) (.bool false) (.bool false) (.slice none 0 0) (.bool false) (.bool false) (.slice none 0 0) 39
   obtain ⟨W1, Ke⟩ : ∃ W, (((w.alloc (.cells #[.bool p.n0, .bool p.s0, .slice A p.l0.length a, .bool p.n1, .bool p.s1, .slice B p.l1.length b] 39)).alloc (.cells #[.bool q.n0, .bool q.s0, .slice C q.l0.length c, .bool q.n1, .bool q.s1, .slice D q.l1.length d] 39)).alloc (.cells #[.bool false, .bool false, .slice none 0 0, .bool false, .bool false, .slice none 0 0] 39)) = W := ⟨_, rfl⟩
   replace R := R.1
   rw [Ke] at F R
   obtain ⟨HI, HM⟩ := hid2 (iin_w (w := W1) hp gp hq gq (u1.below F) (u2.below F) (u3.below F) (u4.below F) (r := false) hkk) (fun (W : World) (x : U64s W old A a p.l0) (y : U64s W old B b p.l1) (v3 : U64s W old C c q.l0) (v4 : U64s W old D d q.l1) => imeet_u (w := W) hp gp hq gq x y v3 v4)
   rw [Kg, hE] at HM
   rw [Kg]
   have j : Hid (BoxE W1 (w.heap.size + 2) [.bool false, .bool false, .slice none 0 0, .bool false, .bool false, .slice none 0 0]) := hid (by
    rw [← Ke]
    have h := BoxE.new (((w.alloc (.cells #[.bool p.n0, .bool p.s0, .slice A p.l0.length a, .bool p.n1, .bool p.s1, .slice B p.l1.length b] 39)).alloc (.cells #[.bool q.n0, .bool q.s0, .slice C q.l0.length c, .bool q.n1, .bool q.s1, .slice D q.l1.length d] 39))) [.bool false, .bool false, .slice none 0 0, .bool false, .bool false, .slice none 0 0] 39
    simpa using h)
   obtain ⟨HB, K, L, I, M⟩ := hid5 F R (hk.below F) (And.intro (u1.below F) (And.intro (u2.below F) (And.intro (u3.below F) (u4.below F)))) hk.b.lt
   obtain ⟨X, Y, Z⟩ := R
   obtain ⟨T, x1, x2, x3, x4, x5, _, _, _, _, _, _, _⟩ := X
   obtain ⟨U, y1, y2, y3, y4, y5, _, _, _, _, _, _, _⟩ := Y
   clear Z
   clear Ka Kb F hp gp hq gq u1 u2 u3 u4 hk hE hkk
   go_enter Tryz.func122, Tryz.ntmps122
   go_wp2_with fail
   refine HI.out.mono ?_
   rintro e w2 ⟨rfl, H⟩
   replace K := hid (K.out.below H)
   have Kf := hid (from_ HB.out H)
   replace L := hid (L.out.below H)
   replace j := hid (j.out.below H)
   replace I := hid (And.intro (I.out.1.below H) (And.intro (I.out.2.1.below H) (And.intro (I.out.2.2.1.below H) (I.out.2.2.2.below H))))
   have k8 := L.out.b.c (8 + r) _ (lkL_at hr)
   have f8 := L.out.b.f (8 + r) _ (lkL_at hr)
   have Ko : (0 : Int) ≤ (r : Int) := by omega
   have Kp : (r : Int) < 6 := by omega
   clear Ke T x1 x2 x3 x4 x5 U y1 y2 y3 y4 y5 H HI HB
   obtain ⟨X, Y, Z⟩ := id K.out
   obtain ⟨T, x1, x2, x3, x4, x5, _, _, _, _, _, _, _⟩ := X
   obtain ⟨U, y1, y2, y3, y4, y5, _, _, _, _, _, _, _⟩ := Y
   clear Z
   go_upto_region 5 with fail
   have J := grown_set w2 lk (8 + r) (.bool true)
   have Kc := hid (L.out.set (8 + r) (.bool true) (lkL_at hr))
   rw [lkL_set hr] at Kc
   have S := L.out.noU lkL_noW
   obtain ⟨Kh, i, Kl, Ki⟩ := hid4 ((grown_any (r := some lk) Kf.out).trans J) (And.intro (I.out.1.keepE S J) (And.intro (I.out.2.1.keepE S J) (And.intro (I.out.2.2.1.keepE S J) (I.out.2.2.2.keepE S J)))) (j.out.kept J (fun e => by have := M.out; injection e; omega)) (And.intro (K.out.1.keptR J (fun e => by have := M.out; injection e; omega)) (And.intro (K.out.2.1.keptR J (fun e => by have := M.out; injection e; omega)) (K.out.2.2.keptR J (fun e => by have := M.out; injection e; omega))))
   clear T x1 x2 x3 x4 x5 U y1 y2 y3 y4 y5 k8 f8 S J L K I Kf j
   generalize w2.setCell ⟨lk, 8 + r, none⟩ (.bool true) = W3 at *
   obtain ⟨X, Y, Z⟩ := id Ki.out
   have T := X.all
   have U := Y.all
   clear Z
   go_wp2_with fail
   refine (HM.out _ i.out.1 i.out.2.1 i.out.2.2.1 i.out.2.2.2).mono ?_
   rintro e N ⟨t, rA, ra, rB, rb, rfl, ht, x, y, H⟩
   have o : Below N.heap.size N (N.alloc (.cells #[.bool t.n0, .bool t.s0, .slice rA t.l0.length ra, .bool t.n1, .bool t.s1, .slice rB t.l1.length rb] 39)) := (Below.refl _ N).alloc (Nat.le_refl _) _
   have BT := Box6.new N (.bool t.n0) (.bool t.s0) (.slice rA t.l0.length ra) (.bool t.n1) (.bool t.s1) (.slice rB t.l1.length rb) 39
   have s := from_ H o
   obtain ⟨z, Kj, Kk, V1, V2⟩ := hid5 (Kl.out.below s) (grown_bel Kh.out s) (Kc.out.below s) ((x.mono (le_old _)).below o) ((y.mono (le_old _)).below o)
   have Kd := z.out.noU (fun v hv n e => by subst e; simp at hv)
   have z0 := BT.all
   have q0 := z.out.b.six.cf
   clear T U x y o H s Ki i Kc Kh HM
   have V := (((((grown_set (N.alloc (.cells #[.bool t.n0, .bool t.s0, .slice rA t.l0.length ra, .bool t.n1, .bool t.s1, .slice rB t.l1.length rb] 39)) (w.heap.size + 2) 0 (.bool t.n0)).trans (grown_set _ (w.heap.size + 2) 1 (.bool t.s0))).trans (grown_set _ (w.heap.size + 2) 2 (.slice rA t.l0.length ra))).trans (grown_set _ (w.heap.size + 2) 3 (.bool t.n1))).trans (grown_set _ (w.heap.size + 2) 4 (.bool t.s1))).trans (grown_set _ (w.heap.size + 2) 5 (.slice rB t.l1.length rb))
   obtain ⟨Km, GF, KF, F1, F2, HT⟩ := hid6 ((((((z.out.b.set 0 (.bool t.n0) rfl).set 1 (.bool t.s0) rfl).set 2 (.slice rA t.l0.length ra) rfl).set 3 (.bool t.n1) rfl).set 4 (.bool t.s1) rfl).set 5 (.slice rB t.l1.length rb) rfl) (grown_own Kj.out V (by omega)) (Kk.out.kept V (fun e => by have := M.out; injection e; omega)) (V1.out.keepE Kd V) (V2.out.keepE Kd V) ht
   clear V Kd z Kj Kk V1 V2 ht M
   go_wp2
   refine bodyPost_ret (res_itv2 rfl _ (w.heap.size + 2) rfl Km.out.six) rfl ?_
   exact ⟨t, rA, ra, rB, rb, rfl, ⟨HT.out, F1.out, F2.out⟩, KF.out, GF.out⟩
theorem BoxL.all6f (H : BoxL W g [a0, a1, a2, a3, a4, a5]) : W.cell? ⟨g, 0, none⟩ = some a0 ∧ W.cell? ⟨g, 1, none⟩ = some a1 ∧ W.cell? ⟨g, 2, none⟩ = some a2 ∧ W.cell? ⟨g, 3, none⟩ = some a3 ∧ W.cell? ⟨g, 4, none⟩ = some a4 ∧ W.cell? ⟨g, 5, none⟩ = some a5 ∧ W.frozen? ⟨g, 0, none⟩ = false ∧ W.frozen? ⟨g, 1, none⟩ = false ∧ W.frozen? ⟨g, 2, none⟩ = false ∧ W.frozen? ⟨g, 3, none⟩ = false ∧ W.frozen? ⟨g, 4, none⟩ = false ∧ W.frozen? ⟨g, 5, none⟩ = false := ⟨H.c 0 _ rfl, H.c 1 _ rfl, H.c 2 _ rfl, H.c 3 _ rfl, H.c 4 _ rfl, H.c 5 _ rfl, H.f 0 _ rfl, H.f 1 _ rfl, H.f 2 _ rfl, H.f 3 _ rfl, H.f 4 _ rfl, H.f 5 _ rfl⟩
theorem res_graph2 {fn : Func} {p u : Tmp} (h : fn.results = #[.cell p 25, .tmp u]) (tmps : Array Value) {w : World} (g : Nat) {a b c d : Value} (hp : tmps.getD p undef = .pointer (some ⟨g, 0, none⟩)) (hB : BoxL w g [a, b, c, d, e, f]) :
  (results fn tmps).run Tryz.prog w = .ok (.tuple #[.agg #[a, b, c, d, e, f], tmps.getD u undef]) w := by
 rw [results_cell_tmp h, hp]
 have B : (loadVar 25 ⟨g, 0, none⟩).run Tryz.prog w = .ok (.agg #[a, b, c, d, e, f]) w := by
  obtain ⟨C, D, E, F, G, H⟩ := hB.all6
  unfold loadVar
  go_simp
 simp [asAddr, Result.andThen, B]
theorem l1fin {w : World} (HR : BoxL V w.heap.size [a0, a1, a2, a3, a4, a5]) (hB : Below w.heap.size w V) :
  V.grownBy ((((((V.setCell ⟨w.heap.size, 0, none⟩ (.int .i64 1)).setCell ⟨w.heap.size, 1, none⟩ (.slice none 0 0)).setCell ⟨w.heap.size, 2, none⟩ (.int .i64 2)).setCell ⟨w.heap.size, 3, none⟩ (.int .i64 0)).setCell ⟨w.heap.size, 4, none⟩ (.int .i64 1)).setCell ⟨w.heap.size, 5, none⟩ (.slice (some ⟨gE, 0, none⟩) 1 1)) (some w.heap.size) ∧ BoxL ((((((V.setCell ⟨w.heap.size, 0, none⟩ (.int .i64 1)).setCell ⟨w.heap.size, 1, none⟩ (.slice none 0 0)).setCell ⟨w.heap.size, 2, none⟩ (.int .i64 2)).setCell ⟨w.heap.size, 3, none⟩ (.int .i64 0)).setCell ⟨w.heap.size, 4, none⟩ (.int .i64 1)).setCell ⟨w.heap.size, 5, none⟩ (.slice (some ⟨gE, 0, none⟩) 1 1)) w.heap.size [.int .i64 1, .slice none 0 0, .int .i64 2, .int .i64 0, .int .i64 1, .slice (some ⟨gE, 0, none⟩) 1 1] ∧ Below w.heap.size w ((((((V.setCell ⟨w.heap.size, 0, none⟩ (.int .i64 1)).setCell ⟨w.heap.size, 1, none⟩ (.slice none 0 0)).setCell ⟨w.heap.size, 2, none⟩ (.int .i64 2)).setCell ⟨w.heap.size, 3, none⟩ (.int .i64 0)).setCell ⟨w.heap.size, 4, none⟩ (.int .i64 1)).setCell ⟨w.heap.size, 5, none⟩ (.slice (some ⟨gE, 0, none⟩) 1 1)) := by
 have A : V.grownBy ((((((V.setCell ⟨w.heap.size, 0, none⟩ (.int .i64 1)).setCell ⟨w.heap.size, 1, none⟩ (.slice none 0 0)).setCell ⟨w.heap.size, 2, none⟩ (.int .i64 2)).setCell ⟨w.heap.size, 3, none⟩ (.int .i64 0)).setCell ⟨w.heap.size, 4, none⟩ (.int .i64 1)).setCell ⟨w.heap.size, 5, none⟩ (.slice (some ⟨gE, 0, none⟩) 1 1)) (some w.heap.size) := (((((grown_set V w.heap.size 0 _).trans (grown_set _ w.heap.size 1 _)).trans (grown_set _ w.heap.size 2 _)).trans (grown_set _ w.heap.size 3 _)).trans (grown_set _ w.heap.size 4 _)).trans (grown_set _ w.heap.size 5 _)
 exact ⟨A, ((((((HR.set 0 (.int .i64 1) rfl).set 1 (.slice none 0 0) rfl).set 2 (.int .i64 2) rfl).set 3 (.int .i64 0) rfl).set 4 (.int .i64 1) rfl).set 5 (.slice (some ⟨gE, 0, none⟩) 1 1) rfl), hB.grown A hB.size (fun k e => by injection e; omega)⟩
theorem l1end {w : World} {tmps : Array Value} {gI : Nat} (hp : tmps.getD 0 undef = .pointer (some ⟨w.heap.size, 0, none⟩)) (hu : tmps.getD 1 undef = .slice (some ⟨gI, 0, none⟩) 1 1) (hR : BoxL W w.heap.size [.int .i64 1, .slice none 0 0, .int .i64 2, .int .i64 0, .int .i64 1, .slice (some ⟨gE, 0, none⟩) 1 1]) (hE : BoxL W gE [.int .i64 0, .int .i64 1, .int .u8 1, .int .i64 0, .int .u8 0, .slice none 0 0, .int .i64 0]) (hI : BoxL W gI [.bool q.n0, .bool q.s0, .slice C q.l0.length c, .bool q.n1, .bool q.s1, .slice D q.l1.length d]) (h1 : U64s W (new w.heap.size) C c q.l0) (h2 : U64s W (new w.heap.size) D d q.l1) (hb : Below w.heap.size w W) :
  bodyPost Tryz.prog Tryz.f61 (fun e w' => ∃ gE gI C c D d, e = .returned (.tuple #[.agg #[.int .i64 1, .slice none 0 0, .int .i64 2, .int .i64 0, .int .i64 1, .slice (some ⟨gE, 0, none⟩) 1 1], .slice (some ⟨gI, 0, none⟩) 1 1]) ∧ BoxL w' gE [.int .i64 0, .int .i64 1, .int .u8 1, .int .i64 0, .int .u8 0, .slice none 0 0, .int .i64 0] ∧ BoxL w' gI [.bool q.n0, .bool q.s0, .slice C q.l0.length c, .bool q.n1, .bool q.s1, .slice D q.l1.length d] ∧ U64s w' (new w.heap.size) C c q.l0 ∧ U64s w' (new w.heap.size) D d q.l1 ∧ Below w.heap.size w w') Exit.ret { tmps := tmps, defers := [] } W := by
 have h := res_graph2 (fn := Tryz.f61) (p := 0) (u := 1) rfl tmps w.heap.size hp hR
 rw [hu] at h
 exact bodyPost_ret h rfl ⟨_, _, _, _, _, _, rfl, hE, hI, h1, h2, hb⟩
theorem l27one {w : World} (hq : IvW (0, 9) q) :
  Calls Tryz.prog 61 #[] w fun e w' => ∃ gE gI C c D d, e = .returned (.tuple #[.agg #[.int .i64 1, .slice none 0 0, .int .i64 2, .int .i64 0, .int .i64 1, .slice (some ⟨gE, 0, none⟩) 1 1], .slice (some ⟨gI, 0, none⟩) 1 1]) ∧ BoxL w' gE [.int .i64 0, .int .i64 1, .int .u8 1, .int .i64 0, .int .u8 0, .slice none 0 0, .int .i64 0] ∧ BoxL w' gI [.bool q.n0, .bool q.s0, .slice C q.l0.length c, .bool q.n1, .bool q.s1, .slice D q.l1.length d] ∧ U64s w' (new w.heap.size) C c q.l0 ∧ U64s w' (new w.heap.size) D d q.l1 ∧ Below w.heap.size w w' := by
 have r : Below w.heap.size w (w.alloc (.cells #[.int .i64 0, .slice none 0 0, .int .i64 0, .int .i64 0, .int .i64 0, .slice none 0 0] 25)) := (Below.refl _ w).alloc (Nat.le_refl _) _
 have s := hid (BoxL.new w [.int .i64 0, .slice none 0 0, .int .i64 0, .int .i64 0, .int .i64 0, .slice none 0 0] 25)
 have g := iof_good (w := w.alloc (.cells #[.int .i64 0, .slice none 0 0, .int .i64 0, .int .i64 0, .int .i64 0, .slice none 0 0] 25)) (x := 0) (y := 9) (by omega) (by omega) (by omega)
 obtain ⟨⟨e1, e2, e3⟩, e4, e5, e6⟩ := hq
 rw [← e1, ← e2, ← e3, ← e4, ← e5, ← e6] at g
 obtain ⟨HO, HB⟩ := hid2 g r
 clear r g e1 e2 e3 e4 e5 e6
 go_enter Tryz.func61, Tryz.ntmps61
 go_wp2_with fail
 refine HO.out.mono ?_
 rintro e G ⟨C, c, D, d, rfl, u1, u2, i⟩
 have E := (Below.refl G.heap.size G).alloc (Nat.le_refl _) (.cells #[.bool q.n0, .bool q.s0, .slice C q.l0.length c, .bool q.n1, .bool q.s1, .slice D q.l1.length d] 39)
 obtain ⟨B, j⟩ : ∃ W, G.alloc (.cells #[.bool q.n0, .bool q.s0, .slice C q.l0.length c, .bool q.n1, .bool q.s1, .slice D q.l1.length d] 39) = W := ⟨_, rfl⟩
 have u : Hid (BoxL B G.heap.size [.bool q.n0, .bool q.s0, .slice C q.l0.length c, .bool q.n1, .bool q.s1, .slice D q.l1.length d]) := hid (by rw [← j]; exact BoxL.new G _ _)
 rw [j] at E
 have O := from_ i E
 obtain ⟨X, I, m, o, HZ⟩ := hid5 (from_ HB.out O) (s.out.below O) (u1.below E) (u2.below E) O.size
 have v : Hid (w.heap.size + 1 ≤ G.heap.size) := hid (by have := i.size; simpa using this)
 clear i E O u1 u2 HO s HB
 go_upto_region 2 with fail
 clear j
 obtain ⟨i0, i1, i2, i3, i4, i5⟩ := u.out.all6
 obtain ⟨_, rfl, H, U, _⟩ := al1 B [.int .i64 0, .int .i64 1, .int .u8 1, .int .i64 0, .int .u8 0, .slice none 0 0, .int .i64 0] 73
 obtain ⟨_, rfl, hI, _, _⟩ := al1 B [.bool q.n0, .bool q.s0, .slice C q.l0.length c, .bool q.n1, .bool q.s1, .slice D q.l1.length d] 39
 obtain ⟨_, rfl, J, bE, P, _⟩ := al2 B [.int .i64 0, .int .i64 1, .int .u8 1, .int .i64 0, .int .u8 0, .slice none 0 0, .int .i64 0] 73 [.bool q.n0, .bool q.s0, .slice C q.l0.length c, .bool q.n1, .bool q.s1, .slice D q.l1.length d] 39
 obtain ⟨_, rfl, K, R, S, _⟩ := al2 B [.bool q.n0, .bool q.s0, .slice C q.l0.length c, .bool q.n1, .bool q.s1, .slice D q.l1.length d] 39 [.int .i64 0, .int .i64 1, .int .u8 1, .int .i64 0, .int .u8 0, .slice none 0 0, .int .i64 0] 73
 obtain ⟨Kf, Kg⟩ := hid2 J K
 obtain ⟨j0, j1, j2, j3, j4, j5⟩ := (u.out.below H).all6
 obtain ⟨r0, r1, r2, r3, r4, r5, f0, f1, f2, f3, f4, f5⟩ := (I.out.below J).all6f
 obtain ⟨s0, s1, s2, s3, s4, s5, h0, h1, h2, h3, h4, h5⟩ := (I.out.below K).all6f
 obtain ⟨t0, t1, t2, t3, t4, t5, k0, k1, k2, k3, k4, k5⟩ := (I.out.below H).all6f
 have Kb : ¬ G.heap.size = w.heap.size := by have := v.out; omega
 have Kc : ¬ w.heap.size = G.heap.size := by have := v.out; omega
 have Ke := hid H
 have z : w.heap.size < B.heap.size := by have := X.out.size; have := I.out.lt; omega
 obtain ⟨L, M, N⟩ := hid3 (l1fin (w := w) (V := ((B.alloc (.cells #[.int .i64 0, .int .i64 1, .int .u8 1, .int .i64 0, .int .u8 0, .slice none 0 0, .int .i64 0] 73)).alloc (.cells #[.bool q.n0, .bool q.s0, .slice C q.l0.length c, .bool q.n1, .bool q.s1, .slice D q.l1.length d] 39))) (gE := B.heap.size) (I.out.below J) (from_ X.out J)) (l1fin (w := w) (V := ((B.alloc (.cells #[.bool q.n0, .bool q.s0, .slice C q.l0.length c, .bool q.n1, .bool q.s1, .slice D q.l1.length d] 39)).alloc (.cells #[.int .i64 0, .int .i64 1, .int .u8 1, .int .i64 0, .int .u8 0, .slice none 0 0, .int .i64 0] 73))) (gE := B.heap.size + 1) (I.out.below K) (from_ X.out K)) (l1fin (w := w) (V := (B.alloc (.cells #[.int .i64 0, .int .i64 1, .int .u8 1, .int .i64 0, .int .u8 0, .slice none 0 0, .int .i64 0] 73))) (gE := B.heap.size) (I.out.below H) (from_ X.out H))
 replace bE := bE.b
 replace P := P.b
 have Q := hid (And.intro (bE.keptR L.out.1 (by simp; omega)).drew (And.intro (P.keptR L.out.1 (by simp; omega)).drew (And.intro ((((m.out.below J).keepN L.out.1 (fun h => by have F : _ ≤ w.heap.size := h; simp at F; omega)).mono (Y := new w.heap.size) (new_le (by simp))).below bdr_) ((((o.out.below J).keepN L.out.1 (fun h => by have F : _ ≤ w.heap.size := h; simp at F; omega)).mono (Y := new w.heap.size) (new_le (by simp))).below bdr_))))
 replace R := R.b
 replace S := S.b
 have T := hid (And.intro (S.keptR M.out.1 (by simp; omega)).drew (And.intro (R.keptR M.out.1 (by simp; omega)).drew (And.intro ((((m.out.below K).keepN M.out.1 (fun h => by have F : _ ≤ w.heap.size := h; simp at F; omega)).mono (Y := new w.heap.size) (new_le (by simp))).below bdr_) ((((o.out.below K).keepN M.out.1 (fun h => by have F : _ ≤ w.heap.size := h; simp at F; omega)).mono (Y := new w.heap.size) (new_le (by simp))).below bdr_))))
 replace U := U.b
 have E := (Below.refl (((((((B.alloc (.cells #[.int .i64 0, .int .i64 1, .int .u8 1, .int .i64 0, .int .u8 0, .slice none 0 0, .int .i64 0] 73)).setCell ⟨w.heap.size, 0, none⟩ (.int .i64 1)).setCell ⟨w.heap.size, 1, none⟩ (.slice none 0 0)).setCell ⟨w.heap.size, 2, none⟩ (.int .i64 2)).setCell ⟨w.heap.size, 3, none⟩ (.int .i64 0)).setCell ⟨w.heap.size, 4, none⟩ (.int .i64 1)).setCell ⟨w.heap.size, 5, none⟩ (.slice (some ⟨B.heap.size, 0, none⟩) 1 1)).heap.size (((((((B.alloc (.cells #[.int .i64 0, .int .i64 1, .int .u8 1, .int .i64 0, .int .u8 0, .slice none 0 0, .int .i64 0] 73)).setCell ⟨w.heap.size, 0, none⟩ (.int .i64 1)).setCell ⟨w.heap.size, 1, none⟩ (.slice none 0 0)).setCell ⟨w.heap.size, 2, none⟩ (.int .i64 2)).setCell ⟨w.heap.size, 3, none⟩ (.int .i64 0)).setCell ⟨w.heap.size, 4, none⟩ (.int .i64 1)).setCell ⟨w.heap.size, 5, none⟩ (.slice (some ⟨B.heap.size, 0, none⟩) 1 1))).alloc (Nat.le_refl _) (.cells #[.bool q.n0, .bool q.s0, .slice C q.l0.length c, .bool q.n1, .bool q.s1, .slice D q.l1.length d] 39)
 have Ka : BoxL ((((((((B.alloc (.cells #[.int .i64 0, .int .i64 1, .int .u8 1, .int .i64 0, .int .u8 0, .slice none 0 0, .int .i64 0] 73)).setCell ⟨w.heap.size, 0, none⟩ (.int .i64 1)).setCell ⟨w.heap.size, 1, none⟩ (.slice none 0 0)).setCell ⟨w.heap.size, 2, none⟩ (.int .i64 2)).setCell ⟨w.heap.size, 3, none⟩ (.int .i64 0)).setCell ⟨w.heap.size, 4, none⟩ (.int .i64 1)).setCell ⟨w.heap.size, 5, none⟩ (.slice (some ⟨B.heap.size, 0, none⟩) 1 1)).alloc (.cells #[.bool q.n0, .bool q.s0, .slice C q.l0.length c, .bool q.n1, .bool q.s1, .slice D q.l1.length d] 39)) (B.heap.size + 1) [.bool q.n0, .bool q.s0, .slice C q.l0.length c, .bool q.n1, .bool q.s1, .slice D q.l1.length d] := by
  have h := BoxL.new (((((((B.alloc (.cells #[.int .i64 0, .int .i64 1, .int .u8 1, .int .i64 0, .int .u8 0, .slice none 0 0, .int .i64 0] 73)).setCell ⟨w.heap.size, 0, none⟩ (.int .i64 1)).setCell ⟨w.heap.size, 1, none⟩ (.slice none 0 0)).setCell ⟨w.heap.size, 2, none⟩ (.int .i64 2)).setCell ⟨w.heap.size, 3, none⟩ (.int .i64 0)).setCell ⟨w.heap.size, 4, none⟩ (.int .i64 1)).setCell ⟨w.heap.size, 5, none⟩ (.slice (some ⟨B.heap.size, 0, none⟩) 1 1)) [.bool q.n0, .bool q.s0, .slice C q.l0.length c, .bool q.n1, .bool q.s1, .slice D q.l1.length d] 39
  rw [show (((((((B.alloc (.cells #[.int .i64 0, .int .i64 1, .int .u8 1, .int .i64 0, .int .u8 0, .slice none 0 0, .int .i64 0] 73)).setCell ⟨w.heap.size, 0, none⟩ (.int .i64 1)).setCell ⟨w.heap.size, 1, none⟩ (.slice none 0 0)).setCell ⟨w.heap.size, 2, none⟩ (.int .i64 2)).setCell ⟨w.heap.size, 3, none⟩ (.int .i64 0)).setCell ⟨w.heap.size, 4, none⟩ (.int .i64 1)).setCell ⟨w.heap.size, 5, none⟩ (.slice (some ⟨B.heap.size, 0, none⟩) 1 1)).heap.size = B.heap.size + 1 by simp] at h
  exact h
 obtain ⟨Kd, Z, Kh⟩ := hid3 E (And.intro ((U.keptR N.out.1 (by simp; omega)).below E).drew (And.intro Ka.drew (And.intro (((((m.out.below H).keepN N.out.1 (fun h => by have F : _ ≤ w.heap.size := h; simp at F; omega)).mono (Y := new w.heap.size) (new_le (by simp))).below E).below bdr_) (((((o.out.below H).keepN N.out.1 (fun h => by have F : _ ≤ w.heap.size := h; simp at F; omega)).mono (Y := new w.heap.size) (new_le (by simp))).below E).below bdr_)))) z
 clear H hI J K z bE P R S U Ka E
 go_region
 all_goals
  clear r0 r1 r2 r3 r4 r5 f0 f1 f2 f3 f4 f5 s0 s1 s2 s3 s4 s5 h0 h1 h2 h3 h4 h5 t0 t1 t2 t3 t4 t5 k0 k1 k2 k3 k4 k5 i0 i1 i2 i3 i4 i5 j0 j1 j2 j3 j4 j5 Kb Kc
  simp only [Exit.then]
  refine (‹∀ (a : Act) (w : World), Code.wp Tryz.prog Code.ret _ a w → _›) _ _ ?_
  refine wp_ret ?_
  (try simp only [Exit.then])
  change bodyPost _ _ _ _ _ _
 · exact l1end rfl rfl L.out.2.1.drew Q.out.1 Q.out.2.1 Q.out.2.2.1 Q.out.2.2.2 L.out.2.2.drew
 · exact l1end rfl rfl (N.out.2.1.below Kd.out).drew Z.out.1 Z.out.2.1 Z.out.2.2.1 Z.out.2.2.2 (N.out.2.2.alloc N.out.2.2.size _).drew
 · exact l1end rfl rfl M.out.2.1.drew T.out.1 T.out.2.1 T.out.2.2.1 T.out.2.2.2 M.out.2.2.drew
def ed1 : List Ed := [⟨0, 1, 1, 0, 0, [], 0⟩]
theorem ed1_ok : OkG 1 0 2 0 1 0 ed1 := by
 refine ⟨by omega, by omega, by omega, by decide, by omega, by omega, by omega, by decide, fun key hk => ?_⟩
 by_cases h : key = 0
 · subst h
   decide
 · exfalso
   have A : hasE ed1 ed1.length key = false := by
    show decide (0 < ((List.range 1).filter fun j => decide ((ed1[j]?).map (·.f) = some key)).length) = false
    have B : ¬ (0 : Int) = key := fun e => h e.symm
    simp [List.range_succ, ed1, B]
   rw [A] at hk
   cases hk
theorem ed1_at {w : World} (h : BoxL w gE [.int .i64 0, .int .i64 1, .int .u8 1, .int .i64 0, .int .u8 0, .slice none 0 0, .int .i64 0]) : EdsAt w 0 (some ⟨gE, 0, none⟩) 1 ed1 (fun _ => none) (fun _ => 0) := by
 refine ⟨⟨by decide, by decide, fun _ => ⟨gE, 0, rfl, h.lt, fun j hj i hi => ?_⟩⟩, fun j hj => ?_⟩
 · rcases j with _ | j
   · rcases i with _ | _ | _ | _ | _ | _ | _ | i
     · exact h.c 0 _ rfl
     · exact h.c 1 _ rfl
     · exact h.c 2 _ rfl
     · exact h.c 3 _ rfl
     · exact h.c 4 _ rfl
     · exact h.c 5 _ rfl
     · exact h.c 6 _ rfl
     · omega
   · simp [ed1] at hj
 · rcases j with _ | j
   · exact ⟨rfl, Nat.zero_le _⟩
   · simp [ed1] at hj
theorem two_at {w : World} {k n k' n' : Int} (h : BoxL w g [.int .u8 k, .string ⟨#[]⟩, .int .i64 n, .slice none 0 0, .int .i64 0, .int .u8 k', .string ⟨#[]⟩, .int .i64 n', .slice none 0 0, .int .i64 0]) : ExsAt w 1 (some ⟨g, 0, none⟩) 2 [.mk k ⟨#[]⟩ n [] 0, .mk k' ⟨#[]⟩ n' [] 0] := by
 refine ⟨fun _ => none, fun _ => 0, ⟨by simp, by omega, fun _ => ⟨g, 0, rfl, h.lt, fun j hj i hi => ?_⟩⟩, fun j hj => ?_⟩
 · rcases j with _ | _ | j
   · rcases i with _ | _ | _ | _ | _ | i
     · exact h.c 0 _ rfl
     · exact h.c 1 _ rfl
     · exact h.c 2 _ rfl
     · exact h.c 3 _ rfl
     · exact h.c 4 _ rfl
     · omega
   · rcases i with _ | _ | _ | _ | _ | i
     · exact h.c 5 _ rfl
     · exact h.c 6 _ rfl
     · exact h.c 7 _ rfl
     · exact h.c 8 _ rfl
     · exact h.c 9 _ rfl
     · omega
   · simp at hj
     omega
 · rcases j with _ | _ | j
   · exact ⟨rfl, Nat.zero_le _⟩
   · exact ⟨rfl, Nat.zero_le _⟩
   · simp at hj
     omega
theorem lranged_any {w : World} {n f : Nat} {G : LkG} {m : Nat → Bool} {F : Option Addr} {p : Iv} (hk : BoxE w lk (lkL G m)) (hp : IvW P p) (gp : IvN 6000 P.1 P.2) (u1 : U64s w Z1 A a p.l0) (u2 : U64s w Z2 B b p.l1) :
  Calls Tryz.prog 127 #[.pointer (some ⟨lk, 0, none⟩), .agg #[.bool p.n0, .bool p.s0, .slice A p.l0.length a, .bool p.n1, .bool p.s1, .slice B p.l1.length b], .slice F n f] w fun e w' => ∃ (t : Iv) (rA : Option Addr) (ra : Nat) (rB : Option Addr) (rb : Nat), e = .returned (.tuple #[.agg #[.bool t.n0, .bool t.s0, .slice rA t.l0.length ra, .bool t.n1, .bool t.s1, .slice rB t.l1.length rb, .slice F n f], .bool (meetOk P allP)]) ∧ (IvW (meetZ P allP) t ∧ U64s w' old rA ra t.l0 ∧ U64s w' old rB rb t.l1) ∧ BoxE w' lk (lkL G (markF m 2 (!keepIn P allP))) ∧ w.grownBy w' (some lk) := by
 obtain ⟨q, i⟩ : ∃ r, IvW allP r := ⟨_, IvW.mk _⟩
 have u : IvN 6000 allP.1 allP.2 := allP_n
 obtain ⟨gM, j⟩ : ∃ g, meetOk P allP = g := ⟨_, rfl⟩
 obtain ⟨m', o⟩ : ∃ x, markF m 2 (!keepIn P allP) = x := ⟨_, rfl⟩
 have U : Below w.heap.size w (w.alloc (.cells #[.bool p.n0, .bool p.s0, .slice A p.l0.length a, .bool p.n1, .bool p.s1, .slice B p.l1.length b] 39)) := (Below.refl _ w).alloc (Nat.le_refl _) _
 have O := U.alloc U.size (.cells #[.bool false, .bool false, .slice none 0 0, .bool false, .bool false, .slice none 0 0, .slice none 0 0] 85)
 obtain ⟨H, R⟩ : ∃ W, ((w.alloc (.cells #[.bool p.n0, .bool p.s0, .slice A p.l0.length a, .bool p.n1, .bool p.s1, .slice B p.l1.length b] 39)).alloc (.cells #[.bool false, .bool false, .slice none 0 0, .bool false, .bool false, .slice none 0 0, .slice none 0 0] 85)) = W := ⟨_, rfl⟩
 rw [R] at O
 have L : Hid (BoxE H w.heap.size [.bool p.n0, .bool p.s0, .slice A p.l0.length a, .bool p.n1, .bool p.s1, .slice B p.l1.length b]) := hid (by rw [← R]; exact (BoxE.new w [.bool p.n0, .bool p.s0, .slice A p.l0.length a, .bool p.n1, .bool p.s1, .slice B p.l1.length b] 39).below bal_)
 have y : Hid (BoxE H (w.heap.size + 1) [.bool false, .bool false, .slice none 0 0, .bool false, .bool false, .slice none 0 0, .slice none 0 0]) := hid (by
  rw [← R]
  have h := BoxE.new (w.alloc (.cells #[.bool p.n0, .bool p.s0, .slice A p.l0.length a, .bool p.n1, .bool p.s1, .slice B p.l1.length b] 39)) [.bool false, .bool false, .slice none 0 0, .bool false, .bool false, .slice none 0 0, .slice none 0 0] 85
  simpa using h)
 obtain ⟨HB, J, HG, Kc, s⟩ := hid5 O hk.b.lt (hk.below O) (lall_r (w := H.drew) i) (fun (W : World) (h : Below w.heap.size w W) (h2 : BoxE W lk (lkL G m)) (C D : Option Addr) (c d : Nat) (K : Nat) (u3 : U64s W (new K) C c q.l0) (u4 : U64s W (new K) D d q.l1) => lkeep_any (r := 2) (ri := 2) h2 (by omega) rfl hp gp i u (u1.below h) (u2.below h) u3 u4)
 rw [j, o] at s
 rw [j, o]
 have z0 := L.out.b.six.all
 clear U O hp gp i u u1 u2 hk j o
 go_enter Tryz.func127, Tryz.ntmps127
 go_wp2
 clear R
 first | go_region_with (first
  | (go_at_call 11; with_reducible refine Kc.out.mono ?_; rintro e w2 ⟨C, c, D, d, rfl, v1, v2, hc⟩; have E : Below H.heap.size H w2 := from_ ((Below.refl H.heap.size H).drew) hc; have V := from_ HB.out E; obtain ⟨y0, y1, y2, y3, y4, y5, _, _, _, _, _, _, _⟩ := (L.out.below E).b.six)
  | (go_at_call 122; with_reducible refine (s.out _ V (HG.out.below E) _ _ _ _ _ v1 v2).mono ?_; rintro e w3 ⟨t, rA, ra, rB, rb, rfl, ht, Kd, N⟩; have X := hid (((L.out.below E).kept N (fun e => by have := J.out; injection e; omega)).b); have z := hid ((y.out.below E).kept N (fun e => by have := J.out; injection e; omega)); have Ka := hid ((grown_any (r := some lk) V).trans N); have Y := hid (((L.out.below E).kept N (fun e => by have := J.out; injection e; omega)).noU (fun v hv n e => by subst e; simp at hv)); have Kb := hid Kd; have Q := hid ht; obtain ⟨x0, x1, x2, x3, x4, x5, f0, f1, f2, f3, f4, f5, _⟩ := X.out.six)) | fail
 all_goals
  have I := (((((grown_set w3 w.heap.size 0 (.bool t.n0)).trans (grown_set _ w.heap.size 1 (.bool t.s0))).trans (grown_set _ w.heap.size 2 (.slice rA t.l0.length ra))).trans (grown_set _ w.heap.size 3 (.bool t.n1))).trans (grown_set _ w.heap.size 4 (.bool t.s1))).trans (grown_set _ w.heap.size 5 (.slice rB t.l1.length rb))
  obtain ⟨Ke, S, Kf, Kg, T⟩ := hid5 ((((((X.out.set 0 (.bool t.n0) rfl).set 1 (.bool t.s0) rfl).set 2 (.slice rA t.l0.length ra) rfl).set 3 (.bool t.n1) rfl).set 4 (.bool t.s1) rfl).set 5 (.slice rB t.l1.length rb) rfl) (z.out.kept I (fun e => by injection e; omega)) (grown_own Ka.out I (Nat.le_refl _)) (Kb.out.kept I (fun e => by have := J.out; injection e; omega)) (And.intro Q.out.1 (And.intro (Q.out.2.1.keepE Y.out I) (Q.out.2.2.keepE Y.out I)))
  clear I
  generalize ((((((w3.setCell ⟨w.heap.size, 0, none⟩ (.bool t.n0)).setCell ⟨w.heap.size, 1, none⟩ (.bool t.s0)).setCell ⟨w.heap.size, 2, none⟩ (.slice rA t.l0.length ra)).setCell ⟨w.heap.size, 3, none⟩ (.bool t.n1)).setCell ⟨w.heap.size, 4, none⟩ (.bool t.s1)).setCell ⟨w.heap.size, 5, none⟩ (.slice rB t.l1.length rb)) = W4 at *
  clear x0 x1 x2 x3 x4 x5 y0 y1 y2 y3 y4 y5 z0 f0 f1 f2 f3 f4 f5 v1 v2 hc E V Kd N ht s Kc X z Ka L y HB HG Y Kb Q
  have M := ((((((grown_set W4 (w.heap.size + 1) 0 (.bool t.n0)).trans (grown_set _ (w.heap.size + 1) 1 (.bool t.s0))).trans (grown_set _ (w.heap.size + 1) 2 (.slice rA t.l0.length ra))).trans (grown_set _ (w.heap.size + 1) 3 (.bool t.n1))).trans (grown_set _ (w.heap.size + 1) 4 (.bool t.s1))).trans (grown_set _ (w.heap.size + 1) 5 (.slice rB t.l1.length rb))).trans (grown_set _ (w.heap.size + 1) 6 (.slice F n f))
  obtain ⟨HP, Ki, Kj⟩ := hid3 (((((((S.out.b.set 0 (.bool t.n0) rfl).set 1 (.bool t.s0) rfl).set 2 (.slice rA t.l0.length ra) rfl).set 3 (.bool t.n1) rfl).set 4 (.bool t.s1) rfl).set 5 (.slice rB t.l1.length rb) rfl).set 6 (.slice F n f) rfl) (grown_own Kf.out M (by omega)) (Kg.out.kept M (fun e => by have := J.out; injection e; omega))
  have Z := S.out.noU (fun v hv n e => by subst e; simp at hv)
  have Kh := hid (And.intro T.out.1 (And.intro (T.out.2.1.keepE Z M) (T.out.2.2.keepE Z M)))
  clear M Z
  obtain ⟨⟨r0, r1, r2, r3, r4, r5, r6⟩, q0, q1, q2, q3, q4, q5, q6⟩ := S.out.b.all7
  have x0 := Ke.out.six.cf
  clear Ke S Kf Kg T J
  go_wp2
  refine bodyPost_ret (res_lined2 rfl _ (w.heap.size + 1) rfl HP.out) rfl ?_
  exact ⟨t, rA, ra, rB, rb, rfl, Kh.out, Kj.out, Ki.out⟩
theorem IvsAt.keepE {ps : List Iv} (h : IvsAt W Z A c ps) (hn : ∀ b o, A = some ⟨b, o, none⟩ → b ≠ g) (hN : NoU W g) (hg : W.grownBy W' (some g)) : IvsAt W' old A c ps := by
 refine ⟨h.cap, h.max, fun h0 => ?_⟩
 obtain ⟨b, o, e, C, E⟩ := h.row h0
 have D := hn b o e
 have B : ∀ o v, W.cell? ⟨b, o, none⟩ = some v → W'.cell? ⟨b, o, none⟩ = some v := fun o v hv => (World.cell?_of_block (w := W) (a := ⟨b, o, none⟩) (hg.block b C (fun e => by injection e with e; exact D e))).trans hv
 refine ⟨b, o, e, Nat.lt_of_lt_of_le C hg.size, fun j hj => ?_⟩
 obtain ⟨F, G, H, I, ⟨J, K, L, M, N, O⟩, u0, u1⟩ := E j hj
 exact ⟨F, G, H, I, ⟨B _ _ J, B _ _ K, B _ _ L, B _ _ M, B _ _ N, B _ _ O⟩, u0.keepE hN hg, u1.keepE hN hg⟩
def ivC (ps : List Iv) (T : Nat → (Option Addr × Nat) × Option Addr × Nat) (j i : Nat) : Value :=
 match ps[j]? with
 | some p => if i = 0 then .bool p.n0 else if i = 1 then .bool p.s0 else if i = 2 then .slice (T j).1.1 p.l0.length (T j).1.2 else if i = 3 then .bool p.n1 else if i = 4 then .bool p.s1 else .slice (T j).2.1 p.l1.length (T j).2.2
 | none => undef
theorem ivC_at {ps : List Iv} {T : Nat → (Option Addr × Nat) × Option Addr × Nat} (hj : j < ps.length) : Value.agg #[ivC ps T j 0, ivC ps T j 1, ivC ps T j 2, ivC ps T j 3, ivC ps T j 4, ivC ps T j 5] = .agg #[.bool ps[j].n0, .bool ps[j].s0, .slice (T j).1.1 ps[j].l0.length (T j).1.2, .bool ps[j].n1, .bool ps[j].s1, .slice (T j).2.1 ps[j].l1.length (T j).2.2] := by
 simp [ivC, List.getElem?_eq_getElem hj]
theorem IvsAt.rows {w : World} {ps : List Iv} (h : IvsAt w Z A c ps) : ∃ T, RowK 6 w A c ps.length (ivC ps T) ∧ ∀ j (hj : j < ps.length), U64s w Z (T j).1.1 (T j).1.2 ps[j].l0 ∧ U64s w Z (T j).2.1 (T j).2.2 ps[j].l1 := by
 rcases Nat.eq_zero_or_pos ps.length with h0 | h0
 · exact ⟨fun _ => ((none, 0), none, 0), ⟨h.cap, h.max, fun h1 => by omega⟩, fun j hj => by omega⟩
 · obtain ⟨b, o, e, C, D⟩ := h.row h0
   obtain ⟨T, B⟩ := Classical.axiomOfChoice (r := fun (j : Nat) (t : (Option Addr × Nat) × Option Addr × Nat) => ∀ hj : j < ps.length, (w.cell? ⟨b, o + j * 6, none⟩ = some (.bool ps[j].n0) ∧ w.cell? ⟨b, o + j * 6 + 1, none⟩ = some (.bool ps[j].s0) ∧ w.cell? ⟨b, o + j * 6 + 2, none⟩ = some (.slice t.1.1 ps[j].l0.length t.1.2) ∧ w.cell? ⟨b, o + j * 6 + 3, none⟩ = some (.bool ps[j].n1) ∧ w.cell? ⟨b, o + j * 6 + 4, none⟩ = some (.bool ps[j].s1) ∧ w.cell? ⟨b, o + j * 6 + 5, none⟩ = some (.slice t.2.1 ps[j].l1.length t.2.2)) ∧ U64s w Z t.1.1 t.1.2 ps[j].l0 ∧ U64s w Z t.2.1 t.2.2 ps[j].l1) (fun j => by
    by_cases hj : j < ps.length
    · obtain ⟨E, F, G, H, h⟩ := D j hj
      exact ⟨((E, F), G, H), fun _ => h⟩
    · exact ⟨((none, 0), none, 0), fun h => absurd h hj⟩)
   refine ⟨T, ⟨h.cap, h.max, fun _ => ⟨b, o, e, C, fun j hj i hi => ?_⟩⟩, fun j hj => (B j hj).2⟩
   obtain ⟨⟨I, J, K, L, M, N⟩, _, _⟩ := B j hj
   rcases i with _ | _ | _ | _ | _ | _ | i
   · simpa [ivC, List.getElem?_eq_getElem hj] using I
   · simpa [ivC, List.getElem?_eq_getElem hj] using J
   · simpa [ivC, List.getElem?_eq_getElem hj] using K
   · simpa [ivC, List.getElem?_eq_getElem hj] using L
   · simpa [ivC, List.getElem?_eq_getElem hj] using M
   · simpa [ivC, List.getElem?_eq_getElem hj] using N
   · omega
theorem RowK.tail6 {w : World} {n : Nat} {x : Nat → Nat → Value} (h : RowK 6 w (some ⟨b, o, none⟩) c n x) (hn : 1 ≤ n) : RowK 6 w (some ⟨b, o + 6, none⟩) (c - 1) (n - 1) (fun j i => x (j + 1) i) := by
 obtain ⟨D, E, e, B, C⟩ := h.row (by omega)
 injection e with e
 injection e with e1 e2
 subst e1 e2
 refine ⟨by have := h.cap; omega, by have := h.max; omega, fun _ => ⟨b, o + 6, rfl, B, fun j hj i hi => ?_⟩⟩
 have A := C (j + 1) (by omega) i hi
 rw [show o + (j + 1) * 6 + i = o + 6 + j * 6 + i by omega] at A
 exact A
theorem sindex_form {w : World} {n : Nat} {x : Nat → Nat → Value} {caps : Array Value} {f : Nat → Bool} (hF : Goes F) (ha : RowK 6 w A c n x)
  (hf : ∀ j, j < n → ∀ W, Below w.heap.size w W → Calls Tryz.prog F (#[.agg #[x j 0, x j 1, x j 2, x j 3, x j 4, x j 5]] ++ caps) W fun e w' => e = .returned (.bool (f j)) ∧ Below W.heap.size W w') :
  Calls Tryz.prog 86 #[.slice A n c, .func (.func F) #[] caps] w fun e w' => (∃ r, e = .returned (.int .i64 r) ∧ decide (0 ≤ r) = (List.range n).any f) ∧ Below w.heap.size w w' := by
 have Q := ha.len
 obtain ⟨M, N⟩ := hid2 hf ha
 clear hf ha
 go_enter Tryz.func86, Tryz.ntmps86
 go_wp2
 go_loopw [8] (fun i wr => ∃ k : Nat, k ≤ n ∧ i = .int .i64 k ∧ Below w.heap.size w wr ∧ Hid (∀ j, j < k → f j = false)) (fun i _ => n - (intOf i).toNat)
 case atStart => exact ⟨0, Nat.zero_le _, rfl, Below.refl _ _, fun j h => absurd h (by omega)⟩
 case round =>
  obtain ⟨k, S, rfl, B, C⟩ := hrel
  by_cases hlt : k < n
  · obtain ⟨b, o, rfl, T, U, V, X, Y, Z, a⟩ := (N.out.below B).at6 hlt
    have D := M.out k hlt wr B
    have H : Hid (f k = false → ∀ j, j < k + 1 → f j = false) := fun hx j hjk => by
     rcases Nat.lt_or_ge j k with h1 | h1
     · exact C.out j h1
     · obtain rfl : j = k := by omega
       exact hx
    have I : Hid (f k = true → (List.range n).any f = true) := fun hx => any_lt.2 ⟨k, hlt, hx⟩
    clear C
    generalize x k 0 = v0 at *; generalize x k 1 = v1 at *; generalize x k 2 = v2 at *; generalize x k 3 = v3 at *; generalize x k 4 = v4 at *; generalize x k 5 = v5 at *
    have J : f k = true ∨ f k = false := by cases f k <;> simp
    generalize f k = R at *
    rcases J with rfl | rfl
    all_goals
     have K := hid D
     clear D
     go_wp2_with fail
     rw [hF]
     refine K.out.mono ?_
     rintro e d ⟨rfl, O⟩
     have E := from_ B O
     go_wp2
    · go_ret
      exact ⟨⟨_, rfl, by rw [I.out (by first | rfl | trivial)]; exact decide_eq_true (by omega)⟩, E⟩
    · go_roundw
      case rel => exact ⟨k + 1, by omega, by go_num, E, hid (H.out (by first | rfl | trivial))⟩
      case measure => simp [intOf]; omega
  · obtain rfl : k = n := by omega
    have G : (List.range k).any f = false := by
     cases hall : (List.range k).any f
     · rfl
     · obtain ⟨j, P, e⟩ := any_lt.1 hall
       rw [C.out j P] at e
       cases e
    have L := hid G
    clear G C
    go_wp2
    go_ret
    exact ⟨⟨_, rfl, by rw [L.out]; rfl⟩, B⟩
theorem scontains_form {w : World} {n : Nat} {x : Nat → Nat → Value} {caps : Array Value} {f : Nat → Bool} (hF : Goes F) (ha : RowK 6 w A c n x)
  (hf : ∀ j, j < n → ∀ W, Below w.heap.size w W → Calls Tryz.prog F (#[.agg #[x j 0, x j 1, x j 2, x j 3, x j 4, x j 5]] ++ caps) W fun e w' => e = .returned (.bool (f j)) ∧ Below W.heap.size W w') :
  Calls Tryz.prog 39 #[.slice A n c, .func (.func F) #[] caps] w fun e w' => e = .returned (.bool ((List.range n).any f)) ∧ Below w.heap.size w w' := by
 have B := hid (sindex_form hF ha hf)
 clear hf ha
 generalize (List.range n).any f = R at *
 go_enter Tryz.func39, Tryz.ntmps39
 go_wp2_with fail
 refine B.out.mono ?_
 rintro e D ⟨⟨r, rfl, E⟩, C⟩
 go_wp2
 go_ret
 exact ⟨rfl, C⟩
def sameIv (p q : Iv) : Bool := decide ((p.n0 = q.n0 ∧ p.s0 = q.s0 ∧ p.l0 = q.l0) ∧ p.n1 = q.n1 ∧ p.s1 = q.s1 ∧ p.l1 = q.l1)
def hangs (z : Iv) (qs : List Iv) : Bool := (List.range (qs.length - 1)).any fun j => match qs[j + 1]? with | some q => !sameIv q z | none => false
theorem lnz_any {w : World} {gz : Nat} {z p : Iv} {zA zB : Option Addr} {za zb : Nat} (hz : Box6 w gz (.bool z.n0) (.bool z.s0) (.slice zA z.l0.length za) (.bool z.n1) (.bool z.s1) (.slice zB z.l1.length zb)) (u1 : U64s w Z1 A a p.l0) (u2 : U64s w Z2 B b p.l1) (u3 : U64s w Z3 zA za z.l0) (u4 : U64s w Z4 zB zb z.l1) :
  Calls Tryz.prog 134 #[.agg #[.bool p.n0, .bool p.s0, .slice A p.l0.length a, .bool p.n1, .bool p.s1, .slice B p.l1.length b], .pointer (some ⟨gz, 0, none⟩)] w fun e w' => e = .returned (.bool (!sameIv p z)) ∧ Below w.heap.size w w' := by
 have C : Below w.heap.size w (w.alloc (.cells #[.bool p.n0, .bool p.s0, .slice A p.l0.length a, .bool p.n1, .bool p.s1, .slice B p.l1.length b] 39)) := (Below.refl _ w).alloc (Nat.le_refl _) _
 obtain ⟨I, J, K, L, M, N, _, _, _, _, _, _, _⟩ := Box6.new w (.bool p.n0) (.bool p.s0) (.slice A p.l0.length a) (.bool p.n1) (.bool p.s1) (.slice B p.l1.length b) 39
 have G := (hz.below C).all
 obtain ⟨F, O⟩ := hid2 (isame_any (w := (w.alloc (.cells #[.bool p.n0, .bool p.s0, .slice A p.l0.length a, .bool p.n1, .bool p.s1, .slice B p.l1.length b] 39))) (n0 := p.n0) (s0 := p.s0) (n1 := p.n1) (s1 := p.s1) (m0 := z.n0) (t0 := z.s0) (m1 := z.n1) (t1 := z.s1) (u1.below C) (u2.below C) (u3.below C) (u4.below C)) C
 obtain ⟨R, E⟩ : ∃ R, sameIv p z = R := ⟨_, rfl⟩
 have D := E
 unfold sameIv at D
 rw [D] at F
 rw [E]
 clear hz u1 u2 u3 u4 C E D
 go_enter Tryz.func134, Tryz.ntmps134
 go_wp2_with fail
 refine F.out.mono ?_
 rintro e Q ⟨rfl, P⟩
 clear I J K L M N G
 have H := from_ O.out P
 cases R
 all_goals
  go_wp2
  go_ret
  exact ⟨rfl, H⟩
theorem goesNz : Goes 134 := goes_of Tryz.func134 rfl rfl
theorem lstraight3 {w : World} {Ps Qs : List IvP} {p : Iv} (hka : BoxL w ga [.bool p.n0, .bool p.s0, .slice A p.l0.length a, .bool p.n1, .bool p.s1, .slice B p.l1.length b, .slice FA (fmOf Ps).length fa]) (hkb : BoxL w gb [.bool q.n0, .bool q.s0, .slice C q.l0.length c, .bool q.n1, .bool q.s1, .slice D q.l1.length d, .slice FB (fmOf Qs).length fb])
  (ha : IvsAt w Z5 FA fa (fmOf Ps)) (hb : IvsAt w Z6 FB fb (fmOf Qs)) (hp : FmW 3200 Ps (fmOf Ps)) (hq : FmW 3200 Qs (fmOf Qs)) (hl : 1 ≤ Ps.length ∧ Ps.length ≤ 64) (hpq : Qs.length = Ps.length)
  (ip : IvW P p) (gp : IvN 3200 P.1 P.2) (iq : IvW Q q) (gq : IvN 3200 Q.1 Q.2) (u1 : U64s w Z1 A a p.l0) (u2 : U64s w Z2 B b p.l1) (u3 : U64s w Z3 C c q.l0) (u4 : U64s w Z4 D d q.l1) {rs : List IvP} (hrs : rs = if hangs (ivOf 0 0) (fmOf Qs) then scaL Qs P else scaL Ps Q) :
  Calls Tryz.prog 133 #[.pointer (some ⟨gb, 0, none⟩), .pointer (some ⟨ga, 0, none⟩)] w fun e w' => ∃ Av cv, e = .returned (.tuple #[.slice Av (fmOf rs).length cv, .int .i64 0]) ∧ IvsAt w' (new w.heap.size) Av cv (fmOf rs) ∧ Below w.heap.size w w' ∧ NewA w.heap.size Av := by
 obtain ⟨z, hz⟩ : ∃ z, z = ivOf 0 0 := ⟨_, rfl⟩
 rw [← hz] at hrs
 have Ki : IvW (0, 0) z := by rw [hz]; exact IvW.mk (0, 0)
 obtain ⟨R, hR⟩ : ∃ R, hangs z (fmOf Qs) = R := ⟨_, rfl⟩
 rw [hR] at hrs
 have Kn : (fmOf Qs).length = Qs.length := fmOf_len Qs
 obtain ⟨bQ, oQ, Km⟩ : ∃ b o, FB = some ⟨b, o, none⟩ := by
  obtain ⟨b', o', _, _, _, _, h, _⟩ := hb.at (j := 0) (by rw [fmOf_len]; omega)
  exact ⟨b', o', h⟩
 have HZ := hid (lbetween_r (w := w) Ki (by decide) (by decide) (by decide))
 have HC := hid (fun (W : World) (h : Below w.heap.size w W) (gz : Nat) (zA zB AX : Option Addr) (za zb K cX : Nat) (hX : (AX = some ⟨bQ, oQ + 6, none⟩ ∧ cX = fb - 1) ∨ (cX = 0 ∧ (fmOf Qs).length = 1)) (hg : Box6 W gz (.bool z.n0) (.bool z.s0) (.slice zA z.l0.length za) (.bool z.n1) (.bool z.s1) (.slice zB z.l1.length zb)) (v1 : U64s W (new K) zA za z.l0) (v2 : U64s W (new K) zB zb z.l1) => by
  obtain ⟨T, hT, hU⟩ := (hb.below h).rows
  rw [Km] at hT
  have Ko : RowK 6 W AX cX ((fmOf Qs).length - 1) (fun j i => ivC (fmOf Qs) T (j + 1) i) := by
   rcases hX with ⟨rfl, rfl⟩ | ⟨rfl, J⟩
   · exact hT.tail6 (by omega)
   · exact ⟨by omega, by omega, fun h => by omega⟩
  have Kj := scontains_form (w := W) (F := 134) (caps := #[.pointer (some ⟨gz, 0, none⟩)]) (f := fun j => match (fmOf Qs)[j + 1]? with | some q => !sameIv q z | none => false) goesNz Ko (fun j hj W' hW' => by
   have Kc : j + 1 < (fmOf Qs).length := by omega
   rw [ivC_at Kc]
   simp only [List.getElem?_eq_getElem Kc]
   exact lnz_any (hg.below hW') ((hU (j + 1) Kc).1.below hW') ((hU (j + 1) Kc).2.below hW') (v1.below hW') (v2.below hW'))
  rw [show (List.range ((fmOf Qs).length - 1)).any (fun j => match (fmOf Qs)[j + 1]? with | some q => !sameIv q z | none => false) = R from hR] at Kj
  exact Kj)
 have Kk := fun (hr : R = true) (W : World) (h : Below w.heap.size w W) => by
  have J := lscale_n (hb.below h) hq (by rw [fmOf_len]; omega) ip gp (u1.below h) (u2.below h)
  rw [show scaL Qs P = rs by rw [hrs, hr]; rfl] at J
  exact J
 have Kl := fun (hr : R = false) (W : World) (h : Below w.heap.size w W) => by
  have J := lscale_n (ha.below h) hp (by rw [fmOf_len]; exact hl) iq gq (u3.below h) (u4.below h)
  rw [show scaL Ps Q = rs by rw [hrs, hr]; rfl] at J
  exact J
 have Kp : 1 ≤ (fmOf Qs).length := by omega
 have Kq := hb.cap
 have Kr := hb.max
 obtain ⟨⟨N, O, S, U, V, X, Z⟩, _⟩ := hka.all7
 obtain ⟨⟨g, m, r, s, u, v, x⟩, _⟩ := hkb.all7
 obtain ⟨Ke, Kf⟩ := hid2 hka hkb
 clear ha hb hp hq hl hpq ip gp iq gq u1 u2 u3 u4 hka hkb hR hz Ki Kn hrs
 generalize fmOf rs = rr at *
 subst Km
 generalize (fmOf Qs).length = M at *
 generalize (fmOf Ps).length = L at *
 obtain ⟨Ka, Kb⟩ := hid2 Kk Kl
 clear Kk Kl
 go_enter Tryz.func133, Tryz.ntmps133
 go_wp2_with fail
 refine HZ.out.mono ?_
 rintro e w1 ⟨zA, za, zB, zb, rfl, v1, v2, hc⟩
 have Kd : Below w1.heap.size w1 (w1.alloc (.cells #[.bool z.n0, .bool z.s0, .slice zA z.l0.length za, .bool z.n1, .bool z.s1, .slice zB z.l1.length zb] 39)) := (Below.refl _ w1).alloc (Nat.le_refl _) _
 obtain ⟨HG, Kg⟩ := hid2 (Box6.new w1 (.bool z.n0) (.bool z.s0) (.slice zA z.l0.length za) (.bool z.n1) (.bool z.s1) (.slice zB z.l1.length zb) 39) (from_ hc Kd)
 have Kh := hid (fun AX cX hX => HC.out _ Kg.out _ _ _ AX _ _ _ cX hX HG.out (v1.below Kd) (v2.below Kd))
 replace Ke := hid (Ke.out.below Kg.out)
 replace Kf := hid (Kf.out.below Kg.out)
 clear N O S U V X Z g m r s u v x v1 v2 hc Kd HC HZ
 go_upto_region 2 with fail
 generalize (w1.alloc (.cells #[.bool z.n0, .bool z.s0, .slice zA z.l0.length za, .bool z.n1, .bool z.s1, .slice zB z.l1.length zb] 39)) = W2 at *
 obtain ⟨⟨N, O, S, U, V, X, Z⟩, _⟩ := Ke.out.all7
 obtain ⟨⟨g, m, r, s, u, v, x⟩, _⟩ := Kf.out.all7
 go_wp2_with fail
 all_goals
  try (have J : fb = 1 := by assumption)
  try subst J
  first
   | refine (Kh.out _ _ (.inl ⟨rfl, rfl⟩)).mono ?_
   | refine (Kh.out _ _ (.inr ⟨rfl, by omega⟩)).mono ?_
  rintro e w3 ⟨rfl, hc⟩
  clear N O S U V X Z g m r s u v x Kh
  have E := hid (from_ Kg.out hc)
  obtain ⟨⟨N, O, S, U, V, X, Z⟩, _⟩ := (Ke.out.below hc).all7
  obtain ⟨⟨g, m, r, s, u, v, x⟩, _⟩ := (Kf.out.below hc).all7
  clear hc
  cases R
 · go_wp2_with fail
   refine (Kb.out trivial _ E.out).mono ?_
   rintro e w4 ⟨Av, cv, rfl, G, H, I⟩
   have y := hid (And.intro (G.mono (Y := new w.heap.size) (new_le E.out.size)) (And.intro (from_ E.out H) (show NewA w.heap.size Av from fun b o e => Nat.le_trans E.out.size (I b o e))))
   clear N O S U V X Z g m r s u v x G H I Kb Ka
   go_wp2
   go_ret2
   exact ⟨_, _, rfl, y.out⟩
 · go_wp2_with fail
   refine (Ka.out trivial _ E.out).mono ?_
   rintro e w4 ⟨Av, cv, rfl, G, H, I⟩
   have y := hid (And.intro (G.mono (Y := new w.heap.size) (new_le E.out.size)) (And.intro (from_ E.out H) (show NewA w.heap.size Av from fun b o e => Nat.le_trans E.out.size (I b o e))))
   clear N O S U V X Z g m r s u v x G H I Kb Ka
   go_wp2
   go_ret2
   exact ⟨_, _, rfl, y.out⟩
 · go_wp2_with fail
   refine (Kb.out trivial _ E.out).mono ?_
   rintro e w4 ⟨Av, cv, rfl, G, H, I⟩
   have y := hid (And.intro (G.mono (Y := new w.heap.size) (new_le E.out.size)) (And.intro (from_ E.out H) (show NewA w.heap.size Av from fun b o e => Nat.le_trans E.out.size (I b o e))))
   clear N O S U V X Z g m r s u v x G H I Kb Ka
   go_wp2
   go_ret2
   exact ⟨_, _, rfl, y.out⟩
 · go_wp2_with fail
   refine (Ka.out trivial _ E.out).mono ?_
   rintro e w4 ⟨Av, cv, rfl, G, H, I⟩
   have y := hid (And.intro (G.mono (Y := new w.heap.size) (new_le E.out.size)) (And.intro (from_ E.out H) (show NewA w.heap.size Av from fun b o e => Nat.le_trans E.out.size (I b o e))))
   clear N O S U V X Z g m r s u v x G H I Kb Ka
   go_wp2
   go_ret2
   exact ⟨_, _, rfl, y.out⟩
theorem lstraight1_any {w : World} {K gw : Nat} {G : LkG} {m : Nat → Bool} {x6 y6 : Value} {caps : Array Value} {p r : Iv} {R : IvP} {rr : List Iv} (hF : Goes F) (hK : Goes K) (hka : BoxL w ga [.bool p.n0, .bool p.s0, .slice A p.l0.length a, .bool p.n1, .bool p.s1, .slice B p.l1.length b, x6]) (hkb : BoxL w gb [.bool q.n0, .bool q.s0, .slice C q.l0.length c, .bool q.n1, .bool q.s1, .slice D q.l1.length d, y6])
  (hw : w.cell? ⟨gw, 0, none⟩ = some (.pointer (some ⟨lk, 0, none⟩))) (hk : BoxE w lk (lkL G m)) (hr : IvW R r) (gr : IvN 6000 R.1 R.2)
  (hAD : ∀ W, Below w.heap.size w W → Calls Tryz.prog F #[.agg #[.bool p.n0, .bool p.s0, .slice A p.l0.length a, .bool p.n1, .bool p.s1, .slice B p.l1.length b], .agg #[.bool q.n0, .bool q.s0, .slice C q.l0.length c, .bool q.n1, .bool q.s1, .slice D q.l1.length d]] W fun e w' => ∃ rA ra rB rb, e = .returned (.tuple #[.agg #[.bool r.n0, .bool r.s0, .slice rA r.l0.length ra, .bool r.n1, .bool r.s1, .slice rB r.l1.length rb], .int .i64 0]) ∧ U64s w' (new W.heap.size) rA ra r.l0 ∧ U64s w' (new W.heap.size) rB rb r.l1 ∧ Below W.heap.size W w')
  (hS : ∀ W, Below w.heap.size w W → Calls Tryz.prog K caps W fun e w' => ∃ Av cv, e = .returned (.tuple #[.slice Av rr.length cv, .int .i64 0]) ∧ IvsAt w' (new W.heap.size) Av cv rr ∧ Below W.heap.size W w' ∧ NewA W.heap.size Av) :
  Calls Tryz.prog 128 #[.func (.func F) #[] #[], .func (.func K) #[] caps, .pointer (some ⟨ga, 0, none⟩), .pointer (some ⟨gb, 0, none⟩), .pointer (some ⟨gw, 0, none⟩)] w fun e w' => ∃ (t : Iv) (tA : Option Addr) (ta : Nat) (tB : Option Addr) (tb : Nat) (FF : Option Addr) (ff : Nat), e = .returned (.tuple #[.agg #[.bool t.n0, .bool t.s0, .slice tA t.l0.length ta, .bool t.n1, .bool t.s1, .slice tB t.l1.length tb, .slice FF rr.length ff], .bool (meetOk R allP)]) ∧ (IvW (meetZ R allP) t ∧ U64s w' old tA ta t.l0 ∧ U64s w' old tB tb t.l1) ∧ IvsAt w' old FF ff rr ∧ NewA w.heap.size FF ∧ BoxE w' lk (lkL G (markF m 2 (!keepIn R allP))) ∧ w.grownBy w' (some lk) := by
 have H : Below w.heap.size w (w.alloc (.cells #[.bool false, .bool false, .slice none 0 0, .bool false, .bool false, .slice none 0 0, .slice none 0 0] 85)) := (Below.refl _ w).alloc (Nat.le_refl _) _
 obtain ⟨X, S⟩ : ∃ W, (w.alloc (.cells #[.bool false, .bool false, .slice none 0 0, .bool false, .bool false, .slice none 0 0, .slice none 0 0] 85)) = W := ⟨_, rfl⟩
 rw [S] at H
 have HR : Hid (BoxE X w.heap.size [.bool false, .bool false, .slice none 0 0, .bool false, .bool false, .slice none 0 0, .slice none 0 0]) := hid (by rw [← S]; exact BoxE.new w [.bool false, .bool false, .slice none 0 0, .bool false, .bool false, .slice none 0 0, .slice none 0 0] _)
 obtain ⟨HZ, HB, Y, Kh⟩ := hid4 (show w.heap.size + 1 ≤ X.heap.size by rw [← S]; simp) H hk.b.lt (hk.below H)
 obtain ⟨⟨Z, i, j, s, u, y, _⟩, _⟩ := (hka.below H).all7
 obtain ⟨⟨y0, y1, y2, y3, y4, y5, _⟩, _⟩ := (hkb.below H).all7
 have Kd := keepC H hw
 obtain ⟨Ki, HS, z⟩ := hid3 (hAD X H) hS (fun (W : World) (FF A B : Option Addr) (n f a b k : Nat) (h : BoxE W lk (lkL G m)) (N : U64s W (new k) A a r.l0) (h2 : U64s W (new k) B b r.l1) => lranged_any (n := n) (f := f) (F := FF) h hr gr N h2)
 obtain ⟨gM, Ka⟩ : ∃ g, meetOk R allP = g := ⟨_, rfl⟩
 obtain ⟨m', Kb⟩ : ∃ x, markF m 2 (!keepIn R allP) = x := ⟨_, rfl⟩
 obtain ⟨T, hT⟩ : ∃ x, meetZ R allP = x := ⟨_, rfl⟩
 rw [Ka, Kb, hT] at z
 rw [Ka, Kb, hT]
 clear H hka hkb hw hk hr gr hAD hS Ka Kb hT
 go_enter Tryz.func128, Tryz.ntmps128
 go_wp2_with fail
 rw [hF]
 refine Ki.out.mono ?_
 rintro e J ⟨rA, ra, rB, rb, rfl, v1, v2, E⟩
 clear S Z i j s u y y0 y1 y2 y3 y4 y5 Ki
 have L : Below J.heap.size J (J.alloc (.cells #[.bool r.n0, .bool r.s0, .slice rA r.l0.length ra, .bool r.n1, .bool r.s1, .slice rB r.l1.length rb] 39)) := (Below.refl J.heap.size J).alloc (Nat.le_refl _) _
 have HX := hid (Box6.new J (.bool r.n0) (.bool r.s0) (.slice rA r.l0.length ra) (.bool r.n1) (.bool r.s1) (.slice rB r.l1.length rb) 39)
 have M := from_ E L
 have Ke := hid (from_ HB.out M)
 obtain ⟨Kj, Kk, Kl⟩ := hid3 (HS.out _ Ke.out) (HR.out.below M) (Kh.out.below M)
 have Kf := keepC L (keepC E Kd)
 obtain ⟨V1, V2, Ks⟩ := hid3 (v1.below L) (v2.below L) (Nat.le_trans HZ.out M.size)
 clear L E M v1 v2 Kd HS HR HB Kh
 go_wp2_with fail
 rw [hK]
 refine Kj.out.mono ?_
 rintro e w3 ⟨FF, ff, rfl, hf, E, hn⟩
 obtain ⟨Km, Kn, Ko, Kc⟩ := hid4 (HX.out.below E) (from_ Ke.out E) (Kk.out.below E) (Kl.out.below E)
 have Kr := keepC E Kf
 obtain ⟨Kp, HF⟩ := hid2 (z.out w3 FF rA rB rr.length ff ra rb _ Kc.out (V1.out.below E) (V2.out.below E)) (And.intro hf hn)
 clear E hf hn HX Kj z Kf Kk Kl V1 V2
 obtain ⟨Z, i, j, s, u, y, _, _, _, _, _, _, _⟩ := id Km.out
 go_wp2_with fail
 refine Kp.out.mono ?_
 rintro e w4 ⟨t, tA, ta, tB, tb, rfl, U, Kq, V⟩
 have I := ((((((grown_set w4 w.heap.size 0 (.bool t.n0)).trans (grown_set _ w.heap.size 1 (.bool t.s0))).trans (grown_set _ w.heap.size 2 (.slice tA t.l0.length ta))).trans (grown_set _ w.heap.size 3 (.bool t.n1))).trans (grown_set _ w.heap.size 4 (.bool t.s1))).trans (grown_set _ w.heap.size 5 (.slice tB t.l1.length tb))).trans (grown_set _ w.heap.size 6 (.slice FF rr.length ff))
 have O := hid (Ko.out.kept V (fun e => by have := Y.out; injection e; omega))
 have HP := hid (((((((O.out.b.set 0 (.bool t.n0) rfl).set 1 (.bool t.s0) rfl).set 2 (.slice tA t.l0.length ta) rfl).set 3 (.bool t.n1) rfl).set 4 (.bool t.s1) rfl).set 5 (.slice tB t.l1.length tb) rfl).set 6 (.slice FF rr.length ff) rfl)
 have Kg := Kc.out.noU lkL_noW
 have P := O.out.noU (fun v hv n e => by subst e; simp at hv)
 obtain ⟨Kt, Kv, Kw⟩ := hid3 (grown_own ((grown_any (r := some lk) Kn.out).trans V) I (Nat.le_refl _)) (Kq.kept I (fun e => by have := Y.out; injection e; omega)) (And.intro U.1 (And.intro (U.2.1.keepE P I) (U.2.2.keepE P I)))
 have Q : ∀ b o, FF = some ⟨b, o, none⟩ → w.heap.size + 1 ≤ b := fun b o e => by have N := HF.out.2 b o e; have := Ks.out; omega
 obtain ⟨Kx, Ky⟩ := hid2 ((HF.out.1.keepE (g := lk) (fun b o e => by have N := Q b o e; have := Y.out; omega) Kg V).keepE (g := w.heap.size) (fun b o e => by have N := Q b o e; omega) P I) (show NewA w.heap.size FF from fun b o e => by have N := Q b o e; omega)
 obtain ⟨⟨r0, r1, r2, r3, r4, r5, r6⟩, q0, q1, q2, q3, q4, q5, q6⟩ := O.out.b.all7
 clear Z i j s u y I Kr Kp Km HF Ko O Kg P Q U Kq V Kn Kc
 go_wp2
 refine bodyPost_ret (res_lined2 rfl _ w.heap.size rfl HP.out) rfl ?_
 exact ⟨t, tA, ta, tB, tb, FF, ff, rfl, Kw.out, Kx.out, Ky.out, Kv.out, Kt.out⟩
theorem BoxE.alloc (h : BoxE W g vs) (o : Obj) : BoxE (W.alloc o) g vs := h.below ((Below.refl _ W).alloc (Nat.le_refl _) _)
theorem goesMul : Goes 94 := goes_of Tryz.func94 rfl rfl
theorem goesS2 : Goes 131 := goes_of Tryz.func131 rfl rfl
theorem goesS3 : Goes 133 := goes_of Tryz.func133 rfl rfl
theorem lstraight_add5 {w : World} {G : LkG} {m : Nat → Bool} {Ps Qs : List IvP} {p : Iv} {rr : List Iv} (hk : BoxE w lk (lkL G m)) (ha : IvsAt w Z5 FA fa (fmOf Ps)) (hp : FmW 3200 Ps (fmOf Ps)) (hl : 1 ≤ Ps.length ∧ Ps.length ≤ 64) (hb : IvsAt w Z6 FB fb (fmOf Qs)) (hq : FmW 3200 Qs (fmOf Qs)) (hpq : Qs.length = Ps.length) (ip : IvW P p) (gp : IvN 8 P.1 P.2) (u1 : U64s w Z1 A a p.l0) (u2 : U64s w Z2 B b p.l1) (iq : IvW Q q) (gq : IvN 8 Q.1 Q.2) (u3 : U64s w Z3 C c q.l0) (u4 : U64s w Z4 D d q.l1) (hrr : rr = fmOf (addLL Ps Qs)) :
  Calls Tryz.prog 82 #[.pointer (some ⟨lk, 0, none⟩), .int .u8 5, .agg #[.bool p.n0, .bool p.s0, .slice A p.l0.length a, .bool p.n1, .bool p.s1, .slice B p.l1.length b, .slice FA (fmOf Ps).length fa], .agg #[.bool q.n0, .bool q.s0, .slice C q.l0.length c, .bool q.n1, .bool q.s1, .slice D q.l1.length d, .slice FB (fmOf Qs).length fb]] w fun e w' => ∃ (t : Iv) (tA : Option Addr) (ta : Nat) (tB : Option Addr) (tb : Nat) (FF : Option Addr) (ff : Nat), e = .returned (.tuple #[.agg #[.bool t.n0, .bool t.s0, .slice tA t.l0.length ta, .bool t.n1, .bool t.s1, .slice tB t.l1.length tb, .slice FF rr.length ff], .bool (meetOk (ivA P Q) allP)]) ∧ (IvW (meetZ (ivA P Q) allP) t ∧ U64s w' old tA ta t.l0 ∧ U64s w' old tB tb t.l1) ∧ IvsAt w' old FF ff rr ∧ NewA w.heap.size FF ∧ BoxE w' lk (lkL G (markF m 2 (!keepIn (ivA P Q) allP))) ∧ w.grownBy w' (some lk) := by
 obtain ⟨W1, Kh, E, j, s, u, y, z⟩ := al4 w [.pointer (some ⟨lk, 0, none⟩)] 80 [.bool p.n0, .bool p.s0, .slice A p.l0.length a, .bool p.n1, .bool p.s1, .slice B p.l1.length b, .slice FA (fmOf Ps).length fa] 85 [.bool q.n0, .bool q.s0, .slice C q.l0.length c, .bool q.n1, .bool q.s1, .slice D q.l1.length d, .slice FB (fmOf Qs).length fb] 85 [.bool false, .bool false, .slice none 0 0, .bool false, .bool false, .slice none 0 0, .slice none 0 0] 85
 have Kf := j.b.c 0 _ rfl
 obtain ⟨HA, Ka, HR, HZ, HB, Kb⟩ := hid6 s u y z E hk.b.lt
 have Kg := hid (hk.below E)
 obtain ⟨r, R⟩ : ∃ r, IvW (ivA P Q) r := ⟨_, IvW.mk _⟩
 have K := lstraight1_any (w := W1) (caps := #[.pointer (some ⟨w.heap.size + 1, 0, none⟩), .pointer (some ⟨w.heap.size + 2, 0, none⟩)]) goesAdd goesS2 HA.out.b Ka.out.b Kf Kg.out R ((ivA_ok gp gq (by omega)).up (by omega)) (fun W h => iadd_w ip iq R gp gq (by omega) (u1.below (from_ E h)) (u2.below (from_ E h)) (u3.below (from_ E h)) (u4.below (from_ E h))) (fun W h => lstraight2 (HA.out.b.below h).all7.1.2.2.2.2.2.2 (Ka.out.b.below h).all7.1.2.2.2.2.2.2 (ha.below (from_ E h)) (hb.below (from_ E h)) hp hq hl hpq)
 rw [← hrr] at K
 have N := hid K
 obtain ⟨gM, S⟩ : ∃ g, meetOk (ivA P Q) allP = g := ⟨_, rfl⟩
 obtain ⟨m', U⟩ : ∃ x, markF m 2 (!keepIn (ivA P Q) allP) = x := ⟨_, rfl⟩
 obtain ⟨T, V⟩ : ∃ x, meetZ (ivA P Q) allP = x := ⟨_, rfl⟩
 rw [S, U, V] at N
 rw [S, U, V]
 clear j s u y z
 clear hk ha hp hl hb hq hpq ip gp u1 u2 iq gq u3 u4 S U V hrr K R
 generalize (fmOf Ps).length = L at *
 generalize (fmOf Qs).length = M at *
 clear E
 go_enter Tryz.func82, Tryz.ntmps82
 go_wp2_with fail
 refine N.out.mono ?_
 rintro e w6 ⟨t, tA, ta, tB, tb, FF, ff, rfl, J, Kc, Kd, Ke, X⟩
 clear Kh N
 have O : ∀ b o, FF = some ⟨b, o, none⟩ → w.heap.size + 4 ≤ b := fun b o e => by have Y := Kd b o e; have := HZ.out; omega
 have Z := HB
 have i := HR
 have F := ((((((grown_set w6 (w.heap.size + 3) 0 (.bool t.n0)).trans (grown_set _ (w.heap.size + 3) 1 (.bool t.s0))).trans (grown_set _ (w.heap.size + 3) 2 (.slice tA t.l0.length ta))).trans (grown_set _ (w.heap.size + 3) 3 (.bool t.n1))).trans (grown_set _ (w.heap.size + 3) 4 (.bool t.s1))).trans (grown_set _ (w.heap.size + 3) 5 (.slice tB t.l1.length tb))).trans (grown_set _ (w.heap.size + 3) 6 (.slice FF rr.length ff))
 have H := i.out.kept X (fun e => by have := Kb.out; injection e; omega)
 have HP := hid (((((((H.b.set 0 (.bool t.n0) rfl).set 1 (.bool t.s0) rfl).set 2 (.slice tA t.l0.length ta) rfl).set 3 (.bool t.n1) rfl).set 4 (.bool t.s1) rfl).set 5 (.slice tB t.l1.length tb) rfl).set 6 (.slice FF rr.length ff) rfl)
 have I := H.noU (fun v hv n e => by subst e; simp at hv)
 obtain ⟨Ki, Kj, Kk, Kl, Km⟩ := hid5 (grown_own ((grown_any (r := some lk) Z.out).trans X) F (by omega)) (Ke.kept F (fun e => by have := Kb.out; injection e; omega)) (And.intro J.1 (And.intro (J.2.1.keepE I F) (J.2.2.keepE I F))) (Kc.keepE (g := w.heap.size + 3) (fun b o e => by have Y := O b o e; omega) I F) (show NewA w.heap.size FF from fun b o e => by have Y := O b o e; omega)
 obtain ⟨⟨r0, r1, r2, r3, r4, r5, r6⟩, q0, q1, q2, q3, q4, q5, q6⟩ := H.b.all7
 clear F H I J Kc Ke X O Kd Z i HR HB HZ
 go_wp2
 refine bodyPost_ret (res_lined2 rfl _ (w.heap.size + 3) rfl HP.out) rfl ?_
 exact ⟨t, tA, ta, tB, tb, FF, ff, rfl, Kk.out, Kl.out, Km.out, Kj.out, Ki.out⟩
theorem lstraight_mul7 {w : World} {G : LkG} {m : Nat → Bool} {Ps Qs : List IvP} {p : Iv} {rr : List Iv} (hk : BoxE w lk (lkL G m)) (ha : IvsAt w Z5 FA fa (fmOf Ps)) (hp : FmW 3200 Ps (fmOf Ps)) (hl : 1 ≤ Ps.length ∧ Ps.length ≤ 64) (hb : IvsAt w Z6 FB fb (fmOf Qs)) (hq : FmW 3200 Qs (fmOf Qs)) (hpq : Qs.length = Ps.length) (ip : IvW P p) (gp : IvN 8 P.1 P.2) (u1 : U64s w Z1 A a p.l0) (u2 : U64s w Z2 B b p.l1) (iq : IvW Q q) (gq : IvN 8 Q.1 Q.2) (u3 : U64s w Z3 C c q.l0) (u4 : U64s w Z4 D d q.l1) (hrr : rr = fmOf (if hangs (ivOf 0 0) (fmOf Qs) then scaL Qs P else scaL Ps Q)) :
  Calls Tryz.prog 82 #[.pointer (some ⟨lk, 0, none⟩), .int .u8 7, .agg #[.bool p.n0, .bool p.s0, .slice A p.l0.length a, .bool p.n1, .bool p.s1, .slice B p.l1.length b, .slice FA (fmOf Ps).length fa], .agg #[.bool q.n0, .bool q.s0, .slice C q.l0.length c, .bool q.n1, .bool q.s1, .slice D q.l1.length d, .slice FB (fmOf Qs).length fb]] w fun e w' => ∃ (t : Iv) (tA : Option Addr) (ta : Nat) (tB : Option Addr) (tb : Nat) (FF : Option Addr) (ff : Nat), e = .returned (.tuple #[.agg #[.bool t.n0, .bool t.s0, .slice tA t.l0.length ta, .bool t.n1, .bool t.s1, .slice tB t.l1.length tb, .slice FF rr.length ff], .bool (meetOk (ivM P Q) allP)]) ∧ (IvW (meetZ (ivM P Q) allP) t ∧ U64s w' old tA ta t.l0 ∧ U64s w' old tB tb t.l1) ∧ IvsAt w' old FF ff rr ∧ NewA w.heap.size FF ∧ BoxE w' lk (lkL G (markF m 2 (!keepIn (ivM P Q) allP))) ∧ w.grownBy w' (some lk) := by
 obtain ⟨W1, Kh, E, j, s, u, y, z⟩ := al4 w [.pointer (some ⟨lk, 0, none⟩)] 80 [.bool p.n0, .bool p.s0, .slice A p.l0.length a, .bool p.n1, .bool p.s1, .slice B p.l1.length b, .slice FA (fmOf Ps).length fa] 85 [.bool q.n0, .bool q.s0, .slice C q.l0.length c, .bool q.n1, .bool q.s1, .slice D q.l1.length d, .slice FB (fmOf Qs).length fb] 85 [.bool false, .bool false, .slice none 0 0, .bool false, .bool false, .slice none 0 0, .slice none 0 0] 85
 have Kf := j.b.c 0 _ rfl
 obtain ⟨HA, Ka, HR, HZ, HB, Kb⟩ := hid6 s u y z E hk.b.lt
 have Kg := hid (hk.below E)
 obtain ⟨r, R⟩ : ∃ r, IvW (ivM P Q) r := ⟨_, IvW.mk _⟩
 have K := lstraight1_any (w := W1) (caps := #[.pointer (some ⟨w.heap.size + 2, 0, none⟩), .pointer (some ⟨w.heap.size + 1, 0, none⟩)]) goesMul goesS3 HA.out.b Ka.out.b Kf Kg.out R ((ivM_ok gp gq (by omega)).up (by omega)) (fun W h => imul_w ip iq R gp gq (by omega) (by omega) (u1.below (from_ E h)) (u2.below (from_ E h)) (u3.below (from_ E h)) (u4.below (from_ E h))) (fun W h => lstraight3 (HA.out.b.below h) (Ka.out.b.below h) (ha.below (from_ E h)) (hb.below (from_ E h)) hp hq hl hpq ip (gp.up (by omega)) iq (gq.up (by omega)) (u1.below (from_ E h)) (u2.below (from_ E h)) (u3.below (from_ E h)) (u4.below (from_ E h)) rfl)
 rw [← hrr] at K
 have N := hid K
 obtain ⟨gM, S⟩ : ∃ g, meetOk (ivM P Q) allP = g := ⟨_, rfl⟩
 obtain ⟨m', U⟩ : ∃ x, markF m 2 (!keepIn (ivM P Q) allP) = x := ⟨_, rfl⟩
 obtain ⟨T, V⟩ : ∃ x, meetZ (ivM P Q) allP = x := ⟨_, rfl⟩
 rw [S, U, V] at N
 rw [S, U, V]
 clear j s u y z
 clear hk ha hp hl hb hq hpq ip gp u1 u2 iq gq u3 u4 S U V hrr K R
 generalize (fmOf Ps).length = L at *
 generalize (fmOf Qs).length = M at *
 clear E
 go_enter Tryz.func82, Tryz.ntmps82
 go_wp2_with fail
 refine N.out.mono ?_
 rintro e w6 ⟨t, tA, ta, tB, tb, FF, ff, rfl, J, Kc, Kd, Ke, X⟩
 clear Kh N
 have O : ∀ b o, FF = some ⟨b, o, none⟩ → w.heap.size + 4 ≤ b := fun b o e => by have Y := Kd b o e; have := HZ.out; omega
 have Z := HB
 have i := HR
 have F := ((((((grown_set w6 (w.heap.size + 3) 0 (.bool t.n0)).trans (grown_set _ (w.heap.size + 3) 1 (.bool t.s0))).trans (grown_set _ (w.heap.size + 3) 2 (.slice tA t.l0.length ta))).trans (grown_set _ (w.heap.size + 3) 3 (.bool t.n1))).trans (grown_set _ (w.heap.size + 3) 4 (.bool t.s1))).trans (grown_set _ (w.heap.size + 3) 5 (.slice tB t.l1.length tb))).trans (grown_set _ (w.heap.size + 3) 6 (.slice FF rr.length ff))
 have H := i.out.kept X (fun e => by have := Kb.out; injection e; omega)
 have HP := hid (((((((H.b.set 0 (.bool t.n0) rfl).set 1 (.bool t.s0) rfl).set 2 (.slice tA t.l0.length ta) rfl).set 3 (.bool t.n1) rfl).set 4 (.bool t.s1) rfl).set 5 (.slice tB t.l1.length tb) rfl).set 6 (.slice FF rr.length ff) rfl)
 have I := H.noU (fun v hv n e => by subst e; simp at hv)
 obtain ⟨Ki, Kj, Kk, Kl, Km⟩ := hid5 (grown_own ((grown_any (r := some lk) Z.out).trans X) F (by omega)) (Ke.kept F (fun e => by have := Kb.out; injection e; omega)) (And.intro J.1 (And.intro (J.2.1.keepE I F) (J.2.2.keepE I F))) (Kc.keepE (g := w.heap.size + 3) (fun b o e => by have Y := O b o e; omega) I F) (show NewA w.heap.size FF from fun b o e => by have Y := O b o e; omega)
 obtain ⟨⟨r0, r1, r2, r3, r4, r5, r6⟩, q0, q1, q2, q3, q4, q5, q6⟩ := H.b.all7
 clear F H I J Kc Ke X O Kd Z i HR HB HZ
 go_wp2
 refine bodyPost_ret (res_lined2 rfl _ (w.heap.size + 3) rfl HP.out) rfl ?_
 exact ⟨t, tA, ta, tB, tb, FF, ff, rfl, Kk.out, Kl.out, Km.out, Kj.out, Ki.out⟩
theorem lstraight_sub6 {w : World} {G : LkG} {m : Nat → Bool} {Ps Qs : List IvP} {p : Iv} {rr : List Iv} (hk : BoxE w lk (lkL G m)) (ha : IvsAt w Z5 FA fa (fmOf Ps)) (hp : FmW 3200 Ps (fmOf Ps)) (hl : 1 ≤ Ps.length ∧ Ps.length ≤ 64) (hb : IvsAt w Z6 FB fb (fmOf Qs)) (hq : FmW 3200 Qs (fmOf Qs)) (hpq : Qs.length = Ps.length) (ip : IvW P p) (gp : IvN 8 P.1 P.2) (u1 : U64s w Z1 A a p.l0) (u2 : U64s w Z2 B b p.l1) (iq : IvW Q q) (gq : IvN 8 Q.1 Q.2) (u3 : U64s w Z3 C c q.l0) (u4 : U64s w Z4 D d q.l1) (hrr : rr = fmOf (addLL Ps (negL Qs))) :
  Calls Tryz.prog 82 #[.pointer (some ⟨lk, 0, none⟩), .int .u8 6, .agg #[.bool p.n0, .bool p.s0, .slice A p.l0.length a, .bool p.n1, .bool p.s1, .slice B p.l1.length b, .slice FA (fmOf Ps).length fa], .agg #[.bool q.n0, .bool q.s0, .slice C q.l0.length c, .bool q.n1, .bool q.s1, .slice D q.l1.length d, .slice FB (fmOf Qs).length fb]] w fun e w' => ∃ (t : Iv) (tA : Option Addr) (ta : Nat) (tB : Option Addr) (tb : Nat) (FF : Option Addr) (ff : Nat), e = .returned (.tuple #[.agg #[.bool t.n0, .bool t.s0, .slice tA t.l0.length ta, .bool t.n1, .bool t.s1, .slice tB t.l1.length tb, .slice FF rr.length ff], .bool (meetOk (ivA P (ivNg Q)) allP)]) ∧ (IvW (meetZ (ivA P (ivNg Q)) allP) t ∧ U64s w' old tA ta t.l0 ∧ U64s w' old tB tb t.l1) ∧ IvsAt w' old FF ff rr ∧ NewA w.heap.size FF ∧ BoxE w' lk (lkL G (markF m 2 (!keepIn (ivA P (ivNg Q)) allP))) ∧ w.grownBy w' (some lk) := by
 obtain ⟨W1, KW, z, KC, KD, KE, KF, KG⟩ := al4 w [.pointer (some ⟨lk, 0, none⟩)] 80 [.bool p.n0, .bool p.s0, .slice A p.l0.length a, .bool p.n1, .bool p.s1, .slice B p.l1.length b, .slice FA (fmOf Ps).length fa] 85 [.bool q.n0, .bool q.s0, .slice C q.l0.length c, .bool q.n1, .bool q.s1, .slice D q.l1.length d, .slice FB (fmOf Qs).length fb] 85 [.bool false, .bool false, .slice none 0 0, .bool false, .bool false, .slice none 0 0, .slice none 0 0] 85
 have Kr := KC.b.c 0 _ rfl
 obtain ⟨HA, Kj, HR, HZ, HB, Ke⟩ := hid6 KD KE KF KG z hk.b.lt
 have Ks := hid (hk.below z)
 obtain ⟨F, Kk⟩ : ∃ r, IvW (ivNg Q) r := ⟨_, IvW.mk _⟩
 obtain ⟨r, hr⟩ : ∃ r, IvW (ivA P (ivNg Q)) r := ⟨_, IvW.mk _⟩
 have Kt := hid (ineg_w (w := W1) iq Kk gq (by omega) (u3.below z) (u4.below z))
 have Kg := fun (W : World) (h : IvsAt W old FB fb (fmOf Qs)) => lneg_n (w := W) h hq (by rw [fmOf_len]; omega)
 obtain ⟨nn, KH⟩ : ∃ x, fmOf (negL Qs) = x := ⟨_, rfl⟩
 have Kv : FmW 3200 (negL Qs) (fmOf (negL Qs)) := FmW.of (fun j hj => by rw [negL_get hj (by simpa [negL] using hj)]; exact ivNg_ok (hq.n j (by simpa [negL] using hj)))
 have Kw : (negL Qs).length = Ps.length := by rw [negL, List.length_map]; exact hpq
 have hH := fun (W : World) (h : Below w.heap.size w W) (CC DD : Option Addr) (cc dd : Nat) (FN : Option Addr) (y : Nat) (hA : BoxL W (w.heap.size + 1) [.bool p.n0, .bool p.s0, .slice A p.l0.length a, .bool p.n1, .bool p.s1, .slice B p.l1.length b, .slice FA (fmOf Ps).length fa]) (hBb : BoxL W (w.heap.size + 2) [.bool F.n0, .bool F.s0, .slice CC F.l0.length cc, .bool F.n1, .bool F.s1, .slice DD F.l1.length dd, .slice FN (fmOf (negL Qs)).length y]) (hw : W.cell? ⟨w.heap.size, 0, none⟩ = some (.pointer (some ⟨lk, 0, none⟩))) (hkk : BoxE W lk (lkL G m)) (v3 : U64s W old CC cc F.l0) (v4 : U64s W old DD dd F.l1) (hn : IvsAt W old FN y (fmOf (negL Qs))) => lstraight1_any (w := W) (caps := #[.pointer (some ⟨w.heap.size + 1, 0, none⟩), .pointer (some ⟨w.heap.size + 2, 0, none⟩)]) goesAdd goesS2 hA hBb hw hkk hr ((ivA_ok gp (ivNg_ok gq) (by omega)).up (by omega)) (fun W' h' => iadd_w ip Kk hr gp (ivNg_ok gq) (by omega) (u1.below (from_ h h')) (u2.below (from_ h h')) (v3.below h') (v4.below h')) (fun W' h' => lstraight2 (hA.below h').all7.1.2.2.2.2.2.2 (hBb.below h').all7.1.2.2.2.2.2.2 (ha.below (from_ h h')) (hn.below h') hp Kv hl Kw)
 rw [← hrr] at hH
 rw [KH] at hH Kg
 obtain ⟨HH, KI⟩ := hid2 hH Kg
 obtain ⟨gM, Kl⟩ : ∃ g, meetOk (ivA P (ivNg Q)) allP = g := ⟨_, rfl⟩
 obtain ⟨m', Km⟩ : ∃ x, markF m 2 (!keepIn (ivA P (ivNg Q)) allP) = x := ⟨_, rfl⟩
 obtain ⟨T, hT⟩ : ∃ x, meetZ (ivA P (ivNg Q)) allP = x := ⟨_, rfl⟩
 rw [Kl, Km, hT] at HH
 rw [Kl, Km, hT]
 have KV : ∀ b o, FB = some ⟨b, o, none⟩ → b < w.heap.size := fun b o e => by
  obtain ⟨b', o', e', h2, _⟩ := hb.row (by rw [fmOf_len]; omega)
  rw [e] at e'
  injection e' with e'
  injection e' with J _
  omega
 have Kx := hid ((hb.below z).mono (le_old _))
 clear KC KD KE KF KG
 clear hk ha hp hl hb hq hpq ip gp u1 u2 iq gq u3 u4 Kl Km hT hrr Kg hH hr Kk KH Kv Kw
 generalize (fmOf Ps).length = L at *
 generalize (fmOf Qs).length = M at *
 obtain ⟨⟨K, N, O, R, S, U, V⟩, X, J, Y, Z, i, s, u⟩ := Kj.out.b.all7
 clear z
 go_enter Tryz.func82, Tryz.ntmps82
 go_wp2_with fail
 refine Kt.out.mono ?_
 rintro e w2 ⟨nA, na, nB, nb, rfl, v1, v2, H⟩
 clear KW K N O R S U V X J Y Z i s u Kt
 have E := (((((grown_set w2 (w.heap.size + 2) 0 (.bool F.n0)).trans (grown_set _ (w.heap.size + 2) 1 (.bool F.s0))).trans (grown_set _ (w.heap.size + 2) 2 (.slice nA F.l0.length na))).trans (grown_set _ (w.heap.size + 2) 3 (.bool F.n1))).trans (grown_set _ (w.heap.size + 2) 4 (.bool F.s1))).trans (grown_set _ (w.heap.size + 2) 5 (.slice nB F.l1.length nb))
 have Ka := Kj.out.below H
 have I := Ka.noU (fun v hv n e => by subst e; simp at hv)
 obtain ⟨Kn, V1, V2, KJ, KK⟩ := hid5 ((((((Ka.set 0 (.bool F.n0) rfl).set 1 (.bool F.s0) rfl).set 2 (.slice nA F.l0.length na) rfl).set 3 (.bool F.n1) rfl).set 4 (.bool F.s1) rfl).set 5 (.slice nB F.l1.length nb) rfl) (v1.keepE I E) (v2.keepE I E) ((HR.out.below H).kept E (fun e => by injection e; omega)) ((HA.out.below H).kept E (fun e => by injection e; omega))
 have Ky := (World.cell?_of_block (a := ⟨w.heap.size, 0, none⟩) (E.block w.heap.size (by have := HB.out.size; have := HZ.out; have := H.size; show w.heap.size < w2.heap.size; omega) (fun e => by injection e; omega))).trans (keepC H Kr)
 obtain ⟨KL, Ko, KM, Kf⟩ := hid4 ((Ks.out.below H).kept E (fun e => by have := Ke.out; injection e; omega)) ((from_ HB.out H).grown E (by have := HB.out.size; have := H.size; omega) (fun k e => by injection e; omega)) ((Kx.out.below H).keepE (g := w.heap.size + 2) (fun b o e => by have h1 := KV b o e; omega) I E) (Nat.le_trans HZ.out (Nat.le_trans H.size E.size))
 obtain ⟨⟨K, N, O, R, S, U, V⟩, X, J, Y, Z, i, s, u⟩ := Ka.b.all7
 clear v1 v2 H E Ka I HR Ks HB Kx HA Kj HZ Kr
 go_upto_region 10 with fail
 generalize ((((((w2.setCell ⟨w.heap.size + 2, 0, none⟩ (.bool F.n0)).setCell ⟨w.heap.size + 2, 1, none⟩ (.bool F.s0)).setCell ⟨w.heap.size + 2, 2, none⟩ (.slice nA F.l0.length na)).setCell ⟨w.heap.size + 2, 3, none⟩ (.bool F.n1)).setCell ⟨w.heap.size + 2, 4, none⟩ (.bool F.s1)).setCell ⟨w.heap.size + 2, 5, none⟩ (.slice nB F.l1.length nb)) = W3 at *
 clear K N O R S U V X J Y Z i s u
 obtain ⟨⟨K, N, O, R, S, U, V⟩, X, J, Y, Z, i, s, u⟩ := Kn.out.b.all7
 go_wp2_with fail
 refine (KI.out _ KM.out).mono ?_
 rintro e w4 ⟨Fn, y, rfl, hi, H, hn⟩
 have E := grown_set w4 (w.heap.size + 2) 6 (.slice Fn nn.length y)
 have Kb := Kn.out.below H
 have I := Kb.noU (fun v hv n e => by subst e; simp at hv)
 obtain ⟨KN, V5, V6, KO, KP⟩ := hid5 (Kb.set 6 (.slice Fn nn.length y) rfl) ((V1.out.below H).keepE I E) ((V2.out.below H).keepE I E) ((KJ.out.below H).kept E (fun e => by injection e; omega)) ((KK.out.below H).kept E (fun e => by injection e; omega))
 have Kz := (World.cell?_of_block (a := ⟨w.heap.size, 0, none⟩) (E.block w.heap.size (by have := Kf.out; have := H.size; show w.heap.size < w4.heap.size; omega) (fun e => by injection e; omega))).trans (keepC H Ky)
 obtain ⟨KQ, Kp⟩ := hid2 ((KL.out.below H).kept E (fun e => by have := Ke.out; injection e; omega)) ((from_ Ko.out H).grown E (by have := Ko.out.size; have := H.size; omega) (fun k e => by injection e; omega))
 have Kh : ∀ b o, Fn = some ⟨b, o, none⟩ → w.heap.size + 4 ≤ b := fun b o e => by have h1 := hn b o e; have := Kf.out; omega
 obtain ⟨KR, K3, KS⟩ := hid3 (hi.keepE (g := w.heap.size + 2) (fun b o e => by have h1 := Kh b o e; omega) I E) Kh (Nat.le_trans Kf.out (Nat.le_trans H.size E.size))
 clear K N O R S U V X J Y Z i s u
 obtain ⟨⟨K, N, O, R, S, U, V⟩, X, J, Y, Z, i, s, u⟩ := Kb.b.all7
 clear H E Kb I hi hn Kh KJ KL Ko KM Kn V1 V2 Kf KI KK Ky
 go_upto_region 11 with fail
 generalize w4.setCell ⟨w.heap.size + 2, 6, none⟩ (.slice Fn nn.length y) = W5 at *
 clear K N O R S U V X J Y Z i s u
 have H1 := hid (HH.out W5 Kp.out nA nB na nb Fn y KP.out.b KN.out.b Kz KQ.out V5.out V6.out KR.out)
 clear HH Kz KQ V5 V6 KR KN KP
 go_wp2_with fail
 refine H1.out.mono ?_
 rintro e w6 ⟨t, tA, ta, tB, tb, FF, ff, rfl, ht, KT, KX, KU, Kq⟩
 have Ki : ∀ b o, FF = some ⟨b, o, none⟩ → w.heap.size + 4 ≤ b := fun b o e => by have h1 := KX b o e; have := KS.out; omega
 have KA := Kp
 have KB := KO
 have E := ((((((grown_set w6 (w.heap.size + 3) 0 (.bool t.n0)).trans (grown_set _ (w.heap.size + 3) 1 (.bool t.s0))).trans (grown_set _ (w.heap.size + 3) 2 (.slice tA t.l0.length ta))).trans (grown_set _ (w.heap.size + 3) 3 (.bool t.n1))).trans (grown_set _ (w.heap.size + 3) 4 (.bool t.s1))).trans (grown_set _ (w.heap.size + 3) 5 (.slice tB t.l1.length tb))).trans (grown_set _ (w.heap.size + 3) 6 (.slice FF rr.length ff))
 have Kc := KB.out.kept Kq (fun e => by have := Ke.out; injection e; omega)
 have HP := hid (((((((Kc.b.set 0 (.bool t.n0) rfl).set 1 (.bool t.s0) rfl).set 2 (.slice tA t.l0.length ta) rfl).set 3 (.bool t.n1) rfl).set 4 (.bool t.s1) rfl).set 5 (.slice tB t.l1.length tb) rfl).set 6 (.slice FF rr.length ff) rfl)
 have Kd := Kc.noU (fun v hv n e => by subst e; simp at hv)
 obtain ⟨KY, KZ, K0, K1, K2⟩ := hid5 (grown_own ((grown_any (r := some lk) KA.out).trans Kq) E (by omega)) (KU.kept E (fun e => by have := Ke.out; injection e; omega)) (And.intro ht.1 (And.intro (ht.2.1.keepE Kd E) (ht.2.2.keepE Kd E))) (KT.keepE (g := w.heap.size + 3) (fun b o e => by have h1 := Ki b o e; omega) Kd E) (show NewA w.heap.size FF from fun b o e => by have h1 := Ki b o e; omega)
 obtain ⟨⟨r0, r1, r2, r3, r4, r5, r6⟩, q0, q1, F, q3, q4, q5, q6⟩ := Kc.b.all7
 clear E Kc Kd ht KT KU Kq Ki KA KB KO Kp KS
 go_wp2
 refine bodyPost_ret (res_lined2 rfl _ (w.heap.size + 3) rfl HP.out) rfl ?_
 exact ⟨t, tA, ta, tB, tb, FF, ff, rfl, K0.out, K1.out, K2.out, KZ.out, KY.out⟩
theorem lstraight_neg4 {w : World} {G : LkG} {m : Nat → Bool} {Ps : List IvP} {p : Iv} {rr : List Iv} (hk : BoxE w lk (lkL G m)) (ha : IvsAt w Z5 FA fa (fmOf Ps)) (hp : FmW 3200 Ps (fmOf Ps)) (hl : 1 ≤ Ps.length ∧ Ps.length ≤ 64) (ip : IvW P p) (gp : IvN 8 P.1 P.2) (u1 : U64s w Z1 A a p.l0) (u2 : U64s w Z2 B b p.l1) (hrr : rr = fmOf (negL Ps)) :
  Calls Tryz.prog 82 #[.pointer (some ⟨lk, 0, none⟩), .int .u8 4, .agg #[.bool p.n0, .bool p.s0, .slice A p.l0.length a, .bool p.n1, .bool p.s1, .slice B p.l1.length b, .slice FA (fmOf Ps).length fa], .agg #[.bool q.n0, .bool q.s0, .slice C q.l0.length c, .bool q.n1, .bool q.s1, .slice D q.l1.length d, .slice FB M fb]] w fun e w' => ∃ (t : Iv) (tA : Option Addr) (ta : Nat) (tB : Option Addr) (tb : Nat) (FF : Option Addr) (ff : Nat), e = .returned (.tuple #[.agg #[.bool t.n0, .bool t.s0, .slice tA t.l0.length ta, .bool t.n1, .bool t.s1, .slice tB t.l1.length tb, .slice FF rr.length ff], .bool (meetOk (ivNg P) allP)]) ∧ (IvW (meetZ (ivNg P) allP) t ∧ U64s w' old tA ta t.l0 ∧ U64s w' old tB tb t.l1) ∧ IvsAt w' old FF ff rr ∧ NewA w.heap.size FF ∧ BoxE w' lk (lkL G (markF m 2 (!keepIn (ivNg P) allP))) ∧ w.grownBy w' (some lk) := by
 obtain ⟨W1, KT, u, KC, KD, KE, KF, KG⟩ := al4 w [.pointer (some ⟨lk, 0, none⟩)] 80 [.bool p.n0, .bool p.s0, .slice A p.l0.length a, .bool p.n1, .bool p.s1, .slice B p.l1.length b, .slice FA (fmOf Ps).length fa] 85 [.bool q.n0, .bool q.s0, .slice C q.l0.length c, .bool q.n1, .bool q.s1, .slice D q.l1.length d, .slice FB M fb] 85 [.bool false, .bool false, .slice none 0 0, .bool false, .bool false, .slice none 0 0, .slice none 0 0] 85
 have Ks := KC.b.c 0 _ rfl
 obtain ⟨HA, KH, HR, HZ, HB, y⟩ := hid6 KD KE KF KG u hk.b.lt
 have Kt := hid (hk.below u)
 obtain ⟨r, hr⟩ : ∃ r, IvW (ivNg P) r := ⟨_, IvW.mk _⟩
 have Kv := hid (ineg_w (w := W1) ip hr gp (by omega) (u1.below u) (u2.below u))
 have Kf := fun (W : World) (h : IvsAt W old FA fa (fmOf Ps)) => lneg_n (w := W) h hp (by rw [fmOf_len]; exact hl)
 rw [← hrr] at Kf
 obtain ⟨KI, Ki⟩ := hid2 Kf (fun (W : World) (FF A B : Option Addr) (n f a b : Nat) (h : BoxE W lk (lkL G m)) (V : U64s W old A a r.l0) (h2 : U64s W old B b r.l1) => lranged_any (n := n) (f := f) (F := FF) h hr ((ivNg_ok gp).up (by omega)) V h2)
 obtain ⟨gM, Kj⟩ : ∃ g, meetOk (ivNg P) allP = g := ⟨_, rfl⟩
 obtain ⟨m', Kk⟩ : ∃ x, markF m 2 (!keepIn (ivNg P) allP) = x := ⟨_, rfl⟩
 obtain ⟨T, hT⟩ : ∃ x, meetZ (ivNg P) allP = x := ⟨_, rfl⟩
 rw [Kj, Kk, hT] at Ki
 rw [Kj, Kk, hT]
 have KR : ∀ b o, FA = some ⟨b, o, none⟩ → b < w.heap.size := fun b o e => by
  obtain ⟨b', o', e', h2, _⟩ := ha.row (by rw [fmOf_len]; omega)
  rw [e] at e'
  injection e' with e'
  injection e' with U _
  omega
 have Kw := hid ((ha.below u).mono (le_old _))
 clear KC KD KE KF KG
 clear hk ha hp hl ip gp u1 u2 Kj Kk hT hrr Kf hr
 generalize (fmOf Ps).length = L at *
 obtain ⟨⟨J, K, N, O, Q, R, S⟩, X, U, Y, Z, i, j, s⟩ := HA.out.b.all7
 clear u
 go_enter Tryz.func82, Tryz.ntmps82
 go_wp2_with fail
 refine Kv.out.mono ?_
 rintro e w2 ⟨nA, na, nB, nb, rfl, v1, v2, H⟩
 clear KT J K N O Q R S X U Y Z i j s Kv
 have E := (((((grown_set w2 (w.heap.size + 1) 0 (.bool r.n0)).trans (grown_set _ (w.heap.size + 1) 1 (.bool r.s0))).trans (grown_set _ (w.heap.size + 1) 2 (.slice nA r.l0.length na))).trans (grown_set _ (w.heap.size + 1) 3 (.bool r.n1))).trans (grown_set _ (w.heap.size + 1) 4 (.bool r.s1))).trans (grown_set _ (w.heap.size + 1) 5 (.slice nB r.l1.length nb))
 have z := HA.out.below H
 have I := z.noU (fun v hv n e => by subst e; simp at hv)
 obtain ⟨Kl, V1, V2, KJ, KK⟩ := hid5 ((((((z.set 0 (.bool r.n0) rfl).set 1 (.bool r.s0) rfl).set 2 (.slice nA r.l0.length na) rfl).set 3 (.bool r.n1) rfl).set 4 (.bool r.s1) rfl).set 5 (.slice nB r.l1.length nb) rfl) (v1.keepE I E) (v2.keepE I E) ((HR.out.below H).kept E (fun e => by injection e; omega)) ((KH.out.below H).kept E (fun e => by injection e; omega))
 have Kx := (World.cell?_of_block (a := ⟨w.heap.size, 0, none⟩) (E.block w.heap.size (by have := HB.out.size; have := HZ.out; have := H.size; show w.heap.size < w2.heap.size; omega) (fun e => by injection e; omega))).trans (keepC H Ks)
 obtain ⟨KL, Km, KM, Kd⟩ := hid4 ((Kt.out.below H).kept E (fun e => by have := y.out; injection e; omega)) ((from_ HB.out H).grown E (by have := HB.out.size; have := H.size; omega) (fun k e => by injection e; omega)) ((Kw.out.below H).keepE (g := w.heap.size + 1) (fun b o e => by have V := KR b o e; omega) I E) (Nat.le_trans HZ.out (Nat.le_trans H.size E.size))
 obtain ⟨⟨J, K, N, O, Q, R, S⟩, X, U, Y, Z, i, j, s⟩ := z.b.all7
 clear v1 v2 H E z I HR Kt HB Kw HA KH HZ Ks
 go_upto_region 7 with fail
 generalize ((((((w2.setCell ⟨w.heap.size + 1, 0, none⟩ (.bool r.n0)).setCell ⟨w.heap.size + 1, 1, none⟩ (.bool r.s0)).setCell ⟨w.heap.size + 1, 2, none⟩ (.slice nA r.l0.length na)).setCell ⟨w.heap.size + 1, 3, none⟩ (.bool r.n1)).setCell ⟨w.heap.size + 1, 4, none⟩ (.bool r.s1)).setCell ⟨w.heap.size + 1, 5, none⟩ (.slice nB r.l1.length nb)) = W3 at *
 clear J K N O Q R S X U Y Z i j s
 obtain ⟨⟨J, K, N, O, Q, R, S⟩, X, U, Y, Z, i, j, s⟩ := Kl.out.b.all7
 go_wp2_with fail
 refine (KI.out _ KM.out).mono ?_
 rintro e w4 ⟨Fn, fn, rfl, hi, H, hn⟩
 have E := grown_set w4 (w.heap.size + 1) 6 (.slice Fn rr.length fn)
 have Ka := Kl.out.below H
 have I := Ka.noU (fun v hv n e => by subst e; simp at hv)
 obtain ⟨KN, V5, V6, KO, KU⟩ := hid5 (Ka.set 6 (.slice Fn rr.length fn) rfl) ((V1.out.below H).keepE I E) ((V2.out.below H).keepE I E) ((KJ.out.below H).kept E (fun e => by injection e; omega)) ((KK.out.below H).kept E (fun e => by injection e; omega))
 have KS := (World.cell?_of_block (a := ⟨w.heap.size, 0, none⟩) (E.block w.heap.size (by have := Kd.out; have := H.size; show w.heap.size < w4.heap.size; omega) (fun e => by injection e; omega))).trans (keepC H Kx)
 obtain ⟨Kn, KP⟩ := hid2 ((KL.out.below H).kept E (fun e => by have := y.out; injection e; omega)) ((from_ Km.out H).grown E (by have := Km.out.size; have := H.size; omega) (fun k e => by injection e; omega))
 have Kg : ∀ b o, Fn = some ⟨b, o, none⟩ → w.heap.size + 4 ≤ b := fun b o e => by have V := hn b o e; have := Kd.out; omega
 obtain ⟨Ko, Kp, KV⟩ := hid3 (hi.keepE (g := w.heap.size + 1) (fun b o e => by have V := Kg b o e; omega) I E) Kg (Nat.le_trans Kd.out (Nat.le_trans H.size E.size))
 clear J K N O Q R S X U Y Z i j s
 obtain ⟨⟨J, K, N, O, Q, R, S⟩, X, U, Y, Z, i, j, s⟩ := Ka.b.all7
 clear H E Ka I hi hn Kg KJ KL Km KM Kl V1 V2 Kd KI KK Kx
 go_upto_region 8 with fail
 generalize w4.setCell ⟨w.heap.size + 1, 6, none⟩ (.slice Fn rr.length fn) = W5 at *
 clear J K N O Q R S X U Y Z i j s
 obtain ⟨⟨J, K, N, O, Q, R, S⟩, _⟩ := KN.out.b.all7
 go_wp2_with fail
 refine (Ki.out W5 Fn nA nB rr.length fn na nb Kn.out V5.out V6.out).mono ?_
 rintro e w6 ⟨t, tA, ta, tB, tb, rfl, ht, KQ, Ke⟩
 obtain ⟨FF, Kq⟩ : ∃ x, x = Fn := ⟨_, rfl⟩
 obtain ⟨ff, Kr⟩ : ∃ x, x = fn := ⟨_, rfl⟩
 rw [← Kq] at Ko Kp
 rw [← Kr] at Ko
 try rw [← Kq, ← Kr]
 have Ky := Kn.out.noU lkL_noW
 have Kz := Ko.out.keepE (g := lk) (fun b o e => by have V := Kp.out b o e; have := y.out; omega) Ky Ke
 have Kh : ∀ b o, FF = some ⟨b, o, none⟩ → w.heap.size + 4 ≤ b := Kp.out
 clear J K N O Q R S Ky KN V5 V6 Kn Ki KS KU
 have KA := KP
 have KB := KO
 have E := ((((((grown_set w6 (w.heap.size + 3) 0 (.bool t.n0)).trans (grown_set _ (w.heap.size + 3) 1 (.bool t.s0))).trans (grown_set _ (w.heap.size + 3) 2 (.slice tA t.l0.length ta))).trans (grown_set _ (w.heap.size + 3) 3 (.bool t.n1))).trans (grown_set _ (w.heap.size + 3) 4 (.bool t.s1))).trans (grown_set _ (w.heap.size + 3) 5 (.slice tB t.l1.length tb))).trans (grown_set _ (w.heap.size + 3) 6 (.slice FF rr.length ff))
 have Kb := KB.out.kept Ke (fun e => by have := y.out; injection e; omega)
 have HP := hid (((((((Kb.b.set 0 (.bool t.n0) rfl).set 1 (.bool t.s0) rfl).set 2 (.slice tA t.l0.length ta) rfl).set 3 (.bool t.n1) rfl).set 4 (.bool t.s1) rfl).set 5 (.slice tB t.l1.length tb) rfl).set 6 (.slice FF rr.length ff) rfl)
 have Kc := Kb.noU (fun v hv n e => by subst e; simp at hv)
 obtain ⟨KW, KX, KY, KZ, K0⟩ := hid5 (grown_own ((grown_any (r := some lk) KA.out).trans Ke) E (by omega)) (KQ.kept E (fun e => by have := y.out; injection e; omega)) (And.intro ht.1 (And.intro (ht.2.1.keepE Kc E) (ht.2.2.keepE Kc E))) (Kz.keepE (g := w.heap.size + 3) (fun b o e => by have V := Kh b o e; omega) Kc E) (show NewA w.heap.size FF from fun b o e => by have V := Kh b o e; omega)
 obtain ⟨⟨r0, r1, r2, r3, r4, r5, r6⟩, q0, q1, q2, q3, q4, q5, q6⟩ := Kb.b.all7
 clear E Kb Kc ht Kz KQ Ke Kh KA KB KO KP KV
 subst Kq
 subst Kr
 go_wp2
 refine bodyPost_ret (res_lined2 rfl _ (w.heap.size + 3) rfl HP.out) rfl ?_
 exact ⟨t, tA, ta, tB, tb, _, _, rfl, KY.out, KZ.out, K0.out, KX.out, KW.out⟩
theorem u1_al {k : Nat} {o : Obj} (e : V = W.alloc o) (hs : W.cell? ⟨g, k, none⟩ = some a0) : V.cell? ⟨g, k, none⟩ = some a0 := by
 subst e
 exact keepC bal_ hs
theorem u1_dr {k : Nat} (e : V = W.drew) (hs : W.cell? ⟨g, k, none⟩ = some a0) : V.cell? ⟨g, k, none⟩ = some a0 := by
 subst e
 exact hs
theorem u1_st6 {k : Nat} (e : V = (((((W.setCell ⟨r, 0, none⟩ x0).setCell ⟨r, 1, none⟩ x1).setCell ⟨r, 2, none⟩ x2).setCell ⟨r, 3, none⟩ x3).setCell ⟨r, 4, none⟩ x4).setCell ⟨r, 5, none⟩ x5) (hg : r ≠ g) (hs : W.cell? ⟨g, k, none⟩ = some a0) : V.cell? ⟨g, k, none⟩ = some a0 := by
 subst e
 rw [World.cell?_setCell_other _ _ _ _ (fun e => hg (by injection e)), World.cell?_setCell_other _ _ _ _ (fun e => hg (by injection e)), World.cell?_setCell_other _ _ _ _ (fun e => hg (by injection e)), World.cell?_setCell_other _ _ _ _ (fun e => hg (by injection e)), World.cell?_setCell_other _ _ _ _ (fun e => hg (by injection e)), World.cell?_setCell_other _ _ _ _ (fun e => hg (by injection e))]
 exact hs
theorem meetZ_n : IvN 8 (meetZ P allP).1 (meetZ P allP).2 := by
 unfold meetZ
 cases h : meetOk P allP with
 | false => exact zero_n.up (by omega)
 | true =>
   have h := of_decide_eq_true h
   have A : allP.1 = -9223372036854775808 := rfl
   have B : allP.2 = 9223372036854775807 := rfl
   rw [A, B] at h
   show IvN 8 (max P.1 allP.1) (min P.2 allP.2)
   rw [A, B]
   exact iv_n8 (by omega) (by omega) h
theorem iop_div {w : World} {p : Iv} {g : Bool} (ip : IvW P p) (gp : IvN 8 P.1 P.2) (iq : IvW Q q) (gq : IvN 8 Q.1 Q.2) (u1 : U64s w Z1 A a p.l0) (u2 : U64s w Z2 B b p.l1) (u3 : U64s w Z3 C c q.l0) (u4 : U64s w Z4 D d q.l1) (hg : (!(partsP Q).isEmpty) = g) :
  Calls Tryz.prog 123 #[.agg #[.bool p.n0, .bool p.s0, .slice A p.l0.length a, .bool p.n1, .bool p.s1, .slice B p.l1.length b], .agg #[.bool q.n0, .bool q.s0, .slice C q.l0.length c, .bool q.n1, .bool q.s1, .slice D q.l1.length d]] w fun e w' => ∃ (r : Iv) (rA : Option Addr) (ra : Nat) (rB : Option Addr) (rb : Nat), e = .returned (.tuple #[.agg #[.bool r.n0, .bool r.s0, .slice rA r.l0.length ra, .bool r.n1, .bool r.s1, .slice rB r.l1.length rb], .int .i64 (bif g then 0 else 30)]) ∧ (g = true → IvW (ivD P Q) r) ∧ U64s w' (new w.heap.size) rA ra r.l0 ∧ U64s w' (new w.heap.size) rB rb r.l1 ∧ Below w.heap.size w w' := by
 cases g with
 | true =>
   have F : partsP Q ≠ [] := by simpa using hg
   refine (idiv_w ip (gp.up (by omega)) iq (gq.up (by omega)) u1 u2 u3 u4 F (IvW.mk _)).mono ?_
   rintro e w' ⟨rA, ra, rB, rb, rfl, G, H, E⟩
   exact ⟨_, rA, ra, rB, rb, rfl, fun _ => IvW.mk _, G, H, E⟩
 | false =>
   refine (idiv_zero ip (gp.up (by omega)) iq (gq.up (by omega)) u1 u2 u3 u4 (by simpa using hg)).mono ?_
   rintro e w' ⟨rfl, E⟩
   exact ⟨zeroI, none, 0, none, 0, rfl, (fun h => by cases h), U64s.nil _ _, U64s.nil _ _, E⟩
theorem iop_mod {w : World} {p : Iv} {g : Bool} (ip : IvW P p) (gp : IvN 8 P.1 P.2) (iq : IvW Q q) (gq : IvN 8 Q.1 Q.2) (u1 : U64s w Z1 A a p.l0) (u2 : U64s w Z2 B b p.l1) (u3 : U64s w Z3 C c q.l0) (u4 : U64s w Z4 D d q.l1) (hg : (!(partsP Q).isEmpty) = g) :
  Calls Tryz.prog 124 #[.agg #[.bool p.n0, .bool p.s0, .slice A p.l0.length a, .bool p.n1, .bool p.s1, .slice B p.l1.length b], .agg #[.bool q.n0, .bool q.s0, .slice C q.l0.length c, .bool q.n1, .bool q.s1, .slice D q.l1.length d]] w fun e w' => ∃ (r : Iv) (rA : Option Addr) (ra : Nat) (rB : Option Addr) (rb : Nat), e = .returned (.tuple #[.agg #[.bool r.n0, .bool r.s0, .slice rA r.l0.length ra, .bool r.n1, .bool r.s1, .slice rB r.l1.length rb], .int .i64 (bif g then 0 else 30)]) ∧ (g = true → IvW (modP P Q) r) ∧ U64s w' (new w.heap.size) rA ra r.l0 ∧ U64s w' (new w.heap.size) rB rb r.l1 ∧ Below w.heap.size w w' := by
 cases g with
 | true =>
   have F : partsP Q ≠ [] := by simpa using hg
   refine (imod_w ip (gp.up (by omega)) iq (gq.up (by omega)) u1 u2 u3 u4 F (IvW.mk _)).mono ?_
   rintro e w' ⟨rA, ra, rB, rb, rfl, G, H, E⟩
   exact ⟨_, rA, ra, rB, rb, rfl, fun _ => IvW.mk _, G, H, E⟩
 | false =>
   refine (imod_zero ip (gp.up (by omega)) iq (gq.up (by omega)) u1 u2 u3 u4 (by simpa using hg)).mono ?_
   rintro e w' ⟨rfl, E⟩
   exact ⟨zeroI, none, 0, none, 0, rfl, (fun h => by cases h), U64s.nil _ _, U64s.nil _ _, E⟩
theorem iop_shl {w : World} {p : Iv} {g : Bool} (ip : IvW P p) (gp : IvN 8 P.1 P.2) (iq : IvW Q q) (gq : IvN 8 Q.1 Q.2) (u1 : U64s w Z1 A a p.l0) (u2 : U64s w Z2 B b p.l1) (u3 : U64s w Z3 C c q.l0) (u4 : U64s w Z4 D d q.l1) (hg : (decide ((shK Q).1 ≤ (shK Q).2)) = g) :
  Calls Tryz.prog 125 #[.agg #[.bool p.n0, .bool p.s0, .slice A p.l0.length a, .bool p.n1, .bool p.s1, .slice B p.l1.length b], .agg #[.bool q.n0, .bool q.s0, .slice C q.l0.length c, .bool q.n1, .bool q.s1, .slice D q.l1.length d]] w fun e w' => ∃ (r : Iv) (rA : Option Addr) (ra : Nat) (rB : Option Addr) (rb : Nat), e = .returned (.tuple #[.agg #[.bool r.n0, .bool r.s0, .slice rA r.l0.length ra, .bool r.n1, .bool r.s1, .slice rB r.l1.length rb], .int .i64 (bif g then 0 else 2)]) ∧ (g = true → IvW (shlP P Q) r) ∧ U64s w' (new w.heap.size) rA ra r.l0 ∧ U64s w' (new w.heap.size) rB rb r.l1 ∧ Below w.heap.size w w' := by
 cases g with
 | true =>
   refine (ishl_w ip (gp.up (by omega)) iq (gq.up (by omega)) u1 u2 u3 u4 (of_decide_eq_true hg) (IvW.mk _)).mono ?_
   rintro e w' ⟨rA, ra, rB, rb, rfl, F, G, E⟩
   exact ⟨_, rA, ra, rB, rb, rfl, fun _ => IvW.mk _, F, G, E⟩
 | false =>
   refine (ishl_none ip (gp.up (by omega)) iq (gq.up (by omega)) u1 u2 u3 u4 (of_decide_eq_false hg)).mono ?_
   rintro e w' ⟨rfl, E⟩
   exact ⟨zeroI, none, 0, none, 0, rfl, (fun h => by cases h), U64s.nil _ _, U64s.nil _ _, E⟩
theorem iop_shr {w : World} {p : Iv} {g : Bool} (ip : IvW P p) (gp : IvN 8 P.1 P.2) (iq : IvW Q q) (gq : IvN 8 Q.1 Q.2) (u1 : U64s w Z1 A a p.l0) (u2 : U64s w Z2 B b p.l1) (u3 : U64s w Z3 C c q.l0) (u4 : U64s w Z4 D d q.l1) (hg : (decide ((shK Q).1 ≤ (shK Q).2)) = g) :
  Calls Tryz.prog 126 #[.agg #[.bool p.n0, .bool p.s0, .slice A p.l0.length a, .bool p.n1, .bool p.s1, .slice B p.l1.length b], .agg #[.bool q.n0, .bool q.s0, .slice C q.l0.length c, .bool q.n1, .bool q.s1, .slice D q.l1.length d]] w fun e w' => ∃ (r : Iv) (rA : Option Addr) (ra : Nat) (rB : Option Addr) (rb : Nat), e = .returned (.tuple #[.agg #[.bool r.n0, .bool r.s0, .slice rA r.l0.length ra, .bool r.n1, .bool r.s1, .slice rB r.l1.length rb], .int .i64 (bif g then 0 else 2)]) ∧ (g = true → IvW (shrP P Q) r) ∧ U64s w' (new w.heap.size) rA ra r.l0 ∧ U64s w' (new w.heap.size) rB rb r.l1 ∧ Below w.heap.size w w' := by
 cases g with
 | true =>
   refine (ishr_w ip (gp.up (by omega)) iq (gq.up (by omega)) u1 u2 u3 u4 (of_decide_eq_true hg) (IvW.mk _)).mono ?_
   rintro e w' ⟨rA, ra, rB, rb, rfl, F, G, E⟩
   exact ⟨_, rA, ra, rB, rb, rfl, fun _ => IvW.mk _, F, G, E⟩
 | false =>
   refine (ishr_none ip (gp.up (by omega)) iq (gq.up (by omega)) u1 u2 u3 u4 (of_decide_eq_false hg)).mono ?_
   rintro e w' ⟨rfl, E⟩
   exact ⟨zeroI, none, 0, none, 0, rfl, (fun h => by cases h), U64s.nil _ _, U64s.nil _ _, E⟩
theorem lother_dm {w : World} {G : LkG} {m : Nat → Bool} {p : Iv} {g : Bool} {Fop : FuncId} (hk : BoxE w lk (lkL G m)) (hd : G.pn ≤ 63) (ip : IvW P p) (gp : IvN 8 P.1 P.2) (iq : IvW Q q) (gq : IvN 8 Q.1 Q.2) (u1 : U64s w Z1 A a p.l0) (u2 : U64s w Z2 B b p.l1) (u3 : U64s w Z3 C c q.l0) (u4 : U64s w Z4 D d q.l1) (hz : (keepIn (0, 0) Q) = z) (hg : (!(partsP Q).isEmpty) = g) (gr : g = true → IvN 6000 RD.1 RD.2) (hi : (kk = 8 ∧ Fop = 123) ∨ (kk = 9 ∧ Fop = 124)) (hdv0 : ∀ (W : World), U64s W old A a p.l0 → U64s W old B b p.l1 → U64s W old C c q.l0 → U64s W old D d q.l1 → Calls Tryz.prog Fop #[.agg #[.bool p.n0, .bool p.s0, .slice A p.l0.length a, .bool p.n1, .bool p.s1, .slice B p.l1.length b], .agg #[.bool q.n0, .bool q.s0, .slice C q.l0.length c, .bool q.n1, .bool q.s1, .slice D q.l1.length d]] W fun e w' => ∃ (r : Iv) (rA : Option Addr) (ra : Nat) (rB : Option Addr) (rb : Nat), e = .returned (.tuple #[.agg #[.bool r.n0, .bool r.s0, .slice rA r.l0.length ra, .bool r.n1, .bool r.s1, .slice rB r.l1.length rb], .int .i64 (bif g then 0 else 30)]) ∧ (g = true → IvW RD r) ∧ U64s w' (new W.heap.size) rA ra r.l0 ∧ U64s w' (new W.heap.size) rB rb r.l1 ∧ Below W.heap.size W w') :
  Calls Tryz.prog 81 #[.pointer (some ⟨lk, 0, none⟩), .int .u8 kk, .agg #[.bool p.n0, .bool p.s0, .slice A p.l0.length a, .bool p.n1, .bool p.s1, .slice B p.l1.length b, .slice FA L fa], .agg #[.bool q.n0, .bool q.s0, .slice C q.l0.length c, .bool q.n1, .bool q.s1, .slice D q.l1.length d, .slice FB M fb]] w fun e w' => ∃ (t : Iv) (tA : Option Addr) (ta : Nat) (tB : Option Addr) (tb : Nat) (FF : Option Addr) (nn ff : Nat), e = .returned (.tuple #[.agg #[.bool t.n0, .bool t.s0, .slice tA t.l0.length ta, .bool t.n1, .bool t.s1, .slice tB t.l1.length tb, .slice FF nn ff], .bool (g && meetOk RD allP)]) ∧ ((g && meetOk RD allP) = true → IvW (meetZ RD allP) t ∧ U64s w' old tA ta t.l0 ∧ U64s w' old tB tb t.l1 ∧ nn = G.pn + 1 ∧ IvsAt w' old FF ff (fmOf (constL G.pn (meetZ RD allP))) ∧ NewA w.heap.size FF) ∧ BoxE w' lk (lkL G (markF (markF m 3 z) 2 (g && !keepIn RD allP))) ∧ w.grownBy w' (some lk) := by
 obtain ⟨W1, Qh, Ke, KW, KX, KY, KZ, K0⟩ := al4 w [.bool p.n0, .bool p.s0, .slice A p.l0.length a, .bool p.n1, .bool p.s1, .slice B p.l1.length b, .slice FA L fa] 85 [.bool q.n0, .bool q.s0, .slice C q.l0.length c, .bool q.n1, .bool q.s1, .slice D q.l1.length d, .slice FB M fb] 85 [.bool false, .bool false, .slice none 0 0, .bool false, .bool false, .slice none 0 0, .slice none 0 0] 85 [.func (.func 123) #[] #[], .func (.func 124) #[] #[], .func (.func 125) #[] #[], .func (.func 126) #[] #[]] 173
 obtain ⟨HA, Ki, HR, Ko, HZ, Kf⟩ := hid6 KW KX KY KZ K0 hk.b.lt
 obtain ⟨HB, Y⟩ := hid2 Ke (hk.below Ke)
 obtain ⟨zz, KC⟩ : ∃ r, IvW (0, 0) r := ⟨_, IvW.mk _⟩
 obtain ⟨K1, K2, U⟩ := hid3 (fun W : World => lbetween_r (w := W) KC (by omega) (by omega) (by omega)) (fun (W : World) (h : Below w.heap.size w W) (E G : Option Addr) (e g K : Nat) (N : U64s W (new K) E e zz.l0) (O : U64s W (new K) G g zz.l1) => iin_w (w := W) KC zeroP_n iq (gq.up (by omega)) N O (u3.below h) (u4.below h) (r := z) hz) (And.intro (u1.below Ke) (And.intro (u2.below Ke) (And.intro (u3.below Ke) (u4.below Ke))))
 have Kx := hdv0
 obtain ⟨E, hE⟩ : ∃ E : Int, (bif g then 0 else 30) = E := ⟨_, rfl⟩
 have Qd : (E == 0) = g := by rw [← hE]; cases g <;> rfl
 have Qq : (E != 0) = !g := by rw [bne, Qd]
 rw [hE] at Kx
 have Ky := hid Kx
 obtain ⟨gM, KD⟩ : ∃ x, meetOk RD allP = x := ⟨_, rfl⟩
 obtain ⟨kI, KE⟩ : ∃ x, keepIn RD allP = x := ⟨_, rfl⟩
 have gT : IvN 8 (meetZ RD allP).1 (meetZ RD allP).2 := meetZ_n
 have Kz := fun (W : World) (r : Iv) (E G' : Option Addr) (e f : Nat) (hgt : g = true) (h : BoxE W lk (lkL G (markF m 3 z))) (hr : IvW RD r) (N : U64s W old E e r.l0) (O : U64s W old G' f r.l1) => lranged_any (w := W) (n := 0) (f := 0) (F := none) h hr (gr hgt) N O
 rw [KD, KE] at Kz
 rw [KD, KE]
 generalize meetZ RD allP = T at *
 obtain ⟨KF, KG⟩ := hid2 Kz (fun (W : World) (t : Iv) (E G' : Option Addr) (e f : Nat) (h : W.cell? ⟨lk, 6, none⟩ = some (.slice G.PA G.pn G.pc)) (hr : IvW T t) (N : U64s W old E e t.l0) (O : U64s W old G' f t.l1) => lconstant_r (w := W) h hd hr gT (by omega) N O)
 clear KW KX KY KZ K0
 clear Ke hk hd ip gp iq gq u1 u2 u3 u4 hz hg Kx hE Kz gr gT KD KE KC hdv0
 rcases hi with ⟨rfl, rfl⟩ | ⟨rfl, rfl⟩
 all_goals
  go_enter Tryz.func81, Tryz.ntmps81
  go_upto_region 3 with fail
  clear Qh
  go_cut [11, 12] (fun s11 s12 wx => s11 = .bool z ∧ s12 = .int .i64 0 ∧ Below W1.heap.size W1 wx)
  case first =>
   obtain ⟨⟨x0, x1, x2, x3, x4, x5, x6⟩, _⟩ := Ki.out.b.all7
   have Qe := hid (K1.out W1.drew)
   first | go_region_with (first
    | (go_at_call 38; with_reducible refine Qe.out.mono ?_; rintro e wa ⟨E0, e1, G0, e2, rfl, N, O, H⟩; have R : Below W1.heap.size W1 wa := from_ ((Below.refl W1.heap.size W1).drew) H; obtain ⟨⟨Qi, Qj, Qk, Ql, Qm, Qn, Qo⟩, _⟩ := (Ki.out.below R).b.all7)
    | (go_at_call 10; with_reducible refine (K2.out _ (from_ HB.out R) _ _ _ _ _ N O).mono ?_; rintro e wb ⟨rfl, K3⟩)) | fail
   all_goals
    have hf := from_ R K3
    clear x0 x1 x2 x3 x4 x5 x6 Qi Qj Qk Ql Qm Qn Qo N O H R K3
    go_wp2_with fail
    go_meet
    exact ⟨rfl, rfl, hf⟩
  case rest =>
   obtain ⟨rfl, rfl, H⟩ := hcut
   replace Y := hid (Y.out.below H)
   replace HA := hid (HA.out.below H)
   replace Ki := hid (Ki.out.below H)
   replace HR := hid (HR.out.below H)
   replace Ko := hid (Ko.out.below H)
   replace HB := hid (from_ HB.out H)
   replace HZ := hid (Nat.le_trans HZ.out H.size)
   replace U := hid (And.intro (U.out.1.below H) (And.intro (U.out.2.1.below H) (And.intro (U.out.2.2.1.below H) (U.out.2.2.2.below H))))
   clear H K1 K2
   obtain ⟨W2, Km⟩ : ∃ W, W = wc := ⟨_, rfl⟩
   subst Km
   go_upto_if 33 with fail
   go_cut [] (fun wx => BoxE wx lk (lkL G (markF m 3 z)) ∧ W2.grownBy wx (some lk))
   case first =>
    cases z with
    | false =>
      go_wp2_with fail
      go_meet
      exact ⟨by first | (rw [markF_no]; exact Y.out) | (rw [show (!true) = false from rfl, markF_no]; exact Y.out), grown_any (Below.refl _ _)⟩
    | true =>
      have k8 := Y.out.b.c 11 _ rfl
      have f8 := Y.out.b.f 11 _ rfl
      have HS := hid (Y.out.set 11 (.bool true) rfl)
      go_wp2_with fail
      go_meet
      exact ⟨by have h := HS.out; rw [show (lkL G m).set 11 (.bool true) = lkL G (markF m 3 true) from lkL_set (r := 3) (by omega)] at h; exact h, grown_set _ _ _ _⟩
   case rest =>
    obtain ⟨K4, S⟩ := hcut
    obtain ⟨I, Km⟩ : ∃ W, W = wc := ⟨_, rfl⟩
    subst Km
    have hN := Y.out.noU lkL_noW
    obtain ⟨K5, Kg, Kh, K6, K7, u⟩ := hid6 K4 (HA.out.kept S (fun e => by have := Kf.out; injection e; omega)) (Ki.out.kept S (fun e => by have := Kf.out; injection e; omega)) (HR.out.kept S (fun e => by have := Kf.out; injection e; omega)) (Ko.out.kept S (fun e => by have := Kf.out; injection e; omega)) (And.intro (U.out.1.keepE hN S) (And.intro (U.out.2.1.keepE hN S) (And.intro (U.out.2.2.1.keepE hN S) (U.out.2.2.2.keepE hN S))))
    obtain ⟨K8, KH⟩ := hid2 ((grown_any (r := some lk) HB.out).trans S) (Nat.le_trans HZ.out S.size)
    clear K4 S hN Y HA Ki HR Ko U HB HZ
    go_upto_region 9 with fail
    obtain ⟨gF, Ks⟩ : ∃ g, w.heap.size + 1 + 1 + 1 = g := ⟨_, rfl⟩
    have KA : Hid (BoxE I gF [.func (.func 123) #[] #[], .func (.func 124) #[] #[], .func (.func 125) #[] #[], .func (.func 126) #[] #[]]) := hid (by rw [← Ks]; exact K7.out)
    simp only [Ks]
    have KT := hid (show w.heap.size + 3 = gF from Ks)
    clear Ks K7
    go_cut [15, 16] (fun s15 s16 wx => ∃ (KM : Nat) (r : Iv) (rA : Option Addr) (ra : Nat) (rB : Option Addr) (rb : Nat), s15 = .pointer (some ⟨KM, 0, none⟩) ∧ s16 = .int .i64 E ∧ Hid (Box6 wx KM (.bool r.n0) (.bool r.s0) (.slice rA r.l0.length ra) (.bool r.n1) (.bool r.s1) (.slice rB r.l1.length rb)) ∧ Hid (g = true → IvW RD r) ∧ Hid (U64s wx old rA ra r.l0) ∧ Hid (U64s wx old rB rb r.l1) ∧ Below I.heap.size I wx)
    case first =>
     have Kj : Below I.heap.size I I.drew := bdr_
     have Kk : Below I.heap.size I (I.alloc (.cells #[.bool false, .bool false, .slice none 0 0, .bool false, .bool false, .slice none 0 0] 39)).drew := ((Below.refl _ I).alloc (Nat.le_refl _) _).drew
     obtain ⟨KI, KJ, KK, KL⟩ := hid4 (Ky.out I.drew (u.out.1.below Kj) (u.out.2.1.below Kj) (u.out.2.2.1.below Kj) (u.out.2.2.2.below Kj)) (Ky.out _ (u.out.1.below Kk) (u.out.2.1.below Kk) (u.out.2.2.1.below Kk) (u.out.2.2.2.below Kk)) Kj Kk
     have Kl : (C6 I w.heap.size (.bool p.n0) (.bool p.s0) (.slice A p.l0.length a) (.bool p.n1) (.bool p.s1) (.slice B p.l1.length b)) ∧ C6 I (w.heap.size + 1) (.bool q.n0) (.bool q.s0) (.slice C q.l0.length c) (.bool q.n1) (.bool q.s1) (.slice D q.l1.length d) :=
      ⟨⟨Kg.out.b.c 0 _ rfl, Kg.out.b.c 1 _ rfl, Kg.out.b.c 2 _ rfl, Kg.out.b.c 3 _ rfl, Kg.out.b.c 4 _ rfl, Kg.out.b.c 5 _ rfl⟩, Kh.out.b.c 0 _ rfl, Kh.out.b.c 1 _ rfl, Kh.out.b.c 2 _ rfl, Kh.out.b.c 3 _ rfl, Kh.out.b.c 4 _ rfl, Kh.out.b.c 5 _ rfl⟩
     have hs := d12_keep Kl bdr_
     have Qr := KH.out
     have Qs := KT.out
     clear Kj Kk
     first
      | (have y := KA.out.b.c 0 _ rfl
         have k0 : I.drew.cell? ⟨gF, 0, none⟩ = some (.func (.func 123) #[] #[]) := y
         have Qf : IntKind.u8.wrap (8 - 8) = 0 := by decide
         have Qg : IntKind.u8.wrap 0 = 0 := by decide
         have Kp := keepC ((Below.refl I.heap.size I).alloc (Nat.le_refl _) (.cells #[.bool false, .bool false, .slice none 0 0, .bool false, .bool false, .slice none 0 0] 39)) y
         go_region_held3 (fun w' => w'.cell? ⟨gF, 0, none⟩ = some (.func (.func 123) #[] #[]) ∧ (C6 w' w.heap.size (.bool p.n0) (.bool p.s0) (.slice A p.l0.length a) (.bool p.n1) (.bool p.s1) (.slice B p.l1.length b)) ∧ C6 w' (w.heap.size + 1) (.bool q.n0) (.bool q.s0) (.slice C q.l0.length c) (.bool q.n1) (.bool q.s1) (.slice D q.l1.length d))
          (((refine And.intro ?_ ?_); (focus ((repeat' (first | with_reducible apply u1_al rfl | with_reducible apply u1_st6 rfl)) <;> (first | with_reducible exact k0 | (with_reducible apply u1_dr rfl; (repeat' (with_reducible apply u1_al rfl)); with_reducible exact y) | omega))); ((repeat' (first | with_reducible apply v12_al rfl | with_reducible apply v12_st6 rfl)) <;> (first | with_reducible exact hs | (with_reducible apply v12_dr rfl; (repeat' (with_reducible apply v12_al rfl)); with_reducible exact Kl) | omega))))
          ((go_at_call 123; first
            | (with_reducible refine KI.out.mono ?_; rintro e J ⟨r, rA, ra, rB, rb, rfl, Ka, N, O, H⟩; have hx := d12_keep hs H; have kx := keepC H k0; have R := from_ KK.out H; have Kb : Below J.heap.size J (J.alloc (.cells #[.bool r.n0, .bool r.s0, .slice rA r.l0.length ra, .bool r.n1, .bool r.s1, .slice rB r.l1.length rb] 39)) := (Below.refl J.heap.size J).alloc (Nat.le_refl _) _; have Z := hid ((N.below Kb).mono (le_old _)); have i := hid ((O.below Kb).mono (le_old _)); have j := hid (Box6.new J (.bool r.n0) (.bool r.s0) (.slice rA r.l0.length ra) (.bool r.n1) (.bool r.s1) (.slice rB r.l1.length rb) 39); have HC := hid (from_ R Kb); have s := hid Ka)
            | (with_reducible refine KJ.out.mono ?_; rintro e J ⟨r, rA, ra, rB, rb, rfl, Ka, N, O, H⟩; have hx := d12_keep (d12_keep (d12_keep Kl bal_) bdr_) H; have kx := keepC H (keepC bdr_ Kp); have R := from_ KL.out H; have Kc := (Box6.newB I (.bool false) (.bool false) (.slice none 0 0) (.bool false) (.bool false) (.slice none 0 0) 39).below H; obtain ⟨c0, c1, c2, c3, c4, c5, Qt, fz1, Qv, Qw, Qx, Qy, _⟩ := id Kc; have Z := hid ((N.set6 (g := I.heap.size) (fun (h : _ ≤ I.heap.size) => by simp at h; omega) (.bool r.n0) (.bool r.s0) (.slice rA r.l0.length ra) (.bool r.n1) (.bool r.s1) (.slice rB r.l1.length rb)).mono (le_old _)); have i := hid ((O.set6 (g := I.heap.size) (fun (h : _ ≤ I.heap.size) => by simp at h; omega) (.bool r.n0) (.bool r.s0) (.slice rA r.l0.length ra) (.bool r.n1) (.bool r.s1) (.slice rB r.l1.length rb)).mono (le_old _)); have j := hid (Kc.put (w := I) R (Nat.le_refl _) (.bool r.n0) (.bool r.s0) (.slice rA r.l0.length ra) (.bool r.n1) (.bool r.s1) (.slice rB r.l1.length rb)).box; have HC := hid (Kc.put (w := I) R (Nat.le_refl _) (.bool r.n0) (.bool r.s0) (.slice rA r.l0.length ra) (.bool r.n1) (.bool r.s1) (.slice rB r.l1.length rb)).bel; have s := hid Ka); replace hs := hx; replace k0 := kx; clear hx kx)))
      | (have y := KA.out.b.c 1 _ rfl
         have k0 : I.drew.cell? ⟨gF, 1, none⟩ = some (.func (.func 124) #[] #[]) := y
         have Qf : IntKind.u8.wrap (9 - 8) = 1 := by decide
         have Qg : IntKind.u8.wrap 1 = 1 := by decide
         have Kp := keepC ((Below.refl I.heap.size I).alloc (Nat.le_refl _) (.cells #[.bool false, .bool false, .slice none 0 0, .bool false, .bool false, .slice none 0 0] 39)) y
         go_region_held3 (fun w' => w'.cell? ⟨gF, 1, none⟩ = some (.func (.func 124) #[] #[]) ∧ (C6 w' w.heap.size (.bool p.n0) (.bool p.s0) (.slice A p.l0.length a) (.bool p.n1) (.bool p.s1) (.slice B p.l1.length b)) ∧ C6 w' (w.heap.size + 1) (.bool q.n0) (.bool q.s0) (.slice C q.l0.length c) (.bool q.n1) (.bool q.s1) (.slice D q.l1.length d))
          (((refine And.intro ?_ ?_); (focus ((repeat' (first | with_reducible apply u1_al rfl | with_reducible apply u1_st6 rfl)) <;> (first | with_reducible exact k0 | (with_reducible apply u1_dr rfl; (repeat' (with_reducible apply u1_al rfl)); with_reducible exact y) | omega))); ((repeat' (first | with_reducible apply v12_al rfl | with_reducible apply v12_st6 rfl)) <;> (first | with_reducible exact hs | (with_reducible apply v12_dr rfl; (repeat' (with_reducible apply v12_al rfl)); with_reducible exact Kl) | omega))))
          ((go_at_call 124; first
            | (with_reducible refine KI.out.mono ?_; rintro e J ⟨r, rA, ra, rB, rb, rfl, Ka, N, O, H⟩; have hx := d12_keep hs H; have kx := keepC H k0; have R := from_ KK.out H; have Kb : Below J.heap.size J (J.alloc (.cells #[.bool r.n0, .bool r.s0, .slice rA r.l0.length ra, .bool r.n1, .bool r.s1, .slice rB r.l1.length rb] 39)) := (Below.refl J.heap.size J).alloc (Nat.le_refl _) _; have Z := hid ((N.below Kb).mono (le_old _)); have i := hid ((O.below Kb).mono (le_old _)); have j := hid (Box6.new J (.bool r.n0) (.bool r.s0) (.slice rA r.l0.length ra) (.bool r.n1) (.bool r.s1) (.slice rB r.l1.length rb) 39); have HC := hid (from_ R Kb); have s := hid Ka)
            | (with_reducible refine KJ.out.mono ?_; rintro e J ⟨r, rA, ra, rB, rb, rfl, Ka, N, O, H⟩; have hx := d12_keep (d12_keep (d12_keep Kl bal_) bdr_) H; have kx := keepC H (keepC bdr_ Kp); have R := from_ KL.out H; have Kc := (Box6.newB I (.bool false) (.bool false) (.slice none 0 0) (.bool false) (.bool false) (.slice none 0 0) 39).below H; have c0 := Kc.cf; have Z := hid ((N.set6 (g := I.heap.size) (fun (h : _ ≤ I.heap.size) => by simp at h; omega) (.bool r.n0) (.bool r.s0) (.slice rA r.l0.length ra) (.bool r.n1) (.bool r.s1) (.slice rB r.l1.length rb)).mono (le_old _)); have i := hid ((O.set6 (g := I.heap.size) (fun (h : _ ≤ I.heap.size) => by simp at h; omega) (.bool r.n0) (.bool r.s0) (.slice rA r.l0.length ra) (.bool r.n1) (.bool r.s1) (.slice rB r.l1.length rb)).mono (le_old _)); have j := hid (Kc.put (w := I) R (Nat.le_refl _) (.bool r.n0) (.bool r.s0) (.slice rA r.l0.length ra) (.bool r.n1) (.bool r.s1) (.slice rB r.l1.length rb)).box; have HC := hid (Kc.put (w := I) R (Nat.le_refl _) (.bool r.n0) (.bool r.s0) (.slice rA r.l0.length ra) (.bool r.n1) (.bool r.s1) (.slice rB r.l1.length rb)).bel; have s := hid Ka); replace hs := hx; replace k0 := kx; clear hx kx)))
     all_goals
      have V := hid (And.intro Z.out (And.intro i.out (And.intro j.out (And.intro HC.out s.out))))
      clear Z i j HC s Ka KI KJ KK KL hs Kl y Kp k0
      go_wp2_with fail
      go_meet
      exact ⟨_, r, rA, ra, rB, rb, rfl, rfl, hid V.out.2.2.1, hid V.out.2.2.2.2, hid V.out.1, hid V.out.2.1, V.out.2.2.2.1⟩
    case rest =>
     obtain ⟨KM, r, rA, ra, rB, rb, rfl, rfl, j, s, Z, i, H⟩ := hcut
     obtain ⟨Kt, Kn, Kv, KN⟩ := hid4 (K5.out.below H) (K6.out.below H) (grown_bel K8.out H) (Nat.le_trans KH.out H.size)
     clear H u Kg Kh KA Ky K5 K6 K8 KT
     obtain ⟨W5, Km⟩ : ∃ W, W = wc := ⟨_, rfl⟩
     subst Km
     cases g with
     | false =>
       have X := ((((((grown_set W5 (w.heap.size + 2) 0 (.bool false)).trans (grown_set _ (w.heap.size + 2) 1 (.bool false))).trans (grown_set _ (w.heap.size + 2) 2 (.slice none 0 0))).trans (grown_set _ (w.heap.size + 2) 3 (.bool false))).trans (grown_set _ (w.heap.size + 2) 4 (.bool false))).trans (grown_set _ (w.heap.size + 2) 5 (.slice none 0 0))).trans (grown_set _ (w.heap.size + 2) 6 (.slice none 0 0))
       obtain ⟨HP, KO, KP⟩ := hid3 (((((((Kn.out.b.set 0 (.bool false) rfl).set 1 (.bool false) rfl).set 2 (.slice none 0 0) rfl).set 3 (.bool false) rfl).set 4 (.bool false) rfl).set 5 (.slice none 0 0) rfl).set 6 (.slice none 0 0) rfl) (grown_own Kv.out X (by omega)) (Kt.out.kept X (fun e => by have := Kf.out; injection e; omega))
       obtain ⟨⟨r0, r1, r2, r3, r4, r5, r6⟩, q0, q1, q2, q3, q4, q5, q6⟩ := Kn.out.b.all7
       clear X Kn Kt Kv KF KG j s Z i KN KH
       go_wp2
       refine bodyPost_ret (res_lined2 rfl _ (w.heap.size + 2) rfl HP.out) rfl ?_
       exact ⟨zeroI, none, 0, none, 0, none, 0, 0, rfl, (fun h => by cases h), by rw [Bool.false_and, markF_no]; exact KP.out, KO.out⟩
     | true =>
       have KU := hid (KF.out W5 r rA rB ra rb (by first | rfl | trivial) Kt.out (s.out (by first | rfl | trivial)) Z.out i.out)
       try simp only [Bool.true_and]
       clear KF s
       obtain ⟨x0, x1, x2, x3, x4, x5, _, _, _, _, _, _, _⟩ := id j.out
       go_wp2_with fail
       refine KU.out.mono ?_
       rintro e J ⟨t, tA, ta, tB, tb, rfl, ht, K9, Kw⟩
       have Kd : Below J.heap.size J (J.alloc (.cells #[.bool t.n0, .bool t.s0, .slice tA t.l0.length ta, .bool t.n1, .bool t.s1, .slice tB t.l1.length tb, .slice none 0 0] 85)) := (Below.refl J.heap.size J).alloc (Nat.le_refl _) _
       obtain ⟨HT, KQ, Qa, Qb, Qc, Qp⟩ := hid6 (BoxL.new J [.bool t.n0, .bool t.s0, .slice tA t.l0.length ta, .bool t.n1, .bool t.s1, .slice tB t.l1.length tb, .slice none 0 0] 85) (K9.below Kd) ((Kn.out.kept Kw (fun e => by have := Kf.out; injection e; omega)).below Kd) (grown_bel (Kv.out.trans Kw) Kd) (Nat.le_trans KN.out (Nat.le_trans Kw.size Kd.size)) ht.1
       obtain ⟨KR, KS⟩ := hid2 (ht.2.1.below Kd) (ht.2.2.below Kd)
       have KV := hid (KG.out _ t tA tB ta tb (KQ.out.b.c 6 _ rfl) ht.1 KR.out KS.out)
       obtain ⟨⟨t0, t1, t2, t3, t4, t5, t6⟩, _⟩ := HT.out.all7
       clear x0 x1 x2 x3 x4 x5 K9 Kw ht Kd j Z i KU KG Kt Kn Kv KN
       go_wp2_with fail
       refine KV.out.mono ?_
       rintro e w7 ⟨FF, ff, rfl, hf, hn, H⟩
       have X := ((((((grown_set w7 (w.heap.size + 2) 0 (.bool t.n0)).trans (grown_set _ (w.heap.size + 2) 1 (.bool t.s0))).trans (grown_set _ (w.heap.size + 2) 2 (.slice tA t.l0.length ta))).trans (grown_set _ (w.heap.size + 2) 3 (.bool t.n1))).trans (grown_set _ (w.heap.size + 2) 4 (.bool t.s1))).trans (grown_set _ (w.heap.size + 2) 5 (.slice tB t.l1.length tb))).trans (grown_set _ (w.heap.size + 2) 6 (.slice FF (G.pn + 1) ff))
       have Kq := Qa.out.below H
       have HP := hid (((((((Kq.b.set 0 (.bool t.n0) rfl).set 1 (.bool t.s0) rfl).set 2 (.slice tA t.l0.length ta) rfl).set 3 (.bool t.n1) rfl).set 4 (.bool t.s1) rfl).set 5 (.slice tB t.l1.length tb) rfl).set 6 (.slice FF (G.pn + 1) ff) rfl)
       have Kr := Kq.noU (fun v hv n e => by subst e; simp at hv)
       have KB : ∀ b o, FF = some ⟨b, o, none⟩ → w.heap.size + 4 ≤ b := fun b o e => by have h1 := hn b o e; have := Qc.out; omega
       obtain ⟨KO, KP, U1, U2, U3, HN⟩ := hid6 (grown_own (grown_bel Qb.out H) X (by omega)) ((KQ.out.below H).kept X (fun e => by have := Kf.out; injection e; omega)) ((KR.out.below H).keepE Kr X) ((KS.out.below H).keepE Kr X) (hf.keepE (g := w.heap.size + 2) (fun b o e => by have h1 := KB b o e; omega) Kr X) (show NewA w.heap.size FF from fun b o e => by have h1 := KB b o e; omega)
       obtain ⟨⟨r0, r1, r2, r3, r4, r5, r6⟩, q0, q1, q2, q3, q4, q5, q6⟩ := Kq.b.all7
       clear t0 t1 t2 t3 t4 t5 t6 H X hf hn KB Kq Kr KR KS Qa KQ Qb KV Qc
       go_wp2
       refine bodyPost_ret (res_lined2 rfl _ (w.heap.size + 2) rfl HP.out) rfl ?_
       exact ⟨t, tA, ta, tB, tb, FF, _, ff, rfl, fun _ => ⟨Qp.out, U1.out, U2.out, rfl, U3.out, HN.out⟩, KP.out, KO.out⟩
theorem lother_div_any {w : World} {G : LkG} {m : Nat → Bool} {p : Iv} {g : Bool} (hk : BoxE w lk (lkL G m)) (hd : G.pn ≤ 63) (ip : IvW P p) (gp : IvN 8 P.1 P.2) (iq : IvW Q q) (gq : IvN 8 Q.1 Q.2) (u1 : U64s w Z1 A a p.l0) (u2 : U64s w Z2 B b p.l1) (u3 : U64s w Z3 C c q.l0) (u4 : U64s w Z4 D d q.l1) (hz : (keepIn (0, 0) Q) = z) (hg : (!(partsP Q).isEmpty) = g) (gr : g = true → IvN 6000 (ivD P Q).1 (ivD P Q).2) :
  Calls Tryz.prog 81 #[.pointer (some ⟨lk, 0, none⟩), .int .u8 8, .agg #[.bool p.n0, .bool p.s0, .slice A p.l0.length a, .bool p.n1, .bool p.s1, .slice B p.l1.length b, .slice FA L fa], .agg #[.bool q.n0, .bool q.s0, .slice C q.l0.length c, .bool q.n1, .bool q.s1, .slice D q.l1.length d, .slice FB M fb]] w fun e w' => ∃ (t : Iv) (tA : Option Addr) (ta : Nat) (tB : Option Addr) (tb : Nat) (FF : Option Addr) (nn ff : Nat), e = .returned (.tuple #[.agg #[.bool t.n0, .bool t.s0, .slice tA t.l0.length ta, .bool t.n1, .bool t.s1, .slice tB t.l1.length tb, .slice FF nn ff], .bool (g && meetOk (ivD P Q) allP)]) ∧ ((g && meetOk (ivD P Q) allP) = true → IvW (meetZ (ivD P Q) allP) t ∧ U64s w' old tA ta t.l0 ∧ U64s w' old tB tb t.l1 ∧ nn = G.pn + 1 ∧ IvsAt w' old FF ff (fmOf (constL G.pn (meetZ (ivD P Q) allP))) ∧ NewA w.heap.size FF) ∧ BoxE w' lk (lkL G (markF (markF m 3 z) 2 (g && !keepIn (ivD P Q) allP))) ∧ w.grownBy w' (some lk) := by
 exact lother_dm hk hd ip gp iq gq u1 u2 u3 u4 hz hg gr (.inl ⟨rfl, rfl⟩) fun W v1 v2 v3 v4 => iop_div (w := W) ip gp iq gq v1 v2 v3 v4 hg
theorem lother_mod_any {w : World} {G : LkG} {m : Nat → Bool} {p : Iv} {g : Bool} (hk : BoxE w lk (lkL G m)) (hd : G.pn ≤ 63) (ip : IvW P p) (gp : IvN 8 P.1 P.2) (iq : IvW Q q) (gq : IvN 8 Q.1 Q.2) (u1 : U64s w Z1 A a p.l0) (u2 : U64s w Z2 B b p.l1) (u3 : U64s w Z3 C c q.l0) (u4 : U64s w Z4 D d q.l1) (hz : (keepIn (0, 0) Q) = z) (hg : (!(partsP Q).isEmpty) = g) (gr : g = true → IvN 6000 (modP P Q).1 (modP P Q).2) :
  Calls Tryz.prog 81 #[.pointer (some ⟨lk, 0, none⟩), .int .u8 9, .agg #[.bool p.n0, .bool p.s0, .slice A p.l0.length a, .bool p.n1, .bool p.s1, .slice B p.l1.length b, .slice FA L fa], .agg #[.bool q.n0, .bool q.s0, .slice C q.l0.length c, .bool q.n1, .bool q.s1, .slice D q.l1.length d, .slice FB M fb]] w fun e w' => ∃ (t : Iv) (tA : Option Addr) (ta : Nat) (tB : Option Addr) (tb : Nat) (FF : Option Addr) (nn ff : Nat), e = .returned (.tuple #[.agg #[.bool t.n0, .bool t.s0, .slice tA t.l0.length ta, .bool t.n1, .bool t.s1, .slice tB t.l1.length tb, .slice FF nn ff], .bool (g && meetOk (modP P Q) allP)]) ∧ ((g && meetOk (modP P Q) allP) = true → IvW (meetZ (modP P Q) allP) t ∧ U64s w' old tA ta t.l0 ∧ U64s w' old tB tb t.l1 ∧ nn = G.pn + 1 ∧ IvsAt w' old FF ff (fmOf (constL G.pn (meetZ (modP P Q) allP))) ∧ NewA w.heap.size FF) ∧ BoxE w' lk (lkL G (markF (markF m 3 z) 2 (g && !keepIn (modP P Q) allP))) ∧ w.grownBy w' (some lk) := by
 exact lother_dm hk hd ip gp iq gq u1 u2 u3 u4 hz hg gr (.inr ⟨rfl, rfl⟩) fun W v1 v2 v3 v4 => iop_mod (w := W) ip gp iq gq v1 v2 v3 v4 hg
theorem lother_sh {w : World} {G : LkG} {m : Nat → Bool} {p : Iv} {g : Bool} {Fop : FuncId} (hk : BoxE w lk (lkL G m)) (hd : G.pn ≤ 63) (ip : IvW P p) (gp : IvN 8 P.1 P.2) (iq : IvW Q q) (gq : IvN 8 Q.1 Q.2) (u1 : U64s w Z1 A a p.l0) (u2 : U64s w Z2 B b p.l1) (u3 : U64s w Z3 C c q.l0) (u4 : U64s w Z4 D d q.l1) (hz : (!keepIn Q (0, 63)) = z) (hg : (decide ((shK Q).1 ≤ (shK Q).2)) = g) (gr : g = true → IvN 6000 RD.1 RD.2) (hi : (kk = 10 ∧ Fop = 125) ∨ (kk = 11 ∧ Fop = 126)) (hdv0 : ∀ (W : World), U64s W old A a p.l0 → U64s W old B b p.l1 → U64s W old C c q.l0 → U64s W old D d q.l1 → Calls Tryz.prog Fop #[.agg #[.bool p.n0, .bool p.s0, .slice A p.l0.length a, .bool p.n1, .bool p.s1, .slice B p.l1.length b], .agg #[.bool q.n0, .bool q.s0, .slice C q.l0.length c, .bool q.n1, .bool q.s1, .slice D q.l1.length d]] W fun e w' => ∃ (r : Iv) (rA : Option Addr) (ra : Nat) (rB : Option Addr) (rb : Nat), e = .returned (.tuple #[.agg #[.bool r.n0, .bool r.s0, .slice rA r.l0.length ra, .bool r.n1, .bool r.s1, .slice rB r.l1.length rb], .int .i64 (bif g then 0 else 2)]) ∧ (g = true → IvW RD r) ∧ U64s w' (new W.heap.size) rA ra r.l0 ∧ U64s w' (new W.heap.size) rB rb r.l1 ∧ Below W.heap.size W w') :
  Calls Tryz.prog 81 #[.pointer (some ⟨lk, 0, none⟩), .int .u8 kk, .agg #[.bool p.n0, .bool p.s0, .slice A p.l0.length a, .bool p.n1, .bool p.s1, .slice B p.l1.length b, .slice FA L fa], .agg #[.bool q.n0, .bool q.s0, .slice C q.l0.length c, .bool q.n1, .bool q.s1, .slice D q.l1.length d, .slice FB M fb]] w fun e w' => ∃ (t : Iv) (tA : Option Addr) (ta : Nat) (tB : Option Addr) (tb : Nat) (FF : Option Addr) (nn ff : Nat), e = .returned (.tuple #[.agg #[.bool t.n0, .bool t.s0, .slice tA t.l0.length ta, .bool t.n1, .bool t.s1, .slice tB t.l1.length tb, .slice FF nn ff], .bool (g && meetOk RD allP)]) ∧ ((g && meetOk RD allP) = true → IvW (meetZ RD allP) t ∧ U64s w' old tA ta t.l0 ∧ U64s w' old tB tb t.l1 ∧ nn = G.pn + 1 ∧ IvsAt w' old FF ff (fmOf (constL G.pn (meetZ RD allP))) ∧ NewA w.heap.size FF) ∧ BoxE w' lk (lkL G (markF (markF m 4 z) 2 (g && !keepIn RD allP))) ∧ w.grownBy w' (some lk) := by
 obtain ⟨W1, Qi, Ke, KX, KY, KZ, K0, K1⟩ := al4 w [.bool p.n0, .bool p.s0, .slice A p.l0.length a, .bool p.n1, .bool p.s1, .slice B p.l1.length b, .slice FA L fa] 85 [.bool q.n0, .bool q.s0, .slice C q.l0.length c, .bool q.n1, .bool q.s1, .slice D q.l1.length d, .slice FB M fb] 85 [.bool false, .bool false, .slice none 0 0, .bool false, .bool false, .slice none 0 0, .slice none 0 0] 85 [.func (.func 123) #[] #[], .func (.func 124) #[] #[], .func (.func 125) #[] #[], .func (.func 126) #[] #[]] 173
 obtain ⟨HA, Ki, HR, Ko, HZ, Kf⟩ := hid6 KX KY KZ K0 K1 hk.b.lt
 obtain ⟨HB, Y⟩ := hid2 Ke (hk.below Ke)
 obtain ⟨zz, KC⟩ : ∃ r, IvW (0, 63) r := ⟨_, IvW.mk _⟩
 have KT := hid (fun W : World => lbetween_r (w := W) KC (by omega) (by omega) (by omega))
 obtain ⟨y, hy⟩ : ∃ y, keepIn Q (0, 63) = y := ⟨_, rfl⟩
 rw [hy] at hz
 obtain ⟨K2, U⟩ := hid2 (fun (W : World) (h : Below w.heap.size w W) (E G : Option Addr) (e g K : Nat) (N : U64s W (new K) E e zz.l0) (O : U64s W (new K) G g zz.l1) => iin_w (w := W) iq (gq.up (by omega)) KC (iv_n (by decide) (by decide) (by decide) (by omega)) (u3.below h) (u4.below h) N O (r := y) hy) (And.intro (u1.below Ke) (And.intro (u2.below Ke) (And.intro (u3.below Ke) (u4.below Ke))))
 have Kx := hdv0
 obtain ⟨E, hE⟩ : ∃ E : Int, (bif g then 0 else 2) = E := ⟨_, rfl⟩
 have Qe : (E == 0) = g := by rw [← hE]; cases g <;> rfl
 have Qr : (E != 0) = !g := by rw [bne, Qe]
 rw [hE] at Kx
 have Ky := hid Kx
 obtain ⟨gM, KD⟩ : ∃ x, meetOk RD allP = x := ⟨_, rfl⟩
 obtain ⟨kI, KE⟩ : ∃ x, keepIn RD allP = x := ⟨_, rfl⟩
 have gT : IvN 8 (meetZ RD allP).1 (meetZ RD allP).2 := meetZ_n
 have Kz := fun (W : World) (r : Iv) (E G' : Option Addr) (e f : Nat) (hgt : g = true) (h : BoxE W lk (lkL G (markF m 4 z))) (hr : IvW RD r) (N : U64s W old E e r.l0) (O : U64s W old G' f r.l1) => lranged_any (w := W) (n := 0) (f := 0) (F := none) h hr (gr hgt) N O
 rw [KD, KE] at Kz
 rw [KD, KE]
 generalize meetZ RD allP = T at *
 obtain ⟨KF, KG, K3⟩ := hid3 Kz (fun (W : World) (t : Iv) (E G' : Option Addr) (e f : Nat) (h : W.cell? ⟨lk, 6, none⟩ = some (.slice G.PA G.pn G.pc)) (hr : IvW T t) (N : U64s W old E e t.l0) (O : U64s W old G' f t.l1) => lconstant_r (w := W) h hd hr gT (by omega) N O) hz
 clear KX KY KZ K0 K1
 clear Ke hk hd ip gp iq gq u1 u2 u3 u4 hz hg Kx hE Kz gr gT KD KE KC hy hdv0
 rcases hi with ⟨rfl, rfl⟩ | ⟨rfl, rfl⟩
 all_goals
  go_enter Tryz.func81, Tryz.ntmps81
  go_upto_region 6 with fail
  clear Qi
  go_cut [13, 14] (fun s11 s12 wx => s11 = .bool y ∧ s12 = .int .i64 0 ∧ Below W1.heap.size W1 wx)
  case first =>
   obtain ⟨⟨x0, x1, x2, x3, x4, x5, x6⟩, _⟩ := Ki.out.b.all7
   have Qf := hid (KT.out W1.drew)
   first | go_region_with (first
    | (go_at_call 38; with_reducible refine Qf.out.mono ?_; rintro e wa ⟨E0, e1, G0, e2, rfl, N, O, H⟩; have R : Below W1.heap.size W1 wa := from_ ((Below.refl W1.heap.size W1).drew) H; obtain ⟨⟨Qj, Qk, Ql, Qm, Qn, Qo, Qp⟩, _⟩ := (Ki.out.below R).b.all7)
    | (go_at_call 10; with_reducible refine (K2.out _ (from_ HB.out R) _ _ _ _ _ N O).mono ?_; rintro e wb ⟨rfl, K4⟩)) | fail
   all_goals
    have hf := from_ R K4
    clear x0 x1 x2 x3 x4 x5 x6 Qj Qk Ql Qm Qn Qo Qp N O H R K4
    go_wp2_with fail
    go_meet
    exact ⟨rfl, rfl, hf⟩
  case rest =>
   obtain ⟨rfl, rfl, H⟩ := hcut
   replace Y := hid (Y.out.below H)
   replace HA := hid (HA.out.below H)
   replace Ki := hid (Ki.out.below H)
   replace HR := hid (HR.out.below H)
   replace Ko := hid (Ko.out.below H)
   replace HB := hid (from_ HB.out H)
   replace HZ := hid (Nat.le_trans HZ.out H.size)
   replace U := hid (And.intro (U.out.1.below H) (And.intro (U.out.2.1.below H) (And.intro (U.out.2.2.1.below H) (U.out.2.2.2.below H))))
   clear H KT K2
   obtain ⟨W2, Km⟩ : ∃ W, W = wc := ⟨_, rfl⟩
   subst Km
   go_upto_if 46 with fail
   go_cut [] (fun wx => BoxE wx lk (lkL G (markF m 4 z)) ∧ W2.grownBy wx (some lk))
   case first =>
    obtain rfl := K3.out
    cases y with
    | true =>
      go_wp2_with fail
      go_meet
      exact ⟨by first | (rw [markF_no]; exact Y.out) | (rw [show (!true) = false from rfl, markF_no]; exact Y.out), grown_any (Below.refl _ _)⟩
    | false =>
      have k8 := Y.out.b.c 12 _ rfl
      have f8 := Y.out.b.f 12 _ rfl
      have HS := hid (Y.out.set 12 (.bool true) rfl)
      go_wp2_with fail
      go_meet
      exact ⟨by have h := HS.out; rw [show (lkL G m).set 12 (.bool true) = lkL G (markF m 4 true) from lkL_set (r := 4) (by omega)] at h; exact h, grown_set _ _ _ _⟩
   case rest =>
    obtain ⟨K5, S⟩ := hcut
    obtain ⟨I, Km⟩ : ∃ W, W = wc := ⟨_, rfl⟩
    subst Km
    have hN := Y.out.noU lkL_noW
    obtain ⟨K6, Kg, Kh, K7, K8, u⟩ := hid6 K5 (HA.out.kept S (fun e => by have := Kf.out; injection e; omega)) (Ki.out.kept S (fun e => by have := Kf.out; injection e; omega)) (HR.out.kept S (fun e => by have := Kf.out; injection e; omega)) (Ko.out.kept S (fun e => by have := Kf.out; injection e; omega)) (And.intro (U.out.1.keepE hN S) (And.intro (U.out.2.1.keepE hN S) (And.intro (U.out.2.2.1.keepE hN S) (U.out.2.2.2.keepE hN S))))
    obtain ⟨K9, KH⟩ := hid2 ((grown_any (r := some lk) HB.out).trans S) (Nat.le_trans HZ.out S.size)
    clear K5 S hN Y HA Ki HR Ko U HB HZ K3
    go_upto_region 9 with fail
    obtain ⟨gF, Ks⟩ : ∃ g, w.heap.size + 1 + 1 + 1 = g := ⟨_, rfl⟩
    have KA : Hid (BoxE I gF [.func (.func 123) #[] #[], .func (.func 124) #[] #[], .func (.func 125) #[] #[], .func (.func 126) #[] #[]]) := hid (by rw [← Ks]; exact K8.out)
    simp only [Ks]
    have KU := hid (show w.heap.size + 3 = gF from Ks)
    clear Ks K8
    go_cut [15, 16] (fun s15 s16 wx => ∃ (KM : Nat) (r : Iv) (rA : Option Addr) (ra : Nat) (rB : Option Addr) (rb : Nat), s15 = .pointer (some ⟨KM, 0, none⟩) ∧ s16 = .int .i64 E ∧ Hid (Box6 wx KM (.bool r.n0) (.bool r.s0) (.slice rA r.l0.length ra) (.bool r.n1) (.bool r.s1) (.slice rB r.l1.length rb)) ∧ Hid (g = true → IvW RD r) ∧ Hid (U64s wx old rA ra r.l0) ∧ Hid (U64s wx old rB rb r.l1) ∧ Below I.heap.size I wx)
    case first =>
     have Kj : Below I.heap.size I I.drew := bdr_
     have Kk : Below I.heap.size I (I.alloc (.cells #[.bool false, .bool false, .slice none 0 0, .bool false, .bool false, .slice none 0 0] 39)).drew := ((Below.refl _ I).alloc (Nat.le_refl _) _).drew
     obtain ⟨KI, KJ, KK, KL⟩ := hid4 (Ky.out I.drew (u.out.1.below Kj) (u.out.2.1.below Kj) (u.out.2.2.1.below Kj) (u.out.2.2.2.below Kj)) (Ky.out _ (u.out.1.below Kk) (u.out.2.1.below Kk) (u.out.2.2.1.below Kk) (u.out.2.2.2.below Kk)) Kj Kk
     have Kl : (C6 I w.heap.size (.bool p.n0) (.bool p.s0) (.slice A p.l0.length a) (.bool p.n1) (.bool p.s1) (.slice B p.l1.length b)) ∧ C6 I (w.heap.size + 1) (.bool q.n0) (.bool q.s0) (.slice C q.l0.length c) (.bool q.n1) (.bool q.s1) (.slice D q.l1.length d) :=
      ⟨⟨Kg.out.b.c 0 _ rfl, Kg.out.b.c 1 _ rfl, Kg.out.b.c 2 _ rfl, Kg.out.b.c 3 _ rfl, Kg.out.b.c 4 _ rfl, Kg.out.b.c 5 _ rfl⟩, Kh.out.b.c 0 _ rfl, Kh.out.b.c 1 _ rfl, Kh.out.b.c 2 _ rfl, Kh.out.b.c 3 _ rfl, Kh.out.b.c 4 _ rfl, Kh.out.b.c 5 _ rfl⟩
     have hs := d12_keep Kl bdr_
     have Qs := KH.out
     have Qt := KU.out
     clear Kj Kk
     first
      | (have f0 := KA.out.b.c 2 _ rfl
         have k0 : I.drew.cell? ⟨gF, 2, none⟩ = some (.func (.func 125) #[] #[]) := f0
         have Qg : IntKind.u8.wrap (10 - 8) = 2 := by decide
         have Qh : IntKind.u8.wrap 2 = 2 := by decide
         have Kp := keepC ((Below.refl I.heap.size I).alloc (Nat.le_refl _) (.cells #[.bool false, .bool false, .slice none 0 0, .bool false, .bool false, .slice none 0 0] 39)) f0
         go_region_held3 (fun w' => w'.cell? ⟨gF, 2, none⟩ = some (.func (.func 125) #[] #[]) ∧ (C6 w' w.heap.size (.bool p.n0) (.bool p.s0) (.slice A p.l0.length a) (.bool p.n1) (.bool p.s1) (.slice B p.l1.length b)) ∧ C6 w' (w.heap.size + 1) (.bool q.n0) (.bool q.s0) (.slice C q.l0.length c) (.bool q.n1) (.bool q.s1) (.slice D q.l1.length d))
          (((refine And.intro ?_ ?_); (focus ((repeat' (first | with_reducible apply u1_al rfl | with_reducible apply u1_st6 rfl)) <;> (first | with_reducible exact k0 | (with_reducible apply u1_dr rfl; (repeat' (with_reducible apply u1_al rfl)); with_reducible exact f0) | omega))); ((repeat' (first | with_reducible apply v12_al rfl | with_reducible apply v12_st6 rfl)) <;> (first | with_reducible exact hs | (with_reducible apply v12_dr rfl; (repeat' (with_reducible apply v12_al rfl)); with_reducible exact Kl) | omega))))
          ((go_at_call 125; first
            | (with_reducible refine KI.out.mono ?_; rintro e J ⟨r, rA, ra, rB, rb, rfl, Ka, N, O, H⟩; have hx := d12_keep hs H; have kx := keepC H k0; have R := from_ KK.out H; have Kb : Below J.heap.size J (J.alloc (.cells #[.bool r.n0, .bool r.s0, .slice rA r.l0.length ra, .bool r.n1, .bool r.s1, .slice rB r.l1.length rb] 39)) := (Below.refl J.heap.size J).alloc (Nat.le_refl _) _; have Z := hid ((N.below Kb).mono (le_old _)); have i := hid ((O.below Kb).mono (le_old _)); have j := hid (Box6.new J (.bool r.n0) (.bool r.s0) (.slice rA r.l0.length ra) (.bool r.n1) (.bool r.s1) (.slice rB r.l1.length rb) 39); have HC := hid (from_ R Kb); have s := hid Ka)
            | (with_reducible refine KJ.out.mono ?_; rintro e J ⟨r, rA, ra, rB, rb, rfl, Ka, N, O, H⟩; have hx := d12_keep (d12_keep (d12_keep Kl bal_) bdr_) H; have kx := keepC H (keepC bdr_ Kp); have R := from_ KL.out H; have Kc := (Box6.newB I (.bool false) (.bool false) (.slice none 0 0) (.bool false) (.bool false) (.slice none 0 0) 39).below H; obtain ⟨c0, c1, c2, c3, c4, c5, Qv, fz1, Qw, Qx, Qy, Qz, _⟩ := id Kc; have Z := hid ((N.set6 (g := I.heap.size) (fun (h : _ ≤ I.heap.size) => by simp at h; omega) (.bool r.n0) (.bool r.s0) (.slice rA r.l0.length ra) (.bool r.n1) (.bool r.s1) (.slice rB r.l1.length rb)).mono (le_old _)); have i := hid ((O.set6 (g := I.heap.size) (fun (h : _ ≤ I.heap.size) => by simp at h; omega) (.bool r.n0) (.bool r.s0) (.slice rA r.l0.length ra) (.bool r.n1) (.bool r.s1) (.slice rB r.l1.length rb)).mono (le_old _)); have j := hid (Kc.put (w := I) R (Nat.le_refl _) (.bool r.n0) (.bool r.s0) (.slice rA r.l0.length ra) (.bool r.n1) (.bool r.s1) (.slice rB r.l1.length rb)).box; have HC := hid (Kc.put (w := I) R (Nat.le_refl _) (.bool r.n0) (.bool r.s0) (.slice rA r.l0.length ra) (.bool r.n1) (.bool r.s1) (.slice rB r.l1.length rb)).bel; have s := hid Ka); replace hs := hx; replace k0 := kx; clear hx kx)))
      | (have f0 := KA.out.b.c 3 _ rfl
         have k0 : I.drew.cell? ⟨gF, 3, none⟩ = some (.func (.func 126) #[] #[]) := f0
         have Qg : IntKind.u8.wrap (11 - 8) = 3 := by decide
         have Qh : IntKind.u8.wrap 3 = 3 := by decide
         have Kp := keepC ((Below.refl I.heap.size I).alloc (Nat.le_refl _) (.cells #[.bool false, .bool false, .slice none 0 0, .bool false, .bool false, .slice none 0 0] 39)) f0
         go_region_held3 (fun w' => w'.cell? ⟨gF, 3, none⟩ = some (.func (.func 126) #[] #[]) ∧ (C6 w' w.heap.size (.bool p.n0) (.bool p.s0) (.slice A p.l0.length a) (.bool p.n1) (.bool p.s1) (.slice B p.l1.length b)) ∧ C6 w' (w.heap.size + 1) (.bool q.n0) (.bool q.s0) (.slice C q.l0.length c) (.bool q.n1) (.bool q.s1) (.slice D q.l1.length d))
          (((refine And.intro ?_ ?_); (focus ((repeat' (first | with_reducible apply u1_al rfl | with_reducible apply u1_st6 rfl)) <;> (first | with_reducible exact k0 | (with_reducible apply u1_dr rfl; (repeat' (with_reducible apply u1_al rfl)); with_reducible exact f0) | omega))); ((repeat' (first | with_reducible apply v12_al rfl | with_reducible apply v12_st6 rfl)) <;> (first | with_reducible exact hs | (with_reducible apply v12_dr rfl; (repeat' (with_reducible apply v12_al rfl)); with_reducible exact Kl) | omega))))
          ((go_at_call 126; first
            | (with_reducible refine KI.out.mono ?_; rintro e J ⟨r, rA, ra, rB, rb, rfl, Ka, N, O, H⟩; have hx := d12_keep hs H; have kx := keepC H k0; have R := from_ KK.out H; have Kb : Below J.heap.size J (J.alloc (.cells #[.bool r.n0, .bool r.s0, .slice rA r.l0.length ra, .bool r.n1, .bool r.s1, .slice rB r.l1.length rb] 39)) := (Below.refl J.heap.size J).alloc (Nat.le_refl _) _; have Z := hid ((N.below Kb).mono (le_old _)); have i := hid ((O.below Kb).mono (le_old _)); have j := hid (Box6.new J (.bool r.n0) (.bool r.s0) (.slice rA r.l0.length ra) (.bool r.n1) (.bool r.s1) (.slice rB r.l1.length rb) 39); have HC := hid (from_ R Kb); have s := hid Ka)
            | (with_reducible refine KJ.out.mono ?_; rintro e J ⟨r, rA, ra, rB, rb, rfl, Ka, N, O, H⟩; have hx := d12_keep (d12_keep (d12_keep Kl bal_) bdr_) H; have kx := keepC H (keepC bdr_ Kp); have R := from_ KL.out H; have Kc := (Box6.newB I (.bool false) (.bool false) (.slice none 0 0) (.bool false) (.bool false) (.slice none 0 0) 39).below H; have c0 := Kc.cf; have Z := hid ((N.set6 (g := I.heap.size) (fun (h : _ ≤ I.heap.size) => by simp at h; omega) (.bool r.n0) (.bool r.s0) (.slice rA r.l0.length ra) (.bool r.n1) (.bool r.s1) (.slice rB r.l1.length rb)).mono (le_old _)); have i := hid ((O.set6 (g := I.heap.size) (fun (h : _ ≤ I.heap.size) => by simp at h; omega) (.bool r.n0) (.bool r.s0) (.slice rA r.l0.length ra) (.bool r.n1) (.bool r.s1) (.slice rB r.l1.length rb)).mono (le_old _)); have j := hid (Kc.put (w := I) R (Nat.le_refl _) (.bool r.n0) (.bool r.s0) (.slice rA r.l0.length ra) (.bool r.n1) (.bool r.s1) (.slice rB r.l1.length rb)).box; have HC := hid (Kc.put (w := I) R (Nat.le_refl _) (.bool r.n0) (.bool r.s0) (.slice rA r.l0.length ra) (.bool r.n1) (.bool r.s1) (.slice rB r.l1.length rb)).bel; have s := hid Ka); replace hs := hx; replace k0 := kx; clear hx kx)))
     all_goals
      have V := hid (And.intro Z.out (And.intro i.out (And.intro j.out (And.intro HC.out s.out))))
      clear Z i j HC s Ka KI KJ KK KL hs Kl f0 Kp k0
      go_wp2_with fail
      go_meet
      exact ⟨_, r, rA, ra, rB, rb, rfl, rfl, hid V.out.2.2.1, hid V.out.2.2.2.2, hid V.out.1, hid V.out.2.1, V.out.2.2.2.1⟩
    case rest =>
     obtain ⟨KM, r, rA, ra, rB, rb, rfl, rfl, j, s, Z, i, H⟩ := hcut
     obtain ⟨Kt, Kn, Kv, KN⟩ := hid4 (K6.out.below H) (K7.out.below H) (grown_bel K9.out H) (Nat.le_trans KH.out H.size)
     clear H u Kg Kh KA Ky K6 K7 K9 KU
     obtain ⟨W5, Km⟩ : ∃ W, W = wc := ⟨_, rfl⟩
     subst Km
     cases g with
     | false =>
       have X := ((((((grown_set W5 (w.heap.size + 2) 0 (.bool false)).trans (grown_set _ (w.heap.size + 2) 1 (.bool false))).trans (grown_set _ (w.heap.size + 2) 2 (.slice none 0 0))).trans (grown_set _ (w.heap.size + 2) 3 (.bool false))).trans (grown_set _ (w.heap.size + 2) 4 (.bool false))).trans (grown_set _ (w.heap.size + 2) 5 (.slice none 0 0))).trans (grown_set _ (w.heap.size + 2) 6 (.slice none 0 0))
       obtain ⟨HP, KO, KP⟩ := hid3 (((((((Kn.out.b.set 0 (.bool false) rfl).set 1 (.bool false) rfl).set 2 (.slice none 0 0) rfl).set 3 (.bool false) rfl).set 4 (.bool false) rfl).set 5 (.slice none 0 0) rfl).set 6 (.slice none 0 0) rfl) (grown_own Kv.out X (by omega)) (Kt.out.kept X (fun e => by have := Kf.out; injection e; omega))
       obtain ⟨⟨r0, r1, r2, r3, r4, r5, r6⟩, q0, q1, q2, q3, q4, q5, q6⟩ := Kn.out.b.all7
       clear X Kn Kt Kv KF KG j s Z i KN KH
       go_wp2
       refine bodyPost_ret (res_lined2 rfl _ (w.heap.size + 2) rfl HP.out) rfl ?_
       exact ⟨zeroI, none, 0, none, 0, none, 0, 0, rfl, (fun h => by cases h), by rw [Bool.false_and, markF_no]; exact KP.out, KO.out⟩
     | true =>
       have KV := hid (KF.out W5 r rA rB ra rb (by first | rfl | trivial) Kt.out (s.out (by first | rfl | trivial)) Z.out i.out)
       try simp only [Bool.true_and]
       clear KF s
       obtain ⟨x0, x1, x2, x3, x4, x5, _, _, _, _, _, _, _⟩ := id j.out
       go_wp2_with fail
       refine KV.out.mono ?_
       rintro e J ⟨t, tA, ta, tB, tb, rfl, ht, Qa, Kw⟩
       have Kd : Below J.heap.size J (J.alloc (.cells #[.bool t.n0, .bool t.s0, .slice tA t.l0.length ta, .bool t.n1, .bool t.s1, .slice tB t.l1.length tb, .slice none 0 0] 85)) := (Below.refl J.heap.size J).alloc (Nat.le_refl _) _
       obtain ⟨HT, KQ, Qb, Qc, Qd, Qq⟩ := hid6 (BoxL.new J [.bool t.n0, .bool t.s0, .slice tA t.l0.length ta, .bool t.n1, .bool t.s1, .slice tB t.l1.length tb, .slice none 0 0] 85) (Qa.below Kd) ((Kn.out.kept Kw (fun e => by have := Kf.out; injection e; omega)).below Kd) (grown_bel (Kv.out.trans Kw) Kd) (Nat.le_trans KN.out (Nat.le_trans Kw.size Kd.size)) ht.1
       obtain ⟨KR, KS⟩ := hid2 (ht.2.1.below Kd) (ht.2.2.below Kd)
       have KW := hid (KG.out _ t tA tB ta tb (KQ.out.b.c 6 _ rfl) ht.1 KR.out KS.out)
       obtain ⟨⟨t0, t1, t2, t3, t4, t5, t6⟩, _⟩ := HT.out.all7
       clear x0 x1 x2 x3 x4 x5 Qa Kw ht Kd j Z i KV KG Kt Kn Kv KN
       go_wp2_with fail
       refine KW.out.mono ?_
       rintro e w7 ⟨FF, ff, rfl, hf, hn, H⟩
       have X := ((((((grown_set w7 (w.heap.size + 2) 0 (.bool t.n0)).trans (grown_set _ (w.heap.size + 2) 1 (.bool t.s0))).trans (grown_set _ (w.heap.size + 2) 2 (.slice tA t.l0.length ta))).trans (grown_set _ (w.heap.size + 2) 3 (.bool t.n1))).trans (grown_set _ (w.heap.size + 2) 4 (.bool t.s1))).trans (grown_set _ (w.heap.size + 2) 5 (.slice tB t.l1.length tb))).trans (grown_set _ (w.heap.size + 2) 6 (.slice FF (G.pn + 1) ff))
       have Kq := Qb.out.below H
       have HP := hid (((((((Kq.b.set 0 (.bool t.n0) rfl).set 1 (.bool t.s0) rfl).set 2 (.slice tA t.l0.length ta) rfl).set 3 (.bool t.n1) rfl).set 4 (.bool t.s1) rfl).set 5 (.slice tB t.l1.length tb) rfl).set 6 (.slice FF (G.pn + 1) ff) rfl)
       have Kr := Kq.noU (fun v hv n e => by subst e; simp at hv)
       have KB : ∀ b o, FF = some ⟨b, o, none⟩ → w.heap.size + 4 ≤ b := fun b o e => by have h1 := hn b o e; have := Qd.out; omega
       obtain ⟨KO, KP, U1, U2, U3, HN⟩ := hid6 (grown_own (grown_bel Qc.out H) X (by omega)) ((KQ.out.below H).kept X (fun e => by have := Kf.out; injection e; omega)) ((KR.out.below H).keepE Kr X) ((KS.out.below H).keepE Kr X) (hf.keepE (g := w.heap.size + 2) (fun b o e => by have h1 := KB b o e; omega) Kr X) (show NewA w.heap.size FF from fun b o e => by have h1 := KB b o e; omega)
       obtain ⟨⟨r0, r1, r2, r3, r4, r5, r6⟩, q0, q1, q2, q3, q4, q5, q6⟩ := Kq.b.all7
       clear t0 t1 t2 t3 t4 t5 t6 H X hf hn KB Kq Kr KR KS Qb KQ Qc KW Qd
       go_wp2
       refine bodyPost_ret (res_lined2 rfl _ (w.heap.size + 2) rfl HP.out) rfl ?_
       exact ⟨t, tA, ta, tB, tb, FF, _, ff, rfl, fun _ => ⟨Qq.out, U1.out, U2.out, rfl, U3.out, HN.out⟩, KP.out, KO.out⟩
theorem lother_shl_any {w : World} {G : LkG} {m : Nat → Bool} {p : Iv} {g : Bool} (hk : BoxE w lk (lkL G m)) (hd : G.pn ≤ 63) (ip : IvW P p) (gp : IvN 8 P.1 P.2) (iq : IvW Q q) (gq : IvN 8 Q.1 Q.2) (u1 : U64s w Z1 A a p.l0) (u2 : U64s w Z2 B b p.l1) (u3 : U64s w Z3 C c q.l0) (u4 : U64s w Z4 D d q.l1) (hz : (!keepIn Q (0, 63)) = z) (hg : (decide ((shK Q).1 ≤ (shK Q).2)) = g) (gr : g = true → IvN 6000 (shlP P Q).1 (shlP P Q).2) :
  Calls Tryz.prog 81 #[.pointer (some ⟨lk, 0, none⟩), .int .u8 10, .agg #[.bool p.n0, .bool p.s0, .slice A p.l0.length a, .bool p.n1, .bool p.s1, .slice B p.l1.length b, .slice FA L fa], .agg #[.bool q.n0, .bool q.s0, .slice C q.l0.length c, .bool q.n1, .bool q.s1, .slice D q.l1.length d, .slice FB M fb]] w fun e w' => ∃ (t : Iv) (tA : Option Addr) (ta : Nat) (tB : Option Addr) (tb : Nat) (FF : Option Addr) (nn ff : Nat), e = .returned (.tuple #[.agg #[.bool t.n0, .bool t.s0, .slice tA t.l0.length ta, .bool t.n1, .bool t.s1, .slice tB t.l1.length tb, .slice FF nn ff], .bool (g && meetOk (shlP P Q) allP)]) ∧ ((g && meetOk (shlP P Q) allP) = true → IvW (meetZ (shlP P Q) allP) t ∧ U64s w' old tA ta t.l0 ∧ U64s w' old tB tb t.l1 ∧ nn = G.pn + 1 ∧ IvsAt w' old FF ff (fmOf (constL G.pn (meetZ (shlP P Q) allP))) ∧ NewA w.heap.size FF) ∧ BoxE w' lk (lkL G (markF (markF m 4 z) 2 (g && !keepIn (shlP P Q) allP))) ∧ w.grownBy w' (some lk) := by
 exact lother_sh hk hd ip gp iq gq u1 u2 u3 u4 hz hg gr (.inl ⟨rfl, rfl⟩) fun W v1 v2 v3 v4 => iop_shl (w := W) ip gp iq gq v1 v2 v3 v4 hg
theorem lother_shr_any {w : World} {G : LkG} {m : Nat → Bool} {p : Iv} {g : Bool} (hk : BoxE w lk (lkL G m)) (hd : G.pn ≤ 63) (ip : IvW P p) (gp : IvN 8 P.1 P.2) (iq : IvW Q q) (gq : IvN 8 Q.1 Q.2) (u1 : U64s w Z1 A a p.l0) (u2 : U64s w Z2 B b p.l1) (u3 : U64s w Z3 C c q.l0) (u4 : U64s w Z4 D d q.l1) (hz : (!keepIn Q (0, 63)) = z) (hg : (decide ((shK Q).1 ≤ (shK Q).2)) = g) (gr : g = true → IvN 6000 (shrP P Q).1 (shrP P Q).2) :
  Calls Tryz.prog 81 #[.pointer (some ⟨lk, 0, none⟩), .int .u8 11, .agg #[.bool p.n0, .bool p.s0, .slice A p.l0.length a, .bool p.n1, .bool p.s1, .slice B p.l1.length b, .slice FA L fa], .agg #[.bool q.n0, .bool q.s0, .slice C q.l0.length c, .bool q.n1, .bool q.s1, .slice D q.l1.length d, .slice FB M fb]] w fun e w' => ∃ (t : Iv) (tA : Option Addr) (ta : Nat) (tB : Option Addr) (tb : Nat) (FF : Option Addr) (nn ff : Nat), e = .returned (.tuple #[.agg #[.bool t.n0, .bool t.s0, .slice tA t.l0.length ta, .bool t.n1, .bool t.s1, .slice tB t.l1.length tb, .slice FF nn ff], .bool (g && meetOk (shrP P Q) allP)]) ∧ ((g && meetOk (shrP P Q) allP) = true → IvW (meetZ (shrP P Q) allP) t ∧ U64s w' old tA ta t.l0 ∧ U64s w' old tB tb t.l1 ∧ nn = G.pn + 1 ∧ IvsAt w' old FF ff (fmOf (constL G.pn (meetZ (shrP P Q) allP))) ∧ NewA w.heap.size FF) ∧ BoxE w' lk (lkL G (markF (markF m 4 z) 2 (g && !keepIn (shrP P Q) allP))) ∧ w.grownBy w' (some lk) := by
 exact lother_sh hk hd ip gp iq gq u1 u2 u3 u4 hz hg gr (.inr ⟨rfl, rfl⟩) fun W v1 v2 v3 v4 => iop_shr (w := W) ip gp iq gq v1 v2 v3 v4 hg
theorem c8_grow {l : Nat} {z : Value} (hs : (C6 W g a0 a1 a2 a3 a4 a5) ∧ W.cell? ⟨l, 1, none⟩ = some y ∧ W.cell? ⟨b, o + N, none⟩ = some z) (hg : W.grownBy V (some r)) (h1 : r ≠ g) (h2 : r ≠ l ∨ V.cell? ⟨l, 1, none⟩ = some y) (h3 : r ≠ b) : (C6 V g a0 a1 a2 a3 a4 a5) ∧ V.cell? ⟨l, 1, none⟩ = some y ∧ V.cell? ⟨b, o + N, none⟩ = some z := by
 have k : ∀ x o v, r ≠ x → W.cell? ⟨x, o, none⟩ = some v → V.cell? ⟨x, o, none⟩ = some v := fun x o v hx hv => (World.cell?_of_block (w := W) (a := ⟨x, o, none⟩) (hg.block x (lt_of_cell hv) (fun e => by injection e with e; exact hx e.symm))).trans hv
 exact ⟨⟨k _ _ _ h1 hs.1.1, k _ _ _ h1 hs.1.2.1, k _ _ _ h1 hs.1.2.2.1, k _ _ _ h1 hs.1.2.2.2.1, k _ _ _ h1 hs.1.2.2.2.2.1, k _ _ _ h1 hs.1.2.2.2.2.2⟩, h2.elim (fun h => k _ _ _ h hs.2.1) id, k _ _ _ h3 hs.2.2⟩
theorem grown_set6 (W : World) (g : Nat) (x0 x1 x2 x3 x4 x5 : Value) : W.grownBy ((((((W.setCell ⟨g, 0, none⟩ x0).setCell ⟨g, 1, none⟩ x1).setCell ⟨g, 2, none⟩ x2).setCell ⟨g, 3, none⟩ x3).setCell ⟨g, 4, none⟩ x4).setCell ⟨g, 5, none⟩ x5) (some g) :=
 ((((((grown_set W g 0 x0).trans (grown_set _ g 1 x1)).trans (grown_set _ g 2 x2)).trans (grown_set _ g 3 x3)).trans (grown_set _ g 4 x4)).trans (grown_set _ g 5 x5))
theorem c8_keep {l : Nat} {z : Value} (hs : (C6 W g a0 a1 a2 a3 a4 a5) ∧ W.cell? ⟨l, 1, none⟩ = some y ∧ W.cell? ⟨b, o + N, none⟩ = some z) (hb : Below W.heap.size W V) : (C6 V g a0 a1 a2 a3 a4 a5) ∧ V.cell? ⟨l, 1, none⟩ = some y ∧ V.cell? ⟨b, o + N, none⟩ = some z :=
 ⟨⟨keepC hb hs.1.1, keepC hb hs.1.2.1, keepC hb hs.1.2.2.1, keepC hb hs.1.2.2.2.1, keepC hb hs.1.2.2.2.2.1, keepC hb hs.1.2.2.2.2.2⟩, keepC hb hs.2.1, keepC hb hs.2.2⟩
theorem c8_al {l : Nat} {z : Value} {ob : Obj} (e : V = W.alloc ob) (hs : (C6 W g a0 a1 a2 a3 a4 a5) ∧ W.cell? ⟨l, 1, none⟩ = some y ∧ W.cell? ⟨b, o + N, none⟩ = some z) : (C6 V g a0 a1 a2 a3 a4 a5) ∧ V.cell? ⟨l, 1, none⟩ = some y ∧ V.cell? ⟨b, o + N, none⟩ = some z := by
 subst e
 exact c8_keep hs bal_
theorem c8_dr {l : Nat} {z : Value} (e : V = W.drew) (hs : (C6 W g a0 a1 a2 a3 a4 a5) ∧ W.cell? ⟨l, 1, none⟩ = some y ∧ W.cell? ⟨b, o + N, none⟩ = some z) : (C6 V g a0 a1 a2 a3 a4 a5) ∧ V.cell? ⟨l, 1, none⟩ = some y ∧ V.cell? ⟨b, o + N, none⟩ = some z := by
 subst e
 exact c8_keep hs bdr_
theorem c8_st6 {l : Nat} {z : Value} (e : V = (((((W.setCell ⟨r, 0, none⟩ x0).setCell ⟨r, 1, none⟩ x1).setCell ⟨r, 2, none⟩ x2).setCell ⟨r, 3, none⟩ x3).setCell ⟨r, 4, none⟩ x4).setCell ⟨r, 5, none⟩ x5) (h1 : r ≠ g) (h2 : r ≠ l) (h3 : r ≠ b) (hs : (C6 W g a0 a1 a2 a3 a4 a5) ∧ W.cell? ⟨l, 1, none⟩ = some y ∧ W.cell? ⟨b, o + N, none⟩ = some z) : (C6 V g a0 a1 a2 a3 a4 a5) ∧ V.cell? ⟨l, 1, none⟩ = some y ∧ V.cell? ⟨b, o + N, none⟩ = some z := by
 subst e
 exact c8_grow hs (grown_set6 W r x0 x1 x2 x3 x4 x5) h1 (.inl h2) h3
theorem lload_any {w : World} {bS oS : Nat} {G : LkG} {m : Nat → Bool} {p : Iv} (hk : BoxE w lk (lkL G m)) (hd : G.pn ≤ 63) (ip : IvW P p) (gp : IvN 8 P.1 P.2) (u1 : U64s w Z1 A a p.l0) (u2 : U64s w Z2 B b p.l1) (hS : G.Aa = some ⟨bS, oS, none⟩) (hN : N < G.na) (hb1 : bS ≠ lk) (hb2 : bS < w.heap.size) (hc : w.cell? ⟨bS, oS + N, none⟩ = some (.int .i64 sz)) (hz : 1 ≤ sz ∧ sz ≤ 16) :
  Calls Tryz.prog 80 #[.pointer (some ⟨lk, 0, none⟩), .int .i64 (N : Int), .agg #[.bool p.n0, .bool p.s0, .slice A p.l0.length a, .bool p.n1, .bool p.s1, .slice B p.l1.length b, .slice FA L fa]] w fun e w' => ∃ (t : Iv) (tA : Option Addr) (ta : Nat) (tB : Option Addr) (tb : Nat) (FF : Option Addr) (ff : Nat), e = .returned (.tuple #[.agg #[.bool t.n0, .bool t.s0, .slice tA t.l0.length ta, .bool t.n1, .bool t.s1, .slice tB t.l1.length tb, .slice FF (G.pn + 1) ff], .bool (meetOk P (0, sz - 1))]) ∧ IvW allP t ∧ U64s w' old tA ta t.l0 ∧ U64s w' old tB tb t.l1 ∧ IvsAt w' old FF ff (fmOf (constL G.pn allP)) ∧ NewA w.heap.size FF ∧ BoxE w' lk (lkL G (markF m 5 (!keepIn P (0, sz - 1)))) ∧ w.grownBy w' (some lk) := by
 obtain ⟨C, KA, Q, Kg, Kh, Ki⟩ := al2 w [.bool p.n0, .bool p.s0, .slice A p.l0.length a, .bool p.n1, .bool p.s1, .slice B p.l1.length b, .slice FA L fa] 85 [.bool false, .bool false, .slice none 0 0, .bool false, .bool false, .slice none 0 0, .slice none 0 0] 85
 obtain ⟨J, HR, HZ, Ka, HB, Kb⟩ := hid6 Kg Kh Ki hk.b.lt Q (hk.below Q)
 obtain ⟨q, hq⟩ : ∃ r, IvW (0, sz - 1) r := ⟨_, IvW.mk _⟩
 obtain ⟨al, H⟩ : ∃ r, IvW allP r := ⟨_, IvW.mk _⟩
 obtain ⟨Kj, HU⟩ := hid2 (fun W : World => lbetween_r (w := W) hq (by omega) (by omega) (by omega)) (And.intro (u1.below Q) (u2.below Q))
 have y := fun (W : World) (E G' : Option Addr) (e f : Nat) (h : Below C.heap.size C W) (D : U64s W old E e q.l0) (F : U64s W old G' f q.l1) => lkeep_any (r := 5) (ri := 5) (Kb.out.below h) (by omega) rfl ip (gp.up (by omega)) hq (iv_n (by omega) (by omega) (by omega) (by omega)) (HU.out.1.below h) (HU.out.2.below h) D F
 obtain ⟨gM, Kc⟩ : ∃ x, meetOk P (0, sz - 1) = x := ⟨_, rfl⟩
 obtain ⟨m', Kd⟩ : ∃ x, markF m 5 (!keepIn P (0, sz - 1)) = x := ⟨_, rfl⟩
 rw [Kc, Kd] at y
 rw [Kc, Kd]
 obtain ⟨Ke, Kk, Kl⟩ := hid3 y (fun W : World => lall_r (w := W) H) (fun (W : World) (E G' : Option Addr) (e f : Nat) (h : W.cell? ⟨lk, 6, none⟩ = some (.slice G.PA G.pn G.pc)) (D : U64s W old E e al.l0) (F : U64s W old G' f al.l1) => lconstant_r (w := W) h hd H allP_n (by omega) D F)
 have S : (C6 C w.heap.size (.bool p.n0) (.bool p.s0) (.slice A p.l0.length a) (.bool p.n1) (.bool p.s1) (.slice B p.l1.length b)) ∧ C.cell? ⟨lk, 1, none⟩ = some (.slice (some ⟨bS, oS, none⟩) G.na G.ca) ∧ C.cell? ⟨bS, oS + N, none⟩ = some (.int .i64 sz) := ⟨⟨J.out.b.c 0 _ rfl, J.out.b.c 1 _ rfl, J.out.b.c 2 _ rfl, J.out.b.c 3 _ rfl, J.out.b.c 4 _ rfl, J.out.b.c 5 _ rfl⟩, by rw [← hS]; exact Kb.out.b.c 1 _ rfl, keepC Q hc⟩
 have Kx : IntKind.i64.wrap (sz - 1) = sz - 1 := by rw [IntKind.wrap_i64]; omega
 have KL : (0 : Int) ≤ (N : Int) := by omega
 have KM : (N : Int) < (G.na : Int) := by omega
 obtain ⟨KB, Km, KC⟩ := hid3 H (Ne.symm hb1) hb2
 clear Kg Kh Ki
 clear hb1 hb2 hk hd ip gp u1 u2 hc hz hq y Kc Kd H Q
 go_enter Tryz.func80, Tryz.ntmps80
 go_upto_region 1 with fail
 clear KA
 go_cut [9] (fun s9 wx => s9 = .bool gM ∧ BoxE wx lk (lkL G m') ∧ C.grownBy wx (some lk))
 case first =>
  have M := c8_keep S bdr_
  have Ky := hid (show bS < C.heap.size from by have := HB.out.size; have := KC.out; omega)
  have KN := HZ.out
  have KO := Ka.out
  have KP := Ky.out
  go_region_held3 (fun w' => (C6 w' w.heap.size (.bool p.n0) (.bool p.s0) (.slice A p.l0.length a) (.bool p.n1) (.bool p.s1) (.slice B p.l1.length b)) ∧ w'.cell? ⟨lk, 1, none⟩ = some (.slice (some ⟨bS, oS, none⟩) G.na G.ca) ∧ w'.cell? ⟨bS, oS + N, none⟩ = some (.int .i64 sz))
   (((repeat' (first | with_reducible apply c8_al rfl | with_reducible apply c8_st6 rfl)) <;> (first | with_reducible exact M | (with_reducible apply c8_dr rfl; (repeat' (with_reducible apply c8_al rfl)); with_reducible exact S) | omega)))
   (((first
     | (go_at_call 38; with_reducible refine (Kj.out _).mono ?_; rintro e wa ⟨E0, e1, G0, e2, rfl, D, F, hc⟩; first
       | (have I : Below C.heap.size C wa := from_ ((Below.refl C.heap.size C).drew) hc; have T := c8_keep M hc)
       | (have I : Below C.heap.size C wa := from_ (((Below.refl C.heap.size C).alloc (Nat.le_refl _) _).drew) hc; have T := c8_keep (c8_keep (c8_keep S bal_) bdr_) hc; have Kz := (Box6.newB C (.bool false) (.bool false) (.slice none 0 0) (.bool false) (.bool false) (.slice none 0 0) 39).below hc))
     | (go_at_call 122; first
       | (with_reducible refine (Ke.out _ _ _ _ _ I (D.mono (le_old _)) (F.mono (le_old _))).mono ?_; rintro e U ⟨u, V, X, Y, Z, rfl, hu, R, K⟩; have d := (grown_any (r := some lk) I).trans K; have T := c8_grow M K (by omega) (.inr (by rw [← hS]; exact R.b.c 1 _ rfl)) Km.out; try (obtain ⟨c0, c1, c2, c3, c4, c5, KD, fz1, KE, KF, KG, KH, _⟩ := Kz.keptR K (fun e => by have := I.size; injection e; omega)))
       | (have H := (Below.refl wa.heap.size wa).alloc (Nat.le_refl _) (.cells #[.bool false, .bool false, .slice none 0 0, .bool false, .bool false, .slice none 0 0] 39); with_reducible refine (Ke.out _ _ _ _ _ (from_ I H) ((D.below H).mono (le_old _)) ((F.below H).mono (le_old _))).mono ?_; rintro e U ⟨u, V, X, Y, Z, rfl, hu, R, K⟩; have d := (grown_any (r := some lk) (from_ I H)).trans K; have T := c8_grow (c8_keep M H) K (by omega) (.inr (by rw [← hS]; exact R.b.c 1 _ rfl)) Km.out; obtain ⟨c0, c1, c2, c3, c4, c5, KD, fz1, KE, KF, KG, KH, _⟩ := (Box6.new wa (.bool false) (.bool false) (.slice none 0 0) (.bool false) (.bool false) (.slice none 0 0) 39).keptR K (fun e => by have := I.size; injection e; omega)))); replace M := T; clear T; have KQ := I.size))
  all_goals
   clear M S D F
   go_wp2_with fail
   go_meet
  · exact ⟨rfl, R.alloc _, grown_bel d bal_⟩
  · exact ⟨rfl, R.kept (grown_set6 U wa.heap.size (.bool u.n0) (.bool u.s0) (.slice V u.l0.length X) (.bool u.n1) (.bool u.s1) (.slice Y u.l1.length Z)) (fun e => by injection e; omega), grown_own d (grown_set6 U wa.heap.size (.bool u.n0) (.bool u.s0) (.slice V u.l0.length X) (.bool u.n1) (.bool u.s1) (.slice Y u.l1.length Z)) (by omega)⟩
  · exact ⟨rfl, R.kept (grown_set6 U C.heap.size (.bool u.n0) (.bool u.s0) (.slice V u.l0.length X) (.bool u.n1) (.bool u.s1) (.slice Y u.l1.length Z)) (fun e => by injection e; omega), grown_own d (grown_set6 U C.heap.size (.bool u.n0) (.bool u.s0) (.slice V u.l0.length X) (.bool u.n1) (.bool u.s1) (.slice Y u.l1.length Z)) (by omega)⟩
 case rest =>
  obtain ⟨rfl, Kn, s⟩ := hcut
  obtain ⟨W4, KI⟩ : ∃ W, W = wc := ⟨_, rfl⟩
  subst KI
  obtain ⟨Kf, Ko, Kp, Kq⟩ := hid4 Kn ((grown_any (r := some lk) HB.out).trans s) (HR.out.kept s (fun e => by have := Ka.out; injection e; omega)) (Nat.le_trans HZ.out s.size)
  clear Kn s Ke Kj HU J HR HZ Kb HB S Kx
  go_wp2_with fail
  refine (Kk.out _).mono ?_
  rintro e w5 ⟨tA, ta, tB, tb, rfl, D, F, hc⟩
  obtain ⟨Kr, Ks, Kt, Kv, Kw, V1⟩ := hid6 (Kl.out w5 tA tB ta tb ((Kf.out.below hc).b.c 6 _ rfl) (D.mono (le_old _)) (F.mono (le_old _))) (Kf.out.below hc) (grown_bel Ko.out hc) (Kp.out.below hc) (Nat.le_trans Kq.out hc.size) (D.mono (le_old _))
  have V2 := hid (F.mono (le_old _))
  clear D F hc Kf Ko Kp Kq Kl Kk
  go_wp2_with fail
  refine Kr.out.mono ?_
  rintro e w7 ⟨FF, ff, rfl, hf, hn, hc⟩
  have O := ((((((grown_set w7 (w.heap.size + 1) 0 (.bool al.n0)).trans (grown_set _ (w.heap.size + 1) 1 (.bool al.s0))).trans (grown_set _ (w.heap.size + 1) 2 (.slice tA al.l0.length ta))).trans (grown_set _ (w.heap.size + 1) 3 (.bool al.n1))).trans (grown_set _ (w.heap.size + 1) 4 (.bool al.s1))).trans (grown_set _ (w.heap.size + 1) 5 (.slice tB al.l1.length tb))).trans (grown_set _ (w.heap.size + 1) 6 (.slice FF (G.pn + 1) ff))
  have i := Kv.out.below hc
  have HP := hid (((((((i.b.set 0 (.bool al.n0) rfl).set 1 (.bool al.s0) rfl).set 2 (.slice tA al.l0.length ta) rfl).set 3 (.bool al.n1) rfl).set 4 (.bool al.s1) rfl).set 5 (.slice tB al.l1.length tb) rfl).set 6 (.slice FF (G.pn + 1) ff) rfl)
  have j := i.noU (fun v hv n e => by subst e; simp at hv)
  have z : ∀ b o, FF = some ⟨b, o, none⟩ → w.heap.size + 2 ≤ b := fun b o e => by have h1 := hn b o e; have := Kw.out; omega
  obtain ⟨KJ, KK, U1, U2, U3, HN⟩ := hid6 (grown_own (grown_bel Kt.out hc) O (by omega)) ((Ks.out.below hc).kept O (fun e => by have := Ka.out; injection e; omega)) ((V1.out.below hc).keepE j O) ((V2.out.below hc).keepE j O) (hf.keepE (g := w.heap.size + 1) (fun b o e => by have h1 := z b o e; omega) j O) (show NewA w.heap.size FF from fun b o e => by have h1 := z b o e; omega)
  obtain ⟨⟨r0, r1, r2, r3, r4, r5, r6⟩, q0, q1, q2, q3, q4, q5, q6⟩ := i.b.all7
  clear hc O hf hn z i j V1 V2 Kv Ks Kt Kr Kw
  go_wp2
  refine bodyPost_ret (res_lined2 rfl _ (w.heap.size + 1) rfl HP.out) rfl ?_
  exact ⟨al, tA, ta, tB, tb, FF, ff, rfl, KB.out, U1.out, U2.out, U3.out, HN.out, KK.out, KJ.out⟩
def IdxI (pk : Nat → Int) (n : Nat) (x r : Int) : Prop := (∃ j : Nat, j < n ∧ pk j = x ∧ (∀ i, i < j → pk i ≠ x) ∧ r = (j : Int)) ∨ ((∀ j, j < n → pk j ≠ x) ∧ r = -1)
theorem sindex_x {w : World} {n : Nat} {pk : Nat → Int} {x r : Int} (ha : RowK 1 w A c n (fun j _ => .int .i64 (pk j))) (hr : IdxI pk n x r) :
  Calls Tryz.prog 78 #[.slice A n c, .int .i64 x] w fun e w' => e = .returned (.int .i64 r) ∧ w = w' := by
 have H := ha.len
 obtain ⟨G, C⟩ := hid2 ha hr
 clear ha hr
 go_enter Tryz.func78, Tryz.ntmps78
 go_wp2
 go_loopw [8] (fun i wr => ∃ k : Nat, k ≤ n ∧ i = .int .i64 k ∧ wr = w ∧ Hid (∀ j, j < k → pk j ≠ x)) (fun i _ => n - (intOf i).toNat)
 case atStart => exact ⟨0, Nat.zero_le _, rfl, rfl, fun j h => absurd h (by omega)⟩
 case round =>
  obtain ⟨k, I, rfl, rfl, B⟩ := hrel
  by_cases hlt : k < n
  · obtain ⟨b, o, rfl, J, K⟩ := G.out.at1 hlt
    by_cases hx : pk k = x
    · have D : Hid (r = (k : Int)) := by
       refine hid ?_
       rcases C.out with ⟨j, hj, h1, h2, rfl⟩ | ⟨h1, _⟩
       · rcases Nat.lt_trichotomy j k with h | h | h
         · exact absurd h1 (B.out j h)
         · rw [h]
         · exact absurd hx (h2 k h)
       · exact absurd hx (h1 k hlt)
      have E : (x == pk k) = true := by rw [hx]; exact beq_self_eq_true _
      clear B C
      go_wp2
      go_ret
      rw [D.out]
      exact ⟨rfl, rfl⟩
    · have E : (x == pk k) = false := beq_false_of_ne (fun e => hx e.symm)
      have F : Hid (∀ j, j < k + 1 → pk j ≠ x) := fun j hj => by
       rcases Nat.lt_or_ge j k with h1 | h1
       · exact B.out j h1
       · obtain rfl : j = k := by omega
         exact hx
      clear B hx
      go_wp2
      go_roundw
      case rel => exact ⟨k + 1, by omega, by go_num, by first | rfl | trivial, F⟩
      case measure => simp [intOf]; omega
  · obtain rfl : k = n := by omega
    have D : Hid (r = -1) := by
     refine hid ?_
     rcases C.out with ⟨j, hj, h1, h2, rfl⟩ | ⟨_, h1⟩
     · exact absurd h1 (B.out j hj)
     · exact h1
    clear B C
    go_wp2
    go_ret
    rw [D.out]
    exact ⟨rfl, rfl⟩
theorem lexpr_varP {w : World} {pk : Nat → Int} {nm : ByteArray} (hk : BoxL w lk [g0, g1, g2, g3, g4, g5, .slice pA pn pc, .slice (some ⟨bb, bo, none⟩) bn bc, .bool w0, .bool w1, .bool w2, .bool w3, .bool w4, .bool w5]) (hd : pn ≤ 63) (hb : N < bn) (hbc : bn ≤ 9223372036854775807) (hp : RowK 1 w pA pc pn (fun j _ => .int .i64 (pk j))) (hj : j < pn) (hix : IdxI pk pn (N : Int) (j : Int))
  (b0 : w.cell? ⟨bb, bo + N * 6, none⟩ = some (.bool q.n0)) (b1 : w.cell? ⟨bb, bo + N * 6 + 1, none⟩ = some (.bool q.s0)) (b2 : w.cell? ⟨bb, bo + N * 6 + 2, none⟩ = some (.slice C q.l0.length c)) (b3 : w.cell? ⟨bb, bo + N * 6 + 3, none⟩ = some (.bool q.n1)) (b4 : w.cell? ⟨bb, bo + N * 6 + 4, none⟩ = some (.bool q.s1)) (b5 : w.cell? ⟨bb, bo + N * 6 + 5, none⟩ = some (.slice D q.l1.length d)) :
  Calls Tryz.prog 31 #[.pointer (some ⟨lk, 0, none⟩), .agg #[.int .u8 2, .string nm, .int .i64 (N : Int), .slice AX 0 cx, .int .i64 pp]] w fun e w' => ∃ F f, e = .returned (.tuple #[.agg #[.bool q.n0, .bool q.s0, .slice C q.l0.length c, .bool q.n1, .bool q.s1, .slice D q.l1.length d, .slice F (pn + 1) f], .bool true]) ∧ IvsAt w' (new w.heap.size) F f (fmOf (varL pn (j + 1))) ∧ NewA w.heap.size F ∧ Below w.heap.size w w' := by
 obtain ⟨E, Kb, G, V, X, Z, a⟩ := al3 w [.int .u8 2, .string nm, .int .i64 (N : Int), .slice AX 0 cx, .int .i64 pp] 29 [.bool false, .bool false, .slice none 0 0, .bool false, .bool false, .slice none 0 0, .slice none 0 0] 85 [.bool false, .bool false, .slice none 0 0, .bool false, .bool false, .slice none 0 0, .slice none 0 0, .bool false, .bool false, .slice none 0 0, .bool false, .bool false, .slice none 0 0, .slice none 0 0] 129
 obtain ⟨H, L, HL⟩ := hid3 V.b X.b Z.b
 have M := a
 obtain ⟨I, g, m⟩ := hid3 M G (hk.below G)
 have O : lk < w.heap.size := hk.lt
 have Kd := hid O
 have P := hp.below G
 have Q := hid (fun q => sindex_x (w := E.drewN q) (P.below (below_drewN' (Below.refl E.heap.size E) q)) hix)
 have R : Hid (∀ W : World, Calls Tryz.prog 79 #[.int .i64 (pn : Int), .int .i64 ((j : Int) + 1)] W fun e w' => ∃ Av cv, e = .returned (.tuple #[.slice Av (pn + 1) cv, .int .i64 0]) ∧ IvsAt w' (new W.heap.size) Av cv (fmOf (varL pn (j + 1))) ∧ Below W.heap.size W w' ∧ NewA W.heap.size Av) := fun W => lvar_goodN (d := pn) (i := j + 1) hd (by omega) (by omega)
 have S := hid (And.intro (keepC G b0) (And.intro (keepC G b1) (And.intro (keepC G b2) (And.intro (keepC G b3) (And.intro (keepC G b4) (keepC G b5))))))
 have Ke : (N : Int) < (bn : Int) := by omega
 have Kf : (0 : Int) ≤ (N : Int) := by omega
 have Kg : (0 : Int) ≤ (j : Int) := by omega
 have Kh : decide ((j : Int) < 0) = false := decide_eq_false (by omega)
 have Ki : IntKind.i64.wrap ((j : Int) + 1) = (j : Int) + 1 := by rw [IntKind.wrap_i64]; omega
 have v := H.out.c 0 _ rfl
 have x := H.out.c 2 _ rfl
 have y := H.out.c 3 _ rfl
 have z := m.out.c 6 _ rfl
 clear V X Z a
 clear G hk hd hp hj hix b0 b1 b2 b3 b4 b5 M O P
 go_enter Tryz.func31, Tryz.ntmps31
 go_wp2
 refine wp_loop_rounds 1 ?_
 rw [rounds_succ]
 go_wp2
 first | go_quiet ((go_at_call 78; exact Calls.quiet_of_same ((Q.out _).mono fun e w' h => ⟨h.1, h.2.symm⟩))) | fail
 go_wp2_with fail
 refine (R.out _).mono ?_
 rintro e w2 ⟨F, f, rfl, r, s, u⟩
 have B : Below E.heap.size E w2 := from_ (below_drewN' (Below.refl E.heap.size E) _) s
 have J : NewA E.heap.size F := u
 have T := m.out.below B
 have l7 := T.c 7 _ rfl
 have Kj := (H.out.below B).c 2 _ rfl
 obtain ⟨b0, b1, b2, b3, b4, b5⟩ := S.out
 replace b0 := keepC B b0
 replace b1 := keepC B b1
 replace b2 := keepC B b2
 replace b3 := keepC B b3
 replace b4 := keepC B b4
 replace b5 := keepC B b5
 have K := grown_set7 w2 (w.heap.size + 1) (.bool q.n0) (.bool q.s0) (.slice C q.l0.length c) (.bool q.n1) (.bool q.s1) (.slice D q.l1.length d) (.slice F (pn + 1) f)
 have HP := hid ((L.out.below B).put7 (.bool q.n0) (.bool q.s0) (.slice C q.l0.length c) (.bool q.n1) (.bool q.s1) (.slice D q.l1.length d) (.slice F (pn + 1) f)).drew
 have Ka := hid ((from_ g.out B).grown K (by have := g.out.size; have := B.size; omega) (fun k e => by injection e; omega)).drew
 have U : IvsAt w2 (new E.heap.size) F f (fmOf (varL pn (j + 1))) := r
 obtain ⟨U3, HN, Kc⟩ := hid3 (((U.keepN J K (fun h => by have h' : E.heap.size ≤ w.heap.size + 1 := h; have := I.out; omega) (by have := I.out; omega)).mono (Y := new w.heap.size) (new_le (by have := I.out; omega))).below bdr_) (show NewA w.heap.size F from fun b o e => by have h1 := J b o e; have := I.out; omega) (L.out.below B)
 obtain ⟨⟨r0, r1, r2, r3, r4, r5, r6⟩, q0, q1, q2, q3, q4, q5, q6⟩ := Kc.out.all7
 clear B s u K r U J L T v x y z Kb Q R S
 go_wp2
 go_region
 all_goals
  go_wp2
  refine bodyPost_ret (res_lined2 rfl _ (w.heap.size + 1) rfl HP.out) rfl ?_
  exact ⟨_, _, rfl, U3.out, HN.out, Ka.out⟩
theorem lexpr_varN {w : World} {pk : Nat → Int} {nm : ByteArray} (hk : BoxL w lk [g0, g1, g2, g3, g4, g5, .slice pA pn pc, .slice (some ⟨bb, bo, none⟩) bn bc, .bool w0, .bool w1, .bool w2, .bool w3, .bool w4, .bool w5]) (hd : pn ≤ 63) (hb : N < bn) (hbc : bn ≤ 9223372036854775807) (hp : RowK 1 w pA pc pn (fun j _ => .int .i64 (pk j))) (hix : IdxI pk pn (N : Int) (-1)) (hq : IvW Q q) (gq : IvN 8 Q.1 Q.2) {Zc Zd : Zone} (u1 : U64s w Zc C c q.l0) (u2 : U64s w Zd D d q.l1)
  (b0 : w.cell? ⟨bb, bo + N * 6, none⟩ = some (.bool q.n0)) (b1 : w.cell? ⟨bb, bo + N * 6 + 1, none⟩ = some (.bool q.s0)) (b2 : w.cell? ⟨bb, bo + N * 6 + 2, none⟩ = some (.slice C q.l0.length c)) (b3 : w.cell? ⟨bb, bo + N * 6 + 3, none⟩ = some (.bool q.n1)) (b4 : w.cell? ⟨bb, bo + N * 6 + 4, none⟩ = some (.bool q.s1)) (b5 : w.cell? ⟨bb, bo + N * 6 + 5, none⟩ = some (.slice D q.l1.length d)) :
  Calls Tryz.prog 31 #[.pointer (some ⟨lk, 0, none⟩), .agg #[.int .u8 2, .string nm, .int .i64 (N : Int), .slice AX 0 cx, .int .i64 pp]] w fun e w' => ∃ F f, e = .returned (.tuple #[.agg #[.bool q.n0, .bool q.s0, .slice C q.l0.length c, .bool q.n1, .bool q.s1, .slice D q.l1.length d, .slice F (pn + 1) f], .bool true]) ∧ IvsAt w' (new w.heap.size) F f (fmOf (constL pn Q)) ∧ NewA w.heap.size F ∧ Below w.heap.size w w' := by
 obtain ⟨G, Kc, E, X, Z, a, g⟩ := al3 w [.int .u8 2, .string nm, .int .i64 (N : Int), .slice AX 0 cx, .int .i64 pp] 29 [.bool false, .bool false, .slice none 0 0, .bool false, .bool false, .slice none 0 0, .slice none 0 0] 85 [.bool false, .bool false, .slice none 0 0, .bool false, .bool false, .slice none 0 0, .slice none 0 0, .bool false, .bool false, .slice none 0 0, .bool false, .bool false, .slice none 0 0, .slice none 0 0] 129
 obtain ⟨I, i, HL⟩ := hid3 X.b Z.b a.b
 have O := g
 obtain ⟨m, r, J⟩ := hid3 O E (hk.below E)
 have P : lk < w.heap.size := hk.lt
 have Kf := hid P
 have R := hp.below E
 obtain ⟨s, u, v⟩ := hid3 (fun q => sindex_x (w := G.drewN q) (R.below (below_drewN' (Below.refl G.heap.size G) q)) hix) (fun (W : World) (h : Below G.heap.size G W) => lconstant_r (w := W) ((J.out.below h).c 6 _ rfl) hd hq gq (by omega) ((u1.below E).below h) ((u2.below E).below h)) (And.intro (keepC E b0) (And.intro (keepC E b1) (And.intro (keepC E b2) (And.intro (keepC E b3) (And.intro (keepC E b4) (keepC E b5))))))
 have Kg : (N : Int) < (bn : Int) := by omega
 have Kh : (0 : Int) ≤ (N : Int) := by omega
 have Ki : decide ((-1 : Int) < 0) = true := by decide
 have x0 := I.out.c 0 _ rfl
 have x2 := I.out.c 2 _ rfl
 have x3 := I.out.c 3 _ rfl
 have l6 := J.out.c 6 _ rfl
 have S := u1.below E
 have T := u2.below E
 clear X Z a g
 clear E hk hd hp hix hq gq u1 u2 b0 b1 b2 b3 b4 b5 O P R
 go_enter Tryz.func31, Tryz.ntmps31
 go_wp2
 refine wp_loop_rounds 1 ?_
 rw [rounds_succ]
 go_wp2
 first | go_quiet ((go_at_call 78; exact Calls.quiet_of_same ((s.out _).mono fun e w' h => ⟨h.1, h.2.symm⟩))) | fail
 go_upto_region 14 with fail
 have B : Below G.heap.size G (G.drewN nq) := below_drewN' (Below.refl G.heap.size G) _
 generalize G.drewN nq = W2 at *
 obtain ⟨Kd, x, y, z⟩ := hid4 (J.out.below B) (from_ r.out B) (i.out.below B) (u.out _ (from_ B (Below.refl W2.heap.size W2).drew))
 have l7 := Kd.out.c 7 _ rfl
 have Kj := (I.out.below B).c 2 _ rfl
 obtain ⟨b0, b1, b2, b3, b4, b5⟩ := v.out
 replace b0 := keepC B b0
 replace b1 := keepC B b1
 replace b2 := keepC B b2
 replace b3 := keepC B b3
 replace b4 := keepC B b4
 replace b5 := keepC B b5
 obtain ⟨K, Kk⟩ := hid2 (Nat.le_trans m.out B.size) (And.intro (S.below B) (T.below B))
 clear x0 x2 x3 l6 Kc s v u J r i B S T m
 first | go_region_with ((go_at_call 77; (with_reducible refine z.out.mono ?_); rintro e w5 ⟨F, f, rfl, hf, Ka, Kb⟩; have H : Below W2.heap.size W2 w5 := from_ ((Below.refl W2.heap.size W2).drew) Kb; have L : NewA W2.heap.size F := Ka; have U : IvsAt w5 (new W2.heap.size) F f (fmOf (constL pn Q)) := hf; have V := hid (y.out.below H); obtain ⟨⟨r0, r1, r2, r3, r4, r5, r6⟩, q0, q1, q2, q3, q4, q5, q6⟩ := V.out.all7)) | fail
 all_goals
  have M := grown_set7 w5 (w.heap.size + 1) (.bool q.n0) (.bool q.s0) (.slice C q.l0.length c) (.bool q.n1) (.bool q.s1) (.slice D q.l1.length d) (.slice F (pn + 1) f)
  obtain ⟨HP, Ke, U3, HN⟩ := hid4 (V.out.put7 (.bool q.n0) (.bool q.s0) (.slice C q.l0.length c) (.bool q.n1) (.bool q.s1) (.slice D q.l1.length d) (.slice F (pn + 1) f)) ((from_ x.out H).grown M (by have := x.out.size; have := H.size; omega) (fun k e => by injection e; omega)) ((U.keepN L M (fun h => by have h' : W2.heap.size ≤ w.heap.size + 1 := h; have := K.out; omega) (by have := K.out; omega)).mono (Y := new w.heap.size) (new_le (by have := K.out; omega))) (show NewA w.heap.size F from fun b o e => by have h1 := L b o e; have := K.out; omega)
  clear H Kb Ka M hf U L y z r0 r1 r2 r3 r4 r5 r6 q0 q1 q2 q3 q4 q5 q6
  go_wp2
  refine bodyPost_ret (res_lined2 rfl _ (w.heap.size + 1) rfl HP.out) rfl ?_
  exact ⟨_, _, rfl, U3.out, HN.out, Ke.out⟩
structure LR where
 ok : Bool
 P : IvP
 fs : List IvP
 mrk : Nat → Bool
def orF (m r : Nat → Bool) : Nat → Bool := fun i => m i || r i
def LP (lk : Nat) (G : LkG) (m : Nat → Bool) (R : LR) (w : World) (e : Ending) (w' : World) : Prop :=
 ∃ (t : Iv) (tA : Option Addr) (ta : Nat) (tB : Option Addr) (tb : Nat) (FF : Option Addr) (nn ff : Nat), e = .returned (.tuple #[.agg #[.bool t.n0, .bool t.s0, .slice tA t.l0.length ta, .bool t.n1, .bool t.s1, .slice tB t.l1.length tb, .slice FF nn ff], .bool R.ok]) ∧ (R.ok = true → IvW R.P t ∧ U64s w' old tA ta t.l0 ∧ U64s w' old tB tb t.l1 ∧ nn = R.fs.length ∧ IvsAt w' old FF ff (fmOf R.fs) ∧ NewA w.heap.size FF) ∧ BoxE w' lk (lkL G (orF m R.mrk)) ∧ w.grownBy w' (some lk)
def seqR (R1 R2 R3 : LR) : LR := if R1.ok = true then if R2.ok = true then ⟨R3.ok, R3.P, R3.fs, orF (orF R1.mrk R2.mrk) R3.mrk⟩ else ⟨false, (0, 0), [], orF R1.mrk R2.mrk⟩ else ⟨false, (0, 0), [], R1.mrk⟩
theorem orF_assoc (a b c : Nat → Bool) : orF (orF a b) c = orF a (orF b c) := by
 funext i
 simp [orF, Bool.or_assoc]
theorem grown_cellK (hg : W.grownBy V (some r)) (hc : W.cell? ⟨g, o, none⟩ = some v) (hr : r ≠ g) : V.cell? ⟨g, o, none⟩ = some v :=
 (World.cell?_of_block (w := W) (a := ⟨g, o, none⟩) (hg.block g (lt_of_cell hc) (fun e => by injection e with e; exact hr e.symm))).trans hc
theorem lexpr_two {w : World} {c2 L2 Fn : Nat} {A2 : Option Addr} {k n n1 k2 n2 p2 : Int} {nm s1 s2 : ByteArray} {G : LkG} {m : Nat → Bool} {R1 R2 R3 : LR} (hk : BoxE w lk (lkL G m)) (heb : lk ≠ eb) (i0 : w.cell? ⟨eb, eo, none⟩ = some (.int .u8 k1)) (i1 : w.cell? ⟨eb, eo + 1, none⟩ = some (.string s1)) (i2 : w.cell? ⟨eb, eo + 2, none⟩ = some (.int .i64 n1)) (i3 : w.cell? ⟨eb, eo + 3, none⟩ = some (.slice A1 L1 c1)) (i4 : w.cell? ⟨eb, eo + 4, none⟩ = some (.int .i64 p1)) (j0 : w.cell? ⟨eb, eo + 5, none⟩ = some (.int .u8 k2)) (j1 : w.cell? ⟨eb, eo + 5 + 1, none⟩ = some (.string s2)) (j2 : w.cell? ⟨eb, eo + 5 + 2, none⟩ = some (.int .i64 n2)) (j3 : w.cell? ⟨eb, eo + 5 + 3, none⟩ = some (.slice A2 L2 c2)) (j4 : w.cell? ⟨eb, eo + 5 + 4, none⟩ = some (.int .i64 p2))
  (hkd : (Fn = 81 ∧ 8 ≤ k ∧ k ≤ 11) ∨ (Fn = 82 ∧ 5 ≤ k ∧ k ≤ 7))
  (h1 : ∀ W, w.grownBy W (some lk) → BoxE W lk (lkL G m) → Calls Tryz.prog 31 #[.pointer (some ⟨lk, 0, none⟩), .agg #[.int .u8 k1, .string s1, .int .i64 n1, .slice A1 L1 c1, .int .i64 p1]] W (LP lk G m R1 W))
  (h2 : R1.ok = true → ∀ W, w.grownBy W (some lk) → BoxE W lk (lkL G (orF m R1.mrk)) → Calls Tryz.prog 31 #[.pointer (some ⟨lk, 0, none⟩), .agg #[.int .u8 k2, .string s2, .int .i64 n2, .slice A2 L2 c2, .int .i64 p2]] W (LP lk G (orF m R1.mrk) R2 W))
  (h3 : R1.ok = true → R2.ok = true → ∀ (W : World) (t u : Iv) (tA tB uA uB FF UF : Option Addr) (ta tb ua ub ff uf nn un : Nat), w.grownBy W (some lk) → BoxE W lk (lkL G (orF (orF m R1.mrk) R2.mrk)) → (IvW R1.P t ∧ U64s W old tA ta t.l0 ∧ U64s W old tB tb t.l1 ∧ nn = R1.fs.length ∧ IvsAt W old FF ff (fmOf R1.fs)) → (IvW R2.P u ∧ U64s W old uA ua u.l0 ∧ U64s W old uB ub u.l1 ∧ un = R2.fs.length ∧ IvsAt W old UF uf (fmOf R2.fs)) → Calls Tryz.prog Fn #[.pointer (some ⟨lk, 0, none⟩), .int .u8 k, .agg #[.bool t.n0, .bool t.s0, .slice tA t.l0.length ta, .bool t.n1, .bool t.s1, .slice tB t.l1.length tb, .slice FF nn ff], .agg #[.bool u.n0, .bool u.s0, .slice uA u.l0.length ua, .bool u.n1, .bool u.s1, .slice uB u.l1.length ub, .slice UF un uf]] W (LP lk G (orF (orF m R1.mrk) R2.mrk) R3 W)) :
  Calls Tryz.prog 31 #[.pointer (some ⟨lk, 0, none⟩), .agg #[.int .u8 k, .string nm, .int .i64 n, .slice (some ⟨eb, eo, none⟩) 2 cx, .int .i64 pp]] w (LP lk G m (seqR R1 R2 R3) w) := by
 obtain ⟨i, KZ, U, KE, KF, KG, KH⟩ := al3 w [.int .u8 k, .string nm, .int .i64 n, .slice (some ⟨eb, eo, none⟩) 2 cx, .int .i64 pp] 29 [.bool false, .bool false, .slice none 0 0, .bool false, .bool false, .slice none 0 0, .slice none 0 0] 85 [.bool false, .bool false, .slice none 0 0, .bool false, .bool false, .slice none 0 0, .slice none 0 0, .bool false, .bool false, .slice none 0 0, .bool false, .bool false, .slice none 0 0, .slice none 0 0] 129
 obtain ⟨HX, HR, HL, HZ, D, K2⟩ := hid6 KE KF KG KH hk.b.lt (show eb < w.heap.size from lt_of_cell i0)
 have X : Below i.heap.size i (i.alloc (.cells #[.int .u8 k1, .string s1, .int .i64 n1, .slice A1 L1 c1, .int .i64 p1] 29)) := (Below.refl i.heap.size i).alloc (Nat.le_refl _) _
 have Kb := from_ U X
 obtain ⟨KI, K0, KJ, KK, KL, Kj⟩ := hid6 (h1 _ (grown_any Kb) (hk.below Kb)) Kb (HX.out.below X) (HR.out.below X) (HL.out.below X) (Nat.le_trans HZ.out X.size)
 obtain ⟨V, H2, H3⟩ := hid3 (And.intro j0 (And.intro j1 (And.intro j2 (And.intro j3 j4)))) h2 h3
 have x0 := HX.out.b.c 0 _ rfl
 have x3 := HX.out.b.c 3 _ rfl
 replace i0 := keepC U i0
 replace i1 := keepC U i1
 replace i2 := keepC U i2
 replace i3 := keepC U i3
 replace i4 := keepC U i4
 obtain ⟨j, KM⟩ := hid2 heb hkd
 clear KE KF KG KH
 clear U hk j0 j1 j2 j3 j4 h1 h2 h3 X Kb HX HR HL HZ heb hkd
 go_enter Tryz.func31, Tryz.ntmps31
 go_wp2
 refine wp_loop_rounds 3 ?_
 rw [rounds_succ]
 go_wp2_with fail
 refine KI.out.mono ?_
 rintro e w3 ⟨t, tA, ta, tB, tb, FF, nn, ff, rfl, ht, KN, Y⟩
 clear x0 x3 i0 i1 i2 i3 i4 KI KZ
 have Kc := KL.out.kept Y (fun e => by have := D.out; injection e; omega)
 have Kw := KK.out.kept Y (fun e => by have := D.out; injection e; omega)
 have Kx := KJ.out.kept Y (fun e => by have := D.out; injection e; omega)
 have Ky := (grown_any (r := some lk) K0.out).trans Y
 obtain ⟨R, Kp⟩ : ∃ W, (((((((w3.setCell ⟨(w.heap.size + 2), 0, none⟩ (.bool t.n0)).setCell ⟨(w.heap.size + 2), 1, none⟩ (.bool t.s0)).setCell ⟨(w.heap.size + 2), 2, none⟩ (.slice tA t.l0.length ta)).setCell ⟨(w.heap.size + 2), 3, none⟩ (.bool t.n1)).setCell ⟨(w.heap.size + 2), 4, none⟩ (.bool t.s1)).setCell ⟨(w.heap.size + 2), 5, none⟩ (.slice tB t.l1.length tb)).setCell ⟨(w.heap.size + 2), 6, none⟩ (.slice FF nn ff)) = W := ⟨_, rfl⟩
 have B : w3.grownBy R (some (w.heap.size + 2)) := by rw [← Kp]; exact ((((((grown_set w3 (w.heap.size + 2) 0 (.bool t.n0)).trans (grown_set _ (w.heap.size + 2) 1 (.bool t.s0))).trans (grown_set _ (w.heap.size + 2) 2 (.slice tA t.l0.length ta))).trans (grown_set _ (w.heap.size + 2) 3 (.bool t.n1))).trans (grown_set _ (w.heap.size + 2) 4 (.bool t.s1))).trans (grown_set _ (w.heap.size + 2) 5 (.slice tB t.l1.length tb))).trans (grown_set _ (w.heap.size + 2) 6 (.slice FF nn ff))
 have Kl : Hid (BoxE R (w.heap.size + 2) [.bool t.n0, .bool t.s0, .slice tA t.l0.length ta, .bool t.n1, .bool t.s1, .slice tB t.l1.length tb, .slice FF nn ff, .bool false, .bool false, .slice none 0 0, .bool false, .bool false, .slice none 0 0, .slice none 0 0]) := hid (by rw [← Kp]; exact ((((((Kc.set 0 (.bool t.n0) rfl).set 1 (.bool t.s0) rfl).set 2 (.slice tA t.l0.length ta) rfl).set 3 (.bool t.n1) rfl).set 4 (.bool t.s1) rfl).set 5 (.slice tB t.l1.length tb) rfl).set 6 (.slice FF nn ff) rfl)
 obtain ⟨q, Kq, s, H, K1⟩ := hid5 (Kw.kept B (fun e => by injection e; omega)) (Kx.kept B (fun e => by injection e; omega)) (KN.kept B (fun e => by have := D.out; injection e; omega)) (grown_own Ky B (by omega)) (Nat.le_trans Kj.out (Nat.le_trans Y.size B.size))
 have Kd := Kc.noU (fun v S n e => by subst e; simp at S)
 have Ke := hid (fun h => by
  obtain ⟨J, K, L, M, N, F⟩ := ht h
  exact And.intro J (And.intro (K.keepE Kd B) (And.intro (L.keepE Kd B) (And.intro M (And.intro (N.keepE (g := w.heap.size + 2) (fun b o e => by have h1 := F b o e; have := Kj.out; omega) Kd B) F)))))
 obtain ⟨y0, y1, y2, y3, y4, y5, y6, f0, f1, f2, f3, f4, f5, f6⟩ := Kc.b.all14
 obtain ⟨⟨r0, r1, r2, r3, r4, r5, r6⟩, q0, q1, q2, q3, q4, q5, q6⟩ := q.out.b.all7
 clear Kc Kw Kx Ky B Kd ht KN Y KL KK KJ
 cases hr1 : R1.ok with
 | false =>
   have Q : seqR R1 R2 R3 = ⟨false, (0, 0), [], R1.mrk⟩ := by simp [seqR, hr1]
   have Z := hid Q
   have C := ((((((grown_set R (w.heap.size + 1) 0 (.bool false)).trans (grown_set _ (w.heap.size + 1) 1 (.bool false))).trans (grown_set _ (w.heap.size + 1) 2 (.slice none 0 0))).trans (grown_set _ (w.heap.size + 1) 3 (.bool false))).trans (grown_set _ (w.heap.size + 1) 4 (.bool false))).trans (grown_set _ (w.heap.size + 1) 5 (.slice none 0 0))).trans (grown_set _ (w.heap.size + 1) 6 (.slice none 0 0))
   obtain ⟨d, x, y⟩ := hid3 (((((((q.out.b.set 0 (.bool false) rfl).set 1 (.bool false) rfl).set 2 (.slice none 0 0) rfl).set 3 (.bool false) rfl).set 4 (.bool false) rfl).set 5 (.slice none 0 0) rfl).set 6 (.slice none 0 0) rfl) (grown_own H.out C (by omega)) (s.out.kept C (fun e => by have := D.out; injection e; omega))
   clear C Q hr1 q s H Ke Kl Kq H2 H3 V
   go_wp2
   refine bodyPost_ret (res_lined2 rfl _ (w.heap.size + 1) rfl d.out) rfl ?_
   rw [Z.out]
   exact ⟨zeroI, none, 0, none, 0, none, 0, 0, rfl, (fun h => by cases h), y.out, x.out⟩
 | true =>
   rw [hr1] at Ke
   have E : Below R.heap.size R (R.alloc (.cells #[.int .u8 k2, .string s2, .int .i64 n2, .slice A2 L2 c2, .int .i64 p2] 29)) := (Below.refl R.heap.size R).alloc (Nat.le_refl _) _
   have j0 := grown_cellK H.out V.out.1 j.out
   have j1 := grown_cellK H.out V.out.2.1 j.out
   have j2 := grown_cellK H.out V.out.2.2.1 j.out
   have j3 := grown_cellK H.out V.out.2.2.2.1 j.out
   have j4 := grown_cellK H.out V.out.2.2.2.2 j.out
   obtain ⟨KO, KP, KQ, KR, KS, KT⟩ := hid6 (H2.out hr1 _ (grown_bel H.out E) (s.out.below E)) (Kq.out.below E) (q.out.below E) (Kl.out.below E) (grown_bel H.out E) ((s.out.below E).noU lkL_noW)
   have Kz := hid (Nat.le_trans K1.out E.size)
   have KA := hid (by
    obtain ⟨J, K, L, M, N, F⟩ := Ke.out rfl
    exact And.intro J (And.intro (K.below E) (And.intro (L.below E) (And.intro M (And.intro (N.below E) F)))))
   have a := hid hr1
   clear E hr1 Kq q Kl H s Ke H2 V r0 r1 r2 r3 r4 r5 r6 q0 q1 q2 q3 q4 q5 q6
   go_wp2
   rw [rounds_succ]
   go_wp2_with fail
   refine KO.out.mono ?_
   rintro e w6 ⟨u, uA, ua, uB, ub, UF, un, uf, rfl, hu, Kr, O⟩
   clear Kp y0 y1 y2 y3 y4 y5 y6 f0 f1 f2 f3 f4 f5 f6 j0 j1 j2 j3 j4 KO
   have Kf := KR.out.kept O (fun e => by have := D.out; injection e; omega)
   have KB := KQ.out.kept O (fun e => by have := D.out; injection e; omega)
   have KC := KP.out.kept O (fun e => by have := D.out; injection e; omega)
   have KD := KS.out.trans O
   obtain ⟨I, Ks⟩ : ∃ W, (((((((w6.setCell ⟨(w.heap.size + 2), 7, none⟩ (.bool u.n0)).setCell ⟨(w.heap.size + 2), 8, none⟩ (.bool u.s0)).setCell ⟨(w.heap.size + 2), 9, none⟩ (.slice uA u.l0.length ua)).setCell ⟨(w.heap.size + 2), 10, none⟩ (.bool u.n1)).setCell ⟨(w.heap.size + 2), 11, none⟩ (.bool u.s1)).setCell ⟨(w.heap.size + 2), 12, none⟩ (.slice uB u.l1.length ub)).setCell ⟨(w.heap.size + 2), 13, none⟩ (.slice UF un uf)) = W := ⟨_, rfl⟩
   have B : w6.grownBy I (some (w.heap.size + 2)) := by rw [← Ks]; exact ((((((grown_set w6 (w.heap.size + 2) 7 (.bool u.n0)).trans (grown_set _ (w.heap.size + 2) 8 (.bool u.s0))).trans (grown_set _ (w.heap.size + 2) 9 (.slice uA u.l0.length ua))).trans (grown_set _ (w.heap.size + 2) 10 (.bool u.n1))).trans (grown_set _ (w.heap.size + 2) 11 (.bool u.s1))).trans (grown_set _ (w.heap.size + 2) 12 (.slice uB u.l1.length ub))).trans (grown_set _ (w.heap.size + 2) 13 (.slice UF un uf))
   have Km : Hid (BoxE I (w.heap.size + 2) [.bool t.n0, .bool t.s0, .slice tA t.l0.length ta, .bool t.n1, .bool t.s1, .slice tB t.l1.length tb, .slice FF nn ff, .bool u.n0, .bool u.s0, .slice uA u.l0.length ua, .bool u.n1, .bool u.s1, .slice uB u.l1.length ub, .slice UF un uf]) := hid (by rw [← Ks]; exact ((((((Kf.set 7 (.bool u.n0) rfl).set 8 (.bool u.s0) rfl).set 9 (.slice uA u.l0.length ua) rfl).set 10 (.bool u.n1) rfl).set 11 (.bool u.s1) rfl).set 12 (.slice uB u.l1.length ub) rfl).set 13 (.slice UF un uf) rfl)
   obtain ⟨z, Kt, Kk, Ka, KU⟩ := hid5 (KB.kept B (fun e => by injection e; omega)) (KC.kept B (fun e => by injection e; omega)) (Kr.kept B (fun e => by have := D.out; injection e; omega)) (grown_own KD B (by omega)) (Nat.le_trans Kz.out (Nat.le_trans O.size B.size))
   have T := Kf.noU (fun v S n e => by subst e; simp at S)
   have KX := Kr
   have Kn := hid (show IvW R1.P t ∧ U64s I old tA ta t.l0 ∧ U64s I old tB tb t.l1 ∧ nn = R1.fs.length ∧ IvsAt I old FF ff (fmOf R1.fs) from by
    obtain ⟨J, K, L, M, N, F⟩ := KA.out
    have Ko := KT.out
    exact ⟨J, (K.keepE Ko O).keepE T B, (L.keepE Ko O).keepE T B, M, (N.keepE (g := lk) (fun b o e => by have h1 := F b o e; have := Kj.out; have := D.out; omega) Ko O).keepE (g := w.heap.size + 2) (fun b o e => by have h1 := F b o e; have := Kj.out; omega) T B⟩)
   have Kg := hid (fun h => show IvW R2.P u ∧ U64s I old uA ua u.l0 ∧ U64s I old uB ub u.l1 ∧ un = R2.fs.length ∧ IvsAt I old UF uf (fmOf R2.fs) from by
    obtain ⟨J, K, L, M, N, F⟩ := hu h
    exact ⟨J, K.keepE T B, L.keepE T B, M, N.keepE (g := w.heap.size + 2) (fun b o e => by have h1 := F b o e; have := Kz.out; omega) T B⟩)
   obtain ⟨y0, y1, y2, y3, y4, y5, y6, f0, f1, f2, f3, f4, f5, f6⟩ := Kf.b.all14b
   clear Kf KB KC KD B T KX hu Kr O KR KQ KP KS KA KT
   cases hr2 : R2.ok with
   | false =>
     have Q : seqR R1 R2 R3 = ⟨false, (0, 0), [], orF R1.mrk R2.mrk⟩ := by simp [seqR, a.out, hr2]
     have Z := hid Q
     have C := ((((((grown_set I (w.heap.size + 1) 0 (.bool false)).trans (grown_set _ (w.heap.size + 1) 1 (.bool false))).trans (grown_set _ (w.heap.size + 1) 2 (.slice none 0 0))).trans (grown_set _ (w.heap.size + 1) 3 (.bool false))).trans (grown_set _ (w.heap.size + 1) 4 (.bool false))).trans (grown_set _ (w.heap.size + 1) 5 (.slice none 0 0))).trans (grown_set _ (w.heap.size + 1) 6 (.slice none 0 0))
     obtain ⟨d, x, y⟩ := hid3 (((((((z.out.b.set 0 (.bool false) rfl).set 1 (.bool false) rfl).set 2 (.slice none 0 0) rfl).set 3 (.bool false) rfl).set 4 (.bool false) rfl).set 5 (.slice none 0 0) rfl).set 6 (.slice none 0 0) rfl) (grown_own Ka.out C (by omega)) (Kk.out.kept C (fun e => by have := D.out; injection e; omega))
     obtain ⟨⟨r0, r1, r2, r3, r4, r5, r6⟩, q0, q1, q2, q3, q4, q5, q6⟩ := z.out.b.all7
     clear C Q hr2 a z Kk Ka Kn Kg Km Kt H3
     go_wp2
     refine bodyPost_ret (res_lined2 rfl _ (w.heap.size + 1) rfl d.out) rfl ?_
     rw [Z.out]
     exact ⟨zeroI, none, 0, none, 0, none, 0, 0, rfl, (fun h => by cases h), by have h := y.out; rw [orF_assoc] at h; exact h, x.out⟩
   | true =>
     rw [hr2] at Kg
     have Q : seqR R1 R2 R3 = ⟨R3.ok, R3.P, R3.fs, orF (orF R1.mrk R2.mrk) R3.mrk⟩ := by simp [seqR, a.out, hr2]
     obtain ⟨Z, KV⟩ := hid2 Q (H3.out a.out hr2 I t u tA tB uA uB FF UF ta tb ua ub ff uf nn un Ka.out Kk.out Kn.out (Kg.out rfl))
     have x0 := Kt.out.b.c 0 _ rfl
     obtain ⟨c0, c1, c2, c3, c4, c5, c6, d0, d1, d2, d3, d4, d5, d6⟩ := Km.out.b.allc14
     clear Q hr2 a Kk Kn Kg Km Kt H3
     have hkd := KM.out
     clear KM
     go_wp2
     rw [rounds_succ]
     rcases hkd with ⟨rfl, hk8, hk11⟩ | ⟨rfl, hk5, hk7⟩
     all_goals
      go_wp2_with fail
      refine KV.out.mono ?_
      rintro e w8 ⟨v, vA, va, vB, vb, VF, vn, vf, rfl, S, KW, Kv⟩
      clear Ks y0 y1 y2 y3 y4 y5 y6 f0 f1 f2 f3 f4 f5 f6 x0 c0 c1 c2 c3 c4 c5 c6 d0 d1 d2 d3 d4 d5 d6 KV
      have Kh := z.out.kept Kv (fun e => by have := D.out; injection e; omega)
      have C := ((((((grown_set w8 (w.heap.size + 1) 0 (.bool v.n0)).trans (grown_set _ (w.heap.size + 1) 1 (.bool v.s0))).trans (grown_set _ (w.heap.size + 1) 2 (.slice vA v.l0.length va))).trans (grown_set _ (w.heap.size + 1) 3 (.bool v.n1))).trans (grown_set _ (w.heap.size + 1) 4 (.bool v.s1))).trans (grown_set _ (w.heap.size + 1) 5 (.slice vB v.l1.length vb))).trans (grown_set _ (w.heap.size + 1) 6 (.slice VF vn vf))
      have d := hid (((((((Kh.b.set 0 (.bool v.n0) rfl).set 1 (.bool v.s0) rfl).set 2 (.slice vA v.l0.length va) rfl).set 3 (.bool v.n1) rfl).set 4 (.bool v.s1) rfl).set 5 (.slice vB v.l1.length vb) rfl).set 6 (.slice VF vn vf) rfl)
      have Ki := Kh.noU (fun v S n e => by subst e; simp at S)
      obtain ⟨x, y⟩ := hid2 (grown_own (Ka.out.trans Kv) C (by omega)) (KW.kept C (fun e => by have := D.out; injection e; omega))
      have KY := hid (fun h => by
       obtain ⟨J, K, L, M, N, F⟩ := S h
       exact And.intro J (And.intro (K.keepE Ki C) (And.intro (L.keepE Ki C) (And.intro M (And.intro (N.keepE (g := w.heap.size + 1) (fun b o e => by have h1 := F b o e; have := KU.out; omega) Ki C) (show NewA w.heap.size VF from fun b o e => by have h1 := F b o e; have := KU.out; omega))))))
      obtain ⟨⟨r0, r1, r2, r3, r4, r5, r6⟩, q0, q1, q2, q3, q4, q5, q6⟩ := Kh.b.all7
      clear Kh C Ki S KW Kv z Ka
      go_wp2
      refine bodyPost_ret (res_lined2 rfl _ (w.heap.size + 1) rfl d.out) rfl ?_
      rw [Z.out]
      exact ⟨v, vA, va, vB, vb, VF, vn, vf, rfl, KY.out, by have h := y.out; rw [orF_assoc, orF_assoc, ← orF_assoc R1.mrk] at h; exact h, x.out⟩
def seq1 (R1 R3 : LR) : LR := if R1.ok = true then ⟨R3.ok, R3.P, R3.fs, orF R1.mrk R3.mrk⟩ else ⟨false, (0, 0), [], R1.mrk⟩
theorem lexpr_one {w : World} {n n1 : Int} {nm s1 : ByteArray} {G : LkG} {m : Nat → Bool} {R1 R3 : LR} {k : Int} {Fo : FuncId} {args : Value → Array Value} (hk : BoxE w lk (lkL G m)) (heb : lk ≠ eb) (i0 : w.cell? ⟨eb, eo, none⟩ = some (.int .u8 k1)) (i1 : w.cell? ⟨eb, eo + 1, none⟩ = some (.string s1)) (i2 : w.cell? ⟨eb, eo + 2, none⟩ = some (.int .i64 n1)) (i3 : w.cell? ⟨eb, eo + 3, none⟩ = some (.slice A1 L1 c1)) (i4 : w.cell? ⟨eb, eo + 4, none⟩ = some (.int .i64 p1))
  (h1 : ∀ W, w.grownBy W (some lk) → BoxE W lk (lkL G m) → Calls Tryz.prog 31 #[.pointer (some ⟨lk, 0, none⟩), .agg #[.int .u8 k1, .string s1, .int .i64 n1, .slice A1 L1 c1, .int .i64 p1]] W (LP lk G m R1 W))
  (hk4 : (k = 4 ∧ Fo = 82 ∧ args = fun v => #[.pointer (some ⟨lk, 0, none⟩), .int .u8 4, v, .agg #[.bool false, .bool false, .slice none 0 0, .bool false, .bool false, .slice none 0 0, .slice none 0 0]]) ∨ (k = 3 ∧ Fo = 80 ∧ args = fun v => #[.pointer (some ⟨lk, 0, none⟩), .int .i64 n, v]))
  (h3 : R1.ok = true → ∀ (W : World) (t : Iv) (tA tB FF : Option Addr) (ta tb ff nn : Nat), w.grownBy W (some lk) → BoxE W lk (lkL G (orF m R1.mrk)) → (IvW R1.P t ∧ U64s W old tA ta t.l0 ∧ U64s W old tB tb t.l1 ∧ nn = R1.fs.length ∧ IvsAt W old FF ff (fmOf R1.fs)) → Calls Tryz.prog Fo (args (.agg #[.bool t.n0, .bool t.s0, .slice tA t.l0.length ta, .bool t.n1, .bool t.s1, .slice tB t.l1.length tb, .slice FF nn ff])) W (LP lk G (orF m R1.mrk) R3 W)) :
  Calls Tryz.prog 31 #[.pointer (some ⟨lk, 0, none⟩), .agg #[.int .u8 k, .string nm, .int .i64 n, .slice (some ⟨eb, eo, none⟩) 1 cx, .int .i64 pp]] w (LP lk G m (seq1 R1 R3) w) := by
 obtain ⟨L, Kw, D, Kh, Ki, Kj, Kk⟩ := al3 w [.int .u8 k, .string nm, .int .i64 n, .slice (some ⟨eb, eo, none⟩) 1 cx, .int .i64 pp] 29 [.bool false, .bool false, .slice none 0 0, .bool false, .bool false, .slice none 0 0, .slice none 0 0] 85 [.bool false, .bool false, .slice none 0 0, .bool false, .bool false, .slice none 0 0, .slice none 0 0, .bool false, .bool false, .slice none 0 0, .bool false, .bool false, .slice none 0 0, .slice none 0 0] 129
 obtain ⟨d, HR, HL, HZ, E, KA⟩ := hid6 Kh Ki Kj Kk hk.b.lt (show eb < w.heap.size from lt_of_cell i0)
 have F : Below L.heap.size L (L.alloc (.cells #[.int .u8 k1, .string s1, .int .i64 n1, .slice A1 L1 c1, .int .i64 p1] 29)) := (Below.refl L.heap.size L).alloc (Nat.le_refl _) _
 have U := from_ D F
 obtain ⟨Kl, Kx, Km, Kn, Ko, Kp⟩ := hid6 (h1 _ (grown_any U) (hk.below U)) U (d.out.below F) (HR.out.below F) (HL.out.below F) (Nat.le_trans HZ.out F.size)
 have u := hid h3
 have x := d.out.b.c 0 _ rfl
 have x3 := d.out.b.c 3 _ rfl
 replace i0 := keepC D i0
 replace i1 := keepC D i1
 replace i2 := keepC D i2
 replace i3 := keepC D i3
 replace i4 := keepC D i4
 have Kz := hid heb
 clear Kh Ki Kj Kk
 clear D hk h1 h3 F U d HR HL HZ heb
 rcases hk4 with ⟨rfl, rfl, rfl⟩ | ⟨rfl, rfl, rfl⟩
 all_goals
  go_enter Tryz.func31, Tryz.ntmps31
  go_wp2
  refine wp_loop_rounds 2 ?_
  rw [rounds_succ]
  go_wp2_with fail
  refine Kl.out.mono ?_
  rintro e w3 ⟨t, tA, ta, tB, tb, FF, nn, ff, rfl, ht, Kq, H⟩
  clear x x3 i0 i1 i2 i3 i4 Kl Kw
  have V := Ko.out.kept H (fun e => by have := E.out; injection e; omega)
  have Ke := Kn.out.kept H (fun e => by have := E.out; injection e; omega)
  have Kf := Km.out.kept H (fun e => by have := E.out; injection e; omega)
  have Kg := (grown_any (r := some lk) Kx.out).trans H
  obtain ⟨i, Ka⟩ : ∃ W, (((((((w3.setCell ⟨(w.heap.size + 2), 0, none⟩ (.bool t.n0)).setCell ⟨(w.heap.size + 2), 1, none⟩ (.bool t.s0)).setCell ⟨(w.heap.size + 2), 2, none⟩ (.slice tA t.l0.length ta)).setCell ⟨(w.heap.size + 2), 3, none⟩ (.bool t.n1)).setCell ⟨(w.heap.size + 2), 4, none⟩ (.bool t.s1)).setCell ⟨(w.heap.size + 2), 5, none⟩ (.slice tB t.l1.length tb)).setCell ⟨(w.heap.size + 2), 6, none⟩ (.slice FF nn ff)) = W := ⟨_, rfl⟩
  have C : w3.grownBy i (some (w.heap.size + 2)) := by rw [← Ka]; exact ((((((grown_set w3 (w.heap.size + 2) 0 (.bool t.n0)).trans (grown_set _ (w.heap.size + 2) 1 (.bool t.s0))).trans (grown_set _ (w.heap.size + 2) 2 (.slice tA t.l0.length ta))).trans (grown_set _ (w.heap.size + 2) 3 (.bool t.n1))).trans (grown_set _ (w.heap.size + 2) 4 (.bool t.s1))).trans (grown_set _ (w.heap.size + 2) 5 (.slice tB t.l1.length tb))).trans (grown_set _ (w.heap.size + 2) 6 (.slice FF nn ff))
  have y : Hid (BoxE i (w.heap.size + 2) [.bool t.n0, .bool t.s0, .slice tA t.l0.length ta, .bool t.n1, .bool t.s1, .slice tB t.l1.length tb, .slice FF nn ff, .bool false, .bool false, .slice none 0 0, .bool false, .bool false, .slice none 0 0, .slice none 0 0]) := hid (by rw [← Ka]; exact ((((((V.set 0 (.bool t.n0) rfl).set 1 (.bool t.s0) rfl).set 2 (.slice tA t.l0.length ta) rfl).set 3 (.bool t.n1) rfl).set 4 (.bool t.s1) rfl).set 5 (.slice tB t.l1.length tb) rfl).set 6 (.slice FF nn ff) rfl)
  obtain ⟨M, j, q, N, Kr⟩ := hid5 (Ke.kept C (fun e => by injection e; omega)) (Kf.kept C (fun e => by injection e; omega)) (Kq.kept C (fun e => by have := E.out; injection e; omega)) (grown_own Kg C (by omega)) (Nat.le_trans Kp.out (Nat.le_trans H.size C.size))
  have X := V.noU (fun v J n e => by subst e; simp at J)
  have Y := hid (fun h => by
   obtain ⟨O, Q, R, S, T, I⟩ := ht h
   exact And.intro O (And.intro (Q.keepE X C) (And.intro (R.keepE X C) (And.intro S (And.intro (T.keepE (g := w.heap.size + 2) (fun b o e => by have h1 := I b o e; have := Kp.out; omega) X C) I)))))
  obtain ⟨y0, y1, y2, y3, y4, y5, y6, f0, f1, f2, f3, f4, f5, f6⟩ := V.b.all14
  obtain ⟨⟨r0, r1, r2, r3, r4, r5, r6⟩, q0, q1, q2, q3, q4, q5, q6⟩ := M.out.b.all7
  clear V Ke Kf Kg C X ht Kq H Ko Kn Km
  cases hr1 : R1.ok with
  | false =>
    have K : seq1 R1 R3 = ⟨false, (0, 0), [], R1.mrk⟩ := by simp [seq1, hr1]
    have z := hid K
    have B := ((((((grown_set i (w.heap.size + 1) 0 (.bool false)).trans (grown_set _ (w.heap.size + 1) 1 (.bool false))).trans (grown_set _ (w.heap.size + 1) 2 (.slice none 0 0))).trans (grown_set _ (w.heap.size + 1) 3 (.bool false))).trans (grown_set _ (w.heap.size + 1) 4 (.bool false))).trans (grown_set _ (w.heap.size + 1) 5 (.slice none 0 0))).trans (grown_set _ (w.heap.size + 1) 6 (.slice none 0 0))
    obtain ⟨HP, Kb, Kc⟩ := hid3 (((((((M.out.b.set 0 (.bool false) rfl).set 1 (.bool false) rfl).set 2 (.slice none 0 0) rfl).set 3 (.bool false) rfl).set 4 (.bool false) rfl).set 5 (.slice none 0 0) rfl).set 6 (.slice none 0 0) rfl) (grown_own N.out B (by omega)) (q.out.kept B (fun e => by have := E.out; injection e; omega))
    clear B K hr1 M q N Y y j u
    go_wp2
    refine bodyPost_ret (res_lined2 rfl _ (w.heap.size + 1) rfl HP.out) rfl ?_
    rw [z.out]
    exact ⟨zeroI, none, 0, none, 0, none, 0, 0, rfl, (fun h => by cases h), Kc.out, Kb.out⟩
  | true =>
    rw [hr1] at Y
    have K : seq1 R1 R3 = ⟨R3.ok, R3.P, R3.fs, orF R1.mrk R3.mrk⟩ := by simp [seq1, hr1]
    obtain ⟨z, Ks⟩ := hid2 K (u.out hr1 i t tA tB FF ta tb ff nn N.out q.out (by obtain ⟨O, Q, R, S, T, I⟩ := Y.out rfl; exact ⟨O, Q, R, S, T⟩))
    have x := j.out.b.c 0 _ rfl
    have x2 := j.out.b.c 2 _ rfl
    obtain ⟨c0, Ky, c2, c3, c4, c5, c6, d0, d1, d2, d3, d4, d5, d6⟩ := y.out.b.allc14
    clear K hr1 q Y y j u r0 r1 r2 r3 r4 r5 r6 q0 q1 q2 q3 q4 q5 q6
    go_wp2
    rw [rounds_succ]
    go_wp2_with fail
    refine Ks.out.mono ?_
    rintro e w8 ⟨v, vA, va, vB, vb, s, vn, vf, rfl, J, Kt, Kd⟩
    clear Ka y0 y1 y2 y3 y4 y5 y6 f0 f1 f2 f3 f4 f5 f6 x x2 c0 Ky c2 c3 c4 c5 c6 d0 d1 d2 d3 d4 d5 d6 Ks
    have Z := M.out.kept Kd (fun e => by have := E.out; injection e; omega)
    have B := ((((((grown_set w8 (w.heap.size + 1) 0 (.bool v.n0)).trans (grown_set _ (w.heap.size + 1) 1 (.bool v.s0))).trans (grown_set _ (w.heap.size + 1) 2 (.slice vA v.l0.length va))).trans (grown_set _ (w.heap.size + 1) 3 (.bool v.n1))).trans (grown_set _ (w.heap.size + 1) 4 (.bool v.s1))).trans (grown_set _ (w.heap.size + 1) 5 (.slice vB v.l1.length vb))).trans (grown_set _ (w.heap.size + 1) 6 (.slice s vn vf))
    have HP := hid (((((((Z.b.set 0 (.bool v.n0) rfl).set 1 (.bool v.s0) rfl).set 2 (.slice vA v.l0.length va) rfl).set 3 (.bool v.n1) rfl).set 4 (.bool v.s1) rfl).set 5 (.slice vB v.l1.length vb) rfl).set 6 (.slice s vn vf) rfl)
    have a := Z.noU (fun v J n e => by subst e; simp at J)
    obtain ⟨Kb, Kc⟩ := hid2 (grown_own (N.out.trans Kd) B (by omega)) (Kt.kept B (fun e => by have := E.out; injection e; omega))
    have Kv := hid (fun h => by
     obtain ⟨O, Q, R, S, T, I⟩ := J h
     exact And.intro O (And.intro (Q.keepE a B) (And.intro (R.keepE a B) (And.intro S (And.intro (T.keepE (g := w.heap.size + 1) (fun b o e => by have h1 := I b o e; have := Kr.out; omega) a B) (show NewA w.heap.size s from fun b o e => by have h1 := I b o e; have := Kr.out; omega))))))
    obtain ⟨⟨r0, r1, r2, r3, r4, r5, r6⟩, q0, q1, q2, q3, q4, q5, q6⟩ := Z.b.all7
    clear Z B a J Kt Kd M N
    go_wp2
    refine bodyPost_ret (res_lined2 rfl _ (w.heap.size + 1) rfl HP.out) rfl ?_
    rw [z.out]
    exact ⟨v, vA, va, vB, vb, s, vn, vf, rfl, Kv.out, by have h := Kc.out; rw [orF_assoc] at h; exact h, Kb.out⟩
theorem lexpr_neg {w : World} {n n1 : Int} {nm s1 : ByteArray} {G : LkG} {m : Nat → Bool} {R1 R3 : LR} (hk : BoxE w lk (lkL G m)) (heb : lk ≠ eb) (i0 : w.cell? ⟨eb, eo, none⟩ = some (.int .u8 k1)) (i1 : w.cell? ⟨eb, eo + 1, none⟩ = some (.string s1)) (i2 : w.cell? ⟨eb, eo + 2, none⟩ = some (.int .i64 n1)) (i3 : w.cell? ⟨eb, eo + 3, none⟩ = some (.slice A1 L1 c1)) (i4 : w.cell? ⟨eb, eo + 4, none⟩ = some (.int .i64 p1))
  (h1 : ∀ W, w.grownBy W (some lk) → BoxE W lk (lkL G m) → Calls Tryz.prog 31 #[.pointer (some ⟨lk, 0, none⟩), .agg #[.int .u8 k1, .string s1, .int .i64 n1, .slice A1 L1 c1, .int .i64 p1]] W (LP lk G m R1 W))
  (h3 : R1.ok = true → ∀ (W : World) (t : Iv) (tA tB FF : Option Addr) (ta tb ff nn : Nat), w.grownBy W (some lk) → BoxE W lk (lkL G (orF m R1.mrk)) → (IvW R1.P t ∧ U64s W old tA ta t.l0 ∧ U64s W old tB tb t.l1 ∧ nn = R1.fs.length ∧ IvsAt W old FF ff (fmOf R1.fs)) → Calls Tryz.prog 82 #[.pointer (some ⟨lk, 0, none⟩), .int .u8 4, .agg #[.bool t.n0, .bool t.s0, .slice tA t.l0.length ta, .bool t.n1, .bool t.s1, .slice tB t.l1.length tb, .slice FF nn ff], .agg #[.bool false, .bool false, .slice none 0 0, .bool false, .bool false, .slice none 0 0, .slice none 0 0]] W (LP lk G (orF m R1.mrk) R3 W)) :
  Calls Tryz.prog 31 #[.pointer (some ⟨lk, 0, none⟩), .agg #[.int .u8 4, .string nm, .int .i64 n, .slice (some ⟨eb, eo, none⟩) 1 cx, .int .i64 pp]] w (LP lk G m (seq1 R1 R3) w) := by
 exact lexpr_one hk heb i0 i1 i2 i3 i4 h1 (.inl ⟨rfl, rfl, rfl⟩) h3
theorem lexpr_load {w : World} {n n1 : Int} {nm s1 : ByteArray} {G : LkG} {m : Nat → Bool} {R1 R3 : LR} (hk : BoxE w lk (lkL G m)) (heb : lk ≠ eb) (i0 : w.cell? ⟨eb, eo, none⟩ = some (.int .u8 k1)) (i1 : w.cell? ⟨eb, eo + 1, none⟩ = some (.string s1)) (i2 : w.cell? ⟨eb, eo + 2, none⟩ = some (.int .i64 n1)) (i3 : w.cell? ⟨eb, eo + 3, none⟩ = some (.slice A1 L1 c1)) (i4 : w.cell? ⟨eb, eo + 4, none⟩ = some (.int .i64 p1))
  (h1 : ∀ W, w.grownBy W (some lk) → BoxE W lk (lkL G m) → Calls Tryz.prog 31 #[.pointer (some ⟨lk, 0, none⟩), .agg #[.int .u8 k1, .string s1, .int .i64 n1, .slice A1 L1 c1, .int .i64 p1]] W (LP lk G m R1 W))
  (h3 : R1.ok = true → ∀ (W : World) (t : Iv) (tA tB FF : Option Addr) (ta tb ff nn : Nat), w.grownBy W (some lk) → BoxE W lk (lkL G (orF m R1.mrk)) → (IvW R1.P t ∧ U64s W old tA ta t.l0 ∧ U64s W old tB tb t.l1 ∧ nn = R1.fs.length ∧ IvsAt W old FF ff (fmOf R1.fs)) → Calls Tryz.prog 80 #[.pointer (some ⟨lk, 0, none⟩), .int .i64 n, .agg #[.bool t.n0, .bool t.s0, .slice tA t.l0.length ta, .bool t.n1, .bool t.s1, .slice tB t.l1.length tb, .slice FF nn ff]] W (LP lk G (orF m R1.mrk) R3 W)) :
  Calls Tryz.prog 31 #[.pointer (some ⟨lk, 0, none⟩), .agg #[.int .u8 3, .string nm, .int .i64 n, .slice (some ⟨eb, eo, none⟩) 1 cx, .int .i64 pp]] w (LP lk G m (seq1 R1 R3) w) := by
 exact lexpr_one hk heb i0 i1 i2 i3 i4 h1 (.inr ⟨rfl, rfl, rfl⟩) h3
def rngR (P : IvP) (fs : List IvP) : LR := ⟨meetOk P allP, meetZ P allP, fs, fun i => !keepIn P allP && decide (i = 2)⟩
def othR (g z : Bool) (r : Nat) (P : IvP) (pn : Nat) : LR := ⟨g && meetOk P allP, meetZ P allP, constL pn (meetZ P allP), orF (fun i => z && decide (i = r)) (fun i => (g && !keepIn P allP) && decide (i = 2))⟩
def loadR (P : IvP) (sz : Int) (pn : Nat) : LR := ⟨meetOk P (0, sz - 1), allP, constL pn allP, fun i => !keepIn P (0, sz - 1) && decide (i = 5)⟩
theorem LP.of_rng {G : LkG} {m : Nat → Bool} {fs : List IvP} {rr : List Iv} {w : World} {e : Ending} (hrr : rr = fmOf fs)
  (h : ∃ (t : Iv) (tA : Option Addr) (ta : Nat) (tB : Option Addr) (tb : Nat) (FF : Option Addr) (ff : Nat), e = .returned (.tuple #[.agg #[.bool t.n0, .bool t.s0, .slice tA t.l0.length ta, .bool t.n1, .bool t.s1, .slice tB t.l1.length tb, .slice FF rr.length ff], .bool (meetOk P allP)]) ∧ (IvW (meetZ P allP) t ∧ U64s w' old tA ta t.l0 ∧ U64s w' old tB tb t.l1) ∧ IvsAt w' old FF ff rr ∧ NewA w.heap.size FF ∧ BoxE w' lk (lkL G (markF m 2 (!keepIn P allP))) ∧ w.grownBy w' (some lk)) :
  LP lk G m (rngR P fs) w e w' := by
 obtain ⟨t, tA, ta, tB, tb, FF, ff, rfl, ⟨A, B, C⟩, D, E, F, H⟩ := h
 subst hrr
 exact ⟨t, tA, ta, tB, tb, FF, _, ff, rfl, fun _ => ⟨A, B, C, fmOf_len fs, D, E⟩, F, H⟩
theorem LP.of_oth {G : LkG} {m : Nat → Bool} {g : Bool} {w : World} {e : Ending}
  (h : ∃ (t : Iv) (tA : Option Addr) (ta : Nat) (tB : Option Addr) (tb : Nat) (FF : Option Addr) (nn ff : Nat), e = .returned (.tuple #[.agg #[.bool t.n0, .bool t.s0, .slice tA t.l0.length ta, .bool t.n1, .bool t.s1, .slice tB t.l1.length tb, .slice FF nn ff], .bool (g && meetOk P allP)]) ∧ ((g && meetOk P allP) = true → IvW (meetZ P allP) t ∧ U64s w' old tA ta t.l0 ∧ U64s w' old tB tb t.l1 ∧ nn = G.pn + 1 ∧ IvsAt w' old FF ff (fmOf (constL G.pn (meetZ P allP))) ∧ NewA w.heap.size FF) ∧ BoxE w' lk (lkL G (markF (markF m r z) 2 (g && !keepIn P allP))) ∧ w.grownBy w' (some lk)) :
  LP lk G m (othR g z r P G.pn) w e w' := by
 obtain ⟨t, tA, ta, tB, tb, FF, nn, ff, rfl, B, C, D⟩ := h
 refine ⟨t, tA, ta, tB, tb, FF, nn, ff, rfl, fun h => ?_, ?_, D⟩
 · obtain ⟨E, F, H, I, J, K⟩ := B h
   exact ⟨E, F, H, by rw [I]; exact (constL_len _ _).symm, J, K⟩
 · have A : orF m (othR g z r P G.pn).mrk = markF (markF m r z) 2 (g && !keepIn P allP) := by
    funext i
    simp [orF, othR, markF, Bool.or_assoc]
   rw [A]
   exact C
theorem LP.of_load {G : LkG} {m : Nat → Bool} {w : World} {e : Ending}
  (h : ∃ (t : Iv) (tA : Option Addr) (ta : Nat) (tB : Option Addr) (tb : Nat) (FF : Option Addr) (ff : Nat), e = .returned (.tuple #[.agg #[.bool t.n0, .bool t.s0, .slice tA t.l0.length ta, .bool t.n1, .bool t.s1, .slice tB t.l1.length tb, .slice FF (G.pn + 1) ff], .bool (meetOk P (0, sz - 1))]) ∧ IvW allP t ∧ U64s w' old tA ta t.l0 ∧ U64s w' old tB tb t.l1 ∧ IvsAt w' old FF ff (fmOf (constL G.pn allP)) ∧ NewA w.heap.size FF ∧ BoxE w' lk (lkL G (markF m 5 (!keepIn P (0, sz - 1)))) ∧ w.grownBy w' (some lk)) :
  LP lk G m (loadR P sz G.pn) w e w' := by
 obtain ⟨t, tA, ta, tB, tb, FF, ff, rfl, A, B, C, D, E, F, H⟩ := h
 exact ⟨t, tA, ta, tB, tb, FF, _, ff, rfl, fun _ => ⟨A, B, C, (constL_len _ _).symm, D, E⟩, F, H⟩
theorem RowK.keptR {k : Nat} {w : World} {n : Nat} {x : Nat → Nat → Value} (h : RowK k w A c n x) (hg : w.grownBy w' (some r)) (hn : 0 < n → ∀ b o, A = some ⟨b, o, none⟩ → b ≠ r) : RowK k w' A c n x := by
 refine ⟨h.cap, h.max, fun h0 => ?_⟩
 obtain ⟨b, o, e, B, D⟩ := h.row h0
 have C := hn h0 b o e
 refine ⟨b, o, e, Nat.lt_of_lt_of_le B hg.size, fun j hj i hi => ?_⟩
 exact (World.cell?_of_block (w := w) (a := ⟨b, o + j * k + i, none⟩) (hg.block b B (fun e => by injection e with e; exact C e))).trans (D j hj i hi)
theorem ExsAt.kept {w : World} {G : LkG} {m : Nat → Bool} (hk : BoxE w lk (lkL G m)) (hg : w.grownBy w' (some lk)) : ∀ {d : Nat} {A : Option Addr} {c : Nat} {l : List Ex}, ExsAt w d A c l → ExsAt w' d A c l
 | 0, _, _, _, h => h
 | _ + 1, _, _, l, ⟨AA, CC, h, g⟩ => ⟨AA, CC, h.keptR hg (fun h0 b o e hb => by
  obtain ⟨b', o', e', h2, h4⟩ := h.row h0
  rw [e] at e'
  injection e' with e'
  injection e' with e1 e2
  subst e1 e2
  have B := h4 0 h0 1 (by omega)
  rw [exC_1 h0] at B
  subst hb
  have C := List.mem_of_getElem? (hk.cell B)
  simp [lkL] at C), fun j hj => (g j hj).kept hk hg⟩
end Go.Proofs.YtdncgncijbnjpaaGreat
