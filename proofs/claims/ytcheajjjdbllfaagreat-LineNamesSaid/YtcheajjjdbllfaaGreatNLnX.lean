/- facetroomlaw27.of: x + 1, and 1 / x. No conditions. -/
import Derived.LoopN
import Derived.Deep.DeepCutAuto
import Derived.Test.YtcheajjjdbllfaaGreatNLnP
import Derived.Test.YtcheajjjdbllfaaGreatNLnS
import Derived.Test.YtcheajjjdbllfaaGreatNLnQ
import Derived.Test.YtcheajjjdbllfaaGreatNWhV
set_option linter.unusedVariables false
set_option linter.unusedSimpArgs false
set_option maxRecDepth 100000
set_option maxHeartbeats 40000000
namespace Go.Proofs.YtcheajjjdbllfaaGreat
open Go.Lib (hid)
open Go.RowKit
variable {A C D : Option Addr} {K K0 c d g g0 g1 g2 gE gI gP gX x00 x01 x02 x03 x04 x05 x06 x07 x08 x10 x11 x12 x13 x14 x15 x20 : Nat} {V W w : World} {a0 a1 a2 a3 a4 a5 a6 a7 a8 y00 y01 y02 y03 y04 y05 y06 y07 y08 y10 y11 y12 y13 y14 y15 y20 : Value} {f0 f1 q r : Iv}
theorem idx6 (W : World) (b0 b1 b2 b3 b4 b5 : Bool) : (Instr.index 66 (.agg #[.bool b0, .bool b1, .bool b2, .bool b3, .bool b4, .bool b5]) (.int .i64 0)).run Tryz.prog W = .ok (.bool b0) W ∧ (Instr.index 66 (.agg #[.bool b0, .bool b1, .bool b2, .bool b3, .bool b4, .bool b5]) (.int .i64 1)).run Tryz.prog W = .ok (.bool b1) W ∧ (Instr.index 66 (.agg #[.bool b0, .bool b1, .bool b2, .bool b3, .bool b4, .bool b5]) (.int .i64 2)).run Tryz.prog W = .ok (.bool b2) W ∧ (Instr.index 66 (.agg #[.bool b0, .bool b1, .bool b2, .bool b3, .bool b4, .bool b5]) (.int .i64 3)).run Tryz.prog W = .ok (.bool b3) W ∧ (Instr.index 66 (.agg #[.bool b0, .bool b1, .bool b2, .bool b3, .bool b4, .bool b5]) (.int .i64 4)).run Tryz.prog W = .ok (.bool b4) W ∧ (Instr.index 66 (.agg #[.bool b0, .bool b1, .bool b2, .bool b3, .bool b4, .bool b5]) (.int .i64 5)).run Tryz.prog W = .ok (.bool b5) W := ⟨by kernel_rfl, by kernel_rfl, by kernel_rfl, by kernel_rfl, by kernel_rfl, by kernel_rfl⟩
theorem infoU8 : (Tryz.prog.info? 5).map (fun i => (i.zero, i.size, i.bytes)) = some (some (.int .u8 0), 1, 1) := by kernel_rfl
def midZ (K B : Nat) : Zone := ⟨fun b => K ≤ b ∧ b < B, True⟩
theorem U64s.mid {l : List Nat} (h : U64s w (new K) A c l) : U64s w (midZ K w.heap.size) A c l :=
 ⟨h.small, h.cap, h.max, h.nul, fun h0 => by
  obtain ⟨b, o, e, hz, hf, hc⟩ := h.row h0
  exact ⟨b, o, e, ⟨hz, lt_of_cell (hc 0 _ (List.getElem?_eq_getElem h0))⟩, hf, hc⟩⟩
theorem IvsAt.mid {ps : List Iv} (h : IvsAt w (new K) A c ps) : IvsAt w (midZ K w.heap.size) A c ps := by
 refine ⟨h.cap, h.max, fun h0 => ?_⟩
 obtain ⟨b, o, e, h2, h4⟩ := h.row h0
 refine ⟨b, o, e, h2, fun j hj => ?_⟩
 obtain ⟨A0, d0, A1, d1, hc, u0, u1⟩ := h4 j hj
 exact ⟨A0, d0, A1, d1, hc, u0.mid, u1.mid⟩
theorem loadVar_Lined (h : BoxL w g [a0, a1, a2, a3, a4, a5, a6, a7, a8]) :
  (loadVar 34 ⟨g, 0, none⟩).run Tryz.prog w = .ok (.agg #[a0, a1, a2, a3, a4, a5, a6, a7, a8]) w := by
 obtain ⟨⟨h0, h1, h2, h3, h4, h5, h6, h7, h8⟩, _⟩ := h.all9
 unfold loadVar
 go_simp
theorem res_Lined2 {fn : Func} {p u : Tmp} (h : fn.results = #[.cell p 34, .tmp u]) (tmps : Array Value) (g : Nat) (hp : tmps.getD p undef = .pointer (some ⟨g, 0, none⟩)) (hB : BoxL w g [a0, a1, a2, a3, a4, a5, a6, a7, a8]) :
  (results fn tmps).run Tryz.prog w = .ok (.tuple #[.agg #[a0, a1, a2, a3, a4, a5, a6, a7, a8], tmps.getD u undef]) w := by
 rw [results_cell_tmp h, hp]
 simp [asAddr, Result.andThen, loadVar_Lined hB]
theorem lof_two {ec pc bc cx pb po bb bo eb eo : Nat} {EA : Option Addr} {K pp : Int} {nm : ByteArray} {wz : Bool} {R : IvP}
  (hCH : ∀ W, Below w.heap.size w W → Calls Tryz.prog 14 #[.agg #[.int .i64 1, .slice none 0 0, .int .i64 2, .int .i64 0, .int .i64 1, .slice EA 1 ec]] W fun e w' => e = .returned (.int .i64 0) ∧ Below W.heap.size W w')
  (hBX : ∀ W, Below w.heap.size w W → Calls Tryz.prog 15 #[.agg #[.int .i64 1, .slice none 0 0, .int .i64 2, .int .i64 0, .int .i64 1, .slice EA 1 ec], .slice (some ⟨bb, bo, none⟩) 1 bc] W fun e w' => e = .returned (.bool true) ∧ Below W.heap.size W w')
  (hPK : ∀ W, Below w.heap.size w W → Calls Tryz.prog 16 #[.agg #[.int .i64 1, .slice none 0 0, .int .i64 2, .int .i64 0, .int .i64 1, .slice EA 1 ec], .slice (some ⟨pb, po, none⟩) 1 pc] W fun e w' => e = .returned (.bool true) ∧ Below W.heap.size W w')
  (hMY : ∀ W, Below w.heap.size w W → Calls Tryz.prog 17 #[.agg #[.int .i64 1, .slice none 0 0, .int .i64 2, .int .i64 0, .int .i64 1, .slice EA 1 ec], .agg #[.int .u8 K, .string nm, .int .i64 0, .slice (some ⟨eb, eo, none⟩) 2 cx, .int .i64 pp]] W fun e w' => e = .returned (.bool true) ∧ Below W.heap.size W w')
  (hEX : ∀ W lk, Below w.heap.size w W → w.heap.size ≤ lk → BoxL W lk [.int .i64 1, .slice none 0 0, .int .i64 2, .int .i64 0, .int .i64 1, .slice EA 1 ec, .slice (some ⟨pb, po, none⟩) 1 pc, .slice (some ⟨bb, bo, none⟩) 1 bc, .bool false, .bool false, .bool false, .bool false, .bool false, .bool false] → Calls Tryz.prog 18 #[.pointer (some ⟨lk, 0, none⟩), .agg #[.int .u8 K, .string nm, .int .i64 0, .slice (some ⟨eb, eo, none⟩) 2 cx, .int .i64 pp]] W fun e w' => ∃ rA ra rB rb F f, e = .returned (.tuple #[.agg #[.bool r.n0, .bool r.s0, .slice rA r.l0.length ra, .bool r.n1, .bool r.s1, .slice rB r.l1.length rb, .slice F 2 f], .bool true]) ∧ U64s w' (new W.heap.size) rA ra r.l0 ∧ U64s w' (new W.heap.size) rB rb r.l1 ∧ IvsAt w' (new W.heap.size) F f [f0, f1] ∧ NewA W.heap.size F ∧ W.grownBy w' (some lk) ∧ BoxL w' lk [.int .i64 1, .slice none 0 0, .int .i64 2, .int .i64 0, .int .i64 1, .slice EA 1 ec, .slice (some ⟨pb, po, none⟩) 1 pc, .slice (some ⟨bb, bo, none⟩) 1 bc, .bool false, .bool false, .bool false, .bool wz, .bool false, .bool false])
  (hr : IvW R r) (gr : IvN 60 R.1 R.2) (hle : R.1 ≤ R.2) :
  Calls Tryz.prog 9 #[.agg #[.int .i64 1, .slice none 0 0, .int .i64 2, .int .i64 0, .int .i64 1, .slice EA 1 ec], .slice (some ⟨pb, po, none⟩) 1 pc, .slice (some ⟨bb, bo, none⟩) 1 bc, .agg #[.int .u8 K, .string nm, .int .i64 0, .slice (some ⟨eb, eo, none⟩) 2 cx, .int .i64 pp]] w fun e w' => ∃ sA sa sB sb F f Wr, e = .returned (.tuple #[.agg #[.bool false, .bool r.n0, .bool r.s0, .slice sA r.l0.length sa, .bool r.n1, .bool r.s1, .slice sB r.l1.length sb, .slice F 2 f, Wr], .int .i64 0]) ∧ U64s w' (new w.heap.size) sA sa r.l0 ∧ U64s w' (new w.heap.size) sB sb r.l1 ∧ IvsAt w' (new w.heap.size) F f [f0, f1] ∧ NewA w.heap.size F ∧ (wz = false → Wr = .slice none 0 0) ∧ (wz = true → ∃ g cap, Wr = .slice (some ⟨g, 0, none⟩) 1 cap ∧ w'.cell? ⟨g, 0, none⟩ = some (.int .u8 3) ∧ w.heap.size ≤ g) ∧ Below w.heap.size w w' := by
 obtain ⟨W1, hW1⟩ : ∃ W, (((w.alloc (.cells #[.int .i64 1, .slice none 0 0, .int .i64 2, .int .i64 0, .int .i64 1, .slice EA 1 ec] 45)).alloc (.cells #[.int .u8 K, .string nm, .int .i64 0, .slice (some ⟨eb, eo, none⟩) 2 cx, .int .i64 pp] 50)).alloc (.cells #[.bool false, .bool false, .bool false, .slice none 0 0, .bool false, .bool false, .slice none 0 0, .slice none 0 0, .slice none 0 0] 34)) = W := ⟨_, rfl⟩
 have hB0 : Below w.heap.size w W1 := by
  rw [← hW1]
  exact (((Below.refl _ w).alloc (Nat.le_refl _) _).alloc (by simp) _).alloc (by first | (simp; done) | (simp; omega)) _
 have HG : Hid (BoxL W1 w.heap.size [.int .i64 1, .slice none 0 0, .int .i64 2, .int .i64 0, .int .i64 1, .slice EA 1 ec]) := hid (by
  rw [← hW1]
  exact ((BoxL.new w [.int .i64 1, .slice none 0 0, .int .i64 2, .int .i64 0, .int .i64 1, .slice EA 1 ec] 45).alloc _).alloc _)
 have HX : Hid (BoxL W1 (w.heap.size + 1) [.int .u8 K, .string nm, .int .i64 0, .slice (some ⟨eb, eo, none⟩) 2 cx, .int .i64 pp]) := hid (by
  rw [← hW1]
  have h := (BoxL.new (w.alloc (.cells #[.int .i64 1, .slice none 0 0, .int .i64 2, .int .i64 0, .int .i64 1, .slice EA 1 ec] 45)) [.int .u8 K, .string nm, .int .i64 0, .slice (some ⟨eb, eo, none⟩) 2 cx, .int .i64 pp] 50).alloc (.cells #[.bool false, .bool false, .bool false, .slice none 0 0, .bool false, .bool false, .slice none 0 0, .slice none 0 0, .slice none 0 0] 34)
  rw [show (w.alloc (.cells #[.int .i64 1, .slice none 0 0, .int .i64 2, .int .i64 0, .int .i64 1, .slice EA 1 ec] 45)).heap.size = w.heap.size + 1 by simp] at h
  exact h)
 have HR : Hid (BoxL W1 (w.heap.size + 2) [.bool false, .bool false, .bool false, .slice none 0 0, .bool false, .bool false, .slice none 0 0, .slice none 0 0, .slice none 0 0]) := hid (by
  rw [← hW1]
  have h := BoxL.new ((w.alloc (.cells #[.int .i64 1, .slice none 0 0, .int .i64 2, .int .i64 0, .int .i64 1, .slice EA 1 ec] 45)).alloc (.cells #[.int .u8 K, .string nm, .int .i64 0, .slice (some ⟨eb, eo, none⟩) 2 cx, .int .i64 pp] 50)) [.bool false, .bool false, .bool false, .slice none 0 0, .bool false, .bool false, .slice none 0 0, .slice none 0 0, .slice none 0 0] 34
  rw [show ((w.alloc (.cells #[.int .i64 1, .slice none 0 0, .int .i64 2, .int .i64 0, .int .i64 1, .slice EA 1 ec] 45)).alloc (.cells #[.int .u8 K, .string nm, .int .i64 0, .slice (some ⟨eb, eo, none⟩) 2 cx, .int .i64 pp] 50)).heap.size = w.heap.size + 2 by simp] at h
  exact h)
 have hsz : w.heap.size + 3 ≤ W1.heap.size := by rw [← hW1]; simp
 obtain ⟨HZ, HB, HCH, HBX, HPK, HMY⟩ := hid6 hsz hB0 (hCH W1 hB0) hBX hPK hMY
 obtain ⟨HEX, HME⟩ := hid2 hEX (fun (W : World) (E G : Option Addr) (e g K : Nat) (v1 : U64s W (new K) E e r.l0) (v2 : U64s W (new K) G g r.l1) => imeetG_w (w := W) (r := r) hr gr hr gr v1 v2 v1 v2 (by rw [show max R.1 R.1 = R.1 by omega, show min R.2 R.2 = R.2 by omega]; exact hr) (by omega))
 obtain ⟨g0, g1, g2, g3, g4, g5⟩ := HG.out.all6
 clear hB0 hsz hCH hBX hPK hMY hEX hr gr hle
 go_enter Tryz.func9, Tryz.ntmps9
 go_wp2_with fail
 refine HCH.out.mono ?_
 rintro e w2 ⟨rfl, hc⟩
 replace HG := hid (HG.out.below hc)
 replace HX := hid (HX.out.below hc)
 replace HR := hid (HR.out.below hc)
 replace HB := hid (from_ HB.out hc)
 replace HZ := hid (Nat.le_trans HZ.out hc.size)
 clear g0 g1 g2 g3 g4 g5 hc HCH hW1
 obtain ⟨g0, g1, g2, g3, g4, g5⟩ := HG.out.all6
 go_wp2_with fail
 refine (HBX.out _ HB.out).mono ?_
 rintro e w3 ⟨rfl, hc⟩
 replace HG := hid (HG.out.below hc)
 replace HX := hid (HX.out.below hc)
 replace HR := hid (HR.out.below hc)
 replace HB := hid (from_ HB.out hc)
 replace HZ := hid (Nat.le_trans HZ.out hc.size)
 clear g0 g1 g2 g3 g4 g5 hc HBX
 obtain ⟨g0, g1, g2, g3, g4, g5⟩ := HG.out.all6
 go_wp2_with fail
 refine (HPK.out _ HB.out).mono ?_
 rintro e w4 ⟨rfl, hc⟩
 replace HG := hid (HG.out.below hc)
 replace HX := hid (HX.out.below hc)
 replace HR := hid (HR.out.below hc)
 replace HB := hid (from_ HB.out hc)
 replace HZ := hid (Nat.le_trans HZ.out hc.size)
 clear g0 g1 g2 g3 g4 g5 hc HPK
 obtain ⟨g0, g1, g2, g3, g4, g5⟩ := HG.out.all6
 obtain ⟨x0, x1, x2, x3, x4⟩ := HX.out.all5
 go_wp2_with fail
 refine (HMY.out _ HB.out).mono ?_
 rintro e w5 ⟨rfl, hc⟩
 replace HG := hid (HG.out.below hc)
 replace HX := hid (HX.out.below hc)
 replace HR := hid (HR.out.below hc)
 replace HB := hid (from_ HB.out hc)
 replace HZ := hid (Nat.le_trans HZ.out hc.size)
 clear g0 g1 g2 g3 g4 g5 x0 x1 x2 x3 x4 hc HMY
 have hal := (Below.refl w5.heap.size w5).alloc (Nat.le_refl _) (.cells #[.int .i64 1, .slice none 0 0, .int .i64 2, .int .i64 0, .int .i64 1, .slice EA 1 ec, .slice (some ⟨pb, po, none⟩) 1 pc, .slice (some ⟨bb, bo, none⟩) 1 bc, .bool false, .bool false, .bool false, .bool false, .bool false, .bool false] 68)
 have HLK : Hid (BoxL (w5.alloc (.cells #[.int .i64 1, .slice none 0 0, .int .i64 2, .int .i64 0, .int .i64 1, .slice EA 1 ec, .slice (some ⟨pb, po, none⟩) 1 pc, .slice (some ⟨bb, bo, none⟩) 1 bc, .bool false, .bool false, .bool false, .bool false, .bool false, .bool false] 68)) w5.heap.size [.int .i64 1, .slice none 0 0, .int .i64 2, .int .i64 0, .int .i64 1, .slice EA 1 ec, .slice (some ⟨pb, po, none⟩) 1 pc, .slice (some ⟨bb, bo, none⟩) 1 bc, .bool false, .bool false, .bool false, .bool false, .bool false, .bool false]) := hid (BoxL.new w5 [.int .i64 1, .slice none 0 0, .int .i64 2, .int .i64 0, .int .i64 1, .slice EA 1 ec, .slice (some ⟨pb, po, none⟩) 1 pc, .slice (some ⟨bb, bo, none⟩) 1 bc, .bool false, .bool false, .bool false, .bool false, .bool false, .bool false] _)
 have HB6 := hid (from_ HB.out hal)
 obtain ⟨HE, HR6⟩ := hid2 (HEX.out _ w5.heap.size HB6.out HB.out.size HLK.out) (HR.out.below hal)
 have HX6 := HX.out.below hal
 have HL5 := hid HZ.out
 obtain ⟨g0, g1, g2, g3, g4, g5⟩ := HG.out.all6
 obtain ⟨x0, x1, x2, x3, x4⟩ := HX6.all5
 clear HEX HG HX HR HX6 hal
 go_wp2_with fail
 refine HE.out.mono ?_
 rintro e w7 ⟨rA, ra, rB, rb, F, f, rfl, v1, v2, hf, hn, hG, hK⟩
 have HT := hid (BoxL.new w7 [.bool r.n0, .bool r.s0, .slice rA r.l0.length ra, .bool r.n1, .bool r.s1, .slice rB r.l1.length rb, .slice F 2 f] 70)
 have ha8 := (Below.refl w7.heap.size w7).alloc (Nat.le_refl _) (.cells #[.bool r.n0, .bool r.s0, .slice rA r.l0.length ra, .bool r.n1, .bool r.s1, .slice rB r.l1.length rb, .slice F 2 f] 70)
 have HO := hid (BoxL.new (w7.alloc (.cells #[.bool r.n0, .bool r.s0, .slice rA r.l0.length ra, .bool r.n1, .bool r.s1, .slice rB r.l1.length rb, .slice F 2 f] 70)) [.bool false, .bool false, .bool false, .slice none 0 0, .bool false, .bool false, .slice none 0 0, .slice none 0 0, .slice none 0 0] 34)
 have ha9 := (Below.refl (w7.alloc (.cells #[.bool r.n0, .bool r.s0, .slice rA r.l0.length ra, .bool r.n1, .bool r.s1, .slice rB r.l1.length rb, .slice F 2 f] 70)).heap.size (w7.alloc (.cells #[.bool r.n0, .bool r.s0, .slice rA r.l0.length ra, .bool r.n1, .bool r.s1, .slice rB r.l1.length rb, .slice F 2 f] 70))).alloc (Nat.le_refl _) (.cells #[.bool false, .bool false, .bool false, .slice none 0 0, .bool false, .bool false, .slice none 0 0, .slice none 0 0, .slice none 0 0] 34)
 have ha79 := from_ ha8 ha9
 have hsz7 : w5.heap.size + 1 ≤ w7.heap.size := by have := hG.size; simpa using this
 have HB7 := hid (HB6.out.grown hG HB6.out.size (fun k e => by injection e with e; subst e; exact HB.out.size))
 obtain ⟨HB9, HR9, HK9, HT9, V1, V2⟩ := hid6 (from_ HB7.out ha79) ((HR6.out.keptR hG (by have := HL5.out; simp; omega)).below ha79) (hK.below ha79) (HT.out.below ha9) (v1.below ha79) (v2.below ha79)
 obtain ⟨HF9, HM, HS7⟩ := hid3 (And.intro (hf.mid.below ha79) hn) (HME.out _ rA rB ra rb _ V1.out V2.out) hsz7
 obtain ⟨⟨t0, t1, t2, t3, t4, t5, t6⟩, _⟩ := HT9.out.all7
 clear g0 g1 g2 g3 g4 g5 x0 x1 x2 x3 x4 HE HLK HR6 hG hK v1 v2 hf hn hsz7 ha8 ha9 ha79 HME HT HB6 V1 V2
 obtain ⟨gT, hgT⟩ : ∃ g, w7.heap.size = g := ⟨_, rfl⟩
 go_wp2_with fail
 refine HM.out.mono ?_
 rintro e w10 ⟨sA, sa, sB, sb, rfl, s1, s2, hc⟩
 have HI := hid (BoxL.new w10 [.bool r.n0, .bool r.s0, .slice sA r.l0.length sa, .bool r.n1, .bool r.s1, .slice sB r.l1.length sb] 29)
 have hal := (Below.refl w10.heap.size w10).alloc (Nat.le_refl _) (.cells #[.bool r.n0, .bool r.s0, .slice sA r.l0.length sa, .bool r.n1, .bool r.s1, .slice sB r.l1.length sb] 29)
 obtain ⟨W11, hW11⟩ : ∃ W, w10.alloc (.cells #[.bool r.n0, .bool r.s0, .slice sA r.l0.length sa, .bool r.n1, .bool r.s1, .slice sB r.l1.length sb] 29) = W := ⟨_, rfl⟩
 rw [hW11] at HI hal
 have hc11 := from_ hc hal
 obtain ⟨HB11, HR11, HK11, HT11, HO11, S1⟩ := hid6 (from_ HB9.out hc11) (HR9.out.below hc11) (HK9.out.below hc11) (HT9.out.below hc11) (HO.out.below hc11) (s1.below hal)
 obtain ⟨S2, HF11, HZ11⟩ := hid3 (s2.below hal) (HF9.out.1.below hc11) hc11.size
 simp only [World.size_alloc, hgT] at HO11 HT11 S1 S2 HZ11 HS7 HF11
 have hd11 : Below W11.heap.size W11 W11.drew := bdr_
 have HCL := hid (lclone2 (w := W11.drew) (HF11.out.below hd11))
 clear t0 t1 t2 t3 t4 t5 t6 hc hal hc11 s1 s2 HM HF9 HR9 HK9 HT9 HO HB9 hd11
 go_upto_region 13 with fail
 clear hW11
 go_cut [] (fun wx => ∃ (F' : Option Addr) (f' : Nat), Hid (BoxL wx (gT + 1) [.bool false, .bool r.n0, .bool r.s0, .slice sA r.l0.length sa, .bool r.n1, .bool r.s1, .slice sB r.l1.length sb, .slice F' 2 f', .slice none 0 0]) ∧ Hid (BoxL wx (w.heap.size + 2) [.bool false, .bool false, .bool false, .slice none 0 0, .bool false, .bool false, .slice none 0 0, .slice none 0 0, .slice none 0 0]) ∧ Hid (BoxL wx w5.heap.size [.int .i64 1, .slice none 0 0, .int .i64 2, .int .i64 0, .int .i64 1, .slice EA 1 ec, .slice (some ⟨pb, po, none⟩) 1 pc, .slice (some ⟨bb, bo, none⟩) 1 bc, .bool false, .bool false, .bool false, .bool wz, .bool false, .bool false]) ∧ Hid (U64s wx (new (gT + 2)) sA sa r.l0) ∧ Hid (U64s wx (new (gT + 2)) sB sb r.l1) ∧ Hid (IvsAt wx (midZ (w5.heap.size + 1) gT) F' f' [f0, f1]) ∧ Hid (NewA (gT + 2) F') ∧ Below w.heap.size w wx)
 case first =>
  obtain ⟨x0, x1, x2, x3, x4, x5⟩ := HI.out.all6
  have t6 := HT11.out.c 6 _ rfl
  first | go_region_with ((go_at_call 20; with_reducible refine HCL.out.mono ?_; rintro e w12 ⟨F', f', rfl, hf', hn', hc⟩; have hc2 : Below W11.heap.size W11 w12 := from_ ((Below.refl W11.heap.size W11).drew) hc; have HO12 := hid (HO11.out.below hc2); obtain ⟨y0, y1, y2, y3, y4, y5⟩ := (HI.out.below hc2).all6; obtain ⟨⟨o0, o1, o2, o3, o4, o5, o6, o7, o8⟩, p0, p1, p2, p3, p4, p5, p6, p7, p8⟩ := HO12.out.all9)) | fail
  all_goals
   have hg := (((((((grown_set w12 (gT + 1) 1 (.bool r.n0)).trans (grown_set _ (gT + 1) 2 (.bool r.s0))).trans (grown_set _ (gT + 1) 3 (.slice sA r.l0.length sa))).trans (grown_set _ (gT + 1) 4 (.bool r.n1))).trans (grown_set _ (gT + 1) 5 (.bool r.s1))).trans (grown_set _ (gT + 1) 6 (.slice sB r.l1.length sb))).trans (grown_set _ (gT + 1) 7 (.slice F' 2 f')))
   obtain ⟨HOF, HRF, HKF, SF1, SF2⟩ := hid5 (((((((HO12.out.set 1 (.bool r.n0) rfl).set 2 (.bool r.s0) rfl).set 3 (.slice sA r.l0.length sa) rfl).set 4 (.bool r.n1) rfl).set 5 (.bool r.s1) rfl).set 6 (.slice sB r.l1.length sb) rfl).set 7 (.slice F' 2 f') rfl) ((HR11.out.below hc2).keptR hg (by have := HS7.out; have := HL5.out; simp; omega)) ((HK11.out.below hc2).keptR hg (by have := HS7.out; simp; omega)) ((S1.out.below hc2).keepN hg (fun h => by have h' : gT + 2 ≤ gT + 1 := h; omega)) ((S2.out.below hc2).keepN hg (fun h => by have h' : gT + 2 ≤ gT + 1 := h; omega))
   have hnA : NewA W11.heap.size F' := hn'
   obtain ⟨FF, NF, BF⟩ := hid3 (IvsAt.keepN hf' hnA hg (fun h => by have h' := h.2; omega) (by have := HZ11.out; omega)) (show NewA (gT + 2) F' from fun b o e => by have h1 := hnA b o e; have := HZ11.out; omega) ((from_ HB11.out hc2).grown hg (by have := HB11.out.size; have := hc2.size; omega) (fun k e => by have := HS7.out; have := HL5.out; injection e; omega))
   clear x0 x1 x2 x3 x4 x5 t6 y0 y1 y2 y3 y4 y5 o0 o1 o2 o3 o4 o5 o6 o7 o8 p0 p1 p2 p3 p4 p5 p6 p7 p8 hg hf' hn' hnA hc hc2 HO12 HCL
   go_wp2_with fail
   go_meet
   exact ⟨F', f', HOF, HRF, HKF, SF1, SF2, FF, NF, BF.out⟩
 case rest =>
  obtain ⟨F', f', HO13, HR13, HK13, S13, T13, HF13, HN13, hB13⟩ := hcut
  obtain ⟨HB13, HZ5⟩ := hid2 hB13 (show w.heap.size + 3 ≤ w5.heap.size from HL5.out)
  have k8 := HK13.out.c 8 _ rfl
  have k9 := HK13.out.c 9 _ rfl
  have k10 := HK13.out.c 10 _ rfl
  have k11 := HK13.out.c 11 _ rfl
  have k12 := HK13.out.c 12 _ rfl
  have k13 := HK13.out.c 13 _ rfl
  have i0 := fun W => (idx6 W false false false wz false false).1
  have i1 := fun W => (idx6 W false false false wz false false).2.1
  have i2 := fun W => (idx6 W false false false wz false false).2.2.1
  have i3 := fun W => (idx6 W false false false wz false false).2.2.2.1
  have i4 := fun W => (idx6 W false false false wz false false).2.2.2.2.1
  have i5 := fun W => (idx6 W false false false wz false false).2.2.2.2.2
  clear hB13 S1 S2 HI HR11 HK11 HT11 HO11 HF11 HCL HB11 HB7 HB HL5 HZ
  obtain ⟨W13, hren⟩ : ∃ W, W = wc := ⟨_, rfl⟩
  subst hren
  go_wp2
  clear k8 k9 k10 k11 k12 k13
  refine wp_loop_rounds 7 ?_
  cases wz with
  | false =>
    rw [rounds_succ]
    go_wp2
    rw [rounds_succ]
    go_wp2
    rw [rounds_succ]
    go_wp2
    rw [rounds_succ]
    go_wp2
    rw [rounds_succ]
    go_wp2
    rw [rounds_succ]
    go_wp2
    rw [rounds_succ]
    obtain ⟨⟨o0, o1, o2, o3, o4, o5, o6, o7, o8⟩, _⟩ := HO13.out.all9
    obtain ⟨⟨r0, r1, r2, r3, r4, r5, r6, r7, r8⟩, p0, p1, p2, p3, p4, p5, p6, p7, p8⟩ := HR13.out.all9
    have hg := (((((((((grown_set W13 (w.heap.size + 2) 0 (.bool false)).trans (grown_set _ (w.heap.size + 2) 1 (.bool r.n0))).trans (grown_set _ (w.heap.size + 2) 2 (.bool r.s0))).trans (grown_set _ (w.heap.size + 2) 3 (.slice sA r.l0.length sa))).trans (grown_set _ (w.heap.size + 2) 4 (.bool r.n1))).trans (grown_set _ (w.heap.size + 2) 5 (.bool r.s1))).trans (grown_set _ (w.heap.size + 2) 6 (.slice sB r.l1.length sb))).trans (grown_set _ (w.heap.size + 2) 7 (.slice F' 2 f'))).trans (grown_set _ (w.heap.size + 2) 8 (.slice none 0 0)))
    obtain ⟨HPF, SF1, SF2, FF, BF⟩ := hid5 (((((((((HR13.out.set 0 (.bool false) rfl).set 1 (.bool r.n0) rfl).set 2 (.bool r.s0) rfl).set 3 (.slice sA r.l0.length sa) rfl).set 4 (.bool r.n1) rfl).set 5 (.bool r.s1) rfl).set 6 (.slice sB r.l1.length sb) rfl).set 7 (.slice F' 2 f') rfl).set 8 (.slice none 0 0) rfl) ((S13.out.keepN hg (fun h => by have h' : gT + 2 ≤ w.heap.size + 2 := h; have := HS7.out; have := HZ5.out; omega)).mono (Y := new w.heap.size) (new_le (by have := HS7.out; have := HZ5.out; omega))) ((T13.out.keepN hg (fun h => by have h' : gT + 2 ≤ w.heap.size + 2 := h; have := HS7.out; have := HZ5.out; omega)).mono (Y := new w.heap.size) (new_le (by have := HS7.out; have := HZ5.out; omega))) ((HF13.out.keepN HN13.out hg (fun h => by have h' := h.1; have := HZ5.out; omega) (by have := HS7.out; have := HZ5.out; omega)).mono (Y := new w.heap.size) ⟨fun b h => by have h1 := h.1; have := HZ5.out; show w.heap.size ≤ b; omega, fun _ => trivial⟩) (HB13.out.grown hg HB13.out.size (fun k e => by injection e; omega))
    clear hg i0 i1 i2 i3 i4 i5
    go_upto_region 20 with fail
    go_cut [9] (fun s9 wx => s9 = .int .i64 0 ∧ wx = (((((((((W13.setCell ⟨w.heap.size + 2, 0, none⟩ (.bool false)).setCell ⟨w.heap.size + 2, 1, none⟩ (.bool r.n0)).setCell ⟨w.heap.size + 2, 2, none⟩ (.bool r.s0)).setCell ⟨w.heap.size + 2, 3, none⟩ (.slice sA r.l0.length sa)).setCell ⟨w.heap.size + 2, 4, none⟩ (.bool r.n1)).setCell ⟨w.heap.size + 2, 5, none⟩ (.bool r.s1)).setCell ⟨w.heap.size + 2, 6, none⟩ (.slice sB r.l1.length sb)).setCell ⟨w.heap.size + 2, 7, none⟩ (.slice F' 2 f')).setCell ⟨w.heap.size + 2, 8, none⟩ (.slice none 0 0)))
    case first =>
     clear SF1 SF2 FF BF HPF HS7 HZ5 HN13
     go_wp2_with fail
     go_meet
     exact ⟨rfl, rfl⟩
    case rest =>
     obtain ⟨rfl, hwc⟩ := hcut
     subst hwc
     clear o0 o1 o2 o3 o4 o5 o6 o7 o8 r0 r1 r2 r3 r4 r5 r6 r7 r8 p0 p1 p2 p3 p4 p5 p6 p7 p8
     refine (‹∀ (a : Act) (w : World), Code.wp Tryz.prog Code.ret _ a w → _›) _ _ ?_
     refine wp_ret ?_
     (try simp only [Exit.then])
     change bodyPost _ _ _ _ _ _
     refine bodyPost_ret (res_Lined2 rfl _ (w.heap.size + 2) rfl HPF.out) rfl ?_
     exact ⟨_, _, _, _, _, _, _, rfl, SF1.out, SF2.out, FF.out, (fun b o e => by have h1 := HN13.out b o e; have := HS7.out; have := HZ5.out; omega), fun _ => rfl, (fun h => by cases h), BF.out⟩
  | true =>
    rw [rounds_succ]
    go_wp2
    rw [rounds_succ]
    go_wp2
    rw [rounds_succ]
    go_wp2
    rw [rounds_succ]
    obtain ⟨iu, hu, uz0, uz1, uz2⟩ := info_parts infoU8
    have o8 := HO13.out.c 8 _ rfl
    have hO1 := HO13.out.lt
    go_wp2_with (at_builtin; go_loud (refine wpList_appF _ rfl _ _ 32 rfl w.heap.size 5 iu (.int .u8 0) 1 1 Tryz.underlying32 hu uz0 uz1 uz2 rfl (by omega) (by omega) (.slice none 0 0) 0 [] rfl (World.ownsRow_nil _ _ _ _) W13.heap.size [.int .u8 3] rfl rfl (fun j u h => by have h1 := cell_one_new W13 (.int .u8 3) 5 j u h; rw [Addr.add_lit, Nat.zero_add] at h1; exact h1) (by simp [Value.oneCell']) (by omega) (by have := HB13.out.size; simp; omega) ?_); intro v' w14 hown hgrow hfr; obtain ⟨gW, capW, rfl, hcW, hmW⟩ := own_slice hown (by omega); have HO14 := hid ((HO13.out.alloc (.cells #[.int .u8 3] 5)).keptR hgrow (by simp [Value.ownBlock])); have y8 := HO14.out.c 8 _ rfl; have z8 := HO14.out.f 8 _ rfl)
    have hgW : W13.heap.size + 1 ≤ gW := by
     rcases hfr with e | e
     · simp [Value.ownBlock] at e
     · have h1 := e gW rfl
       simpa using h1
    have hal := (Below.refl W13.heap.size W13).alloc (Nat.le_refl _) (.cells #[.int .u8 3] 5)
    have h14 : Below W13.heap.size W13 w14 := hal.grown hgrow (by simp) (fun k e => by simp [Value.ownBlock] at e)
    obtain ⟨W15, hW15⟩ : ∃ W, w14.setCell ⟨gT + 1, 8, none⟩ (.slice (some ⟨gW, 0, none⟩) 1 capW) = W := ⟨_, rfl⟩
    have hg15 : w14.grownBy W15 (some (gT + 1)) := by rw [← hW15]; exact grown_set _ _ _ _
    have HO15 : Hid (BoxL W15 (gT + 1) [.bool false, .bool r.n0, .bool r.s0, .slice sA r.l0.length sa, .bool r.n1, .bool r.s1, .slice sB r.l1.length sb, .slice F' 2 f', .slice (some ⟨gW, 0, none⟩) 1 capW]) := hid (by rw [← hW15]; exact HO14.out.set 8 _ rfl)
    obtain ⟨HR15, S15, T15, HF15, HB15⟩ := hid5 ((HR13.out.below h14).keptR hg15 (by have := HS7.out; have := HZ5.out; simp; omega)) ((S13.out.below h14).keepN hg15 (fun h => by have h' : gT + 2 ≤ gT + 1 := h; omega)) ((T13.out.below h14).keepN hg15 (fun h => by have h' : gT + 2 ≤ gT + 1 := h; omega)) ((HF13.out.below h14).keepN HN13.out hg15 (fun h => by have h' := h.2; omega) (by omega)) ((from_ HB13.out h14).grown hg15 (by have := HB13.out.size; have := h14.size; omega) (fun k e => by have := HS7.out; have := HZ5.out; injection e; omega))
    have hcw := hown.cells (g := gW) rfl 0 (.int .u8 3) rfl
    rw [Addr.add_lit] at hcw
    have hcw15 : W15.cell? ⟨gW, 0, none⟩ = some (.int .u8 3) := (World.cell?_of_block (a := ⟨gW, 0, none⟩) (hg15.block gW (hown.lt gW rfl).2 (by simp; omega))).trans hcw
    have HCW := hid (And.intro hcw15 hgW)
    have hlW : W13.heap.size ≤ gW := by omega
    have HlW := hid (show w.heap.size + 3 ≤ gW by have := HB13.out.size; have := HS7.out; have := HZ5.out; omega)
    clear o8 y8 z8 hown hgrow hfr hal h14 hg15 hcw hcw15 HO14 HO13 HR13 S13 T13 HF13 HB13 hgW hlW
    go_wp2
    rw [rounds_succ]
    go_wp2
    rw [rounds_succ]
    go_wp2
    rw [rounds_succ]
    obtain ⟨⟨o0, o1, o2, o3, o4, o5, o6, o7, o8⟩, _⟩ := HO15.out.all9
    obtain ⟨⟨r0, r1, r2, r3, r4, r5, r6, r7, r8⟩, p0, p1, p2, p3, p4, p5, p6, p7, p8⟩ := HR15.out.all9
    have hg := (((((((((grown_set W15 (w.heap.size + 2) 0 (.bool false)).trans (grown_set _ (w.heap.size + 2) 1 (.bool r.n0))).trans (grown_set _ (w.heap.size + 2) 2 (.bool r.s0))).trans (grown_set _ (w.heap.size + 2) 3 (.slice sA r.l0.length sa))).trans (grown_set _ (w.heap.size + 2) 4 (.bool r.n1))).trans (grown_set _ (w.heap.size + 2) 5 (.bool r.s1))).trans (grown_set _ (w.heap.size + 2) 6 (.slice sB r.l1.length sb))).trans (grown_set _ (w.heap.size + 2) 7 (.slice F' 2 f'))).trans (grown_set _ (w.heap.size + 2) 8 (.slice (some ⟨gW, 0, none⟩) 1 capW)))
    obtain ⟨HPF, SF1, SF2, FF, BF, WF⟩ := hid6 (((((((((HR15.out.set 0 (.bool false) rfl).set 1 (.bool r.n0) rfl).set 2 (.bool r.s0) rfl).set 3 (.slice sA r.l0.length sa) rfl).set 4 (.bool r.n1) rfl).set 5 (.bool r.s1) rfl).set 6 (.slice sB r.l1.length sb) rfl).set 7 (.slice F' 2 f') rfl).set 8 (.slice (some ⟨gW, 0, none⟩) 1 capW) rfl) ((S15.out.keepN hg (fun h => by have h' : gT + 2 ≤ w.heap.size + 2 := h; have := HS7.out; have := HZ5.out; omega)).mono (Y := new w.heap.size) (new_le (by have := HS7.out; have := HZ5.out; omega))) ((T15.out.keepN hg (fun h => by have h' : gT + 2 ≤ w.heap.size + 2 := h; have := HS7.out; have := HZ5.out; omega)).mono (Y := new w.heap.size) (new_le (by have := HS7.out; have := HZ5.out; omega))) ((HF15.out.keepN HN13.out hg (fun h => by have h' := h.1; have := HZ5.out; omega) (by have := HS7.out; have := HZ5.out; omega)).mono (Y := new w.heap.size) ⟨fun b h => by have h1 := h.1; have := HZ5.out; show w.heap.size ≤ b; omega, fun _ => trivial⟩) (HB15.out.grown hg HB15.out.size (fun k e => by injection e; omega)) ((World.cell?_of_block (a := ⟨gW, 0, none⟩) (hg.block gW (lt_of_cell HCW.out.1) (by have := HlW.out; simp; omega))).trans HCW.out.1)
    clear hW15
    clear hg i0 i1 i2 i3 i4 i5
    go_upto_region 20 with fail
    go_cut [9] (fun s9 wx => s9 = .int .i64 0 ∧ wx = (((((((((W15.setCell ⟨w.heap.size + 2, 0, none⟩ (.bool false)).setCell ⟨w.heap.size + 2, 1, none⟩ (.bool r.n0)).setCell ⟨w.heap.size + 2, 2, none⟩ (.bool r.s0)).setCell ⟨w.heap.size + 2, 3, none⟩ (.slice sA r.l0.length sa)).setCell ⟨w.heap.size + 2, 4, none⟩ (.bool r.n1)).setCell ⟨w.heap.size + 2, 5, none⟩ (.bool r.s1)).setCell ⟨w.heap.size + 2, 6, none⟩ (.slice sB r.l1.length sb)).setCell ⟨w.heap.size + 2, 7, none⟩ (.slice F' 2 f')).setCell ⟨w.heap.size + 2, 8, none⟩ (.slice (some ⟨gW, 0, none⟩) 1 capW)))
    case first =>
     clear SF1 SF2 FF BF HPF HS7 HZ5 HN13 WF HO15 HR15 S15 T15 HF15 HB15
     go_wp2_with fail
     go_meet
     exact ⟨rfl, rfl⟩
    case rest =>
     obtain ⟨rfl, hwc⟩ := hcut
     subst hwc
     clear o0 o1 o2 o3 o4 o5 o6 o7 o8 r0 r1 r2 r3 r4 r5 r6 r7 r8 p0 p1 p2 p3 p4 p5 p6 p7 p8
     refine (‹∀ (a : Act) (w : World), Code.wp Tryz.prog Code.ret _ a w → _›) _ _ ?_
     refine wp_ret ?_
     (try simp only [Exit.then])
     change bodyPost _ _ _ _ _ _
     refine bodyPost_ret (res_Lined2 rfl _ (w.heap.size + 2) rfl HPF.out) rfl ?_
     exact ⟨_, _, _, _, _, _, _, rfl, SF1.out, SF2.out, FF.out, (fun b o e => by have h1 := HN13.out b o e; have := HS7.out; have := HZ5.out; omega), (fun h => by cases h), (fun _ => ⟨gW, capW, rfl, WF.out, (by have := HlW.out; omega)⟩), BF.out⟩
theorem BoxL.all6f (H : BoxL W g [a0, a1, a2, a3, a4, a5]) : W.cell? ⟨g, 0, none⟩ = some a0 ∧ W.cell? ⟨g, 1, none⟩ = some a1 ∧ W.cell? ⟨g, 2, none⟩ = some a2 ∧ W.cell? ⟨g, 3, none⟩ = some a3 ∧ W.cell? ⟨g, 4, none⟩ = some a4 ∧ W.cell? ⟨g, 5, none⟩ = some a5 ∧ W.frozen? ⟨g, 0, none⟩ = false ∧ W.frozen? ⟨g, 1, none⟩ = false ∧ W.frozen? ⟨g, 2, none⟩ = false ∧ W.frozen? ⟨g, 3, none⟩ = false ∧ W.frozen? ⟨g, 4, none⟩ = false ∧ W.frozen? ⟨g, 5, none⟩ = false := ⟨H.c 0 _ rfl, H.c 1 _ rfl, H.c 2 _ rfl, H.c 3 _ rfl, H.c 4 _ rfl, H.c 5 _ rfl, H.f 0 _ rfl, H.f 1 _ rfl, H.f 2 _ rfl, H.f 3 _ rfl, H.f 4 _ rfl, H.f 5 _ rfl⟩
theorem res_graph2 {fn : Func} {p u : Tmp} (h : fn.results = #[.cell p 45, .tmp u]) (tmps : Array Value) (g : Nat) {a b c d e f : Value} (hp : tmps.getD p undef = .pointer (some ⟨g, 0, none⟩)) (hB : BoxL w g [a, b, c, d, e, f]) :
  (results fn tmps).run Tryz.prog w = .ok (.tuple #[.agg #[a, b, c, d, e, f], tmps.getD u undef]) w := by
 rw [results_cell_tmp h, hp]
 have hl : (loadVar 45 ⟨g, 0, none⟩).run Tryz.prog w = .ok (.agg #[a, b, c, d, e, f]) w := by
  obtain ⟨h0, h1, h2, h3, h4, h5⟩ := hB.all6
  unfold loadVar
  go_simp
 simp [asAddr, Result.andThen, hl]
theorem l1fin (HR : BoxL V w.heap.size [a0, a1, a2, a3, a4, a5]) (hB : Below w.heap.size w V) :
  V.grownBy ((((((V.setCell ⟨w.heap.size, 0, none⟩ (.int .i64 1)).setCell ⟨w.heap.size, 1, none⟩ (.slice none 0 0)).setCell ⟨w.heap.size, 2, none⟩ (.int .i64 2)).setCell ⟨w.heap.size, 3, none⟩ (.int .i64 0)).setCell ⟨w.heap.size, 4, none⟩ (.int .i64 1)).setCell ⟨w.heap.size, 5, none⟩ (.slice (some ⟨gE, 0, none⟩) 1 1)) (some w.heap.size) ∧ BoxL ((((((V.setCell ⟨w.heap.size, 0, none⟩ (.int .i64 1)).setCell ⟨w.heap.size, 1, none⟩ (.slice none 0 0)).setCell ⟨w.heap.size, 2, none⟩ (.int .i64 2)).setCell ⟨w.heap.size, 3, none⟩ (.int .i64 0)).setCell ⟨w.heap.size, 4, none⟩ (.int .i64 1)).setCell ⟨w.heap.size, 5, none⟩ (.slice (some ⟨gE, 0, none⟩) 1 1)) w.heap.size [.int .i64 1, .slice none 0 0, .int .i64 2, .int .i64 0, .int .i64 1, .slice (some ⟨gE, 0, none⟩) 1 1] ∧ Below w.heap.size w ((((((V.setCell ⟨w.heap.size, 0, none⟩ (.int .i64 1)).setCell ⟨w.heap.size, 1, none⟩ (.slice none 0 0)).setCell ⟨w.heap.size, 2, none⟩ (.int .i64 2)).setCell ⟨w.heap.size, 3, none⟩ (.int .i64 0)).setCell ⟨w.heap.size, 4, none⟩ (.int .i64 1)).setCell ⟨w.heap.size, 5, none⟩ (.slice (some ⟨gE, 0, none⟩) 1 1)) := by
 have hg : V.grownBy ((((((V.setCell ⟨w.heap.size, 0, none⟩ (.int .i64 1)).setCell ⟨w.heap.size, 1, none⟩ (.slice none 0 0)).setCell ⟨w.heap.size, 2, none⟩ (.int .i64 2)).setCell ⟨w.heap.size, 3, none⟩ (.int .i64 0)).setCell ⟨w.heap.size, 4, none⟩ (.int .i64 1)).setCell ⟨w.heap.size, 5, none⟩ (.slice (some ⟨gE, 0, none⟩) 1 1)) (some w.heap.size) := (((((grown_set V w.heap.size 0 _).trans (grown_set _ w.heap.size 1 _)).trans (grown_set _ w.heap.size 2 _)).trans (grown_set _ w.heap.size 3 _)).trans (grown_set _ w.heap.size 4 _)).trans (grown_set _ w.heap.size 5 _)
 exact ⟨hg, ((((((HR.set 0 (.int .i64 1) rfl).set 1 (.slice none 0 0) rfl).set 2 (.int .i64 2) rfl).set 3 (.int .i64 0) rfl).set 4 (.int .i64 1) rfl).set 5 (.slice (some ⟨gE, 0, none⟩) 1 1) rfl), hB.grown hg hB.size (fun k e => by injection e; omega)⟩
theorem l1end {tmps : Array Value} (hp : tmps.getD 0 undef = .pointer (some ⟨w.heap.size, 0, none⟩)) (hu : tmps.getD 1 undef = .slice (some ⟨gI, 0, none⟩) 1 1) (hR : BoxL W w.heap.size [.int .i64 1, .slice none 0 0, .int .i64 2, .int .i64 0, .int .i64 1, .slice (some ⟨gE, 0, none⟩) 1 1]) (hE : BoxL W gE [.int .i64 0, .int .i64 1, .int .u8 1, .int .i64 0, .int .u8 0, .slice none 0 0, .int .i64 0]) (hI : BoxL W gI [.bool q.n0, .bool q.s0, .slice C q.l0.length c, .bool q.n1, .bool q.s1, .slice D q.l1.length d]) (h1 : U64s W (new w.heap.size) C c q.l0) (h2 : U64s W (new w.heap.size) D d q.l1) (hb : Below w.heap.size w W) :
  bodyPost Tryz.prog Tryz.f8 (fun e w' => ∃ gE gI C c D d, e = .returned (.tuple #[.agg #[.int .i64 1, .slice none 0 0, .int .i64 2, .int .i64 0, .int .i64 1, .slice (some ⟨gE, 0, none⟩) 1 1], .slice (some ⟨gI, 0, none⟩) 1 1]) ∧ BoxL w' gE [.int .i64 0, .int .i64 1, .int .u8 1, .int .i64 0, .int .u8 0, .slice none 0 0, .int .i64 0] ∧ BoxL w' gI [.bool q.n0, .bool q.s0, .slice C q.l0.length c, .bool q.n1, .bool q.s1, .slice D q.l1.length d] ∧ U64s w' (new w.heap.size) C c q.l0 ∧ U64s w' (new w.heap.size) D d q.l1 ∧ Below w.heap.size w w') Exit.ret { tmps := tmps, defers := [] } W := by
 have h := res_graph2 (fn := Tryz.f8) (p := 0) (u := 1) rfl tmps w.heap.size hp hR
 rw [hu] at h
 exact bodyPost_ret h rfl ⟨_, _, _, _, _, _, rfl, hE, hI, h1, h2, hb⟩
theorem l27one (hq : IvW (0, 9) q) :
  Calls Tryz.prog 8 #[] w fun e w' => ∃ gE gI C c D d, e = .returned (.tuple #[.agg #[.int .i64 1, .slice none 0 0, .int .i64 2, .int .i64 0, .int .i64 1, .slice (some ⟨gE, 0, none⟩) 1 1], .slice (some ⟨gI, 0, none⟩) 1 1]) ∧ BoxL w' gE [.int .i64 0, .int .i64 1, .int .u8 1, .int .i64 0, .int .u8 0, .slice none 0 0, .int .i64 0] ∧ BoxL w' gI [.bool q.n0, .bool q.s0, .slice C q.l0.length c, .bool q.n1, .bool q.s1, .slice D q.l1.length d] ∧ U64s w' (new w.heap.size) C c q.l0 ∧ U64s w' (new w.heap.size) D d q.l1 ∧ Below w.heap.size w w' := by
 have hB0 : Below w.heap.size w (w.alloc (.cells #[.int .i64 0, .slice none 0 0, .int .i64 0, .int .i64 0, .int .i64 0, .slice none 0 0] 45)) := (Below.refl _ w).alloc (Nat.le_refl _) _
 have HR := hid (BoxL.new w [.int .i64 0, .slice none 0 0, .int .i64 0, .int .i64 0, .int .i64 0, .slice none 0 0] 45)
 have ho := iof_good (w := w.alloc (.cells #[.int .i64 0, .slice none 0 0, .int .i64 0, .int .i64 0, .int .i64 0, .slice none 0 0] 45)) (x := 0) (y := 9) (by omega) (by omega) (by omega)
 obtain ⟨⟨e1, e2, e3⟩, e4, e5, e6⟩ := hq
 rw [← e1, ← e2, ← e3, ← e4, ← e5, ← e6] at ho
 obtain ⟨HO, HB⟩ := hid2 ho hB0
 clear hB0 ho e1 e2 e3 e4 e5 e6
 go_enter Tryz.func8, Tryz.ntmps8
 go_wp2_with fail
 refine HO.out.mono ?_
 rintro e w1 ⟨C, c, D, d, rfl, u1, u2, hc⟩
 have hal := (Below.refl w1.heap.size w1).alloc (Nat.le_refl _) (.cells #[.bool q.n0, .bool q.s0, .slice C q.l0.length c, .bool q.n1, .bool q.s1, .slice D q.l1.length d] 29)
 obtain ⟨W2, hW2⟩ : ∃ W, w1.alloc (.cells #[.bool q.n0, .bool q.s0, .slice C q.l0.length c, .bool q.n1, .bool q.s1, .slice D q.l1.length d] 29) = W := ⟨_, rfl⟩
 have HI : Hid (BoxL W2 w1.heap.size [.bool q.n0, .bool q.s0, .slice C q.l0.length c, .bool q.n1, .bool q.s1, .slice D q.l1.length d]) := hid (by rw [← hW2]; exact BoxL.new w1 _ _)
 rw [hW2] at hal
 have hc2 := from_ hc hal
 obtain ⟨HB2, HR2, U1, U2, HZ⟩ := hid5 (from_ HB.out hc2) (HR.out.below hc2) (u1.below hal) (u2.below hal) hc2.size
 have HZ1 : Hid (w.heap.size + 1 ≤ w1.heap.size) := hid (by have := hc.size; simpa using this)
 clear hc hal hc2 u1 u2 HO HR HB
 go_upto_region 2 with fail
 clear hW2
 obtain ⟨i0, i1, i2, i3, i4, i5⟩ := HI.out.all6
 have hE := (Below.refl W2.heap.size W2).alloc (Nat.le_refl _) (.cells #[.int .i64 0, .int .i64 1, .int .u8 1, .int .i64 0, .int .u8 0, .slice none 0 0, .int .i64 0] 60)
 have hI := (Below.refl W2.heap.size W2).alloc (Nat.le_refl _) (.cells #[.bool q.n0, .bool q.s0, .slice C q.l0.length c, .bool q.n1, .bool q.s1, .slice D q.l1.length d] 29)
 have hEI := hE.alloc hE.size (.cells #[.bool q.n0, .bool q.s0, .slice C q.l0.length c, .bool q.n1, .bool q.s1, .slice D q.l1.length d] 29)
 have hIE := hI.alloc hI.size (.cells #[.int .i64 0, .int .i64 1, .int .u8 1, .int .i64 0, .int .u8 0, .slice none 0 0, .int .i64 0] 60)
 obtain ⟨HEI, HIE⟩ := hid2 hEI hIE
 obtain ⟨j0, j1, j2, j3, j4, j5⟩ := (HI.out.below hE).all6
 obtain ⟨r0, r1, r2, r3, r4, r5, f0, f1, f2, f3, f4, f5⟩ := (HR2.out.below hEI).all6f
 obtain ⟨s0, s1, s2, s3, s4, s5, h0, h1, h2, h3, h4, h5⟩ := (HR2.out.below hIE).all6f
 obtain ⟨t0, t1, t2, t3, t4, t5, k0, k1, k2, k3, k4, k5⟩ := (HR2.out.below hE).all6f
 have hne : ¬ w1.heap.size = w.heap.size := by have := HZ1.out; omega
 have hne' : ¬ w.heap.size = w1.heap.size := by have := HZ1.out; omega
 have HE1 := hid hE
 have hlW : w.heap.size < W2.heap.size := by have := HB2.out.size; have := HR2.out.lt; omega
 obtain ⟨FA, FB, FC⟩ := hid3 (l1fin (w := w) (V := ((W2.alloc (.cells #[.int .i64 0, .int .i64 1, .int .u8 1, .int .i64 0, .int .u8 0, .slice none 0 0, .int .i64 0] 60)).alloc (.cells #[.bool q.n0, .bool q.s0, .slice C q.l0.length c, .bool q.n1, .bool q.s1, .slice D q.l1.length d] 29))) (gE := W2.heap.size) (HR2.out.below hEI) (from_ HB2.out hEI)) (l1fin (w := w) (V := ((W2.alloc (.cells #[.bool q.n0, .bool q.s0, .slice C q.l0.length c, .bool q.n1, .bool q.s1, .slice D q.l1.length d] 29)).alloc (.cells #[.int .i64 0, .int .i64 1, .int .u8 1, .int .i64 0, .int .u8 0, .slice none 0 0, .int .i64 0] 60))) (gE := W2.heap.size + 1) (HR2.out.below hIE) (from_ HB2.out hIE)) (l1fin (w := w) (V := (W2.alloc (.cells #[.int .i64 0, .int .i64 1, .int .u8 1, .int .i64 0, .int .u8 0, .slice none 0 0, .int .i64 0] 60))) (gE := W2.heap.size) (HR2.out.below hE) (from_ HB2.out hE))
 have bE : BoxL ((W2.alloc (.cells #[.int .i64 0, .int .i64 1, .int .u8 1, .int .i64 0, .int .u8 0, .slice none 0 0, .int .i64 0] 60)).alloc (.cells #[.bool q.n0, .bool q.s0, .slice C q.l0.length c, .bool q.n1, .bool q.s1, .slice D q.l1.length d] 29)) W2.heap.size [.int .i64 0, .int .i64 1, .int .u8 1, .int .i64 0, .int .u8 0, .slice none 0 0, .int .i64 0] := (BoxL.new W2 [.int .i64 0, .int .i64 1, .int .u8 1, .int .i64 0, .int .u8 0, .slice none 0 0, .int .i64 0] 60).alloc _
 have bI : BoxL ((W2.alloc (.cells #[.int .i64 0, .int .i64 1, .int .u8 1, .int .i64 0, .int .u8 0, .slice none 0 0, .int .i64 0] 60)).alloc (.cells #[.bool q.n0, .bool q.s0, .slice C q.l0.length c, .bool q.n1, .bool q.s1, .slice D q.l1.length d] 29)) (W2.heap.size + 1) [.bool q.n0, .bool q.s0, .slice C q.l0.length c, .bool q.n1, .bool q.s1, .slice D q.l1.length d] := by
  have h := BoxL.new (W2.alloc (.cells #[.int .i64 0, .int .i64 1, .int .u8 1, .int .i64 0, .int .u8 0, .slice none 0 0, .int .i64 0] 60)) [.bool q.n0, .bool q.s0, .slice C q.l0.length c, .bool q.n1, .bool q.s1, .slice D q.l1.length d] 29
  rw [show (W2.alloc (.cells #[.int .i64 0, .int .i64 1, .int .u8 1, .int .i64 0, .int .u8 0, .slice none 0 0, .int .i64 0] 60)).heap.size = W2.heap.size + 1 by simp] at h
  exact h
 have GA := hid (And.intro (bE.keptR FA.out.1 (by simp; omega)).drew (And.intro (bI.keptR FA.out.1 (by simp; omega)).drew (And.intro ((((U1.out.below hEI).keepN FA.out.1 (fun h => by have h' : _ ≤ w.heap.size := h; simp at h'; omega)).mono (Y := new w.heap.size) (new_le (by simp))).below bdr_) ((((U2.out.below hEI).keepN FA.out.1 (fun h => by have h' : _ ≤ w.heap.size := h; simp at h'; omega)).mono (Y := new w.heap.size) (new_le (by simp))).below bdr_))))
 have bI2 : BoxL ((W2.alloc (.cells #[.bool q.n0, .bool q.s0, .slice C q.l0.length c, .bool q.n1, .bool q.s1, .slice D q.l1.length d] 29)).alloc (.cells #[.int .i64 0, .int .i64 1, .int .u8 1, .int .i64 0, .int .u8 0, .slice none 0 0, .int .i64 0] 60)) W2.heap.size [.bool q.n0, .bool q.s0, .slice C q.l0.length c, .bool q.n1, .bool q.s1, .slice D q.l1.length d] := (BoxL.new W2 [.bool q.n0, .bool q.s0, .slice C q.l0.length c, .bool q.n1, .bool q.s1, .slice D q.l1.length d] 29).alloc _
 have bE2 : BoxL ((W2.alloc (.cells #[.bool q.n0, .bool q.s0, .slice C q.l0.length c, .bool q.n1, .bool q.s1, .slice D q.l1.length d] 29)).alloc (.cells #[.int .i64 0, .int .i64 1, .int .u8 1, .int .i64 0, .int .u8 0, .slice none 0 0, .int .i64 0] 60)) (W2.heap.size + 1) [.int .i64 0, .int .i64 1, .int .u8 1, .int .i64 0, .int .u8 0, .slice none 0 0, .int .i64 0] := by
  have h := BoxL.new (W2.alloc (.cells #[.bool q.n0, .bool q.s0, .slice C q.l0.length c, .bool q.n1, .bool q.s1, .slice D q.l1.length d] 29)) [.int .i64 0, .int .i64 1, .int .u8 1, .int .i64 0, .int .u8 0, .slice none 0 0, .int .i64 0] 60
  rw [show (W2.alloc (.cells #[.bool q.n0, .bool q.s0, .slice C q.l0.length c, .bool q.n1, .bool q.s1, .slice D q.l1.length d] 29)).heap.size = W2.heap.size + 1 by simp] at h
  exact h
 have GB := hid (And.intro (bE2.keptR FB.out.1 (by simp; omega)).drew (And.intro (bI2.keptR FB.out.1 (by simp; omega)).drew (And.intro ((((U1.out.below hIE).keepN FB.out.1 (fun h => by have h' : _ ≤ w.heap.size := h; simp at h'; omega)).mono (Y := new w.heap.size) (new_le (by simp))).below bdr_) ((((U2.out.below hIE).keepN FB.out.1 (fun h => by have h' : _ ≤ w.heap.size := h; simp at h'; omega)).mono (Y := new w.heap.size) (new_le (by simp))).below bdr_))))
 have bE3 : BoxL (W2.alloc (.cells #[.int .i64 0, .int .i64 1, .int .u8 1, .int .i64 0, .int .u8 0, .slice none 0 0, .int .i64 0] 60)) W2.heap.size [.int .i64 0, .int .i64 1, .int .u8 1, .int .i64 0, .int .u8 0, .slice none 0 0, .int .i64 0] := BoxL.new W2 [.int .i64 0, .int .i64 1, .int .u8 1, .int .i64 0, .int .u8 0, .slice none 0 0, .int .i64 0] 60
 have hal := (Below.refl (((((((W2.alloc (.cells #[.int .i64 0, .int .i64 1, .int .u8 1, .int .i64 0, .int .u8 0, .slice none 0 0, .int .i64 0] 60)).setCell ⟨w.heap.size, 0, none⟩ (.int .i64 1)).setCell ⟨w.heap.size, 1, none⟩ (.slice none 0 0)).setCell ⟨w.heap.size, 2, none⟩ (.int .i64 2)).setCell ⟨w.heap.size, 3, none⟩ (.int .i64 0)).setCell ⟨w.heap.size, 4, none⟩ (.int .i64 1)).setCell ⟨w.heap.size, 5, none⟩ (.slice (some ⟨W2.heap.size, 0, none⟩) 1 1)).heap.size (((((((W2.alloc (.cells #[.int .i64 0, .int .i64 1, .int .u8 1, .int .i64 0, .int .u8 0, .slice none 0 0, .int .i64 0] 60)).setCell ⟨w.heap.size, 0, none⟩ (.int .i64 1)).setCell ⟨w.heap.size, 1, none⟩ (.slice none 0 0)).setCell ⟨w.heap.size, 2, none⟩ (.int .i64 2)).setCell ⟨w.heap.size, 3, none⟩ (.int .i64 0)).setCell ⟨w.heap.size, 4, none⟩ (.int .i64 1)).setCell ⟨w.heap.size, 5, none⟩ (.slice (some ⟨W2.heap.size, 0, none⟩) 1 1))).alloc (Nat.le_refl _) (.cells #[.bool q.n0, .bool q.s0, .slice C q.l0.length c, .bool q.n1, .bool q.s1, .slice D q.l1.length d] 29)
 have bI3 : BoxL ((((((((W2.alloc (.cells #[.int .i64 0, .int .i64 1, .int .u8 1, .int .i64 0, .int .u8 0, .slice none 0 0, .int .i64 0] 60)).setCell ⟨w.heap.size, 0, none⟩ (.int .i64 1)).setCell ⟨w.heap.size, 1, none⟩ (.slice none 0 0)).setCell ⟨w.heap.size, 2, none⟩ (.int .i64 2)).setCell ⟨w.heap.size, 3, none⟩ (.int .i64 0)).setCell ⟨w.heap.size, 4, none⟩ (.int .i64 1)).setCell ⟨w.heap.size, 5, none⟩ (.slice (some ⟨W2.heap.size, 0, none⟩) 1 1)).alloc (.cells #[.bool q.n0, .bool q.s0, .slice C q.l0.length c, .bool q.n1, .bool q.s1, .slice D q.l1.length d] 29)) (W2.heap.size + 1) [.bool q.n0, .bool q.s0, .slice C q.l0.length c, .bool q.n1, .bool q.s1, .slice D q.l1.length d] := by
  have h := BoxL.new (((((((W2.alloc (.cells #[.int .i64 0, .int .i64 1, .int .u8 1, .int .i64 0, .int .u8 0, .slice none 0 0, .int .i64 0] 60)).setCell ⟨w.heap.size, 0, none⟩ (.int .i64 1)).setCell ⟨w.heap.size, 1, none⟩ (.slice none 0 0)).setCell ⟨w.heap.size, 2, none⟩ (.int .i64 2)).setCell ⟨w.heap.size, 3, none⟩ (.int .i64 0)).setCell ⟨w.heap.size, 4, none⟩ (.int .i64 1)).setCell ⟨w.heap.size, 5, none⟩ (.slice (some ⟨W2.heap.size, 0, none⟩) 1 1)) [.bool q.n0, .bool q.s0, .slice C q.l0.length c, .bool q.n1, .bool q.s1, .slice D q.l1.length d] 29
  rw [show (((((((W2.alloc (.cells #[.int .i64 0, .int .i64 1, .int .u8 1, .int .i64 0, .int .u8 0, .slice none 0 0, .int .i64 0] 60)).setCell ⟨w.heap.size, 0, none⟩ (.int .i64 1)).setCell ⟨w.heap.size, 1, none⟩ (.slice none 0 0)).setCell ⟨w.heap.size, 2, none⟩ (.int .i64 2)).setCell ⟨w.heap.size, 3, none⟩ (.int .i64 0)).setCell ⟨w.heap.size, 4, none⟩ (.int .i64 1)).setCell ⟨w.heap.size, 5, none⟩ (.slice (some ⟨W2.heap.size, 0, none⟩) 1 1)).heap.size = W2.heap.size + 1 by simp] at h
  exact h
 obtain ⟨HAL, GC, HLW⟩ := hid3 hal (And.intro ((bE3.keptR FC.out.1 (by simp; omega)).below hal).drew (And.intro bI3.drew (And.intro (((((U1.out.below hE).keepN FC.out.1 (fun h => by have h' : _ ≤ w.heap.size := h; simp at h'; omega)).mono (Y := new w.heap.size) (new_le (by simp))).below hal).below bdr_) (((((U2.out.below hE).keepN FC.out.1 (fun h => by have h' : _ ≤ w.heap.size := h; simp at h'; omega)).mono (Y := new w.heap.size) (new_le (by simp))).below hal).below bdr_)))) hlW
 clear hE hI hEI hIE hlW bE bI bI2 bE2 bE3 bI3 hal
 go_region
 all_goals
  clear r0 r1 r2 r3 r4 r5 f0 f1 f2 f3 f4 f5 s0 s1 s2 s3 s4 s5 h0 h1 h2 h3 h4 h5 t0 t1 t2 t3 t4 t5 k0 k1 k2 k3 k4 k5 i0 i1 i2 i3 i4 i5 j0 j1 j2 j3 j4 j5 hne hne'
  simp only [Exit.then]
  refine (‹∀ (a : Act) (w : World), Code.wp Tryz.prog Code.ret _ a w → _›) _ _ ?_
  refine wp_ret ?_
  (try simp only [Exit.then])
  change bodyPost _ _ _ _ _ _
 · exact l1end rfl rfl FA.out.2.1.drew GA.out.1 GA.out.2.1 GA.out.2.2.1 GA.out.2.2.2 FA.out.2.2.drew
 · exact l1end rfl rfl (FC.out.2.1.below HAL.out).drew GC.out.1 GC.out.2.1 GC.out.2.2.1 GC.out.2.2.2 (FC.out.2.2.alloc FC.out.2.2.size _).drew
 · exact l1end rfl rfl FB.out.2.1.drew GB.out.1 GB.out.2.1 GB.out.2.2.1 GB.out.2.2.2 FB.out.2.2.drew
def ed1 : List Ed := [⟨0, 1, 1, 0, 0, [], 0⟩]
theorem ed1_ok : OkG 1 0 2 0 1 0 ed1 := by
 refine ⟨by omega, by omega, by omega, by decide, by omega, by omega, by omega, by decide, fun key hk => ?_⟩
 by_cases h : key = 0
 · subst h
   decide
 · exfalso
   have h1 : hasE ed1 ed1.length key = false := by
    show decide (0 < ((List.range 1).filter fun j => decide ((ed1[j]?).map (·.f) = some key)).length) = false
    have h2 : ¬ (0 : Int) = key := fun e => h e.symm
    simp [List.range_succ, ed1, h2]
   rw [h1] at hk
   cases hk
theorem ed1_at (h : BoxL w gE [.int .i64 0, .int .i64 1, .int .u8 1, .int .i64 0, .int .u8 0, .slice none 0 0, .int .i64 0]) : EdsAt w 0 (some ⟨gE, 0, none⟩) 1 ed1 (fun _ => none) (fun _ => 0) := by
 refine ⟨⟨by decide, by decide, fun _ => ⟨gE, 0, rfl, h.lt, fun j hj i hi => ?_⟩⟩, fun j hj => ?_⟩
 · rcases j with _ | j
   · rcases i with _ | _ | _ | _ | _ | _ | _ | i
     · exact h.c 0 _ rfl
     · exact h.c 1 _ rfl
     · exact h.c 2 _ rfl
     · exact h.c 3 _ rfl
     · exact h.c 4 _ rfl
     · exact h.c 5 _ rfl
     · exact h.c 6 _ rfl
     · omega
   · simp [ed1] at hj
 · rcases j with _ | j
   · exact ⟨rfl, Nat.zero_le _⟩
   · simp [ed1] at hj
theorem box1_at (h : BoxL w gI [.bool q.n0, .bool q.s0, .slice C q.l0.length c, .bool q.n1, .bool q.s1, .slice D q.l1.length d]) : RowK 6 w (some ⟨gI, 0, none⟩) 1 1 (fun _ i => [.bool q.n0, .bool q.s0, .slice C q.l0.length c, .bool q.n1, .bool q.s1, .slice D q.l1.length d].getD i undef) := by
 refine ⟨by decide, by decide, fun _ => ⟨gI, 0, rfl, h.lt, fun j hj i hi => ?_⟩⟩
 rcases j with _ | j
 · rcases i with _ | _ | _ | _ | _ | _ | i
   · exact h.c 0 _ rfl
   · exact h.c 1 _ rfl
   · exact h.c 2 _ rfl
   · exact h.c 3 _ rfl
   · exact h.c 4 _ rfl
   · exact h.c 5 _ rfl
   · omega
 · omega
theorem two_at {k n k' n' : Int} (h : BoxL w g [.int .u8 k, .string ⟨#[]⟩, .int .i64 n, .slice none 0 0, .int .i64 0, .int .u8 k', .string ⟨#[]⟩, .int .i64 n', .slice none 0 0, .int .i64 0]) : ExsAt w 1 (some ⟨g, 0, none⟩) 2 [.mk k ⟨#[]⟩ n [] 0, .mk k' ⟨#[]⟩ n' [] 0] := by
 refine ⟨fun _ => none, fun _ => 0, ⟨by simp, by omega, fun _ => ⟨g, 0, rfl, h.lt, fun j hj i hi => ?_⟩⟩, fun j hj => ?_⟩
 · rcases j with _ | _ | j
   · rcases i with _ | _ | _ | _ | _ | i
     · exact h.c 0 _ rfl
     · exact h.c 1 _ rfl
     · exact h.c 2 _ rfl
     · exact h.c 3 _ rfl
     · exact h.c 4 _ rfl
     · omega
   · rcases i with _ | _ | _ | _ | _ | i
     · exact h.c 5 _ rfl
     · exact h.c 6 _ rfl
     · exact h.c 7 _ rfl
     · exact h.c 8 _ rfl
     · exact h.c 9 _ rfl
     · omega
   · simp at hj
     omega
 · rcases j with _ | _ | j
   · exact ⟨rfl, Nat.zero_le _⟩
   · exact ⟨rfl, Nat.zero_le _⟩
   · simp at hj
     omega
theorem goesC1 : Goes 27 := goes_of Tryz.func27 rfl rfl
theorem noArr : Calls Tryz.prog 26 #[.slice none 0 0, .func (.func 27) #[] #[]] w fun e w' => e = .returned (.bool false) ∧ Below w.heap.size w w' := by
 have h := scontains_int (w := w) (caps := #[]) (f := fun _ => false) goesC1 (RowK.nil 1 w (fun _ _ => undef)) (fun j hj => absurd hj (by omega))
 exact h
theorem check1 (h : BoxL w gE [.int .i64 0, .int .i64 1, .int .u8 1, .int .i64 0, .int .u8 0, .slice none 0 0, .int .i64 0]) : Calls Tryz.prog 14 #[.agg #[.int .i64 1, .slice none 0 0, .int .i64 2, .int .i64 0, .int .i64 1, .slice (some ⟨gE, 0, none⟩) 1 1]] w fun e w' => e = .returned (.int .i64 0) ∧ Below w.heap.size w w' := by
 have h := fcheck_good (V := 1) (na := 0) (ca := 0) (Aa := none) (nodes := 2) (start := 0) (last := 1) (d := 0) ed1_ok (ed1_at h) (fun W' _ => noArr)
 exact h
theorem lof_add (hq : IvW (0, 9) q) (hE : BoxL w gE [.int .i64 0, .int .i64 1, .int .u8 1, .int .i64 0, .int .u8 0, .slice none 0 0, .int .i64 0]) (hI : BoxL w gI [.bool q.n0, .bool q.s0, .slice C q.l0.length c, .bool q.n1, .bool q.s1, .slice D q.l1.length d]) (u1 : U64s w (midZ K0 w.heap.size) C c q.l0) (u2 : U64s w (midZ K0 w.heap.size) D d q.l1) (hP : BoxL w gP [.int .i64 0]) (hX : BoxL w gX [.int .u8 2, .string ⟨#[]⟩, .int .i64 0, .slice none 0 0, .int .i64 0, .int .u8 1, .string ⟨#[]⟩, .int .i64 1, .slice none 0 0, .int .i64 0]) :
  Calls Tryz.prog 9 #[.agg #[.int .i64 1, .slice none 0 0, .int .i64 2, .int .i64 0, .int .i64 1, .slice (some ⟨gE, 0, none⟩) 1 1], .slice (some ⟨gP, 0, none⟩) 1 1, .slice (some ⟨gI, 0, none⟩) 1 1, .agg #[.int .u8 5, .string ⟨#[]⟩, .int .i64 0, .slice (some ⟨gX, 0, none⟩) 2 2, .int .i64 0]] w fun e w' => ∃ sA sa sB sb F f Wr, e = .returned (.tuple #[.agg #[.bool false, .bool (ivOf 1 10).n0, .bool (ivOf 1 10).s0, .slice sA (ivOf 1 10).l0.length sa, .bool (ivOf 1 10).n1, .bool (ivOf 1 10).s1, .slice sB (ivOf 1 10).l1.length sb, .slice F 2 f, Wr], .int .i64 0]) ∧ U64s w' (new w.heap.size) sA sa (ivOf 1 10).l0 ∧ U64s w' (new w.heap.size) sB sb (ivOf 1 10).l1 ∧ IvsAt w' (new w.heap.size) F f [ivOf 1 1, ivOf 1 1] ∧ NewA w.heap.size F ∧ (Wr = .slice none 0 0) ∧ Below w.heap.size w w' := by
 have hal : allP = (-9223372036854775808, 9223372036854775807) := rfl
 have gq : IvN 59 ((0, 9) : IvP).1 ((0, 9) : IvP).2 := iv_n (by decide) (by decide) (by decide) (by omega)
 have hin : allP.1 ≤ ((0, 9) : IvP).1 ∧ ((0, 9) : IvP).2 ≤ allP.2 := by rw [hal]; exact ⟨by decide, by decide⟩
 refine (lof_two (w := w) (EA := some ⟨gE, 0, none⟩) (K := 5) (pp := 0) (nm := ⟨#[]⟩) (wz := false) (r := ivOf 1 10) (R := (1, 10)) (f0 := ivOf 1 1) (f1 := ivOf 1 1) ?_ ?_ ?_ ?_ ?_ (IvW.mk _) ?_ (by decide)).mono ?_
 · intro W hW
   exact check1 (hE.below hW)
 · intro W hW
   exact lboxed_one (box1_at (hI.below hW)) hq (gq.up (by omega)) (u1.below hW) (u2.below hW) hin
 · intro W hW
   exact lpacked_one ((hP.below hW).c 0 _ rfl) (by omega) (by omega)
 · intro W hW
   exact lmay_ok (d := 1) (x := .mk 5 ⟨#[]⟩ 0 [.mk 2 ⟨#[]⟩ 0 [] 0, .mk 1 ⟨#[]⟩ 1 [] 0] 0) (by omega) (by omega) (by decide) (two_at (hX.below hW)) (fun W' _ => noArr)
 · intro W lk hW hlk hk
   have bP := hP.below hW
   have bI := hI.below hW
   have bX := hX.below hW
   have v1 := u1.below hW
   have v2 := u2.below hW
   have e1 : ivA (0, 9) (1, 1) = (1, 10) := by decide +kernel
   have hr : IvW (ivA (0, 9) (1, 1)) (ivOf 1 10) := by rw [e1]; exact IvW.mk _
   have hrn : allP.1 ≤ (ivA (0, 9) (1, 1)).1 ∧ (ivA (0, 9) (1, 1)).2 ≤ allP.2 := by rw [e1, hal]; exact ⟨by decide, by decide⟩
   have gr : IvN 60 (ivA (0, 9) (1, 1)).1 (ivA (0, 9) (1, 1)).2 := by rw [e1]; exact iv_n (by decide) (by decide) (by decide) (by omega)
   refine (lexpr_add (n := 1) (Q := (0, 9)) (q := q) (r := ivOf 1 10) hk (by omega) (by omega) (by omega) (by omega) (bP.c 0 _ rfl) (bI.c 0 _ rfl) (bI.c 1 _ rfl) (bI.c 2 _ rfl) (bI.c 3 _ rfl) (bI.c 4 _ rfl) (bI.c 5 _ rfl) (bX.c 0 _ rfl) (bX.c 1 _ rfl) (bX.c 2 _ rfl) (bX.c 3 _ rfl) (bX.c 4 _ rfl) (bX.c 5 _ rfl) (bX.c 6 _ rfl) (bX.c 7 _ rfl) (bX.c 8 _ rfl) (bX.c 9 _ rfl) hq gq v1 v2 (by omega) hr hrn gr).mono ?_
   rintro e w' ⟨rA, ra, rB, rb, F, f, rfl, a1, a2, a3, a4, a5⟩
   have e2 : fmOf (addLL (varL 1 1) (constL 1 (1, 1))) = [ivOf 1 1, ivOf 1 1] := by
    show fmOf (addLL (varL 1 1) (constL 1 (1, 1))) = fmOf [(1, 1), (1, 1)]
    exact congrArg fmOf (by decide +kernel)
   rw [e2] at a3 ⊢
   refine ⟨rA, ra, rB, rb, F, f, rfl, a1, a2, a3, a4, ?_, ?_⟩
   · have h := grown_of_below a5
     exact ⟨h.os, h.tape, h.output, h.size, fun k hk _ => h.block k hk (by simp)⟩
   · exact hk.below a5
 · exact iv_n (by decide) (by decide) (by decide) (by omega)
 · rintro e w' ⟨sA, sa, sB, sb, F, f, Wr, rfl, a1, a2, a3, a0, a4, a5, a6⟩
   exact ⟨sA, sa, sB, sb, F, f, Wr, rfl, a1, a2, a3, a0, a4 rfl, a6⟩
theorem lof_div (hq : IvW (0, 9) q) (hE : BoxL w gE [.int .i64 0, .int .i64 1, .int .u8 1, .int .i64 0, .int .u8 0, .slice none 0 0, .int .i64 0]) (hI : BoxL w gI [.bool q.n0, .bool q.s0, .slice C q.l0.length c, .bool q.n1, .bool q.s1, .slice D q.l1.length d]) (u1 : U64s w (midZ K0 w.heap.size) C c q.l0) (u2 : U64s w (midZ K0 w.heap.size) D d q.l1) (hP : BoxL w gP [.int .i64 0]) (hX : BoxL w gX [.int .u8 1, .string ⟨#[]⟩, .int .i64 1, .slice none 0 0, .int .i64 0, .int .u8 2, .string ⟨#[]⟩, .int .i64 0, .slice none 0 0, .int .i64 0]) :
  Calls Tryz.prog 9 #[.agg #[.int .i64 1, .slice none 0 0, .int .i64 2, .int .i64 0, .int .i64 1, .slice (some ⟨gE, 0, none⟩) 1 1], .slice (some ⟨gP, 0, none⟩) 1 1, .slice (some ⟨gI, 0, none⟩) 1 1, .agg #[.int .u8 8, .string ⟨#[]⟩, .int .i64 0, .slice (some ⟨gX, 0, none⟩) 2 2, .int .i64 0]] w fun e w' => ∃ sA sa sB sb F f Wr, e = .returned (.tuple #[.agg #[.bool false, .bool (ivOf 0 1).n0, .bool (ivOf 0 1).s0, .slice sA (ivOf 0 1).l0.length sa, .bool (ivOf 0 1).n1, .bool (ivOf 0 1).s1, .slice sB (ivOf 0 1).l1.length sb, .slice F 2 f, Wr], .int .i64 0]) ∧ U64s w' (new w.heap.size) sA sa (ivOf 0 1).l0 ∧ U64s w' (new w.heap.size) sB sb (ivOf 0 1).l1 ∧ IvsAt w' (new w.heap.size) F f [ivOf 0 1, ivOf 0 0] ∧ NewA w.heap.size F ∧ (∃ g cap, Wr = .slice (some ⟨g, 0, none⟩) 1 cap ∧ w'.cell? ⟨g, 0, none⟩ = some (.int .u8 3) ∧ w.heap.size ≤ g) ∧ Below w.heap.size w w' := by
 have hal : allP = (-9223372036854775808, 9223372036854775807) := rfl
 have gq : IvN 59 ((0, 9) : IvP).1 ((0, 9) : IvP).2 := iv_n (by decide) (by decide) (by decide) (by omega)
 have hin : allP.1 ≤ ((0, 9) : IvP).1 ∧ ((0, 9) : IvP).2 ≤ allP.2 := by rw [hal]; exact ⟨by decide, by decide⟩
 refine (lof_two (w := w) (EA := some ⟨gE, 0, none⟩) (K := 8) (pp := 0) (nm := ⟨#[]⟩) (wz := true) (r := ivOf 0 1) (R := (0, 1)) (f0 := ivOf 0 1) (f1 := ivOf 0 0) ?_ ?_ ?_ ?_ ?_ (IvW.mk _) ?_ (by decide)).mono ?_
 · intro W hW
   exact check1 (hE.below hW)
 · intro W hW
   exact lboxed_one (box1_at (hI.below hW)) hq (gq.up (by omega)) (u1.below hW) (u2.below hW) hin
 · intro W hW
   exact lpacked_one ((hP.below hW).c 0 _ rfl) (by omega) (by omega)
 · intro W hW
   exact lmay_ok (d := 1) (x := .mk 8 ⟨#[]⟩ 0 [.mk 1 ⟨#[]⟩ 1 [] 0, .mk 2 ⟨#[]⟩ 0 [] 0] 0) (by omega) (by omega) (by decide) (two_at (hX.below hW)) (fun W' _ => noArr)
 · intro W lk hW hlk hk
   have bP := hP.below hW
   have bI := hI.below hW
   have bX := hX.below hW
   have v1 := u1.below hW
   have v2 := u2.below hW
   have e1 : ivD (1, 1) (0, 9) = (0, 1) := by decide +kernel
   have hr : IvW (ivD (1, 1) (0, 9)) (ivOf 0 1) := by rw [e1]; exact IvW.mk _
   have hrn : allP.1 ≤ (ivD (1, 1) (0, 9)).1 ∧ (ivD (1, 1) (0, 9)).2 ≤ allP.2 := by rw [e1, hal]; exact ⟨by decide, by decide⟩
   have gr : IvN 60 (ivD (1, 1) (0, 9)).1 (ivD (1, 1) (0, 9)).2 := by rw [e1]; exact iv_n (by decide) (by decide) (by decide) (by omega)
   refine (lexpr_div (n := 1) (Q := (0, 9)) (q := q) (r := ivOf 0 1) hk (by omega) (by omega) (by omega) (by omega) (bP.c 0 _ rfl) (bI.c 0 _ rfl) (bI.c 1 _ rfl) (bI.c 2 _ rfl) (bI.c 3 _ rfl) (bI.c 4 _ rfl) (bI.c 5 _ rfl) (bX.c 0 _ rfl) (bX.c 1 _ rfl) (bX.c 2 _ rfl) (bX.c 3 _ rfl) (bX.c 4 _ rfl) (bX.c 5 _ rfl) (bX.c 6 _ rfl) (bX.c 7 _ rfl) (bX.c 8 _ rfl) (bX.c 9 _ rfl) hq gq v1 v2 (by omega) (fun h => by have h' := h.2; omega) (by decide) (by decide) hr hrn gr).mono ?_
   rintro e w' ⟨rA, ra, rB, rb, F, f, rfl, a1, a2, a3, a4, a5, a6⟩
   have e2 : fmOf (constL 1 (ivD (1, 1) (0, 9))) = [ivOf 0 1, ivOf 0 0] := by
    rw [e1]
    rfl
   rw [e2] at a3
   exact ⟨rA, ra, rB, rb, F, f, rfl, a1, a2, a3, a4, a5, a6⟩
 · exact iv_n (by decide) (by decide) (by decide) (by omega)
 · rintro e w' ⟨sA, sa, sB, sb, F, f, Wr, rfl, a1, a2, a3, a0, a4, a5, a6⟩
   exact ⟨sA, sa, sB, sb, F, f, Wr, rfl, a1, a2, a3, a0, a5 rfl, a6⟩
theorem l27of_add (hq : IvW (0, 9) q) (hr : ivOf 1 10 = r) (hf0 : ivOf 1 1 = f0) (hf1 : ivOf 1 1 = f1) :
  Calls Tryz.prog 4 #[.int .u8 5, .bool true] w fun e w' => ∃ sA sa sB sb F f Wr, e = .returned (.tuple #[.agg #[.bool false, .bool r.n0, .bool r.s0, .slice sA r.l0.length sa, .bool r.n1, .bool r.s1, .slice sB r.l1.length sb, .slice F 2 f, Wr], .bool true]) ∧ U64s w' (new w.heap.size) sA sa r.l0 ∧ U64s w' (new w.heap.size) sB sb r.l1 ∧ IvsAt w' (new w.heap.size) F f [f0, f1] ∧ NewA w.heap.size F ∧ Wr = .slice none 0 0 ∧ Below w.heap.size w w' := by
 have hB0 : Below w.heap.size w (w.alloc (.cells #[.bool false, .bool false, .bool false, .slice none 0 0, .bool false, .bool false, .slice none 0 0, .slice none 0 0, .slice none 0 0] 34)) := (Below.refl _ w).alloc (Nat.le_refl _) _
 obtain ⟨HR, HO, HB⟩ := hid3 (BoxL.new w [.bool false, .bool false, .bool false, .slice none 0 0, .bool false, .bool false, .slice none 0 0, .slice none 0 0, .slice none 0 0] 34) (l27one (w := (w.alloc (.cells #[.bool false, .bool false, .bool false, .slice none 0 0, .bool false, .bool false, .slice none 0 0, .slice none 0 0, .slice none 0 0] 34))) hq) hB0
 clear hB0
 go_enter Tryz.func4, Tryz.ntmps4
 go_wp2_with fail
 refine HO.out.mono ?_
 rintro e w1 ⟨gE, gI, C, c, D, d, rfl, hE, hI, u1, u2, hc⟩
 have HZ1 : Hid (w.heap.size + 1 ≤ w1.heap.size) := hid (by have := hc.size; simpa using this)
 have hb1 : Below w1.heap.size w1 (w1.alloc (.cells #[.int .i64 1, .slice none 0 0, .int .i64 2, .int .i64 0, .int .i64 1, .slice (some ⟨gE, 0, none⟩) 1 1] 45)) := (Below.refl w1.heap.size w1).alloc (Nat.le_refl _) _
 have hb2 : Below w1.heap.size w1 ((w1.alloc (.cells #[.int .i64 1, .slice none 0 0, .int .i64 2, .int .i64 0, .int .i64 1, .slice (some ⟨gE, 0, none⟩) 1 1] 45)).alloc (.cells #[.int .u8 2, .string ⟨#[]⟩, .int .i64 0, .slice none 0 0, .int .i64 0] 50)) := hb1.alloc hb1.size _
 have hb3 : Below w1.heap.size w1 (((w1.alloc (.cells #[.int .i64 1, .slice none 0 0, .int .i64 2, .int .i64 0, .int .i64 1, .slice (some ⟨gE, 0, none⟩) 1 1] 45)).alloc (.cells #[.int .u8 2, .string ⟨#[]⟩, .int .i64 0, .slice none 0 0, .int .i64 0] 50)).alloc (.cells #[.int .u8 1, .string ⟨#[]⟩, .int .i64 1, .slice none 0 0, .int .i64 0] 50)) := hb2.alloc hb2.size _
 have hb4 : Below w1.heap.size w1 ((((w1.alloc (.cells #[.int .i64 1, .slice none 0 0, .int .i64 2, .int .i64 0, .int .i64 1, .slice (some ⟨gE, 0, none⟩) 1 1] 45)).alloc (.cells #[.int .u8 2, .string ⟨#[]⟩, .int .i64 0, .slice none 0 0, .int .i64 0] 50)).alloc (.cells #[.int .u8 1, .string ⟨#[]⟩, .int .i64 1, .slice none 0 0, .int .i64 0] 50)).alloc (.cells #[.int .u8 2, .string ⟨#[]⟩, .int .i64 0, .slice none 0 0, .int .i64 0, .int .u8 1, .string ⟨#[]⟩, .int .i64 1, .slice none 0 0, .int .i64 0] 50)) := hb3.alloc hb3.size _
 have hb5 : Below w1.heap.size w1 (((((w1.alloc (.cells #[.int .i64 1, .slice none 0 0, .int .i64 2, .int .i64 0, .int .i64 1, .slice (some ⟨gE, 0, none⟩) 1 1] 45)).alloc (.cells #[.int .u8 2, .string ⟨#[]⟩, .int .i64 0, .slice none 0 0, .int .i64 0] 50)).alloc (.cells #[.int .u8 1, .string ⟨#[]⟩, .int .i64 1, .slice none 0 0, .int .i64 0] 50)).alloc (.cells #[.int .u8 2, .string ⟨#[]⟩, .int .i64 0, .slice none 0 0, .int .i64 0, .int .u8 1, .string ⟨#[]⟩, .int .i64 1, .slice none 0 0, .int .i64 0] 50)).alloc (.cells #[.int .i64 0] 3)) := hb4.alloc hb4.size _
 have bX : BoxL (((((w1.alloc (.cells #[.int .i64 1, .slice none 0 0, .int .i64 2, .int .i64 0, .int .i64 1, .slice (some ⟨gE, 0, none⟩) 1 1] 45)).alloc (.cells #[.int .u8 2, .string ⟨#[]⟩, .int .i64 0, .slice none 0 0, .int .i64 0] 50)).alloc (.cells #[.int .u8 1, .string ⟨#[]⟩, .int .i64 1, .slice none 0 0, .int .i64 0] 50)).alloc (.cells #[.int .u8 2, .string ⟨#[]⟩, .int .i64 0, .slice none 0 0, .int .i64 0, .int .u8 1, .string ⟨#[]⟩, .int .i64 1, .slice none 0 0, .int .i64 0] 50)).alloc (.cells #[.int .i64 0] 3)) (w1.heap.size + 3) [.int .u8 2, .string ⟨#[]⟩, .int .i64 0, .slice none 0 0, .int .i64 0, .int .u8 1, .string ⟨#[]⟩, .int .i64 1, .slice none 0 0, .int .i64 0] := by
  have h := BoxL.new (((w1.alloc (.cells #[.int .i64 1, .slice none 0 0, .int .i64 2, .int .i64 0, .int .i64 1, .slice (some ⟨gE, 0, none⟩) 1 1] 45)).alloc (.cells #[.int .u8 2, .string ⟨#[]⟩, .int .i64 0, .slice none 0 0, .int .i64 0] 50)).alloc (.cells #[.int .u8 1, .string ⟨#[]⟩, .int .i64 1, .slice none 0 0, .int .i64 0] 50)) [.int .u8 2, .string ⟨#[]⟩, .int .i64 0, .slice none 0 0, .int .i64 0, .int .u8 1, .string ⟨#[]⟩, .int .i64 1, .slice none 0 0, .int .i64 0] 50
  rw [show (((w1.alloc (.cells #[.int .i64 1, .slice none 0 0, .int .i64 2, .int .i64 0, .int .i64 1, .slice (some ⟨gE, 0, none⟩) 1 1] 45)).alloc (.cells #[.int .u8 2, .string ⟨#[]⟩, .int .i64 0, .slice none 0 0, .int .i64 0] 50)).alloc (.cells #[.int .u8 1, .string ⟨#[]⟩, .int .i64 1, .slice none 0 0, .int .i64 0] 50)).heap.size = w1.heap.size + 3 by simp] at h
  exact h.alloc _
 have bP : BoxL (((((w1.alloc (.cells #[.int .i64 1, .slice none 0 0, .int .i64 2, .int .i64 0, .int .i64 1, .slice (some ⟨gE, 0, none⟩) 1 1] 45)).alloc (.cells #[.int .u8 2, .string ⟨#[]⟩, .int .i64 0, .slice none 0 0, .int .i64 0] 50)).alloc (.cells #[.int .u8 1, .string ⟨#[]⟩, .int .i64 1, .slice none 0 0, .int .i64 0] 50)).alloc (.cells #[.int .u8 2, .string ⟨#[]⟩, .int .i64 0, .slice none 0 0, .int .i64 0, .int .u8 1, .string ⟨#[]⟩, .int .i64 1, .slice none 0 0, .int .i64 0] 50)).alloc (.cells #[.int .i64 0] 3)) (w1.heap.size + 4) [.int .i64 0] := by
  have h := BoxL.new ((((w1.alloc (.cells #[.int .i64 1, .slice none 0 0, .int .i64 2, .int .i64 0, .int .i64 1, .slice (some ⟨gE, 0, none⟩) 1 1] 45)).alloc (.cells #[.int .u8 2, .string ⟨#[]⟩, .int .i64 0, .slice none 0 0, .int .i64 0] 50)).alloc (.cells #[.int .u8 1, .string ⟨#[]⟩, .int .i64 1, .slice none 0 0, .int .i64 0] 50)).alloc (.cells #[.int .u8 2, .string ⟨#[]⟩, .int .i64 0, .slice none 0 0, .int .i64 0, .int .u8 1, .string ⟨#[]⟩, .int .i64 1, .slice none 0 0, .int .i64 0] 50)) [.int .i64 0] 3
  rw [show ((((w1.alloc (.cells #[.int .i64 1, .slice none 0 0, .int .i64 2, .int .i64 0, .int .i64 1, .slice (some ⟨gE, 0, none⟩) 1 1] 45)).alloc (.cells #[.int .u8 2, .string ⟨#[]⟩, .int .i64 0, .slice none 0 0, .int .i64 0] 50)).alloc (.cells #[.int .u8 1, .string ⟨#[]⟩, .int .i64 1, .slice none 0 0, .int .i64 0] 50)).alloc (.cells #[.int .u8 2, .string ⟨#[]⟩, .int .i64 0, .slice none 0 0, .int .i64 0, .int .u8 1, .string ⟨#[]⟩, .int .i64 1, .slice none 0 0, .int .i64 0] 50)).heap.size = w1.heap.size + 4 by simp] at h
  exact h
 have HL := hid (lof_add hq (hE.below hb5) (hI.below hb5) (u1.below hb5).mid (u2.below hb5).mid bP bX)
 rw [hr, hf0] at HL
 obtain rfl : f0 = f1 := hf0.symm.trans hf1
 clear hr hf0 hf1
 obtain ⟨HB5, HR5⟩ := hid2 (from_ HB.out (from_ hc hb5)) ((HR.out.below hc).below hb5)
 have HS5 : Hid (w.heap.size + 1 ≤ (((((w1.alloc (.cells #[.int .i64 1, .slice none 0 0, .int .i64 2, .int .i64 0, .int .i64 1, .slice (some ⟨gE, 0, none⟩) 1 1] 45)).alloc (.cells #[.int .u8 2, .string ⟨#[]⟩, .int .i64 0, .slice none 0 0, .int .i64 0] 50)).alloc (.cells #[.int .u8 1, .string ⟨#[]⟩, .int .i64 1, .slice none 0 0, .int .i64 0] 50)).alloc (.cells #[.int .u8 2, .string ⟨#[]⟩, .int .i64 0, .slice none 0 0, .int .i64 0, .int .u8 1, .string ⟨#[]⟩, .int .i64 1, .slice none 0 0, .int .i64 0] 50)).alloc (.cells #[.int .i64 0] 3)).heap.size) := hid (by have := HZ1.out; have := hb5.size; omega)
 clear hE hI u1 u2 hc hb1 hb2 hb3 hb4 hb5 bX bP HO HR HB
 go_wp2_with fail
 refine HL.out.mono ?_
 rintro e w2 ⟨sA, sa, sB, sb, F, f, Wr, rfl, S1, S2, HF, hnF, hwr, hc2⟩
 subst hwr
 have hz2 : w.heap.size + 1 ≤ w2.heap.size := Nat.le_trans HS5.out hc2.size
 have ha : Below w2.heap.size w2 (w2.alloc (.cells #[.bool false, .bool r.n0, .bool r.s0, .slice sA r.l0.length sa, .bool r.n1, .bool r.s1, .slice sB r.l1.length sb, .slice F 2 f, .slice none 0 0] 34)) := (Below.refl _ w2).alloc (Nat.le_refl _) _
 obtain ⟨⟨o0, o1, o2, o3, o4, o5, o6, o7, o8⟩, _⟩ := (BoxL.new w2 [.bool false, .bool r.n0, .bool r.s0, .slice sA r.l0.length sa, .bool r.n1, .bool r.s1, .slice sB r.l1.length sb, .slice F 2 f, .slice none 0 0] 34).all9
 have HR7 := hid ((HR5.out.below hc2).below ha)
 obtain ⟨⟨r0, r1, r2, r3, r4, r5, r6, r7, r8⟩, p0, p1, p2, p3, p4, p5, p6, p7, p8⟩ := HR7.out.all9
 have hg := ((((((((grown_set (w2.alloc (.cells #[.bool false, .bool r.n0, .bool r.s0, .slice sA r.l0.length sa, .bool r.n1, .bool r.s1, .slice sB r.l1.length sb, .slice F 2 f, .slice none 0 0] 34)) w.heap.size 0 (.bool false)).trans (grown_set _ w.heap.size 1 (.bool r.n0))).trans (grown_set _ w.heap.size 2 (.bool r.s0))).trans (grown_set _ w.heap.size 3 (.slice sA r.l0.length sa))).trans (grown_set _ w.heap.size 4 (.bool r.n1))).trans (grown_set _ w.heap.size 5 (.bool r.s1))).trans (grown_set _ w.heap.size 6 (.slice sB r.l1.length sb))).trans (grown_set _ w.heap.size 7 (.slice F 2 f))).trans (grown_set _ w.heap.size 8 (.slice none 0 0))
 have HPF := hid (((((((((HR7.out.set 0 (.bool false) rfl).set 1 (.bool r.n0) rfl).set 2 (.bool r.s0) rfl).set 3 (.slice sA r.l0.length sa) rfl).set 4 (.bool r.n1) rfl).set 5 (.bool r.s1) rfl).set 6 (.slice sB r.l1.length sb) rfl).set 7 (.slice F 2 f) rfl).set 8 (.slice none 0 0) rfl)
 have hW5 : w.heap.size + 1 ≤ (((((w1.alloc (.cells #[.int .i64 1, .slice none 0 0, .int .i64 2, .int .i64 0, .int .i64 1, .slice (some ⟨gE, 0, none⟩) 1 1] 45)).alloc (.cells #[.int .u8 2, .string ⟨#[]⟩, .int .i64 0, .slice none 0 0, .int .i64 0] 50)).alloc (.cells #[.int .u8 1, .string ⟨#[]⟩, .int .i64 1, .slice none 0 0, .int .i64 0] 50)).alloc (.cells #[.int .u8 2, .string ⟨#[]⟩, .int .i64 0, .slice none 0 0, .int .i64 0, .int .u8 1, .string ⟨#[]⟩, .int .i64 1, .slice none 0 0, .int .i64 0] 50)).alloc (.cells #[.int .i64 0] 3)).heap.size := HS5.out
 obtain ⟨SF1, SF2, FF, NF, BF⟩ := hid5 (((S1.below ha).keepN hg (fun h => by have h' : (((((w1.alloc (.cells #[.int .i64 1, .slice none 0 0, .int .i64 2, .int .i64 0, .int .i64 1, .slice (some ⟨gE, 0, none⟩) 1 1] 45)).alloc (.cells #[.int .u8 2, .string ⟨#[]⟩, .int .i64 0, .slice none 0 0, .int .i64 0] 50)).alloc (.cells #[.int .u8 1, .string ⟨#[]⟩, .int .i64 1, .slice none 0 0, .int .i64 0] 50)).alloc (.cells #[.int .u8 2, .string ⟨#[]⟩, .int .i64 0, .slice none 0 0, .int .i64 0, .int .u8 1, .string ⟨#[]⟩, .int .i64 1, .slice none 0 0, .int .i64 0] 50)).alloc (.cells #[.int .i64 0] 3)).heap.size ≤ w.heap.size := h; omega)).mono (Y := new w.heap.size) (new_le (by omega))) (((S2.below ha).keepN hg (fun h => by have h' : (((((w1.alloc (.cells #[.int .i64 1, .slice none 0 0, .int .i64 2, .int .i64 0, .int .i64 1, .slice (some ⟨gE, 0, none⟩) 1 1] 45)).alloc (.cells #[.int .u8 2, .string ⟨#[]⟩, .int .i64 0, .slice none 0 0, .int .i64 0] 50)).alloc (.cells #[.int .u8 1, .string ⟨#[]⟩, .int .i64 1, .slice none 0 0, .int .i64 0] 50)).alloc (.cells #[.int .u8 2, .string ⟨#[]⟩, .int .i64 0, .slice none 0 0, .int .i64 0, .int .u8 1, .string ⟨#[]⟩, .int .i64 1, .slice none 0 0, .int .i64 0] 50)).alloc (.cells #[.int .i64 0] 3)).heap.size ≤ w.heap.size := h; omega)).mono (Y := new w.heap.size) (new_le (by omega))) (((HF.below ha).keepN hnF hg (fun h => by have h' : (((((w1.alloc (.cells #[.int .i64 1, .slice none 0 0, .int .i64 2, .int .i64 0, .int .i64 1, .slice (some ⟨gE, 0, none⟩) 1 1] 45)).alloc (.cells #[.int .u8 2, .string ⟨#[]⟩, .int .i64 0, .slice none 0 0, .int .i64 0] 50)).alloc (.cells #[.int .u8 1, .string ⟨#[]⟩, .int .i64 1, .slice none 0 0, .int .i64 0] 50)).alloc (.cells #[.int .u8 2, .string ⟨#[]⟩, .int .i64 0, .slice none 0 0, .int .i64 0, .int .u8 1, .string ⟨#[]⟩, .int .i64 1, .slice none 0 0, .int .i64 0] 50)).alloc (.cells #[.int .i64 0] 3)).heap.size ≤ w.heap.size := h; omega) hW5).mono (Y := new w.heap.size) (new_le (by omega))) (show NewA w.heap.size F from fun b o e => by have h1 : (((((w1.alloc (.cells #[.int .i64 1, .slice none 0 0, .int .i64 2, .int .i64 0, .int .i64 1, .slice (some ⟨gE, 0, none⟩) 1 1] 45)).alloc (.cells #[.int .u8 2, .string ⟨#[]⟩, .int .i64 0, .slice none 0 0, .int .i64 0] 50)).alloc (.cells #[.int .u8 1, .string ⟨#[]⟩, .int .i64 1, .slice none 0 0, .int .i64 0] 50)).alloc (.cells #[.int .u8 2, .string ⟨#[]⟩, .int .i64 0, .slice none 0 0, .int .i64 0, .int .u8 1, .string ⟨#[]⟩, .int .i64 1, .slice none 0 0, .int .i64 0] 50)).alloc (.cells #[.int .i64 0] 3)).heap.size ≤ b := hnF b o e; omega) ((from_ (from_ HB5.out hc2) ha).grown hg (by have := HB5.out.size; have := hc2.size; simp; omega) (fun k e => by injection e; omega))
 clear hg ha hz2 hW5 S1 S2 HF hnF hc2 HB5 HR5 HS5 HL
 go_upto_region 7 with fail
 go_cut [5] (fun s5 wx => s5 = .bool true ∧ wx = ((((((((((w2.alloc (.cells #[.bool false, .bool r.n0, .bool r.s0, .slice sA r.l0.length sa, .bool r.n1, .bool r.s1, .slice sB r.l1.length sb, .slice F 2 f, .slice none 0 0] 34)).setCell ⟨w.heap.size, 0, none⟩ (.bool false)).setCell ⟨w.heap.size, 1, none⟩ (.bool r.n0)).setCell ⟨w.heap.size, 2, none⟩ (.bool r.s0)).setCell ⟨w.heap.size, 3, none⟩ (.slice sA r.l0.length sa)).setCell ⟨w.heap.size, 4, none⟩ (.bool r.n1)).setCell ⟨w.heap.size, 5, none⟩ (.bool r.s1)).setCell ⟨w.heap.size, 6, none⟩ (.slice sB r.l1.length sb)).setCell ⟨w.heap.size, 7, none⟩ (.slice F 2 f)).setCell ⟨w.heap.size, 8, none⟩ (.slice none 0 0)))
 case first =>
  clear SF1 SF2 FF BF HPF HZ1
  go_wp2_with fail
  go_meet
  exact ⟨rfl, rfl⟩
 case rest =>
  obtain ⟨rfl, hwc⟩ := hcut
  subst hwc
  clear o0 o1 o2 o3 o4 o5 o6 o7 o8 r0 r1 r2 r3 r4 r5 r6 r7 r8 p0 p1 p2 p3 p4 p5 p6 p7 p8
  refine (‹∀ (a : Act) (w : World), Code.wp Tryz.prog Code.ret _ a w → _›) _ _ ?_
  refine wp_ret ?_
  (try simp only [Exit.then])
  change bodyPost _ _ _ _ _ _
  refine bodyPost_ret (res_Lined2 rfl _ w.heap.size rfl HPF.out) rfl ?_
  exact ⟨_, _, _, _, _, _, _, rfl, SF1.out, SF2.out, FF.out, NF.out, rfl, BF.out⟩
theorem l27of_div (hq : IvW (0, 9) q) (hr : ivOf 0 1 = r) (hf0 : ivOf 0 1 = f0) (hf1 : ivOf 0 0 = f1) :
  Calls Tryz.prog 4 #[.int .u8 8, .bool false] w fun e w' => ∃ sA sa sB sb F f Wr, e = .returned (.tuple #[.agg #[.bool false, .bool r.n0, .bool r.s0, .slice sA r.l0.length sa, .bool r.n1, .bool r.s1, .slice sB r.l1.length sb, .slice F 2 f, Wr], .bool true]) ∧ U64s w' (new w.heap.size) sA sa r.l0 ∧ U64s w' (new w.heap.size) sB sb r.l1 ∧ IvsAt w' (new w.heap.size) F f [f0, f1] ∧ NewA w.heap.size F ∧ (∃ g cap, Wr = .slice (some ⟨g, 0, none⟩) 1 cap ∧ w'.cell? ⟨g, 0, none⟩ = some (.int .u8 3) ∧ w.heap.size ≤ g) ∧ Below w.heap.size w w' := by
 have hB0 : Below w.heap.size w (w.alloc (.cells #[.bool false, .bool false, .bool false, .slice none 0 0, .bool false, .bool false, .slice none 0 0, .slice none 0 0, .slice none 0 0] 34)) := (Below.refl _ w).alloc (Nat.le_refl _) _
 obtain ⟨HR, HO, HB⟩ := hid3 (BoxL.new w [.bool false, .bool false, .bool false, .slice none 0 0, .bool false, .bool false, .slice none 0 0, .slice none 0 0, .slice none 0 0] 34) (l27one (w := (w.alloc (.cells #[.bool false, .bool false, .bool false, .slice none 0 0, .bool false, .bool false, .slice none 0 0, .slice none 0 0, .slice none 0 0] 34))) hq) hB0
 clear hB0
 go_enter Tryz.func4, Tryz.ntmps4
 go_wp2_with fail
 refine HO.out.mono ?_
 rintro e w1 ⟨gE, gI, C, c, D, d, rfl, hE, hI, u1, u2, hc⟩
 have HZ1 : Hid (w.heap.size + 1 ≤ w1.heap.size) := hid (by have := hc.size; simpa using this)
 have hb1 : Below w1.heap.size w1 (w1.alloc (.cells #[.int .i64 1, .slice none 0 0, .int .i64 2, .int .i64 0, .int .i64 1, .slice (some ⟨gE, 0, none⟩) 1 1] 45)) := (Below.refl w1.heap.size w1).alloc (Nat.le_refl _) _
 have hb2 : Below w1.heap.size w1 ((w1.alloc (.cells #[.int .i64 1, .slice none 0 0, .int .i64 2, .int .i64 0, .int .i64 1, .slice (some ⟨gE, 0, none⟩) 1 1] 45)).alloc (.cells #[.int .u8 2, .string ⟨#[]⟩, .int .i64 0, .slice none 0 0, .int .i64 0] 50)) := hb1.alloc hb1.size _
 have hb3 : Below w1.heap.size w1 (((w1.alloc (.cells #[.int .i64 1, .slice none 0 0, .int .i64 2, .int .i64 0, .int .i64 1, .slice (some ⟨gE, 0, none⟩) 1 1] 45)).alloc (.cells #[.int .u8 2, .string ⟨#[]⟩, .int .i64 0, .slice none 0 0, .int .i64 0] 50)).alloc (.cells #[.int .u8 1, .string ⟨#[]⟩, .int .i64 1, .slice none 0 0, .int .i64 0] 50)) := hb2.alloc hb2.size _
 have hb4 : Below w1.heap.size w1 ((((w1.alloc (.cells #[.int .i64 1, .slice none 0 0, .int .i64 2, .int .i64 0, .int .i64 1, .slice (some ⟨gE, 0, none⟩) 1 1] 45)).alloc (.cells #[.int .u8 2, .string ⟨#[]⟩, .int .i64 0, .slice none 0 0, .int .i64 0] 50)).alloc (.cells #[.int .u8 1, .string ⟨#[]⟩, .int .i64 1, .slice none 0 0, .int .i64 0] 50)).alloc (.cells #[.int .u8 2, .string ⟨#[]⟩, .int .i64 0, .slice none 0 0, .int .i64 0, .int .u8 1, .string ⟨#[]⟩, .int .i64 1, .slice none 0 0, .int .i64 0] 50)) := hb3.alloc hb3.size _
 have hb5 : Below w1.heap.size w1 (((((w1.alloc (.cells #[.int .i64 1, .slice none 0 0, .int .i64 2, .int .i64 0, .int .i64 1, .slice (some ⟨gE, 0, none⟩) 1 1] 45)).alloc (.cells #[.int .u8 2, .string ⟨#[]⟩, .int .i64 0, .slice none 0 0, .int .i64 0] 50)).alloc (.cells #[.int .u8 1, .string ⟨#[]⟩, .int .i64 1, .slice none 0 0, .int .i64 0] 50)).alloc (.cells #[.int .u8 2, .string ⟨#[]⟩, .int .i64 0, .slice none 0 0, .int .i64 0, .int .u8 1, .string ⟨#[]⟩, .int .i64 1, .slice none 0 0, .int .i64 0] 50)).alloc (.cells #[.int .u8 1, .string ⟨#[]⟩, .int .i64 1, .slice none 0 0, .int .i64 0, .int .u8 2, .string ⟨#[]⟩, .int .i64 0, .slice none 0 0, .int .i64 0] 50)) := hb4.alloc hb4.size _
 have hb6 : Below w1.heap.size w1 ((((((w1.alloc (.cells #[.int .i64 1, .slice none 0 0, .int .i64 2, .int .i64 0, .int .i64 1, .slice (some ⟨gE, 0, none⟩) 1 1] 45)).alloc (.cells #[.int .u8 2, .string ⟨#[]⟩, .int .i64 0, .slice none 0 0, .int .i64 0] 50)).alloc (.cells #[.int .u8 1, .string ⟨#[]⟩, .int .i64 1, .slice none 0 0, .int .i64 0] 50)).alloc (.cells #[.int .u8 2, .string ⟨#[]⟩, .int .i64 0, .slice none 0 0, .int .i64 0, .int .u8 1, .string ⟨#[]⟩, .int .i64 1, .slice none 0 0, .int .i64 0] 50)).alloc (.cells #[.int .u8 1, .string ⟨#[]⟩, .int .i64 1, .slice none 0 0, .int .i64 0, .int .u8 2, .string ⟨#[]⟩, .int .i64 0, .slice none 0 0, .int .i64 0] 50)).alloc (.cells #[.int .i64 0] 3)) := hb5.alloc hb5.size _
 have bX : BoxL ((((((w1.alloc (.cells #[.int .i64 1, .slice none 0 0, .int .i64 2, .int .i64 0, .int .i64 1, .slice (some ⟨gE, 0, none⟩) 1 1] 45)).alloc (.cells #[.int .u8 2, .string ⟨#[]⟩, .int .i64 0, .slice none 0 0, .int .i64 0] 50)).alloc (.cells #[.int .u8 1, .string ⟨#[]⟩, .int .i64 1, .slice none 0 0, .int .i64 0] 50)).alloc (.cells #[.int .u8 2, .string ⟨#[]⟩, .int .i64 0, .slice none 0 0, .int .i64 0, .int .u8 1, .string ⟨#[]⟩, .int .i64 1, .slice none 0 0, .int .i64 0] 50)).alloc (.cells #[.int .u8 1, .string ⟨#[]⟩, .int .i64 1, .slice none 0 0, .int .i64 0, .int .u8 2, .string ⟨#[]⟩, .int .i64 0, .slice none 0 0, .int .i64 0] 50)).alloc (.cells #[.int .i64 0] 3)) (w1.heap.size + 4) [.int .u8 1, .string ⟨#[]⟩, .int .i64 1, .slice none 0 0, .int .i64 0, .int .u8 2, .string ⟨#[]⟩, .int .i64 0, .slice none 0 0, .int .i64 0] := by
  have h := BoxL.new ((((w1.alloc (.cells #[.int .i64 1, .slice none 0 0, .int .i64 2, .int .i64 0, .int .i64 1, .slice (some ⟨gE, 0, none⟩) 1 1] 45)).alloc (.cells #[.int .u8 2, .string ⟨#[]⟩, .int .i64 0, .slice none 0 0, .int .i64 0] 50)).alloc (.cells #[.int .u8 1, .string ⟨#[]⟩, .int .i64 1, .slice none 0 0, .int .i64 0] 50)).alloc (.cells #[.int .u8 2, .string ⟨#[]⟩, .int .i64 0, .slice none 0 0, .int .i64 0, .int .u8 1, .string ⟨#[]⟩, .int .i64 1, .slice none 0 0, .int .i64 0] 50)) [.int .u8 1, .string ⟨#[]⟩, .int .i64 1, .slice none 0 0, .int .i64 0, .int .u8 2, .string ⟨#[]⟩, .int .i64 0, .slice none 0 0, .int .i64 0] 50
  rw [show ((((w1.alloc (.cells #[.int .i64 1, .slice none 0 0, .int .i64 2, .int .i64 0, .int .i64 1, .slice (some ⟨gE, 0, none⟩) 1 1] 45)).alloc (.cells #[.int .u8 2, .string ⟨#[]⟩, .int .i64 0, .slice none 0 0, .int .i64 0] 50)).alloc (.cells #[.int .u8 1, .string ⟨#[]⟩, .int .i64 1, .slice none 0 0, .int .i64 0] 50)).alloc (.cells #[.int .u8 2, .string ⟨#[]⟩, .int .i64 0, .slice none 0 0, .int .i64 0, .int .u8 1, .string ⟨#[]⟩, .int .i64 1, .slice none 0 0, .int .i64 0] 50)).heap.size = w1.heap.size + 4 by simp] at h
  exact h.alloc _
 have bP : BoxL ((((((w1.alloc (.cells #[.int .i64 1, .slice none 0 0, .int .i64 2, .int .i64 0, .int .i64 1, .slice (some ⟨gE, 0, none⟩) 1 1] 45)).alloc (.cells #[.int .u8 2, .string ⟨#[]⟩, .int .i64 0, .slice none 0 0, .int .i64 0] 50)).alloc (.cells #[.int .u8 1, .string ⟨#[]⟩, .int .i64 1, .slice none 0 0, .int .i64 0] 50)).alloc (.cells #[.int .u8 2, .string ⟨#[]⟩, .int .i64 0, .slice none 0 0, .int .i64 0, .int .u8 1, .string ⟨#[]⟩, .int .i64 1, .slice none 0 0, .int .i64 0] 50)).alloc (.cells #[.int .u8 1, .string ⟨#[]⟩, .int .i64 1, .slice none 0 0, .int .i64 0, .int .u8 2, .string ⟨#[]⟩, .int .i64 0, .slice none 0 0, .int .i64 0] 50)).alloc (.cells #[.int .i64 0] 3)) (w1.heap.size + 5) [.int .i64 0] := by
  have h := BoxL.new (((((w1.alloc (.cells #[.int .i64 1, .slice none 0 0, .int .i64 2, .int .i64 0, .int .i64 1, .slice (some ⟨gE, 0, none⟩) 1 1] 45)).alloc (.cells #[.int .u8 2, .string ⟨#[]⟩, .int .i64 0, .slice none 0 0, .int .i64 0] 50)).alloc (.cells #[.int .u8 1, .string ⟨#[]⟩, .int .i64 1, .slice none 0 0, .int .i64 0] 50)).alloc (.cells #[.int .u8 2, .string ⟨#[]⟩, .int .i64 0, .slice none 0 0, .int .i64 0, .int .u8 1, .string ⟨#[]⟩, .int .i64 1, .slice none 0 0, .int .i64 0] 50)).alloc (.cells #[.int .u8 1, .string ⟨#[]⟩, .int .i64 1, .slice none 0 0, .int .i64 0, .int .u8 2, .string ⟨#[]⟩, .int .i64 0, .slice none 0 0, .int .i64 0] 50)) [.int .i64 0] 3
  rw [show (((((w1.alloc (.cells #[.int .i64 1, .slice none 0 0, .int .i64 2, .int .i64 0, .int .i64 1, .slice (some ⟨gE, 0, none⟩) 1 1] 45)).alloc (.cells #[.int .u8 2, .string ⟨#[]⟩, .int .i64 0, .slice none 0 0, .int .i64 0] 50)).alloc (.cells #[.int .u8 1, .string ⟨#[]⟩, .int .i64 1, .slice none 0 0, .int .i64 0] 50)).alloc (.cells #[.int .u8 2, .string ⟨#[]⟩, .int .i64 0, .slice none 0 0, .int .i64 0, .int .u8 1, .string ⟨#[]⟩, .int .i64 1, .slice none 0 0, .int .i64 0] 50)).alloc (.cells #[.int .u8 1, .string ⟨#[]⟩, .int .i64 1, .slice none 0 0, .int .i64 0, .int .u8 2, .string ⟨#[]⟩, .int .i64 0, .slice none 0 0, .int .i64 0] 50)).heap.size = w1.heap.size + 5 by simp] at h
  exact h
 have HL := hid (lof_div hq (hE.below hb6) (hI.below hb6) (u1.below hb6).mid (u2.below hb6).mid bP bX)
 rw [hr, hf1] at HL
 obtain rfl : r = f0 := hr.symm.trans hf0
 clear hr hf0 hf1
 obtain ⟨HB5, HR5⟩ := hid2 (from_ HB.out (from_ hc hb6)) ((HR.out.below hc).below hb6)
 have HS5 : Hid (w.heap.size + 1 ≤ ((((((w1.alloc (.cells #[.int .i64 1, .slice none 0 0, .int .i64 2, .int .i64 0, .int .i64 1, .slice (some ⟨gE, 0, none⟩) 1 1] 45)).alloc (.cells #[.int .u8 2, .string ⟨#[]⟩, .int .i64 0, .slice none 0 0, .int .i64 0] 50)).alloc (.cells #[.int .u8 1, .string ⟨#[]⟩, .int .i64 1, .slice none 0 0, .int .i64 0] 50)).alloc (.cells #[.int .u8 2, .string ⟨#[]⟩, .int .i64 0, .slice none 0 0, .int .i64 0, .int .u8 1, .string ⟨#[]⟩, .int .i64 1, .slice none 0 0, .int .i64 0] 50)).alloc (.cells #[.int .u8 1, .string ⟨#[]⟩, .int .i64 1, .slice none 0 0, .int .i64 0, .int .u8 2, .string ⟨#[]⟩, .int .i64 0, .slice none 0 0, .int .i64 0] 50)).alloc (.cells #[.int .i64 0] 3)).heap.size) := hid (by have := HZ1.out; have := hb6.size; omega)
 clear hE hI u1 u2 hc hb1 hb2 hb3 hb4 hb5 hb6 bX bP HO HR HB
 go_wp2_with fail
 refine HL.out.mono ?_
 rintro e w2 ⟨sA, sa, sB, sb, F, f, Wr, rfl, S1, S2, HF, hnF, hwr, hc2⟩
 obtain ⟨gW, capW, rfl, hcw, hgW⟩ := hwr
 have hz2 : w.heap.size + 1 ≤ w2.heap.size := Nat.le_trans HS5.out hc2.size
 have ha : Below w2.heap.size w2 (w2.alloc (.cells #[.bool false, .bool r.n0, .bool r.s0, .slice sA r.l0.length sa, .bool r.n1, .bool r.s1, .slice sB r.l1.length sb, .slice F 2 f, .slice (some ⟨gW, 0, none⟩) 1 capW] 34)) := (Below.refl _ w2).alloc (Nat.le_refl _) _
 obtain ⟨⟨o0, o1, o2, o3, o4, o5, o6, o7, o8⟩, _⟩ := (BoxL.new w2 [.bool false, .bool r.n0, .bool r.s0, .slice sA r.l0.length sa, .bool r.n1, .bool r.s1, .slice sB r.l1.length sb, .slice F 2 f, .slice (some ⟨gW, 0, none⟩) 1 capW] 34).all9
 have HR7 := hid ((HR5.out.below hc2).below ha)
 obtain ⟨⟨r0, r1, r2, r3, r4, r5, r6, r7, r8⟩, p0, p1, p2, p3, p4, p5, p6, p7, p8⟩ := HR7.out.all9
 have hg := ((((((((grown_set (w2.alloc (.cells #[.bool false, .bool r.n0, .bool r.s0, .slice sA r.l0.length sa, .bool r.n1, .bool r.s1, .slice sB r.l1.length sb, .slice F 2 f, .slice (some ⟨gW, 0, none⟩) 1 capW] 34)) w.heap.size 0 (.bool false)).trans (grown_set _ w.heap.size 1 (.bool r.n0))).trans (grown_set _ w.heap.size 2 (.bool r.s0))).trans (grown_set _ w.heap.size 3 (.slice sA r.l0.length sa))).trans (grown_set _ w.heap.size 4 (.bool r.n1))).trans (grown_set _ w.heap.size 5 (.bool r.s1))).trans (grown_set _ w.heap.size 6 (.slice sB r.l1.length sb))).trans (grown_set _ w.heap.size 7 (.slice F 2 f))).trans (grown_set _ w.heap.size 8 (.slice (some ⟨gW, 0, none⟩) 1 capW))
 have HPF := hid (((((((((HR7.out.set 0 (.bool false) rfl).set 1 (.bool r.n0) rfl).set 2 (.bool r.s0) rfl).set 3 (.slice sA r.l0.length sa) rfl).set 4 (.bool r.n1) rfl).set 5 (.bool r.s1) rfl).set 6 (.slice sB r.l1.length sb) rfl).set 7 (.slice F 2 f) rfl).set 8 (.slice (some ⟨gW, 0, none⟩) 1 capW) rfl)
 have hW5 : w.heap.size + 1 ≤ ((((((w1.alloc (.cells #[.int .i64 1, .slice none 0 0, .int .i64 2, .int .i64 0, .int .i64 1, .slice (some ⟨gE, 0, none⟩) 1 1] 45)).alloc (.cells #[.int .u8 2, .string ⟨#[]⟩, .int .i64 0, .slice none 0 0, .int .i64 0] 50)).alloc (.cells #[.int .u8 1, .string ⟨#[]⟩, .int .i64 1, .slice none 0 0, .int .i64 0] 50)).alloc (.cells #[.int .u8 2, .string ⟨#[]⟩, .int .i64 0, .slice none 0 0, .int .i64 0, .int .u8 1, .string ⟨#[]⟩, .int .i64 1, .slice none 0 0, .int .i64 0] 50)).alloc (.cells #[.int .u8 1, .string ⟨#[]⟩, .int .i64 1, .slice none 0 0, .int .i64 0, .int .u8 2, .string ⟨#[]⟩, .int .i64 0, .slice none 0 0, .int .i64 0] 50)).alloc (.cells #[.int .i64 0] 3)).heap.size := HS5.out
 obtain ⟨SF1, SF2, FF, NF, BF, HgW⟩ := hid6 (((S1.below ha).keepN hg (fun h => by have h' : ((((((w1.alloc (.cells #[.int .i64 1, .slice none 0 0, .int .i64 2, .int .i64 0, .int .i64 1, .slice (some ⟨gE, 0, none⟩) 1 1] 45)).alloc (.cells #[.int .u8 2, .string ⟨#[]⟩, .int .i64 0, .slice none 0 0, .int .i64 0] 50)).alloc (.cells #[.int .u8 1, .string ⟨#[]⟩, .int .i64 1, .slice none 0 0, .int .i64 0] 50)).alloc (.cells #[.int .u8 2, .string ⟨#[]⟩, .int .i64 0, .slice none 0 0, .int .i64 0, .int .u8 1, .string ⟨#[]⟩, .int .i64 1, .slice none 0 0, .int .i64 0] 50)).alloc (.cells #[.int .u8 1, .string ⟨#[]⟩, .int .i64 1, .slice none 0 0, .int .i64 0, .int .u8 2, .string ⟨#[]⟩, .int .i64 0, .slice none 0 0, .int .i64 0] 50)).alloc (.cells #[.int .i64 0] 3)).heap.size ≤ w.heap.size := h; omega)).mono (Y := new w.heap.size) (new_le (by omega))) (((S2.below ha).keepN hg (fun h => by have h' : ((((((w1.alloc (.cells #[.int .i64 1, .slice none 0 0, .int .i64 2, .int .i64 0, .int .i64 1, .slice (some ⟨gE, 0, none⟩) 1 1] 45)).alloc (.cells #[.int .u8 2, .string ⟨#[]⟩, .int .i64 0, .slice none 0 0, .int .i64 0] 50)).alloc (.cells #[.int .u8 1, .string ⟨#[]⟩, .int .i64 1, .slice none 0 0, .int .i64 0] 50)).alloc (.cells #[.int .u8 2, .string ⟨#[]⟩, .int .i64 0, .slice none 0 0, .int .i64 0, .int .u8 1, .string ⟨#[]⟩, .int .i64 1, .slice none 0 0, .int .i64 0] 50)).alloc (.cells #[.int .u8 1, .string ⟨#[]⟩, .int .i64 1, .slice none 0 0, .int .i64 0, .int .u8 2, .string ⟨#[]⟩, .int .i64 0, .slice none 0 0, .int .i64 0] 50)).alloc (.cells #[.int .i64 0] 3)).heap.size ≤ w.heap.size := h; omega)).mono (Y := new w.heap.size) (new_le (by omega))) (((HF.below ha).keepN hnF hg (fun h => by have h' : ((((((w1.alloc (.cells #[.int .i64 1, .slice none 0 0, .int .i64 2, .int .i64 0, .int .i64 1, .slice (some ⟨gE, 0, none⟩) 1 1] 45)).alloc (.cells #[.int .u8 2, .string ⟨#[]⟩, .int .i64 0, .slice none 0 0, .int .i64 0] 50)).alloc (.cells #[.int .u8 1, .string ⟨#[]⟩, .int .i64 1, .slice none 0 0, .int .i64 0] 50)).alloc (.cells #[.int .u8 2, .string ⟨#[]⟩, .int .i64 0, .slice none 0 0, .int .i64 0, .int .u8 1, .string ⟨#[]⟩, .int .i64 1, .slice none 0 0, .int .i64 0] 50)).alloc (.cells #[.int .u8 1, .string ⟨#[]⟩, .int .i64 1, .slice none 0 0, .int .i64 0, .int .u8 2, .string ⟨#[]⟩, .int .i64 0, .slice none 0 0, .int .i64 0] 50)).alloc (.cells #[.int .i64 0] 3)).heap.size ≤ w.heap.size := h; omega) hW5).mono (Y := new w.heap.size) (new_le (by omega))) (show NewA w.heap.size F from fun b o e => by have h1 : ((((((w1.alloc (.cells #[.int .i64 1, .slice none 0 0, .int .i64 2, .int .i64 0, .int .i64 1, .slice (some ⟨gE, 0, none⟩) 1 1] 45)).alloc (.cells #[.int .u8 2, .string ⟨#[]⟩, .int .i64 0, .slice none 0 0, .int .i64 0] 50)).alloc (.cells #[.int .u8 1, .string ⟨#[]⟩, .int .i64 1, .slice none 0 0, .int .i64 0] 50)).alloc (.cells #[.int .u8 2, .string ⟨#[]⟩, .int .i64 0, .slice none 0 0, .int .i64 0, .int .u8 1, .string ⟨#[]⟩, .int .i64 1, .slice none 0 0, .int .i64 0] 50)).alloc (.cells #[.int .u8 1, .string ⟨#[]⟩, .int .i64 1, .slice none 0 0, .int .i64 0, .int .u8 2, .string ⟨#[]⟩, .int .i64 0, .slice none 0 0, .int .i64 0] 50)).alloc (.cells #[.int .i64 0] 3)).heap.size ≤ b := hnF b o e; omega) ((from_ (from_ HB5.out hc2) ha).grown hg (by have := HB5.out.size; have := hc2.size; simp; omega) (fun k e => by injection e; omega)) (show w.heap.size + 1 ≤ gW from Nat.le_trans hW5 hgW)
 have WF := hid ((World.cell?_of_block (a := ⟨gW, 0, none⟩) (hg.block gW (by have h0 : gW < w2.heap.size := lt_of_cell hcw; simp; omega) (by simp; omega))).trans (keepC ha hcw))
 clear hg ha hz2 hW5 S1 S2 HF hnF hc2 HB5 HR5 HS5 HL hcw hgW
 go_upto_region 7 with fail
 go_cut [5] (fun s5 wx => s5 = .bool true ∧ wx = ((((((((((w2.alloc (.cells #[.bool false, .bool r.n0, .bool r.s0, .slice sA r.l0.length sa, .bool r.n1, .bool r.s1, .slice sB r.l1.length sb, .slice F 2 f, .slice (some ⟨gW, 0, none⟩) 1 capW] 34)).setCell ⟨w.heap.size, 0, none⟩ (.bool false)).setCell ⟨w.heap.size, 1, none⟩ (.bool r.n0)).setCell ⟨w.heap.size, 2, none⟩ (.bool r.s0)).setCell ⟨w.heap.size, 3, none⟩ (.slice sA r.l0.length sa)).setCell ⟨w.heap.size, 4, none⟩ (.bool r.n1)).setCell ⟨w.heap.size, 5, none⟩ (.bool r.s1)).setCell ⟨w.heap.size, 6, none⟩ (.slice sB r.l1.length sb)).setCell ⟨w.heap.size, 7, none⟩ (.slice F 2 f)).setCell ⟨w.heap.size, 8, none⟩ (.slice (some ⟨gW, 0, none⟩) 1 capW)))
 case first =>
  clear SF1 SF2 FF BF HPF HZ1 WF
  go_wp2_with fail
  go_meet
  exact ⟨rfl, rfl⟩
 case rest =>
  obtain ⟨rfl, hwc⟩ := hcut
  subst hwc
  clear o0 o1 o2 o3 o4 o5 o6 o7 o8 r0 r1 r2 r3 r4 r5 r6 r7 r8 p0 p1 p2 p3 p4 p5 p6 p7 p8
  refine (‹∀ (a : Act) (w : World), Code.wp Tryz.prog Code.ret _ a w → _›) _ _ ?_
  refine wp_ret ?_
  (try simp only [Exit.then])
  change bodyPost _ _ _ _ _ _
  refine bodyPost_ret (res_Lined2 rfl _ w.heap.size rfl HPF.out) rfl ?_
  exact ⟨_, _, _, _, _, _, _, rfl, SF1.out, SF2.out, FF.out, NF.out, ⟨gW, capW, rfl, WF.out, by have := HgW.out; omega⟩, BF.out⟩
theorem c27_keep {g3 x21 x22 x23 x24 x25 x30 x31 x32 x33 x34 x35 : Nat} {y21 y22 y23 y24 y25 y30 y31 y32 y33 y34 y35 : Value} (hs : (W.cell? ⟨g0, x00, none⟩ = some y00 ∧ W.cell? ⟨g0, x01, none⟩ = some y01 ∧ W.cell? ⟨g0, x02, none⟩ = some y02 ∧ W.cell? ⟨g0, x03, none⟩ = some y03 ∧ W.cell? ⟨g0, x04, none⟩ = some y04 ∧ W.cell? ⟨g0, x05, none⟩ = some y05 ∧ W.cell? ⟨g0, x06, none⟩ = some y06 ∧ W.cell? ⟨g0, x07, none⟩ = some y07 ∧ W.cell? ⟨g0, x08, none⟩ = some y08) ∧ (W.cell? ⟨g1, x10, none⟩ = some y10 ∧ W.cell? ⟨g1, x11, none⟩ = some y11 ∧ W.cell? ⟨g1, x12, none⟩ = some y12 ∧ W.cell? ⟨g1, x13, none⟩ = some y13 ∧ W.cell? ⟨g1, x14, none⟩ = some y14 ∧ W.cell? ⟨g1, x15, none⟩ = some y15) ∧ (W.cell? ⟨g2, x20, none⟩ = some y20 ∧ W.cell? ⟨g2, x21, none⟩ = some y21 ∧ W.cell? ⟨g2, x22, none⟩ = some y22 ∧ W.cell? ⟨g2, x23, none⟩ = some y23 ∧ W.cell? ⟨g2, x24, none⟩ = some y24 ∧ W.cell? ⟨g2, x25, none⟩ = some y25) ∧ (W.cell? ⟨g3, x30, none⟩ = some y30 ∧ W.cell? ⟨g3, x31, none⟩ = some y31 ∧ W.cell? ⟨g3, x32, none⟩ = some y32 ∧ W.cell? ⟨g3, x33, none⟩ = some y33 ∧ W.cell? ⟨g3, x34, none⟩ = some y34 ∧ W.cell? ⟨g3, x35, none⟩ = some y35)) (hb : Below W.heap.size W V) : (V.cell? ⟨g0, x00, none⟩ = some y00 ∧ V.cell? ⟨g0, x01, none⟩ = some y01 ∧ V.cell? ⟨g0, x02, none⟩ = some y02 ∧ V.cell? ⟨g0, x03, none⟩ = some y03 ∧ V.cell? ⟨g0, x04, none⟩ = some y04 ∧ V.cell? ⟨g0, x05, none⟩ = some y05 ∧ V.cell? ⟨g0, x06, none⟩ = some y06 ∧ V.cell? ⟨g0, x07, none⟩ = some y07 ∧ V.cell? ⟨g0, x08, none⟩ = some y08) ∧ (V.cell? ⟨g1, x10, none⟩ = some y10 ∧ V.cell? ⟨g1, x11, none⟩ = some y11 ∧ V.cell? ⟨g1, x12, none⟩ = some y12 ∧ V.cell? ⟨g1, x13, none⟩ = some y13 ∧ V.cell? ⟨g1, x14, none⟩ = some y14 ∧ V.cell? ⟨g1, x15, none⟩ = some y15) ∧ (V.cell? ⟨g2, x20, none⟩ = some y20 ∧ V.cell? ⟨g2, x21, none⟩ = some y21 ∧ V.cell? ⟨g2, x22, none⟩ = some y22 ∧ V.cell? ⟨g2, x23, none⟩ = some y23 ∧ V.cell? ⟨g2, x24, none⟩ = some y24 ∧ V.cell? ⟨g2, x25, none⟩ = some y25) ∧ (V.cell? ⟨g3, x30, none⟩ = some y30 ∧ V.cell? ⟨g3, x31, none⟩ = some y31 ∧ V.cell? ⟨g3, x32, none⟩ = some y32 ∧ V.cell? ⟨g3, x33, none⟩ = some y33 ∧ V.cell? ⟨g3, x34, none⟩ = some y34 ∧ V.cell? ⟨g3, x35, none⟩ = some y35) := by
 obtain ⟨⟨h00, h01, h02, h03, h04, h05, h06, h07, h08⟩, ⟨h10, h11, h12, h13, h14, h15⟩, ⟨h20, h21, h22, h23, h24, h25⟩, ⟨h30, h31, h32, h33, h34, h35⟩⟩ := hs
 exact ⟨⟨keepC hb h00, keepC hb h01, keepC hb h02, keepC hb h03, keepC hb h04, keepC hb h05, keepC hb h06, keepC hb h07, keepC hb h08⟩, ⟨keepC hb h10, keepC hb h11, keepC hb h12, keepC hb h13, keepC hb h14, keepC hb h15⟩, ⟨keepC hb h20, keepC hb h21, keepC hb h22, keepC hb h23, keepC hb h24, keepC hb h25⟩, ⟨keepC hb h30, keepC hb h31, keepC hb h32, keepC hb h33, keepC hb h34, keepC hb h35⟩⟩
theorem c16_keep (hs : (W.cell? ⟨g0, x00, none⟩ = some y00 ∧ W.cell? ⟨g0, x01, none⟩ = some y01 ∧ W.cell? ⟨g0, x02, none⟩ = some y02 ∧ W.cell? ⟨g0, x03, none⟩ = some y03 ∧ W.cell? ⟨g0, x04, none⟩ = some y04 ∧ W.cell? ⟨g0, x05, none⟩ = some y05 ∧ W.cell? ⟨g0, x06, none⟩ = some y06 ∧ W.cell? ⟨g0, x07, none⟩ = some y07 ∧ W.cell? ⟨g0, x08, none⟩ = some y08) ∧ (W.cell? ⟨g1, x10, none⟩ = some y10 ∧ W.cell? ⟨g1, x11, none⟩ = some y11 ∧ W.cell? ⟨g1, x12, none⟩ = some y12 ∧ W.cell? ⟨g1, x13, none⟩ = some y13 ∧ W.cell? ⟨g1, x14, none⟩ = some y14 ∧ W.cell? ⟨g1, x15, none⟩ = some y15) ∧ W.cell? ⟨g2, x20, none⟩ = some y20) (hb : Below W.heap.size W V) : (V.cell? ⟨g0, x00, none⟩ = some y00 ∧ V.cell? ⟨g0, x01, none⟩ = some y01 ∧ V.cell? ⟨g0, x02, none⟩ = some y02 ∧ V.cell? ⟨g0, x03, none⟩ = some y03 ∧ V.cell? ⟨g0, x04, none⟩ = some y04 ∧ V.cell? ⟨g0, x05, none⟩ = some y05 ∧ V.cell? ⟨g0, x06, none⟩ = some y06 ∧ V.cell? ⟨g0, x07, none⟩ = some y07 ∧ V.cell? ⟨g0, x08, none⟩ = some y08) ∧ (V.cell? ⟨g1, x10, none⟩ = some y10 ∧ V.cell? ⟨g1, x11, none⟩ = some y11 ∧ V.cell? ⟨g1, x12, none⟩ = some y12 ∧ V.cell? ⟨g1, x13, none⟩ = some y13 ∧ V.cell? ⟨g1, x14, none⟩ = some y14 ∧ V.cell? ⟨g1, x15, none⟩ = some y15) ∧ V.cell? ⟨g2, x20, none⟩ = some y20 := by
 obtain ⟨⟨h00, h01, h02, h03, h04, h05, h06, h07, h08⟩, ⟨h10, h11, h12, h13, h14, h15⟩, h20⟩ := hs
 exact ⟨⟨keepC hb h00, keepC hb h01, keepC hb h02, keepC hb h03, keepC hb h04, keepC hb h05, keepC hb h06, keepC hb h07, keepC hb h08⟩, ⟨keepC hb h10, keepC hb h11, keepC hb h12, keepC hb h13, keepC hb h14, keepC hb h15⟩, keepC hb h20⟩
theorem isame_yes {Z1 Z2 Z3 Z4 : Zone} {p : Iv} {B : Option Addr} {a b : Nat} (u1 : U64s w Z1 A a p.l0) (u2 : U64s w Z2 B b p.l1) (u3 : U64s w Z3 C c p.l0) (u4 : U64s w Z4 D d p.l1) :
  Calls Tryz.prog 7 #[.agg #[.bool p.n0, .bool p.s0, .slice A p.l0.length a, .bool p.n1, .bool p.s1, .slice B p.l1.length b], .agg #[.bool p.n0, .bool p.s0, .slice C p.l0.length c, .bool p.n1, .bool p.s1, .slice D p.l1.length d]] w fun e w' => e = .returned (.bool true) ∧ Below w.heap.size w w' := by
 refine (isame_any (n0 := p.n0) (s0 := p.s0) (n1 := p.n1) (s1 := p.s1) (m0 := p.n0) (t0 := p.s0) (m1 := p.n1) (t1 := p.s1) u1 u2 u3 u4).mono ?_
 rintro e w' ⟨rfl, h⟩
 exact ⟨by simp, h⟩
theorem iof_k {x y : Int} {k : Iv} (hk : k = ivOf x y) (hx : -9223372036854775808 ≤ x ∧ x ≤ 9223372036854775807) (hy : -9223372036854775808 ≤ y ∧ y ≤ 9223372036854775807) (h : x ≤ y) :
  Calls Tryz.prog 5 #[.int .i64 x, .int .i64 y] w fun e w' => ∃ A c B d, e = .returned (.tuple #[.agg #[.bool k.n0, .bool k.s0, .slice A k.l0.length c, .bool k.n1, .bool k.s1, .slice B k.l1.length d], .int .i64 0]) ∧ U64s w' (new w.heap.size) A c k.l0 ∧ U64s w' (new w.heap.size) B d k.l1 ∧ Below w.heap.size w w' := by
 subst hk
 exact iof_good hx hy h
theorem l27add_k (hr : r = ivOf 1 10) (hq : q = ivOf 1 1) :
  Calls Tryz.prog 4 #[.int .u8 5, .bool true] w fun e w' => ∃ sA sa sB sb F f, e = .returned (.tuple #[.agg #[.bool false, .bool r.n0, .bool r.s0, .slice sA r.l0.length sa, .bool r.n1, .bool r.s1, .slice sB r.l1.length sb, .slice F 2 f, .slice none 0 0], .bool true]) ∧ U64s w' (new w.heap.size) sA sa r.l0 ∧ U64s w' (new w.heap.size) sB sb r.l1 ∧ IvsAt w' (new w.heap.size) F f [q, q] ∧ Below w.heap.size w w' := by
 refine (l27of_add (w := w) (IvW.mk (0, 9)) hr.symm hq.symm hq.symm).mono ?_
 rintro e w' ⟨sA, sa, sB, sb, F, f, Wr, rfl, h1, h2, h3, h4, rfl, h5⟩
 exact ⟨sA, sa, sB, sb, F, f, rfl, h1, h2, h3, h5⟩
theorem l27div_k (hr : r = ivOf 0 1) :
  Calls Tryz.prog 4 #[.int .u8 8, .bool false] w fun e w' => ∃ sA sa sB sb F f g cap, e = .returned (.tuple #[.agg #[.bool false, .bool r.n0, .bool r.s0, .slice sA r.l0.length sa, .bool r.n1, .bool r.s1, .slice sB r.l1.length sb, .slice F 2 f, .slice (some ⟨g, 0, none⟩) 1 cap], .bool true]) ∧ U64s w' (new w.heap.size) sA sa r.l0 ∧ U64s w' (new w.heap.size) sB sb r.l1 ∧ w'.cell? ⟨g, 0, none⟩ = some (.int .u8 3) ∧ Below w.heap.size w w' := by
 refine (l27of_div (w := w) (IvW.mk (0, 9)) hr.symm rfl rfl).mono ?_
 rintro e w' ⟨sA, sa, sB, sb, F, f, Wr, rfl, h1, h2, h3, h4, ⟨g, cap, rfl, h6, _⟩, h5⟩
 exact ⟨sA, sa, sB, sb, F, f, g, cap, rfl, h1, h2, h6, h5⟩
theorem alive27 (w : World) : Calls Tryz.prog 6 #[] w fun e w' => e = .returned (.bool true) ∧ Below w.heap.size w w' := by
 obtain ⟨r, hr⟩ : ∃ r, r = ivOf 1 10 := ⟨_, rfl⟩
 have OB := hid (fun W : World => iof_k (w := W) (x := 1) (y := 10) hr (by omega) (by omega) (by omega))
 obtain ⟨q, hq⟩ : ∃ q, q = ivOf 1 1 := ⟨_, rfl⟩
 obtain ⟨OC, OA⟩ := hid2 (fun W : World => iof_k (w := W) (x := 1) (y := 1) hq (by omega) (by omega) (by omega)) (l27add_k (w := w) hr hq)
 clear hr hq
 go_enter Tryz.func6, Tryz.ntmps6
 go_wp2_with fail
 refine OA.out.mono ?_
 rintro e w1 ⟨sA, sa, sB, sb, F, f, rfl, S1, S2, HF, hc1⟩
 obtain ⟨bF, oF, A5, d5, A6, d6, hFe, hbF, ⟨f0, f1, f2, f3, f4, f5⟩, v5, v6⟩ := HF.at (j := 1) (by simp)
 replace f0 : w1.cell? ⟨bF, oF + 1 * 6, none⟩ = some (.bool q.n0) := f0
 replace f1 : w1.cell? ⟨bF, oF + 1 * 6 + 1, none⟩ = some (.bool q.s0) := f1
 replace f2 : w1.cell? ⟨bF, oF + 1 * 6 + 2, none⟩ = some (.slice A5 q.l0.length d5) := f2
 replace f3 : w1.cell? ⟨bF, oF + 1 * 6 + 3, none⟩ = some (.bool q.n1) := f3
 replace f4 : w1.cell? ⟨bF, oF + 1 * 6 + 4, none⟩ = some (.bool q.s1) := f4
 replace f5 : w1.cell? ⟨bF, oF + 1 * 6 + 5, none⟩ = some (.slice A6 q.l1.length d6) := f5
 replace v5 : U64s w1 (new w.heap.size) A5 d5 q.l0 := v5
 replace v6 : U64s w1 (new w.heap.size) A6 d6 q.l1 := v6
 have ha1 : Below w1.heap.size w1 (w1.alloc (.cells #[.bool false, .bool r.n0, .bool r.s0, .slice sA r.l0.length sa, .bool r.n1, .bool r.s1, .slice sB r.l1.length sb, .slice F 2 f, .slice none 0 0] 34)) := (Below.refl _ w1).alloc (Nat.le_refl _) _
 obtain ⟨BA, HB, HS1, HS2, Hv5, Hv6⟩ := hid6 (BoxL.new w1 [.bool false, .bool r.n0, .bool r.s0, .slice sA r.l0.length sa, .bool r.n1, .bool r.s1, .slice sB r.l1.length sb, .slice F 2 f, .slice none 0 0] 34) (from_ hc1 ha1) (S1.below ha1) (S2.below ha1) (v5.below ha1) (v6.below ha1)
 replace f0 := keepC ha1 f0
 replace f1 := keepC ha1 f1
 replace f2 := keepC ha1 f2
 replace f3 := keepC ha1 f3
 replace f4 := keepC ha1 f4
 replace f5 := keepC ha1 f5
 have HC := hid (And.intro f0 (And.intro f1 (And.intro f2 (And.intro f3 (And.intro f4 f5)))))
 clear S1 S2 v5 v6 f0 f1 f2 f3 f4 f5 hc1 ha1 HF hbF
 replace hFe := hid hFe
 go_upto_region 2 with fail
 generalize (w1.alloc (.cells #[.bool false, .bool r.n0, .bool r.s0, .slice sA r.l0.length sa, .bool r.n1, .bool r.s1, .slice sB r.l1.length sb, .slice F 2 f, .slice none 0 0] 34)) = W1 at *
 go_wp2_with fail
 refine (OB.out _).mono ?_
 rintro e w3 ⟨E1, e1', E2, e2', rfl, z1, z2, hc⟩
 have ha : Below w3.heap.size w3 (w3.alloc (.cells #[.bool r.n0, .bool r.s0, .slice E1 r.l0.length e1', .bool r.n1, .bool r.s1, .slice E2 r.l1.length e2'] 29)) := (Below.refl _ w3).alloc (Nat.le_refl _) _
 obtain ⟨BB, HzB, HyB⟩ := hid3 (BoxL.new w3 [.bool r.n0, .bool r.s0, .slice E1 r.l0.length e1', .bool r.n1, .bool r.s1, .slice E2 r.l1.length e2'] 29) (z1.below ha) (z2.below ha)
 replace hc := from_ hc ha
 replace BA := hid (BA.out.below hc)
 replace HS1 := hid (HS1.out.below hc)
 replace HS2 := hid (HS2.out.below hc)
 replace Hv5 := hid (Hv5.out.below hc)
 replace Hv6 := hid (Hv6.out.below hc)
 replace HC := hid (And.intro (keepC hc HC.out.1) (And.intro (keepC hc HC.out.2.1) (And.intro (keepC hc HC.out.2.2.1) (And.intro (keepC hc HC.out.2.2.2.1) (And.intro (keepC hc HC.out.2.2.2.2.1) (keepC hc HC.out.2.2.2.2.2))))))
 replace HB := hid (from_ HB.out hc)
 clear z1 z2 hc ha
 go_wp2_with fail
 refine (OC.out _).mono ?_
 rintro e w5 ⟨G1, g1', G2, g2', rfl, z1, z2, hc⟩
 have ha : Below w5.heap.size w5 (w5.alloc (.cells #[.bool q.n0, .bool q.s0, .slice G1 q.l0.length g1', .bool q.n1, .bool q.s1, .slice G2 q.l1.length g2'] 29)) := (Below.refl _ w5).alloc (Nat.le_refl _) _
 obtain ⟨BC, HzC, HyC⟩ := hid3 (BoxL.new w5 [.bool q.n0, .bool q.s0, .slice G1 q.l0.length g1', .bool q.n1, .bool q.s1, .slice G2 q.l1.length g2'] 29) (z1.below ha) (z2.below ha)
 replace hc := from_ hc ha
 replace BA := hid (BA.out.below hc)
 replace BB := hid (BB.out.below hc)
 replace HS1 := hid (HS1.out.below hc)
 replace HS2 := hid (HS2.out.below hc)
 replace Hv5 := hid (Hv5.out.below hc)
 replace Hv6 := hid (Hv6.out.below hc)
 replace HzB := hid (HzB.out.below hc)
 replace HyB := hid (HyB.out.below hc)
 replace HC := hid (And.intro (keepC hc HC.out.1) (And.intro (keepC hc HC.out.2.1) (And.intro (keepC hc HC.out.2.2.1) (And.intro (keepC hc HC.out.2.2.2.1) (And.intro (keepC hc HC.out.2.2.2.2.1) (keepC hc HC.out.2.2.2.2.2))))))
 replace HB := hid (from_ HB.out hc)
 clear z1 z2 hc ha
 go_upto_region 4 with fail
 obtain rfl := hFe.out
 clear hFe
 generalize (w5.alloc (.cells #[.bool q.n0, .bool q.s0, .slice G1 q.l0.length g1', .bool q.n1, .bool q.s1, .slice G2 q.l1.length g2'] 29)) = WZ at *
 obtain ⟨SM1, SM2⟩ := hid2 (fun (W : World) (h : Below WZ.heap.size WZ W) => isame_yes (HS1.out.below h) (HS2.out.below h) (HzB.out.below h) (HyB.out.below h)) (fun (W : World) (h : Below WZ.heap.size WZ W) => isame_yes (Hv5.out.below h) (Hv6.out.below h) (HzC.out.below h) (HyC.out.below h))
 have hs := c27_keep (And.intro BA.out.all9.1 (And.intro BB.out.all6 (And.intro BC.out.all6 HC.out))) (Below.refl _ WZ).drew
 have Hc := hid (Below.refl WZ.heap.size WZ).drew
 clear BA BB BC HS1 HS2 Hv5 Hv6 HzB HyB HzC HyC HC OA OB OC
 first | go_region_held3 (fun w' => (D6 w' w1.heap.size (.bool false) (.bool r.n0) (.bool r.s0) (.slice sA r.l0.length sa) (.bool r.n1) (.bool r.s1) (w'.cell? ⟨w1.heap.size, 6, none⟩ = some (.slice sB r.l1.length sb) ∧ w'.cell? ⟨w1.heap.size, 7, none⟩ = some (.slice (some ⟨bF, oF, none⟩) 2 f) ∧ w'.cell? ⟨w1.heap.size, 8, none⟩ = some (.slice none 0 0))) ∧ (C6 w' w3.heap.size (.bool r.n0) (.bool r.s0) (.slice E1 r.l0.length e1') (.bool r.n1) (.bool r.s1) (.slice E2 r.l1.length e2')) ∧ (C6 w' w5.heap.size (.bool q.n0) (.bool q.s0) (.slice G1 q.l0.length g1') (.bool q.n1) (.bool q.s1) (.slice G2 q.l1.length g2')) ∧ (w'.cell? ⟨bF, oF + 1 * 6, none⟩ = some (.bool q.n0) ∧ w'.cell? ⟨bF, oF + 1 * 6 + 1, none⟩ = some (.bool q.s0) ∧ w'.cell? ⟨bF, oF + 1 * 6 + 2, none⟩ = some (.slice A5 q.l0.length d5) ∧ w'.cell? ⟨bF, oF + 1 * 6 + 3, none⟩ = some (.bool q.n1) ∧ w'.cell? ⟨bF, oF + 1 * 6 + 4, none⟩ = some (.bool q.s1) ∧ w'.cell? ⟨bF, oF + 1 * 6 + 5, none⟩ = some (.slice A6 q.l1.length d6)))
  (first | with_reducible exact hs)
  (first
   | (go_at_call 7; (first | (with_reducible refine (SM1.out _ Hc.out).mono ?_) | (with_reducible refine (SM2.out _ Hc.out).mono ?_)); rintro e w7 ⟨rfl, hc2⟩; replace hs := c27_keep hs hc2; replace Hc := hid (from_ Hc.out hc2))) | fail
 all_goals
  go_wp2
  go_ret
  exact ⟨by first | rfl | trivial, from_ HB.out Hc.out⟩
theorem lawLineNames (w : World) : Calls Tryz.prog 3 #[] w fun e w' => e = .returned (.bool true) ∧ Below w.heap.size w w' := by
 obtain ⟨r, hr⟩ : ∃ r, r = ivOf 0 1 := ⟨_, rfl⟩
 obtain ⟨OB, AL, OA⟩ := hid3 (fun W : World => iof_k (w := W) (x := 0) (y := 1) hr (by omega) (by omega) (by omega)) alive27 (l27div_k (w := w) hr)
 clear hr
 go_enter Tryz.func3, Tryz.ntmps3
 go_wp2_with fail
 refine OA.out.mono ?_
 rintro e w1 ⟨sA, sa, sB, sb, F, f, gW, capW, rfl, S1, S2, hW, hc1⟩
 have ha1 : Below w1.heap.size w1 (w1.alloc (.cells #[.bool false, .bool r.n0, .bool r.s0, .slice sA r.l0.length sa, .bool r.n1, .bool r.s1, .slice sB r.l1.length sb, .slice F 2 f, .slice (some ⟨gW, 0, none⟩) 1 capW] 34)) := (Below.refl _ w1).alloc (Nat.le_refl _) _
 obtain ⟨BA, HB, HS1, HS2⟩ := hid4 (BoxL.new w1 [.bool false, .bool r.n0, .bool r.s0, .slice sA r.l0.length sa, .bool r.n1, .bool r.s1, .slice sB r.l1.length sb, .slice F 2 f, .slice (some ⟨gW, 0, none⟩) 1 capW] 34) (from_ hc1 ha1) (S1.below ha1) (S2.below ha1)
 replace hW := keepC ha1 hW
 have HC := hid (hW)
 clear S1 S2 hW hc1 ha1
 go_upto_region 2 with fail
 generalize (w1.alloc (.cells #[.bool false, .bool r.n0, .bool r.s0, .slice sA r.l0.length sa, .bool r.n1, .bool r.s1, .slice sB r.l1.length sb, .slice F 2 f, .slice (some ⟨gW, 0, none⟩) 1 capW] 34)) = W1 at *
 go_wp2_with fail
 refine (OB.out _).mono ?_
 rintro e w3 ⟨E1, e1', E2, e2', rfl, z1, z2, hc⟩
 have ha : Below w3.heap.size w3 (w3.alloc (.cells #[.bool r.n0, .bool r.s0, .slice E1 r.l0.length e1', .bool r.n1, .bool r.s1, .slice E2 r.l1.length e2'] 29)) := (Below.refl _ w3).alloc (Nat.le_refl _) _
 obtain ⟨BB, HzB, HyB⟩ := hid3 (BoxL.new w3 [.bool r.n0, .bool r.s0, .slice E1 r.l0.length e1', .bool r.n1, .bool r.s1, .slice E2 r.l1.length e2'] 29) (z1.below ha) (z2.below ha)
 replace hc := from_ hc ha
 replace BA := hid (BA.out.below hc)
 replace HS1 := hid (HS1.out.below hc)
 replace HS2 := hid (HS2.out.below hc)
 replace HC := hid (keepC hc HC.out)
 replace HB := hid (from_ HB.out hc)
 clear z1 z2 hc ha
 go_upto_region 3 with fail
 generalize (w3.alloc (.cells #[.bool r.n0, .bool r.s0, .slice E1 r.l0.length e1', .bool r.n1, .bool r.s1, .slice E2 r.l1.length e2'] 29)) = WZ at *
 obtain ⟨HS, SM1⟩ := hid2 (And.intro BA.out.all9.1 (And.intro BB.out.all6 HC.out)) (fun (W : World) (h : Below WZ.heap.size WZ W) => isame_yes (HS1.out.below h) (HS2.out.below h) (HzB.out.below h) (HyB.out.below h))
 clear BA BB HS1 HS2 HzB HyB HC OA OB
 go_wp2_with fail
 refine (AL.out _).mono ?_
 rintro e w7 ⟨rfl, hc2⟩
 have Hc := hid hc2
 have hs := c16_keep HS.out hc2
 obtain ⟨⟨a0, a1, a2, a3, a4, a5, a6, a7, a8⟩, ⟨b0, b1, b2, b3, b4, b5⟩, d0⟩ := id hs
 clear AL HS
 go_wp2_with fail
 refine (SM1.out _ Hc.out).mono ?_
 rintro e w8 ⟨rfl, hc3⟩
 clear a0 a1 a2 a3 a4 a5 a6 a7 a8 b0 b1 b2 b3 b4 b5 d0
 replace Hc := hid (from_ Hc.out hc3)
 obtain ⟨⟨a0, a1, a2, a3, a4, a5, a6, a7, a8⟩, ⟨b0, b1, b2, b3, b4, b5⟩, d0⟩ := c16_keep hs hc3
 clear hs hc3
 go_wp2
 go_ret
 exact ⟨by first | rfl | trivial, from_ HB.out Hc.out⟩
end Go.Proofs.YtcheajjjdbllfaaGreat
