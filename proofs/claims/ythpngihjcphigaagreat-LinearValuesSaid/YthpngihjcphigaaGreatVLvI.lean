/- Linear forms, the program's: Split of long forms given by their ends' numbers. No conditions but bounds on lengths. -/
import Derived.Deep.RegionHeld3
import Derived.Test.YthpngihjcphigaaGreatVLinJ
set_option linter.unusedVariables false
set_option linter.unusedSimpArgs false
set_option maxRecDepth 100000
set_option maxHeartbeats 40000000
namespace Go.Proofs.YthpngihjcphigaaGreat
open Go.Lib (hid)
open Go.RowKit
theorem lsplit_run2 {w : World} {Z Y : Zone} {A B : Option Addr} {c d n : Nat} {ps qs : List Iv} {Ps Qs : List IvP} {R Lf : Nat → IvP} {M : Nat → Int} {S : Nat → List Int} {r : Iv} (ha : IvsAt w Z A c ps) (hb : IvsAt w Y B d qs) (hp : FmW 8 Ps ps) (hq : FmW 8 Qs qs) (hn : qs.length = n) (hpn : ps.length = n + 1) (h40 : n < 64)
  (hR0 : ∀ (h : 0 < Ps.length), R 0 = Ps[0]) (hM : ∀ k (h : k + 1 < Ps.length), M k = midI Ps[k + 1]) (hMb : ∀ k, k < n → IvN 9 (M k) (M k) ∧ -bigZ < M k ∧ M k < bigZ) (hL : ∀ k (h : k + 1 < Ps.length), Lf k = ivA Ps[k + 1] (ivNg (M k, M k))) (hRs : ∀ k (h2 : k < Qs.length), R (k + 1) = ivA (R k) (ivM (Lf k) Qs[k])) (hRN : ∀ k, k ≤ n → IvN 30 (R k).1 (R k).2) (hLN : ∀ k, k < n → IvN 12 (Lf k).1 (Lf k).2) (hr : IvW (R n) r)
  (hS0 : S 0 = List.replicate (n + 1) 0) (hSs : ∀ k, k < n → S (k + 1) = (S k).set (k + 1) (M k)) :
  Calls Tryz.prog 22 #[.slice A (n + 1) c, .slice B n d] w fun e w' => ∃ Av cv rA ra rB rb, e = .returned (.tuple #[.slice Av (n + 1) cv, .agg #[.bool r.n0, .bool r.s0, .slice rA r.l0.length ra, .bool r.n1, .bool r.s1, .slice rB r.l1.length rb], .int .i64 0]) ∧ VecAt w' (new w.heap.size) Av cv (encI (S n)) ∧ U64s w' (new w.heap.size) rA ra r.l0 ∧ U64s w' (new w.heap.size) rB rb r.l1 ∧ Below w.heap.size w w' := by
 have hB0 : Below w.heap.size w (w.alloc (.cells #[.bool false, .bool false, .slice none 0 0, .bool false, .bool false, .slice none 0 0] 29)) := (Below.refl _ w).alloc (Nat.le_refl _) _
 have hR4 := Box6.new w (.bool false) (.bool false) (.slice none 0 0) (.bool false) (.bool false) (.slice none 0 0) 29
 have hsz0 : (w.alloc (.cells #[.bool false, .bool false, .slice none 0 0, .bool false, .bool false, .slice none 0 0] 29)).heap.size = w.heap.size + 1 := by simp
 have hck := lchecked_any (ha.below hB0) (hb.below hB0) (hp.short (by omega)) (hq.short (by omega))
 rw [show errFB ps qs = 0 by unfold errFB; rw [if_pos ⟨hp.err (by omega) (by omega), hq.all (by omega)⟩, if_pos (by omega)]] at hck
 rw [hpn, hn] at hck
 have pl := hp.len
 have ql := hq.len
 obtain ⟨b, o, X0, x0, X1, x1, rfl, hbb, hX⟩ := ha.at (j := 0) (by omega)
 clear hX
 have HF : Hid (∀ j (hj : j < n + 1), ∃ (p : Iv) (F0 : Option Addr) (f0 : Nat) (F1 : Option Addr) (f1 : Nat), (w.cell? ⟨b, o + j * 6, none⟩ = some (.bool p.n0) ∧ w.cell? ⟨b, o + j * 6 + 1, none⟩ = some (.bool p.s0) ∧ w.cell? ⟨b, o + j * 6 + 2, none⟩ = some (.slice F0 p.l0.length f0) ∧ w.cell? ⟨b, o + j * 6 + 3, none⟩ = some (.bool p.n1) ∧ w.cell? ⟨b, o + j * 6 + 4, none⟩ = some (.bool p.s1) ∧ w.cell? ⟨b, o + j * 6 + 5, none⟩ = some (.slice F1 p.l1.length f1)) ∧ (∃ h' : j < Ps.length, IvW Ps[j] p ∧ IvN 8 Ps[j].1 Ps[j].2) ∧ (U64s w Z F0 f0 p.l0 ∧ U64s w Z F1 f1 p.l1)) := fun j hj => by
  obtain ⟨b', o', F0, f0, F1, f1, e, _, hc, u0, u1⟩ := ha.at (j := j) (by omega)
  injection e with e
  injection e with e1 e2
  subst e1 e2
  exact ⟨ps[j], F0, f0, F1, f1, hc, ⟨by omega, hp.iv j (by omega) (by omega)⟩, u0, u1⟩
 have HQ : Hid (∀ j (hj : j < n), ∃ (q : Iv) (G0 : Option Addr) (d0 : Nat) (G1 : Option Addr) (d1 : Nat) (b2 o2 : Nat), (w.cell? ⟨b2, o2 + j * 6, none⟩ = some (.bool q.n0) ∧ w.cell? ⟨b2, o2 + j * 6 + 1, none⟩ = some (.bool q.s0) ∧ w.cell? ⟨b2, o2 + j * 6 + 2, none⟩ = some (.slice G0 q.l0.length d0) ∧ w.cell? ⟨b2, o2 + j * 6 + 3, none⟩ = some (.bool q.n1) ∧ w.cell? ⟨b2, o2 + j * 6 + 4, none⟩ = some (.bool q.s1) ∧ w.cell? ⟨b2, o2 + j * 6 + 5, none⟩ = some (.slice G1 q.l1.length d1)) ∧ (∃ h' : j < Qs.length, IvW Qs[j] q ∧ IvN 8 Qs[j].1 Qs[j].2) ∧ (U64s w Y G0 d0 q.l0 ∧ U64s w Y G1 d1 q.l1) ∧ B = some ⟨b2, o2, none⟩) := fun j hj => by
  obtain ⟨b', o', F0, f0, F1, f1, e, _, hc, u0, u1⟩ := hb.at (j := j) (by omega)
  exact ⟨qs[j], F0, f0, F1, f1, b', o', hc, ⟨by omega, hq.iv j (by omega) (by omega)⟩, ⟨u0, u1⟩, e⟩
 have HMI : Hid (∀ k, k < n → ∀ (p : Iv) (mr : Bool) (ml : List Nat), (∃ h' : k + 1 < Ps.length, IvW Ps[k + 1] p ∧ IvN 8 Ps[k + 1].1 Ps[k + 1].2) → Nm (M k) mr ml → ∀ (W : World) (Z1 Z2 : Zone) (A B : Option Addr) (a b : Nat), U64s W Z1 A a p.l0 → U64s W Z2 B b p.l1 →
   Calls Tryz.prog 62 #[.agg #[.bool p.n0, .bool p.s0, .slice A p.l0.length a, .bool p.n1, .bool p.s1, .slice B p.l1.length b]] W fun e w' => ∃ A' c', e = .returned (.agg #[.bool mr, .slice A' ml.length c']) ∧ U64s w' (new W.heap.size) A' c' ml ∧ Below W.heap.size W w') := by
  rintro k hk p mr ml ⟨h1, hp1, hp2⟩ hm W Z1 Z2 A B a b u1 u2
  exact lmiddle_w hp1 (hp2.up (by omega)) (by rw [← hM k h1]; exact hm) u1 u2
 have HML : Hid (∀ k, k < n → ∀ (mr : Bool) (ml : List Nat), Nm (M k) mr ml → ml.length ≤ 100000000000) := by
  rintro k hk mr ml hm
  have h1 := hMb k hk
  have h2 : -wN 9 < M k ∧ M k < wN 9 := by
   have := h1.1.lo
   unfold Ext at this
   omega
  have := nm_lenN hm h2
  omega
 have HLI : Hid (∀ k, k < n → ∀ (p : Iv) (y : Iv) (mr : Bool) (ml : List Nat), (∃ h' : k + 1 < Ps.length, IvW Ps[k + 1] p ∧ IvN 8 Ps[k + 1].1 Ps[k + 1].2) → Nm (M k) mr ml → IvW (Lf k) y → ∀ (W : World) (Z1 Z2 Z3 Z4 : Zone) (A B C D : Option Addr) (a b c d : Nat), U64s W Z1 A a p.l0 → U64s W Z2 B b p.l1 → U64s W Z3 C c ml → U64s W Z4 D d ml →
   Calls Tryz.prog 60 #[.agg #[.bool p.n0, .bool p.s0, .slice A p.l0.length a, .bool p.n1, .bool p.s1, .slice B p.l1.length b], .agg #[.bool false, .bool mr, .slice C ml.length c, .bool false, .bool mr, .slice D ml.length d]] W fun e w' => ∃ rA ra rB rb, e = .returned (.tuple #[.agg #[.bool y.n0, .bool y.s0, .slice rA y.l0.length ra, .bool y.n1, .bool y.s1, .slice rB y.l1.length rb], .int .i64 0]) ∧ U64s w' (new W.heap.size) rA ra y.l0 ∧ U64s w' (new W.heap.size) rB rb y.l1 ∧ Below W.heap.size W w') := by
  rintro k hk p y mr ml ⟨h1, hp1, hp2⟩ hm hy W Z1 Z2 Z3 Z4 A B C D a b c d u1 u2 u3 u4
  have h9 := hMb k hk
  exact lless_w (q := ⟨false, mr, ml, false, mr, ml⟩) hp1 (pt_w hm h9.2) (by rw [← hL k h1]; exact hy) (hp2.up (by omega)) (h9.1.up (by omega)) u1 u2 u3 u4
 have HWI : Hid (∀ k, k < n → ∀ s r y q, IvW (R k) s → IvW (R (k + 1)) r → IvW (Lf k) y → (∃ h' : k < Qs.length, IvW Qs[k] q ∧ IvN 8 Qs[k].1 Qs[k].2) → ∀ (W : World) (Z1 Z2 Z3 Z4 Z5 Z6 : Zone) (A B C D E F : Option Addr) (a b c d e f : Nat), U64s W Z1 A a s.l0 → U64s W Z2 B b s.l1 → U64s W Z3 C c y.l0 → U64s W Z4 D d y.l1 → U64s W Z5 E e q.l0 → U64s W Z6 F f q.l1 →
   Calls Tryz.prog 58 #[.agg #[.bool s.n0, .bool s.s0, .slice A s.l0.length a, .bool s.n1, .bool s.s1, .slice B s.l1.length b], .agg #[.bool y.n0, .bool y.s0, .slice C y.l0.length c, .bool y.n1, .bool y.s1, .slice D y.l1.length d], .agg #[.bool q.n0, .bool q.s0, .slice E q.l0.length e, .bool q.n1, .bool q.s1, .slice F q.l1.length f]] W fun e w' => ∃ rA ra rB rb, e = .returned (.agg #[.bool r.n0, .bool r.s0, .slice rA r.l0.length ra, .bool r.n1, .bool r.s1, .slice rB r.l1.length rb]) ∧ U64s w' (new W.heap.size) rA ra r.l0 ∧ U64s w' (new W.heap.size) rB rb r.l1 ∧ Below W.heap.size W w') := by
  rintro k hk s r y q hs hr hy ⟨h2, hq1, hq2⟩ W Z1 Z2 Z3 Z4 Z5 Z6 A B C D E F a b c d e f u1 u2 u3 u4 u5 u6
  exact lwith_w hs hy hq1 (by rw [← hRs k h2]; exact hr) (hRN k (by omega)) (hLN k hk) (hq2.up (by omega)) (by omega) u1 u2 u3 u4 u5 u6
 obtain ⟨p0, F0, f0, F1, f1, c0, ⟨hp1, hp2, hp3⟩, u0⟩ := HF.out 0 (by omega)
 simp only [Nat.zero_mul, Nat.add_zero] at c0
 have JN := hid (fun (W : World) (h : Below w.heap.size w W) => ijoin_w (w := W) hp2 hp3 (by omega) (u0.1.below h) (u0.2.below h) (u0.1.below h) (u0.2.below h))
 have H00 : Hid (IvW (R 0) p0) := hid (by rw [hR0 hp1]; exact hp2)
 obtain ⟨Hrr, HR, Hb0, Hsz, Hck, HS0⟩ := hid6 hr hR4 hB0 hsz0 hck hS0
 have HSs := hid hSs
 obtain ⟨i0, hi, hz0, hz1, hz2⟩ := info_parts infoI
 clear ha hb hp hq hn hpn hR0 hRs hRN hLN hM hMb hL hr hR4 hB0 hsz0 hck pl ql hp1 hp2 hp3 u0 hS0 hSs
 go_enter Tryz.func22, Tryz.ntmps22
 go_wp2_with fail
 refine Hck.out.mono ?_
 rintro e w1 ⟨rfl, hc⟩
 have hc1 := from_ Hb0.out hc
 have hsz1 : w.heap.size + 1 ≤ w1.heap.size := by have := hc.size; have := Hsz.out; omega
 have R1 := hid (HR.out.below hc)
 clear hc Hck HR Hb0 Hsz
 go_wp2_with (at_make; go_loud (refine wpList_make_full _ rfl _ _ 43 rfl (w.heap.size + 1) 25 i0 (.agg #[.bool false, .slice none 0 0]) 2 Tryz.underlying43 hi hz0 hz1 .i64 .i64 _ _ (n + 1) rfl rfl rfl rfl (by rw [hz2]; omega) (by simp only [maxLen]; omega) hsz1 ?_); intro w2 hown hgrow)
 have hb2 := hc1.grown hgrow hc1.size (fun k h => by cases h)
 have R2 := hid (R1.out.below ((Below.refl _ w1).grown hgrow (Nat.le_refl _) (fun k h => by cases h)))
 have ho0 := OutI.zero hown rfl
 generalize (madeCells (Value.agg #[.bool false, .slice none 0 0]).cells ((n + 1) * 2)).toList = xs0 at *
 have HO0 := hid ho0
 obtain ⟨gR, hgR⟩ : ∃ gR, gR = w1.heap.size := ⟨_, rfl⟩
 rw [← hgR] at HO0
 have HBL := hid hb2
 have c02 := six_keep c0 hb2
 clear hown ho0 hgrow hc1 R1 c0
 go_wp2
 try simp only [← hgR]
 clear hgR hsz1
 have hdr0 : Below w2.heap.size w2 w2.drew := bdr_
 obtain ⟨s0, s1, s2, s3, s4, s5⟩ := six_keep c02 hdr0
 obtain ⟨HRd, J1, HOd, HBd⟩ := hid4 (R2.out.below hdr0) (JN.out _ (from_ HBL.out hdr0)) (HO0.out.below hdr0) (from_ HBL.out hdr0)
 clear c02 R2 HO0 HBL hdr0
 first | go_region_with
  (first
   | (go_at_call 57; with_reducible refine J1.out.mono ?_; rintro e w3 ⟨E2, e2, E3, e3, rfl, o1, o2, hc⟩; obtain ⟨g0, g1, g2, g3, g4, g5, f0', f1', f2', f3', f4', f5', _⟩ := HRd.out.below hc)
   | fail) | fail
 all_goals
  have hP := (HRd.out.below hc).put (w := w) (from_ HBd.out hc) (Nat.le_refl _) (.bool p0.n0) (.bool p0.s0) (.slice E2 p0.l0.length e2) (.bool p0.n1) (.bool p0.s1) (.slice E3 p0.l1.length e3)
  obtain ⟨B5, HV⟩ := hid2 hP.box hP.bel
  have hlw := Nat.le_trans HRd.out.lt (Nat.le_refl _)
  obtain ⟨US, HO⟩ := hid2 (And.intro ((o1.set6 (g := w.heap.size) (fun (h : _ ≤ w.heap.size) => by omega) (.bool p0.n0) (.bool p0.s0) (.slice E2 p0.l0.length e2) (.bool p0.n1) (.bool p0.s1) (.slice E3 p0.l1.length e3)).mono (new_le (show w.heap.size + 1 ≤ _ from hlw))) ((o2.set6 (g := w.heap.size) (fun (h : _ ≤ w.heap.size) => by omega) (.bool p0.n0) (.bool p0.s0) (.slice E2 p0.l0.length e2) (.bool p0.n1) (.bool p0.s1) (.slice E3 p0.l1.length e3)).mono (new_le (show w.heap.size + 1 ≤ _ from hlw)))) ((HOd.out.below hc).other6 (Nat.lt_succ_self w.heap.size) (.bool p0.n0) (.bool p0.s0) (.slice E2 p0.l0.length e2) (.bool p0.n1) (.bool p0.s1) (.slice E3 p0.l1.length e3))
  clear hP hlw o1 o2 hc s0 s1 s2 s3 s4 s5 g0 g1 g2 g3 g4 g5 f0' f1' f2' f3' f4' f5' HRd HOd HBd J1 JN
  go_wp2
  go_loopw [37] (fun i wr => ∃ (k : Nat) (s : Iv) (zs : List Int) (xs : List Value) (E0 E1 : Option Addr) (e0 e1 : Nat), k ≤ n ∧ i = .int .i64 (k : Int) ∧ Hid (IvW (R k) s) ∧ Hid (zs = S k) ∧ Hid (OutI wr (w.heap.size + 1) gR (n + 1) zs xs) ∧ Hid (Box6 wr w.heap.size (.bool s.n0) (.bool s.s0) (.slice E0 s.l0.length e0) (.bool s.n1) (.bool s.s1) (.slice E1 s.l1.length e1)) ∧ Hid (U64s wr (new (w.heap.size + 1)) E0 e0 s.l0 ∧ U64s wr (new (w.heap.size + 1)) E1 e1 s.l1) ∧ Below w.heap.size w wr) (fun i _ => n - (intOf i).toNat)
  case atStart => exact ⟨0, p0, _, _, _, _, _, _, Nat.zero_le _, rfl, H00, hid HS0.out.symm, HO, B5, US, HV.out⟩
  case round =>
   clear B5 US HV HO
   obtain ⟨k, s, zs, xs, E0, E1, e0, e1, hk, rfl, hs, hzs, ho, b5, us, hbel⟩ := hrel
   by_cases hlt : k < n
   · obtain ⟨q, G0, d0, G1, d1, b2, o2, c2, hqq, x2, rfl⟩ := HQ.out k hlt
     have hw1 : IntKind.i64.wrap ((k : Int) + 1) = (k : Int) + 1 := by rw [IntKind.wrap_i64]; omega
     have hmL : k + 1 < n + 1 := by omega
     have hi0 : (0 : Int) ≤ (k : Int) + 1 := by omega
     have hi1 : (k : Int) + 1 ≤ (n : Int) := by omega
     have hi2 : (k : Int) + 1 < (n : Int) + 1 := by omega
     have hi3 : (k : Int) < (n : Int) := by omega
     obtain ⟨p, F0, f0, F1, f1, c1, hpp, x1⟩ := HF.out (k + 1) hmL
     obtain ⟨r, hr⟩ : ∃ r, IvW (R (k + 1)) r := ⟨_, IvW.mk _⟩
     obtain ⟨y, hy⟩ : ∃ y, IvW (Lf k) y := ⟨_, IvW.mk _⟩
     obtain ⟨mr, ml, hm⟩ : ∃ mr ml, Nm (M k) mr ml := ⟨_, _, rfl, rfl⟩
     replace c1 := six_keep c1 hbel
     obtain ⟨y0, y1, y2, y3, y4, y5⟩ := six_keep c2 hbel
     have hal : Below wr.heap.size wr (wr.alloc (.cells #[.bool q.n0, .bool q.s0, .slice G0 q.l0.length d0, .bool q.n1, .bool q.s1, .slice G1 q.l1.length d1] 29)) := (Below.refl _ _).alloc (Nat.le_refl _) _
     have hb1 := from_ hbel hal
     have c1b := six_keep c1 hal
     obtain ⟨HM, Hal, BQ, HPP, HQQ, HMN⟩ := hid6 (HMI.out k hlt p mr ml hpp hm (wr.alloc (.cells #[.bool q.n0, .bool q.s0, .slice G0 q.l0.length d0, .bool q.n1, .bool q.s1, .slice G1 q.l1.length d1] 29)) _ _ _ _ _ _ ((x1.1.below hbel).below hal) ((x1.2.below hbel).below hal)) hal (Box6.new wr (.bool q.n0) (.bool q.s0) (.slice G0 q.l0.length d0) (.bool q.n1) (.bool q.s1) (.slice G1 q.l1.length d1) 29) hpp hqq hm
     obtain ⟨HY, Hr, X1, X2, C1⟩ := hid5 hy hr x1 x2 c1
     clear c1 c2 hqq x2 hpp x1 hr hal hb1 hm hy
     obtain ⟨z0, z1, z2, z3, z4, z5⟩ := c1b
     go_wp2_with fail
     refine HM.out.mono ?_
     rintro e' w1 ⟨A1, a1, rfl, um, hc⟩
     have hal2 : Below w1.heap.size w1 (w1.alloc (.cells #[.bool mr, .slice A1 ml.length a1] 25)) := (Below.refl _ _).alloc (Nat.le_refl _) _
     have BM := Box.new w1 (.bool mr) (.slice A1 ml.length a1) 25
     obtain ⟨HPt, HB2, UM, HBM, BQ2⟩ := hid5 (ipoint_good (w := w1.alloc (.cells #[.bool mr, .slice A1 ml.length a1] 25)) (um.below hal2) (nm_okI HMN.out) (HML.out k hlt mr ml HMN.out)) (from_ (from_ Hal.out hc) hal2) (um.below hal2) BM ((BQ.out.below hc).below hal2)
     have hm1 : wr.heap.size < w1.heap.size := Nat.lt_of_lt_of_le BQ.out.lt hc.size
     obtain ⟨v0, v1, _, _, _⟩ := BM
     clear hal2 um hc z0 z1 z2 z3 z4 z5 y0 y1 y2 y3 y4 y5 HM
     go_wp2_with fail
     refine HPt.out.mono ?_
     rintro e' w2 ⟨A2, a2, A3, a3, rfl, up0, up1, hc⟩
     have hal3 : Below w2.heap.size w2 (w2.alloc (.cells #[.bool false, .bool mr, .slice A2 ml.length a2, .bool false, .bool mr, .slice A3 ml.length a3] 29)) := (Below.refl _ _).alloc (Nat.le_refl _) _
     have BP := Box6.new w2 (.bool false) (.bool mr) (.slice A2 ml.length a2) (.bool false) (.bool mr) (.slice A3 ml.length a3) 29
     obtain ⟨HB3, HBM3, BQ3, UM3, UP⟩ := hid5 (from_ (from_ HB2.out hc) hal3) ((HBM.out.below hc).below hal3) ((BQ2.out.below hc).below hal3) (((UM.out.below hc).below hal3).mono (new_le (show wr.heap.size + 1 ≤ _ from by have h1 := BQ.out.lt; omega))) (And.intro (up0.below hal3) (up1.below hal3))
     obtain ⟨gM, hgM⟩ : ∃ gM, gM = w1.heap.size := ⟨_, rfl⟩
     obtain ⟨gP, hgP⟩ : ∃ gP, gP = w2.heap.size := ⟨_, rfl⟩
     rw [← hgM] at HBM3 hm1
     rw [← hgP] at BP
     generalize hV3 : w2.alloc (.cells #[.bool false, .bool mr, .slice A2 ml.length a2, .bool false, .bool mr, .slice A3 ml.length a3] 29) = V3 at *
     clear HPt UM HBM v0 v1 up0 up1 hc hal3 HB2 BQ2
     go_wp2
     try simp only [hV3]
     try simp only [← hgM, ← hgP]
     clear hV3 hgM hgP
     have hdr0 : Below V3.heap.size V3 V3.drew := bdr_
     have hdr : Below V3.heap.size V3 (V3.alloc (.cells #[.bool false, .bool false, .slice none 0 0, .bool false, .bool false, .slice none 0 0] 29)).drew := bal_.drew
     have bN := (Box6.new V3 (.bool false) (.bool false) (.slice none 0 0) (.bool false) (.bool false) (.slice none 0 0) 29).below (W' := (V3.alloc (.cells #[.bool false, .bool false, .slice none 0 0, .bool false, .bool false, .slice none 0 0] 29)).drew) (bdr_)
     have c13 := six_keep C1.out HB3.out
     have sb := And.intro (six_keep c13 hdr0) (six_keep0 BP.all hdr0)
     have sa := And.intro (six_keep c13 hdr) (six_keep0 BP.all hdr)
     have lb := lt_of_cell c13.1
     simp only at lb
     have lp := BP.lt
     have nb : V3.heap.size ≠ b := by omega
     have np : V3.heap.size ≠ gP := by omega
     obtain ⟨NB, NP, J1, J2⟩ := hid4 nb np (HLI.out k hlt p y mr ml HPP.out HMN.out HY.out V3.drew _ _ _ _ _ _ _ _ _ _ _ _ (((X1.out.1.below hbel).below HB3.out).below hdr0) (((X1.out.2.below hbel).below HB3.out).below hdr0) (UP.out.1.below hdr0) (UP.out.2.below hdr0)) (HLI.out k hlt p y mr ml HPP.out HMN.out HY.out (V3.alloc (.cells #[.bool false, .bool false, .slice none 0 0, .bool false, .bool false, .slice none 0 0] 29)).drew _ _ _ _ _ _ _ _ _ _ _ _ (((X1.out.1.below hbel).below HB3.out).below hdr) (((X1.out.2.below hbel).below HB3.out).below hdr) (UP.out.1.below hdr) (UP.out.2.below hdr))
     clear c13 BP lb nb np
     first | go_region_held3 (fun w' => (w'.cell? ⟨b, o + (k + 1) * 6, none⟩ = some (.bool p.n0) ∧ w'.cell? ⟨b, o + (k + 1) * 6 + 1, none⟩ = some (.bool p.s0) ∧ w'.cell? ⟨b, o + (k + 1) * 6 + 2, none⟩ = some (.slice F0 p.l0.length f0) ∧ w'.cell? ⟨b, o + (k + 1) * 6 + 3, none⟩ = some (.bool p.n1) ∧ w'.cell? ⟨b, o + (k + 1) * 6 + 4, none⟩ = some (.bool p.s1) ∧ w'.cell? ⟨b, o + (k + 1) * 6 + 5, none⟩ = some (.slice F1 p.l1.length f1)) ∧ (C6 w' gP (.bool false) (.bool mr) (.slice A2 ml.length a2) (.bool false) (.bool mr) (.slice A3 ml.length a3)))
      (first
       | (go_keep; done)
       | with_reducible exact sb
       | with_reducible exact sa
       | with_reducible exact t6
       | with_reducible exact ⟨six_st6 NB.out t6.1, six_st60 NP.out t6.2⟩
       | exact ⟨six_keep t6.1 bal_, six_keep0 t6.2 bal_⟩)
      (first
       | (go_at_call 60; with_reducible refine J1.out.mono ?_; rintro e w7 ⟨E2, e2, E3, e3, rfl, o1, o2, hc⟩; have t6 := And.intro (six_keep sb.1 hc) (six_keep0 sb.2 hc))
       | (go_at_call 60; with_reducible refine J2.out.mono ?_; rintro e w7 ⟨E2, e2, E3, e3, rfl, o1, o2, hc⟩; have t6 := And.intro (six_keep sa.1 hc) (six_keep0 sa.2 hc); have b6 := hid (bN.below hc); obtain ⟨g0, g1, g2, g3, g4, g5, f0', f1', f2', f3', f4', f5', _⟩ := bN.below hc)) | fail
     all_goals
      clear sb sa J1 J2 t6
      first
      | (have hlt7 : V3.heap.size < (V3.alloc (.cells #[.bool false, .bool false, .slice none 0 0, .bool false, .bool false, .slice none 0 0] 29)).drew.heap.size := by simp
         have hP6 := b6.out.put (w := V3) (from_ hdr hc) (Nat.le_refl _) (.bool y.n0) (.bool y.s0) (.slice E2 y.l0.length e2) (.bool y.n1) (.bool y.s1) (.slice E3 y.l1.length e3)
         obtain ⟨B4, HB4, U4⟩ := hid3 hP6.box hP6.bel (And.intro ((o1.set6 (g := V3.heap.size) (fun (h : _ ≤ V3.heap.size) => by omega) (.bool y.n0) (.bool y.s0) (.slice E2 y.l0.length e2) (.bool y.n1) (.bool y.s1) (.slice E3 y.l1.length e3)).mono (new_le (Nat.le_of_lt hlt7))) ((o2.set6 (g := V3.heap.size) (fun (h : _ ≤ V3.heap.size) => by omega) (.bool y.n0) (.bool y.s0) (.slice E2 y.l0.length e2) (.bool y.n1) (.bool y.s1) (.slice E3 y.l1.length e3)).mono (new_le (Nat.le_of_lt hlt7))))
         clear hP6 hlt7 b6 g0 g1 g2 g3 g4 g5 f0' f1' f2' f3' f4' f5' o1 o2 hc hdr hdr0 bN
         generalize hV4 : ((((((w7.setCell ⟨V3.heap.size, 0, none⟩ (.bool y.n0)).setCell ⟨V3.heap.size, 1, none⟩ (.bool y.s0)).setCell ⟨V3.heap.size, 2, none⟩ (.slice E2 y.l0.length e2)).setCell ⟨V3.heap.size, 3, none⟩ (.bool y.n1)).setCell ⟨V3.heap.size, 4, none⟩ (.bool y.s1)).setCell ⟨V3.heap.size, 5, none⟩ (.slice E3 y.l1.length e3)) = V4 at *
         obtain ⟨gX, hgX⟩ : ∃ gX, gX = V3.heap.size := ⟨_, rfl⟩
         have B4 := hid (hgX ▸ B4.out : Box6 V4 gX (.bool y.n0) (.bool y.s0) (.slice E2 y.l0.length e2) (.bool y.n1) (.bool y.s1) (.slice E3 y.l1.length e3)))
      | (have hax := (Below.refl w7.heap.size w7).alloc (Nat.le_refl _) (.cells #[.bool y.n0, .bool y.s0, .slice E2 y.l0.length e2, .bool y.n1, .bool y.s1, .slice E3 y.l1.length e3] 29)
         obtain ⟨B4, HB4, U4⟩ := hid3 (Box6.new w7 (.bool y.n0) (.bool y.s0) (.slice E2 y.l0.length e2) (.bool y.n1) (.bool y.s1) (.slice E3 y.l1.length e3) 29) (from_ (from_ hdr0 hc) hax) (And.intro ((o1.below hax).mono (new_le hdr0.size)) ((o2.below hax).mono (new_le hdr0.size)))
         clear hax o1 o2 hc hdr hdr0 bN
         generalize hV4 : w7.alloc (.cells #[.bool y.n0, .bool y.s0, .slice E2 y.l0.length e2, .bool y.n1, .bool y.s1, .slice E3 y.l1.length e3] 29) = V4 at *
         obtain ⟨gX, hgX⟩ : ∃ gX, gX = w7.heap.size := ⟨_, rfl⟩
         have B4 := hid (hgX ▸ B4.out : Box6 V4 gX (.bool y.n0) (.bool y.s0) (.slice E2 y.l0.length e2) (.bool y.n1) (.bool y.s1) (.slice E3 y.l1.length e3)))
      have HBw := hid (from_ HB3.out HB4.out)
      have hdr4 : Below V4.heap.size V4 V4.drew := bdr_
      obtain ⟨J, HOd, B5d⟩ := hid3 (HWI.out k hlt s r y q hs.out Hr.out HY.out HQQ.out V4.drew _ _ _ _ _ _ _ _ _ _ _ _ _ _ _ _ _ _ ((us.out.1.below HBw.out).below hdr4) ((us.out.2.below HBw.out).below hdr4) (U4.out.1.below hdr4) (U4.out.2.below hdr4) (((X2.out.1.below hbel).below HBw.out).below hdr4) (((X2.out.2.below hbel).below HBw.out).below hdr4)) ((ho.out.below HBw.out).below hdr4) ((b5.out.below HBw.out).below hdr4)
      have hol := ho.out.lt
      have hgR4 : gR < V4.drew.heap.size := Nat.lt_of_lt_of_le hol.2 (Nat.le_trans HBw.out.size hdr4.size)
      have n1 : ¬ gR = w.heap.size := by omega
      have n2 : ¬ w.heap.size = gR := by omega
      obtain ⟨UM4, HB4d⟩ := hid2 (((UM3.out.below HB4.out).below hdr4).mono (new_offS (show w.heap.size + 1 ≤ wr.heap.size + 1 by omega) (show gR < wr.heap.size + 1 by omega))) (from_ HBw.out hdr4)
      obtain ⟨m0, m1, _, _, _⟩ := (HBM3.out.below HB4.out).below hdr4
      obtain ⟨r0, r1, r2, r3, r4, r5, _, _, _, _, _, _, _⟩ := id B5d.out
      obtain ⟨l0, l1, l2, l3, l4, l5, _, _, _, _, _, _, _⟩ := B4.out.below hdr4
      obtain ⟨k0, k1, k2, k3, k4, k5, _, _, _, _, _, _, _⟩ := (BQ3.out.below HB4.out).below hdr4
      clear U4 hdr4
      try simp only [hV4]
      try simp only [← hgX]
      clear hV4 hgX
      go_wp2
      have nW : w.heap.size ≠ gM := by omega
      have nR : gR ≠ gM := by omega
      obtain ⟨NW, NR⟩ := hid2 nW nR
      have H13 := And.intro (And.intro m0 m1) (And.intro (show V4.drew.cell? ⟨w.heap.size, 0, none⟩ = some (.bool s.n0) ∧ V4.drew.cell? ⟨w.heap.size, 1, none⟩ = some (.bool s.s0) ∧ V4.drew.cell? ⟨w.heap.size, 2, none⟩ = some (.slice E0 s.l0.length e0) ∧ V4.drew.cell? ⟨w.heap.size, 3, none⟩ = some (.bool s.n1) ∧ V4.drew.cell? ⟨w.heap.size, 4, none⟩ = some (.bool s.s1) ∧ V4.drew.cell? ⟨w.heap.size, 5, none⟩ = some (.slice E1 s.l1.length e1) from ⟨r0, r1, r2, r3, r4, r5⟩) (And.intro (show V4.drew.cell? ⟨gX, 0, none⟩ = some (.bool y.n0) ∧ V4.drew.cell? ⟨gX, 1, none⟩ = some (.bool y.s0) ∧ V4.drew.cell? ⟨gX, 2, none⟩ = some (.slice E2 y.l0.length e2) ∧ V4.drew.cell? ⟨gX, 3, none⟩ = some (.bool y.n1) ∧ V4.drew.cell? ⟨gX, 4, none⟩ = some (.bool y.s1) ∧ V4.drew.cell? ⟨gX, 5, none⟩ = some (.slice E3 y.l1.length e3) from ⟨l0, l1, l2, l3, l4, l5⟩) (show V4.drew.cell? ⟨wr.heap.size, 0, none⟩ = some (.bool q.n0) ∧ V4.drew.cell? ⟨wr.heap.size, 1, none⟩ = some (.bool q.s0) ∧ V4.drew.cell? ⟨wr.heap.size, 2, none⟩ = some (.slice G0 q.l0.length d0) ∧ V4.drew.cell? ⟨wr.heap.size, 3, none⟩ = some (.bool q.n1) ∧ V4.drew.cell? ⟨wr.heap.size, 4, none⟩ = some (.bool q.s1) ∧ V4.drew.cell? ⟨wr.heap.size, 5, none⟩ = some (.slice G1 q.l1.length d1) from ⟨k0, k1, k2, k3, k4, k5⟩)))
      refine wp_region_L (fun w' => w'.cell? ⟨gM, 0, none⟩ = some (.bool mr) ∧ w'.cell? ⟨gM, 1, none⟩ = some (.slice A1 ml.length a1)) (fun w' => (C6 w' w.heap.size (.bool s.n0) (.bool s.s0) (.slice E0 s.l0.length e0) (.bool s.n1) (.bool s.s1) (.slice E1 s.l1.length e1)) ∧ (C6 w' gX (.bool y.n0) (.bool y.s0) (.slice E2 y.l0.length e2) (.bool y.n1) (.bool y.s1) (.slice E3 y.l1.length e3)) ∧ (C6 w' wr.heap.size (.bool q.n0) (.bool q.s0) (.slice G0 q.l0.length d0) (.bool q.n1) (.bool q.s1) (.slice G1 q.l1.length d1))) 7 (by kernel_rfl) ?_
      show wpAnyL _ _ _ _ _ _ _ 11 _ _ _
      refine wpAnyL_takeA (i := 0) (v := ?_) rfl (by kernel_rfl) (by kernel_rfl) (by kernel_rfl) (fun _ _ _ h => h) (by rfl) (Or.inl ⟨by rfl, ?_⟩) H13 ?_
      rotate_left
      · intro w' hSw; (try dsimp only at hSw); go_simp; (try with_reducible rfl)
      try simp only [Act.put, List.setIfInBounds_toArray, List.set_cons_zero, List.set_cons_succ]
      refine wpAnyL_takeA (i := 1) (v := ?_) rfl (by kernel_rfl) (by kernel_rfl) (by kernel_rfl) (fun _ _ _ h => h) (by rfl) (Or.inl ⟨by rfl, ?_⟩) H13 ?_
      rotate_left
      · intro w' hSw; (try dsimp only at hSw); go_simp; (try with_reducible rfl)
      try simp only [Act.put, List.setIfInBounds_toArray, List.set_cons_zero, List.set_cons_succ]
      refine wpAnyL_takeA (i := 2) (v := ?_) rfl (by kernel_rfl) (by kernel_rfl) (by kernel_rfl) (fun _ _ _ h => h) (by rfl) (Or.inl ⟨by rfl, ?_⟩) H13 ?_
      rotate_left
      · intro w' hSw; (try dsimp only at hSw); go_simp; (try with_reducible rfl)
      try simp only [Act.put, List.setIfInBounds_toArray, List.set_cons_zero, List.set_cons_succ]
      refine wpAnyL_takeA (i := 3) (v := ?_) rfl (by kernel_rfl) (by kernel_rfl) (by kernel_rfl) (fun _ _ _ h => h) (by rfl) (Or.inl ⟨by rfl, ?_⟩) H13 ?_
      rotate_left
      · intro w' hSw; (try dsimp only at hSw); go_simp; (try with_reducible rfl)
      try simp only [Act.put, List.setIfInBounds_toArray, List.set_cons_zero, List.set_cons_succ]
      refine wpAnyL_take (i := 4) (v := ?_) rfl (by kernel_rfl) (by kernel_rfl) (by kernel_rfl) (fun _ _ _ h => h) (by kernel_rfl) (by rfl) (by rfl) (Or.inl ⟨by rfl, ?_⟩) H13 ?_
      rotate_left
      · intro w' hSw; (try dsimp only at hSw); go_simp; (try with_reducible rfl)
      try simp only [Act.put, List.setIfInBounds_toArray, List.set_cons_zero, List.set_cons_succ]
      refine wpAnyL_take (i := 5) (v := ?_) rfl (by kernel_rfl) (by kernel_rfl) (by kernel_rfl) (fun _ _ _ h => h) (by kernel_rfl) (by rfl) (by rfl) (Or.inl ⟨by rfl, ?_⟩) H13 ?_
      rotate_left
      · intro w' hSw; (try dsimp only at hSw); go_simp; (try with_reducible rfl)
      try simp only [Act.put, List.setIfInBounds_toArray, List.set_cons_zero, List.set_cons_succ]
      refine wpAnyL_take (i := 6) (v := ?_) rfl (by kernel_rfl) (by kernel_rfl) (by kernel_rfl) (fun _ _ _ h => h) (by kernel_rfl) (by rfl) (by rfl) (Or.inl ⟨by rfl, ?_⟩) H13 ?_
      rotate_left
      · intro w' hSw; (try dsimp only at hSw); go_simp; (try with_reducible rfl)
      try simp only [Act.put, List.setIfInBounds_toArray, List.set_cons_zero, List.set_cons_succ]
      refine anyL_last (by kernel_rfl) (by rfl) (wpOp_step rfl (by rfl) fun K hK => ?_)
      clear H13
      go_simp
      refine J.out.mono ?_
      rintro e w5 ⟨E4, e4, E5, e5, rfl, o3, o4, hc5⟩
      have t13 := And.intro (keepC hc5 m0) (keepC hc5 m1)
      obtain ⟨j0, j1, i0', i1', fr0, fr1⟩ := (HOd.out.below hc5).at hmL
      obtain ⟨g0, g1, g2, g3, g4, g5, f0', f1', f2', f3', f4', f5', _⟩ := B5d.out.below hc5
      refine hK _ _ ⟨t13, ?_⟩
      clear hK K
      try simp only [Act.put, List.setIfInBounds_toArray, List.set_cons_zero, List.set_cons_succ]
      refine wpAnyH_take (i := 8) (v := ?_) rfl (by kernel_rfl) (by kernel_rfl) (by kernel_rfl) (fun _ _ _ h => h) (Or.inl ⟨by rfl, ?_⟩) t13 ?_
      rotate_left
      · intro w' hSw; (try dsimp only at hSw); go_simp; (try with_reducible rfl)
      try simp only [Act.put, List.setIfInBounds_toArray, List.set_cons_zero, List.set_cons_succ]
      refine anyH_one (i := 9) (by kernel_rfl) (wpOp_step rfl (by rfl) fun K hK => ?_)
      go_simp
      refine hK _ _ ⟨⟨st2 t13.1 NR.out, st2 t13.2 NR.out⟩, ?_⟩
      clear hK K
      try simp only [Act.put, List.setIfInBounds_toArray, List.set_cons_zero, List.set_cons_succ]
      refine anyH_one (i := 10) (by kernel_rfl) (wpOp_step rfl (by rfl) fun K hK => ?_)
      go_simp
      refine hK _ _ ⟨⟨st6 (st2 t13.1 NR.out) NW.out, st6 (st2 t13.2 NR.out) NW.out⟩, ?_⟩
      clear hK K
      try simp only [Act.put, List.setIfInBounds_toArray, List.set_cons_zero, List.set_cons_succ]
      refine wpAnyH_done (by kernel_rfl) ?_ _
      all_goals
       have hO5 := HOd.out.below hc5
       have HO6 := hid ((hO5.set hmL (UM4.out.below hc5) HMN.out).other6 (Nat.lt_succ_self w.heap.size) (.bool r.n0) (.bool r.s0) (.slice E4 r.l0.length e4) (.bool r.n1) (.bool r.s1) (.slice E5 r.l1.length e5))
       have hgw : w.heap.size ≤ gR := by omega
       have hbw := ((from_ hbel (from_ HB4d.out hc5)).setCell (p := ⟨gR, (k + 1) * 2, none⟩) hgw (.bool mr)).setCell (p := ⟨gR, (k + 1) * 2 + 1, none⟩) hgw (.slice A1 ml.length a1)
       have hP := (((B5d.out.below hc5).other (k := gR) n1 (j := (k + 1) * 2) (.bool mr)).other (k := gR) n1 (j := (k + 1) * 2 + 1) (.slice A1 ml.length a1)).put (w := w) hbw (Nat.le_refl _) (.bool r.n0) (.bool r.s0) (.slice E4 r.l0.length e4) (.bool r.n1) (.bool r.s1) (.slice E5 r.l1.length e5)
       obtain ⟨HPb, HPl⟩ := hid2 hP.box hP.bel
       have hgW : ¬ (V4.drew.heap.size ≤ gR) := by omega
       have hgV : ¬ (V4.drew.heap.size ≤ w.heap.size) := by omega
       obtain ⟨Un, HZ⟩ := hid2 (And.intro ((((o3.set1 gR ((k + 1) * 2) hgW (.bool mr)).set1 gR ((k + 1) * 2 + 1) hgW (.slice A1 ml.length a1)).set6 (g := w.heap.size) hgV (.bool r.n0) (.bool r.s0) (.slice E4 r.l0.length e4) (.bool r.n1) (.bool r.s1) (.slice E5 r.l1.length e5)).mono (new_le (show w.heap.size + 1 ≤ _ by omega))) ((((o4.set1 gR ((k + 1) * 2) hgW (.bool mr)).set1 gR ((k + 1) * 2 + 1) hgW (.slice A1 ml.length a1)).set6 (g := w.heap.size) hgV (.bool r.n0) (.bool r.s0) (.slice E4 r.l0.length e4) (.bool r.n1) (.bool r.s1) (.slice E5 r.l1.length e5)).mono (new_le (show w.heap.size + 1 ≤ _ by omega)))) (show zs.set (k + 1) (M k) = S (k + 1) by rw [HSs.out k hlt, ← hzs.out])
       clear hO5 hbw hP o3 o4 hc5
       go_wp2
       go_roundw
       case rel => exact ⟨k + 1, r, _, _, _, _, _, _, by omega, by go_num, Hr, HZ, HO6, HPb, Un, HPl.out⟩
       case measure => simp [intOf]; omega
   · obtain rfl : k = n := by omega
     obtain rfl := IvW.uniq Hrr.out hs.out
     have hdr4 : Below wr.heap.size wr wr.drew := bdr_
     have hdr5 : Below (((((((wr.setCell ⟨w.heap.size, 0, none⟩ (.bool r.n0)).setCell ⟨w.heap.size, 1, none⟩ (.bool r.s0)).setCell ⟨w.heap.size, 2, none⟩ (.slice E0 r.l0.length e0)).setCell ⟨w.heap.size, 3, none⟩ (.bool r.n1)).setCell ⟨w.heap.size, 4, none⟩ (.bool r.s1)).setCell ⟨w.heap.size, 5, none⟩ (.slice E1 r.l1.length e1))).heap.size (((((((wr.setCell ⟨w.heap.size, 0, none⟩ (.bool r.n0)).setCell ⟨w.heap.size, 1, none⟩ (.bool r.s0)).setCell ⟨w.heap.size, 2, none⟩ (.slice E0 r.l0.length e0)).setCell ⟨w.heap.size, 3, none⟩ (.bool r.n1)).setCell ⟨w.heap.size, 4, none⟩ (.bool r.s1)).setCell ⟨w.heap.size, 5, none⟩ (.slice E1 r.l1.length e1))) (((((((wr.setCell ⟨w.heap.size, 0, none⟩ (.bool r.n0)).setCell ⟨w.heap.size, 1, none⟩ (.bool r.s0)).setCell ⟨w.heap.size, 2, none⟩ (.slice E0 r.l0.length e0)).setCell ⟨w.heap.size, 3, none⟩ (.bool r.n1)).setCell ⟨w.heap.size, 4, none⟩ (.bool r.s1)).setCell ⟨w.heap.size, 5, none⟩ (.slice E1 r.l1.length e1))).drew := bdr_
     have hP := b5.out.put (w := w) hbel (Nat.le_refl _) (.bool r.n0) (.bool r.s0) (.slice E0 r.l0.length e0) (.bool r.n1) (.bool r.s1) (.slice E1 r.l1.length e1)
     obtain ⟨HPb, HPl, U1, U2⟩ := hid4 (hP.box.below hdr5) (from_ hP.bel hdr5) (((us.out.1.set6 (g := w.heap.size) (fun (h : w.heap.size + 1 ≤ w.heap.size) => by omega) (.bool r.n0) (.bool r.s0) (.slice E0 r.l0.length e0) (.bool r.n1) (.bool r.s1) (.slice E1 r.l1.length e1)).below hdr5).mono (new_le (Nat.le_succ w.heap.size))) (((us.out.2.set6 (g := w.heap.size) (fun (h : w.heap.size + 1 ≤ w.heap.size) => by omega) (.bool r.n0) (.bool r.s0) (.slice E0 r.l0.length e0) (.bool r.n1) (.bool r.s1) (.slice E1 r.l1.length e1)).below hdr5).mono (new_le (Nat.le_succ w.heap.size)))
     have hv := (((ho.out).other6 (Nat.lt_succ_self w.heap.size) (.bool r.n0) (.bool r.s0) (.slice E0 r.l0.length e0) (.bool r.n1) (.bool r.s1) (.slice E1 r.l1.length e1)).below hdr5).vec (B' := w.heap.size) (Nat.le_succ _) (by omega)
     rw [hzs.out] at hv
     have HVc := hid hv
     have sE := six_keep0 b5.out.all hdr4
     have sF := HPb.out.all
     obtain ⟨_, _, _, _, _, _, y0', y1', y2', y3', y4', y5', _⟩ := b5.out
     clear hP hdr5
     clear hv us ho b5 hdr4
     go_wp2
     first | go_region_held3 (fun w' => C6 w' w.heap.size (.bool r.n0) (.bool r.s0) (.slice E0 r.l0.length e0) (.bool r.n1) (.bool r.s1) (.slice E1 r.l1.length e1))
      (first
       | (go_keep; done)
       | with_reducible exact sE
       | with_reducible exact sF)
      (first | fail) | fail
     all_goals
      go_wp2
      refine bodyPost_ret (res_split rfl _ w.heap.size rfl HPb.out) rfl ?_
      exact ⟨_, _, _, _, _, _, rfl, HVc.out, U1.out, U2.out, HPl.out⟩
end Go.Proofs.YthpngihjcphigaaGreat
