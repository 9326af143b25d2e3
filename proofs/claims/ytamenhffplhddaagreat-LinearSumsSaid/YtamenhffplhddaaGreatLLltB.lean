/-
  Linear forms, the program's: Split of forms given by their ends' numbers. No conditions but bounds on lengths.
  Linear forms, the program's: Split of a form and a box given by numbers, and its errors. No conditions but bounds on lengths.
  facetroomlaw17.alive: true. No conditions.
  facetroomlaw17.alive: true. No conditions.
  facetroomlaw17.LinearSums, walked. No conditions.
  facetroomlaw17.LinearSums, walked. No conditions.
-/
import Derived.Deep.RegionHeld3
import Derived.Test.YtamenhffplhddaaGreatLLinT
import Derived.Test.YtamenhffplhddaaGreatLLinO
import Derived.Test.YtamenhffplhddaaGreatLHeldL
import Derived.Test.YtamenhffplhddaaGreatLLinW
import Derived.Test.YtamenhffplhddaaGreatLItwE
import Derived.Test.YtamenhffplhddaaGreatLFrameJ
import Derived.Test.YtamenhffplhddaaGreatLVecK
namespace Go.Proofs.YtamenhffplhddaaGreat
open Go.RowKit
set_option linter.unusedVariables false
set_option linter.unusedSimpArgs false

theorem st2 {w : World} {g i b j k : Nat} {v x0 x1 : Value} (h : w.cell? ⟨g, i, none⟩ = some v) (hn : b ≠ g) : ((w.setCell ⟨b, j, none⟩ x0).setCell ⟨b, k, none⟩ x1).cell? ⟨g, i, none⟩ = some v := by
  rw [World.cell?_setCell_other _ _ _ _ (fun e => hn (by injection e)), World.cell?_setCell_other _ _ _ _ (fun e => hn (by injection e))]
  exact h
theorem six_st60 {W : World} {b r : Nat} {a0 a1 a2 a3 a4 a5 x0 x1 x2 x3 x4 x5 : Value} (hn : r ≠ b) (h : W.cell? ⟨b, 0, none⟩ = some a0 ∧ W.cell? ⟨b, 1, none⟩ = some a1 ∧ W.cell? ⟨b, 2, none⟩ = some a2 ∧ W.cell? ⟨b, 3, none⟩ = some a3 ∧ W.cell? ⟨b, 4, none⟩ = some a4 ∧ W.cell? ⟨b, 5, none⟩ = some a5) :
    let V := ((((((W.setCell ⟨r, 0, none⟩ x0).setCell ⟨r, 1, none⟩ x1).setCell ⟨r, 2, none⟩ x2).setCell ⟨r, 3, none⟩ x3).setCell ⟨r, 4, none⟩ x4).setCell ⟨r, 5, none⟩ x5)
    V.cell? ⟨b, 0, none⟩ = some a0 ∧ V.cell? ⟨b, 1, none⟩ = some a1 ∧ V.cell? ⟨b, 2, none⟩ = some a2 ∧ V.cell? ⟨b, 3, none⟩ = some a3 ∧ V.cell? ⟨b, 4, none⟩ = some a4 ∧ V.cell? ⟨b, 5, none⟩ = some a5 := ⟨st6 h.1 hn, st6 h.2.1 hn, st6 h.2.2.1 hn, st6 h.2.2.2.1 hn, st6 h.2.2.2.2.1 hn, st6 h.2.2.2.2.2 hn⟩
theorem pt_w {z : Int} {s : Bool} {l : List Nat} (h : Nm z s l) (hz : -bigZ < z ∧ z < bigZ) : IvW (z, z) ⟨false, s, l, false, s, l⟩ := by
  have e := nm_e (n := z) hz
  exact ⟨⟨(decide_eq_false (by omega)).symm, h.1.trans e.1.symm, h.2.trans e.2.symm⟩, (decide_eq_false (by omega)).symm, h.1.trans e.1.symm, h.2.trans e.2.symm⟩
theorem nm_okI {z : Int} {s : Bool} {l : List Nat} (h : Nm z s l) : okI s l = true := by
  obtain ⟨rfl, rfl⟩ := h
  exact IsZ.ok z

set_option maxRecDepth 100000 in
set_option maxHeartbeats 8000000 in
theorem lsplit_run {w : World} {Z Y : Zone} {A B : Option Addr} {c d n : Nat} {ps qs : List Iv} {Ps Qs : List IvP} {R Lf : Nat → IvP} {M : Nat → Int} {S : Nat → List Int} {r : Iv} (ha : IvsAt w Z A c ps) (hb : IvsAt w Y B d qs) (hp : FmW 8 Ps ps) (hq : FmW 8 Qs qs) (hn : qs.length = n) (hpn : ps.length = n + 1) (h40 : n ≤ 35)
    (hR0 : ∀ (h : 0 < Ps.length), R 0 = Ps[0]) (hM : ∀ k (h : k + 1 < Ps.length), M k = midI Ps[k + 1]) (hMb : ∀ k, k < n → IvN 9 (M k) (M k) ∧ -bigZ < M k ∧ M k < bigZ) (hL : ∀ k (h : k + 1 < Ps.length), Lf k = ivA Ps[k + 1] (ivNg (M k, M k))) (hRs : ∀ k (h2 : k < Qs.length), R (k + 1) = ivA (R k) (ivM (Lf k) Qs[k])) (hRN : ∀ k, k ≤ n → IvN (24 + k) (R k).1 (R k).2) (hLN : ∀ k, k < n → IvN 12 (Lf k).1 (Lf k).2) (hr : IvW (R n) r)
    (hS0 : S 0 = List.replicate (n + 1) 0) (hSs : ∀ k, k < n → S (k + 1) = (S k).set (k + 1) (M k)) :
    Calls Tryz.prog 42 #[.slice A (n + 1) c, .slice B n d] w fun e w' => ∃ Av cv rA ra rB rb, e = .returned (.tuple #[.slice Av (n + 1) cv, .agg #[.bool r.n0, .bool r.s0, .slice rA r.l0.length ra, .bool r.n1, .bool r.s1, .slice rB r.l1.length rb], .int .i64 0]) ∧ VecAt w' (new w.heap.size) Av cv (encI (S n)) ∧ U64s w' (new w.heap.size) rA ra r.l0 ∧ U64s w' (new w.heap.size) rB rb r.l1 ∧ Below w.heap.size w w' := by
  have hB0 : Below w.heap.size w (w.alloc (.cells #[.bool false, .bool false, .slice none 0 0, .bool false, .bool false, .slice none 0 0] 29)) := (Below.refl _ w).alloc (Nat.le_refl _) _
  have hR4 := Box6.new w (.bool false) (.bool false) (.slice none 0 0) (.bool false) (.bool false) (.slice none 0 0) 29
  have hsz0 : (w.alloc (.cells #[.bool false, .bool false, .slice none 0 0, .bool false, .bool false, .slice none 0 0] 29)).heap.size = w.heap.size + 1 := by simp
  have hck := lchecked_any (ha.below hB0) (hb.below hB0) (hp.short (by omega)) (hq.short (by omega))
  rw [show errFB ps qs = 0 by unfold errFB; rw [if_pos ⟨hp.err (by omega) (by omega), hq.all (by omega)⟩, if_pos (by omega)]] at hck
  rw [hpn, hn] at hck
  have pl := hp.len
  have ql := hq.len
  obtain ⟨b, o, X0, x0, X1, x1, rfl, hbb, hX⟩ := ha.at (j := 0) (by omega)
  clear hX
  have HF : Hid (∀ j (hj : j < n + 1), ∃ (p : Iv) (F0 : Option Addr) (f0 : Nat) (F1 : Option Addr) (f1 : Nat), (w.cell? ⟨b, o + j * 6, none⟩ = some (.bool p.n0) ∧ w.cell? ⟨b, o + j * 6 + 1, none⟩ = some (.bool p.s0) ∧ w.cell? ⟨b, o + j * 6 + 2, none⟩ = some (.slice F0 p.l0.length f0) ∧ w.cell? ⟨b, o + j * 6 + 3, none⟩ = some (.bool p.n1) ∧ w.cell? ⟨b, o + j * 6 + 4, none⟩ = some (.bool p.s1) ∧ w.cell? ⟨b, o + j * 6 + 5, none⟩ = some (.slice F1 p.l1.length f1)) ∧ (∃ h' : j < Ps.length, IvW Ps[j] p ∧ IvN 8 Ps[j].1 Ps[j].2) ∧ (U64s w Z F0 f0 p.l0 ∧ U64s w Z F1 f1 p.l1)) := fun j hj => by
    obtain ⟨b', o', F0, f0, F1, f1, e, _, hc, u0, u1⟩ := ha.at (j := j) (by omega)
    injection e with e
    injection e with e1 e2
    subst e1 e2
    exact ⟨ps[j], F0, f0, F1, f1, hc, ⟨by omega, hp.iv j (by omega) (by omega)⟩, u0, u1⟩
  have HQ : Hid (∀ j (hj : j < n), ∃ (q : Iv) (G0 : Option Addr) (d0 : Nat) (G1 : Option Addr) (d1 : Nat) (b2 o2 : Nat), (w.cell? ⟨b2, o2 + j * 6, none⟩ = some (.bool q.n0) ∧ w.cell? ⟨b2, o2 + j * 6 + 1, none⟩ = some (.bool q.s0) ∧ w.cell? ⟨b2, o2 + j * 6 + 2, none⟩ = some (.slice G0 q.l0.length d0) ∧ w.cell? ⟨b2, o2 + j * 6 + 3, none⟩ = some (.bool q.n1) ∧ w.cell? ⟨b2, o2 + j * 6 + 4, none⟩ = some (.bool q.s1) ∧ w.cell? ⟨b2, o2 + j * 6 + 5, none⟩ = some (.slice G1 q.l1.length d1)) ∧ (∃ h' : j < Qs.length, IvW Qs[j] q ∧ IvN 8 Qs[j].1 Qs[j].2) ∧ (U64s w Y G0 d0 q.l0 ∧ U64s w Y G1 d1 q.l1) ∧ B = some ⟨b2, o2, none⟩) := fun j hj => by
    obtain ⟨b', o', F0, f0, F1, f1, e, _, hc, u0, u1⟩ := hb.at (j := j) (by omega)
    exact ⟨qs[j], F0, f0, F1, f1, b', o', hc, ⟨by omega, hq.iv j (by omega) (by omega)⟩, ⟨u0, u1⟩, e⟩
  have HMI : Hid (∀ k, k < n → ∀ (p : Iv) (mr : Bool) (ml : List Nat), (∃ h' : k + 1 < Ps.length, IvW Ps[k + 1] p ∧ IvN 8 Ps[k + 1].1 Ps[k + 1].2) → Nm (M k) mr ml → ∀ (W : World) (Z1 Z2 : Zone) (A B : Option Addr) (a b : Nat), U64s W Z1 A a p.l0 → U64s W Z2 B b p.l1 →
      Calls Tryz.prog 90 #[.agg #[.bool p.n0, .bool p.s0, .slice A p.l0.length a, .bool p.n1, .bool p.s1, .slice B p.l1.length b]] W fun e w' => ∃ A' c', e = .returned (.agg #[.bool mr, .slice A' ml.length c']) ∧ U64s w' (new W.heap.size) A' c' ml ∧ Below W.heap.size W w') := by
    rintro k hk p mr ml ⟨h1, hp1, hp2⟩ hm W Z1 Z2 A B a b u1 u2
    exact lmiddle_w hp1 (hp2.up (by omega)) (by rw [← hM k h1]; exact hm) u1 u2
  have HML : Hid (∀ k, k < n → ∀ (mr : Bool) (ml : List Nat), Nm (M k) mr ml → ml.length ≤ 100000000000) := by
    rintro k hk mr ml hm
    have h1 := hMb k hk
    have h2 : -wN 9 < M k ∧ M k < wN 9 := by
      have := h1.1.lo
      unfold Ext at this
      omega
    have := nm_lenN hm h2
    omega
  have HLI : Hid (∀ k, k < n → ∀ (p : Iv) (y : Iv) (mr : Bool) (ml : List Nat), (∃ h' : k + 1 < Ps.length, IvW Ps[k + 1] p ∧ IvN 8 Ps[k + 1].1 Ps[k + 1].2) → Nm (M k) mr ml → IvW (Lf k) y → ∀ (W : World) (Z1 Z2 Z3 Z4 : Zone) (A B C D : Option Addr) (a b c d : Nat), U64s W Z1 A a p.l0 → U64s W Z2 B b p.l1 → U64s W Z3 C c ml → U64s W Z4 D d ml →
      Calls Tryz.prog 89 #[.agg #[.bool p.n0, .bool p.s0, .slice A p.l0.length a, .bool p.n1, .bool p.s1, .slice B p.l1.length b], .agg #[.bool false, .bool mr, .slice C ml.length c, .bool false, .bool mr, .slice D ml.length d]] W fun e w' => ∃ rA ra rB rb, e = .returned (.tuple #[.agg #[.bool y.n0, .bool y.s0, .slice rA y.l0.length ra, .bool y.n1, .bool y.s1, .slice rB y.l1.length rb], .int .i64 0]) ∧ U64s w' (new W.heap.size) rA ra y.l0 ∧ U64s w' (new W.heap.size) rB rb y.l1 ∧ Below W.heap.size W w') := by
    rintro k hk p y mr ml ⟨h1, hp1, hp2⟩ hm hy W Z1 Z2 Z3 Z4 A B C D a b c d u1 u2 u3 u4
    have h9 := hMb k hk
    exact lless_w (q := ⟨false, mr, ml, false, mr, ml⟩) hp1 (pt_w hm h9.2) (by rw [← hL k h1]; exact hy) (hp2.up (by omega)) (h9.1.up (by omega)) u1 u2 u3 u4
  have HWI : Hid (∀ k, k < n → ∀ s r y q, IvW (R k) s → IvW (R (k + 1)) r → IvW (Lf k) y → (∃ h' : k < Qs.length, IvW Qs[k] q ∧ IvN 8 Qs[k].1 Qs[k].2) → ∀ (W : World) (Z1 Z2 Z3 Z4 Z5 Z6 : Zone) (A B C D E F : Option Addr) (a b c d e f : Nat), U64s W Z1 A a s.l0 → U64s W Z2 B b s.l1 → U64s W Z3 C c y.l0 → U64s W Z4 D d y.l1 → U64s W Z5 E e q.l0 → U64s W Z6 F f q.l1 →
      Calls Tryz.prog 85 #[.agg #[.bool s.n0, .bool s.s0, .slice A s.l0.length a, .bool s.n1, .bool s.s1, .slice B s.l1.length b], .agg #[.bool y.n0, .bool y.s0, .slice C y.l0.length c, .bool y.n1, .bool y.s1, .slice D y.l1.length d], .agg #[.bool q.n0, .bool q.s0, .slice E q.l0.length e, .bool q.n1, .bool q.s1, .slice F q.l1.length f]] W fun e w' => ∃ rA ra rB rb, e = .returned (.agg #[.bool r.n0, .bool r.s0, .slice rA r.l0.length ra, .bool r.n1, .bool r.s1, .slice rB r.l1.length rb]) ∧ U64s w' (new W.heap.size) rA ra r.l0 ∧ U64s w' (new W.heap.size) rB rb r.l1 ∧ Below W.heap.size W w') := by
    rintro k hk s r y q hs hr hy ⟨h2, hq1, hq2⟩ W Z1 Z2 Z3 Z4 Z5 Z6 A B C D E F a b c d e f u1 u2 u3 u4 u5 u6
    exact lwith_w hs hy hq1 (by rw [← hRs k h2]; exact hr) (hRN k (by omega)) (hLN k hk) (hq2.up (by omega)) (by omega) u1 u2 u3 u4 u5 u6
  obtain ⟨p0, F0, f0, F1, f1, c0, ⟨hp1, hp2, hp3⟩, u0⟩ := HF.out 0 (by omega)
  simp only [Nat.zero_mul, Nat.add_zero] at c0
  have JN := Lib.hid (fun (W : World) (h : Below w.heap.size w W) => ijoin_w (w := W) hp2 hp3 (by omega) (u0.1.below h) (u0.2.below h) (u0.1.below h) (u0.2.below h))
  have H00 : Hid (IvW (R 0) p0) := Lib.hid (by rw [hR0 hp1]; exact hp2)
  have Hrr := Lib.hid hr
  have HR := Lib.hid hR4
  have Hb0 := Lib.hid hB0
  have Hsz := Lib.hid hsz0
  have Hck := Lib.hid hck
  have HS0 := Lib.hid hS0
  have HSs := Lib.hid hSs
  obtain ⟨i0, hi, hz0, hz1, hz2⟩ := info_parts infoI
  clear ha hb hp hq hn hpn hR0 hRs hRN hLN hM hMb hL hr hR4 hB0 hsz0 hck pl ql hp1 hp2 hp3 u0 hS0 hSs
  go_enter Tryz.func42, Tryz.ntmps42
  go_wp2_with fail
  refine Hck.out.mono ?_
  rintro e w1 ⟨rfl, hc⟩
  have hc1 := from_ Hb0.out hc
  have hsz1 : w.heap.size + 1 ≤ w1.heap.size := by have := hc.size; have := Hsz.out; omega
  have R1 := Lib.hid (HR.out.below hc)
  clear hc Hck HR Hb0 Hsz
  go_wp2_with (at_make; go_loud (refine wpList_make_full _ rfl _ _ 66 rfl (w.heap.size + 1) 25 i0 (.agg #[.bool false, .slice none 0 0]) 2 Tryz.underlying66 hi hz0 hz1 .i64 .i64 _ _ (n + 1) rfl rfl rfl rfl (by rw [hz2]; omega) (by simp only [maxLen]; omega) hsz1 ?_); intro w2 hown hgrow)
  have hb2 := hc1.grown hgrow hc1.size (fun k h => by cases h)
  have R2 := Lib.hid (R1.out.below ((Below.refl _ w1).grown hgrow (Nat.le_refl _) (fun k h => by cases h)))
  have ho0 := OutI.zero hown rfl
  generalize (madeCells (Value.agg #[.bool false, .slice none 0 0]).cells ((n + 1) * 2)).toList = xs0 at *
  have HO0 := Lib.hid ho0
  obtain ⟨gR, hgR⟩ : ∃ gR, gR = w1.heap.size := ⟨_, rfl⟩
  rw [← hgR] at HO0
  have HBL := Lib.hid hb2
  have c02 := six_keep c0 hb2
  clear hown ho0 hgrow hc1 R1 c0
  go_wp2
  try simp only [← hgR]
  clear hgR hsz1
  have hdr0 : Below w2.heap.size w2 w2.drew := (Below.refl _ _).drew
  obtain ⟨s0, s1, s2, s3, s4, s5⟩ := six_keep c02 hdr0
  have HRd := Lib.hid (R2.out.below hdr0)
  have J1 := Lib.hid (JN.out _ (from_ HBL.out hdr0))
  have HOd := Lib.hid (HO0.out.below hdr0)
  have HBd := Lib.hid (from_ HBL.out hdr0)
  clear c02 R2 HO0 HBL hdr0
  first | go_region_with
    (first
      | (go_at_call 84; with_reducible refine J1.out.mono ?_; rintro e w3 ⟨E2, e2, E3, e3, rfl, o1, o2, hc⟩; obtain ⟨g0, g1, g2, g3, g4, g5, f0', f1', f2', f3', f4', f5', _⟩ := HRd.out.below hc)
      | fail) | fail
  all_goals
    have hP := (HRd.out.below hc).put (w := w) (from_ HBd.out hc) (Nat.le_refl _) (.bool p0.n0) (.bool p0.s0) (.slice E2 p0.l0.length e2) (.bool p0.n1) (.bool p0.s1) (.slice E3 p0.l1.length e3)
    have B5 := Lib.hid hP.box
    have HV := Lib.hid hP.bel
    have hlw := Nat.le_trans HRd.out.lt (Nat.le_refl _)
    have US := Lib.hid (And.intro ((o1.set6 (g := w.heap.size) (fun (h : _ ≤ w.heap.size) => by omega) (.bool p0.n0) (.bool p0.s0) (.slice E2 p0.l0.length e2) (.bool p0.n1) (.bool p0.s1) (.slice E3 p0.l1.length e3)).mono (new_le (show w.heap.size + 1 ≤ _ from hlw))) ((o2.set6 (g := w.heap.size) (fun (h : _ ≤ w.heap.size) => by omega) (.bool p0.n0) (.bool p0.s0) (.slice E2 p0.l0.length e2) (.bool p0.n1) (.bool p0.s1) (.slice E3 p0.l1.length e3)).mono (new_le (show w.heap.size + 1 ≤ _ from hlw))))
    have HO := Lib.hid ((HOd.out.below hc).other6 (Nat.lt_succ_self w.heap.size) (.bool p0.n0) (.bool p0.s0) (.slice E2 p0.l0.length e2) (.bool p0.n1) (.bool p0.s1) (.slice E3 p0.l1.length e3))
    clear hP hlw o1 o2 hc s0 s1 s2 s3 s4 s5 g0 g1 g2 g3 g4 g5 f0' f1' f2' f3' f4' f5' HRd HOd HBd J1 JN
    go_wp2
    go_loopw [37] (fun i wr => ∃ (k : Nat) (s : Iv) (zs : List Int) (xs : List Value) (E0 E1 : Option Addr) (e0 e1 : Nat), k ≤ n ∧ i = .int .i64 (k : Int) ∧ Hid (IvW (R k) s) ∧ Hid (zs = S k) ∧ Hid (OutI wr (w.heap.size + 1) gR (n + 1) zs xs) ∧ Hid (Box6 wr w.heap.size (.bool s.n0) (.bool s.s0) (.slice E0 s.l0.length e0) (.bool s.n1) (.bool s.s1) (.slice E1 s.l1.length e1)) ∧ Hid (U64s wr (new (w.heap.size + 1)) E0 e0 s.l0 ∧ U64s wr (new (w.heap.size + 1)) E1 e1 s.l1) ∧ Below w.heap.size w wr) (fun i _ => n - (intOf i).toNat)
    case atStart => exact ⟨0, p0, _, _, _, _, _, _, Nat.zero_le _, rfl, H00, Lib.hid HS0.out.symm, HO, B5, US, HV.out⟩
    case round =>
      clear B5 US HV HO
      obtain ⟨k, s, zs, xs, E0, E1, e0, e1, hk, rfl, hs, hzs, ho, b5, us, hbel⟩ := hrel
      by_cases hlt : k < n
      · obtain ⟨q, G0, d0, G1, d1, b2, o2, c2, hqq, x2, rfl⟩ := HQ.out k hlt
        have hw1 : IntKind.i64.wrap ((k : Int) + 1) = (k : Int) + 1 := by rw [IntKind.wrap_i64]; omega
        have hmL : k + 1 < n + 1 := by omega
        have hi0 : (0 : Int) ≤ (k : Int) + 1 := by omega
        have hi1 : (k : Int) + 1 ≤ (n : Int) := by omega
        have hi2 : (k : Int) + 1 < (n : Int) + 1 := by omega
        have hi3 : (k : Int) < (n : Int) := by omega
        obtain ⟨p, F0, f0, F1, f1, c1, hpp, x1⟩ := HF.out (k + 1) hmL
        obtain ⟨r, hr⟩ : ∃ r, IvW (R (k + 1)) r := ⟨_, IvW.mk _⟩
        obtain ⟨y, hy⟩ : ∃ y, IvW (Lf k) y := ⟨_, IvW.mk _⟩
        obtain ⟨mr, ml, hm⟩ : ∃ mr ml, Nm (M k) mr ml := ⟨_, _, rfl, rfl⟩
        replace c1 := six_keep c1 hbel
        obtain ⟨y0, y1, y2, y3, y4, y5⟩ := six_keep c2 hbel
        have hal : Below wr.heap.size wr (wr.alloc (.cells #[.bool q.n0, .bool q.s0, .slice G0 q.l0.length d0, .bool q.n1, .bool q.s1, .slice G1 q.l1.length d1] 29)) := (Below.refl _ _).alloc (Nat.le_refl _) _
        have hb1 := from_ hbel hal
        have c1b := six_keep c1 hal
        have HM := Lib.hid (HMI.out k hlt p mr ml hpp hm (wr.alloc (.cells #[.bool q.n0, .bool q.s0, .slice G0 q.l0.length d0, .bool q.n1, .bool q.s1, .slice G1 q.l1.length d1] 29)) _ _ _ _ _ _ ((x1.1.below hbel).below hal) ((x1.2.below hbel).below hal))
        have Hal := Lib.hid hal
        have BQ := Lib.hid (Box6.new wr (.bool q.n0) (.bool q.s0) (.slice G0 q.l0.length d0) (.bool q.n1) (.bool q.s1) (.slice G1 q.l1.length d1) 29)
        have HPP := Lib.hid hpp
        have HQQ := Lib.hid hqq
        have HMN := Lib.hid hm
        have HY := Lib.hid hy
        have Hr := Lib.hid hr
        have X1 := Lib.hid x1
        have X2 := Lib.hid x2
        have C1 := Lib.hid c1
        clear c1 c2 hqq x2 hpp x1 hr hal hb1 hm hy
        obtain ⟨z0, z1, z2, z3, z4, z5⟩ := c1b
        go_wp2_with fail
        refine HM.out.mono ?_
        rintro e' w1 ⟨A1, a1, rfl, um, hc⟩
        have hal2 : Below w1.heap.size w1 (w1.alloc (.cells #[.bool mr, .slice A1 ml.length a1] 25)) := (Below.refl _ _).alloc (Nat.le_refl _) _
        have BM := Box.new w1 (.bool mr) (.slice A1 ml.length a1) 25
        have HPt := Lib.hid (ipoint_good (w := w1.alloc (.cells #[.bool mr, .slice A1 ml.length a1] 25)) (um.below hal2) (nm_okI HMN.out) (HML.out k hlt mr ml HMN.out))
        have HB2 := Lib.hid (from_ (from_ Hal.out hc) hal2)
        have UM := Lib.hid (um.below hal2)
        have HBM := Lib.hid BM
        have BQ2 := Lib.hid ((BQ.out.below hc).below hal2)
        have hm1 : wr.heap.size < w1.heap.size := Nat.lt_of_lt_of_le BQ.out.lt hc.size
        obtain ⟨v0, v1, _, _, _⟩ := BM
        clear hal2 um hc z0 z1 z2 z3 z4 z5 y0 y1 y2 y3 y4 y5 HM
        go_wp2_with fail
        refine HPt.out.mono ?_
        rintro e' w2 ⟨A2, a2, A3, a3, rfl, up0, up1, hc⟩
        have hal3 : Below w2.heap.size w2 (w2.alloc (.cells #[.bool false, .bool mr, .slice A2 ml.length a2, .bool false, .bool mr, .slice A3 ml.length a3] 29)) := (Below.refl _ _).alloc (Nat.le_refl _) _
        have BP := Box6.new w2 (.bool false) (.bool mr) (.slice A2 ml.length a2) (.bool false) (.bool mr) (.slice A3 ml.length a3) 29
        have HB3 := Lib.hid (from_ (from_ HB2.out hc) hal3)
        have HBM3 := Lib.hid ((HBM.out.below hc).below hal3)
        have BQ3 := Lib.hid ((BQ2.out.below hc).below hal3)
        have UM3 := Lib.hid (((UM.out.below hc).below hal3).mono (new_le (show wr.heap.size + 1 ≤ _ from by have h1 := BQ.out.lt; omega)))
        have UP := Lib.hid (And.intro (up0.below hal3) (up1.below hal3))
        obtain ⟨gM, hgM⟩ : ∃ gM, gM = w1.heap.size := ⟨_, rfl⟩
        obtain ⟨gP, hgP⟩ : ∃ gP, gP = w2.heap.size := ⟨_, rfl⟩
        rw [← hgM] at HBM3 hm1
        rw [← hgP] at BP
        generalize hV3 : w2.alloc (.cells #[.bool false, .bool mr, .slice A2 ml.length a2, .bool false, .bool mr, .slice A3 ml.length a3] 29) = V3 at *
        clear HPt UM HBM v0 v1 up0 up1 hc hal3 HB2 BQ2
        go_wp2
        try simp only [hV3]
        try simp only [← hgM, ← hgP]
        clear hV3 hgM hgP
        have hdr0 : Below V3.heap.size V3 V3.drew := (Below.refl _ _).drew
        have hdr : Below V3.heap.size V3 (V3.alloc (.cells #[.bool false, .bool false, .slice none 0 0, .bool false, .bool false, .slice none 0 0] 29)).drew := ((Below.refl _ _).alloc (Nat.le_refl _) _).drew
        have bN := (Box6.new V3 (.bool false) (.bool false) (.slice none 0 0) (.bool false) (.bool false) (.slice none 0 0) 29).below (W' := (V3.alloc (.cells #[.bool false, .bool false, .slice none 0 0, .bool false, .bool false, .slice none 0 0] 29)).drew) ((Below.refl _ _).drew)
        have c13 := six_keep C1.out HB3.out
        have sb := And.intro (six_keep c13 hdr0) (six_keep0 BP.all hdr0)
        have sa := And.intro (six_keep c13 hdr) (six_keep0 BP.all hdr)
        have lb := lt_of_cell c13.1
        simp only at lb
        have lp := BP.lt
        have nb : V3.heap.size ≠ b := by omega
        have np : V3.heap.size ≠ gP := by omega
        have NB := Lib.hid nb
        have NP := Lib.hid np
        have J1 := Lib.hid (HLI.out k hlt p y mr ml HPP.out HMN.out HY.out V3.drew _ _ _ _ _ _ _ _ _ _ _ _ (((X1.out.1.below hbel).below HB3.out).below hdr0) (((X1.out.2.below hbel).below HB3.out).below hdr0) (UP.out.1.below hdr0) (UP.out.2.below hdr0))
        have J2 := Lib.hid (HLI.out k hlt p y mr ml HPP.out HMN.out HY.out (V3.alloc (.cells #[.bool false, .bool false, .slice none 0 0, .bool false, .bool false, .slice none 0 0] 29)).drew _ _ _ _ _ _ _ _ _ _ _ _ (((X1.out.1.below hbel).below HB3.out).below hdr) (((X1.out.2.below hbel).below HB3.out).below hdr) (UP.out.1.below hdr) (UP.out.2.below hdr))
        clear c13 BP lb nb np
        first | go_region_held3 (fun w' => (w'.cell? ⟨b, o + (k + 1) * 6, none⟩ = some (.bool p.n0) ∧ w'.cell? ⟨b, o + (k + 1) * 6 + 1, none⟩ = some (.bool p.s0) ∧ w'.cell? ⟨b, o + (k + 1) * 6 + 2, none⟩ = some (.slice F0 p.l0.length f0) ∧ w'.cell? ⟨b, o + (k + 1) * 6 + 3, none⟩ = some (.bool p.n1) ∧ w'.cell? ⟨b, o + (k + 1) * 6 + 4, none⟩ = some (.bool p.s1) ∧ w'.cell? ⟨b, o + (k + 1) * 6 + 5, none⟩ = some (.slice F1 p.l1.length f1)) ∧ (w'.cell? ⟨gP, 0, none⟩ = some (.bool false) ∧ w'.cell? ⟨gP, 1, none⟩ = some (.bool mr) ∧ w'.cell? ⟨gP, 2, none⟩ = some (.slice A2 ml.length a2) ∧ w'.cell? ⟨gP, 3, none⟩ = some (.bool false) ∧ w'.cell? ⟨gP, 4, none⟩ = some (.bool mr) ∧ w'.cell? ⟨gP, 5, none⟩ = some (.slice A3 ml.length a3)))
          (first
            | (go_keep; done)
            | with_reducible exact sb
            | with_reducible exact sa
            | with_reducible exact t6
            | with_reducible exact ⟨six_st6 NB.out t6.1, six_st60 NP.out t6.2⟩
            | exact ⟨six_keep t6.1 ((Below.refl _ _).alloc (Nat.le_refl _) _), six_keep0 t6.2 ((Below.refl _ _).alloc (Nat.le_refl _) _)⟩)
          (first
            | (go_at_call 89; with_reducible refine J1.out.mono ?_; rintro e w7 ⟨E2, e2, E3, e3, rfl, o1, o2, hc⟩; have t6 := And.intro (six_keep sb.1 hc) (six_keep0 sb.2 hc))
            | (go_at_call 89; with_reducible refine J2.out.mono ?_; rintro e w7 ⟨E2, e2, E3, e3, rfl, o1, o2, hc⟩; have t6 := And.intro (six_keep sa.1 hc) (six_keep0 sa.2 hc); have b6 := Lib.hid (bN.below hc); obtain ⟨g0, g1, g2, g3, g4, g5, f0', f1', f2', f3', f4', f5', _⟩ := bN.below hc)) | fail
        all_goals
          clear sb sa J1 J2 t6
          first
          | (have hlt7 : V3.heap.size < (V3.alloc (.cells #[.bool false, .bool false, .slice none 0 0, .bool false, .bool false, .slice none 0 0] 29)).drew.heap.size := by simp
             have hP6 := b6.out.put (w := V3) (from_ hdr hc) (Nat.le_refl _) (.bool y.n0) (.bool y.s0) (.slice E2 y.l0.length e2) (.bool y.n1) (.bool y.s1) (.slice E3 y.l1.length e3)
             have B4 := Lib.hid hP6.box
             have HB4 := Lib.hid hP6.bel
             have U4 := Lib.hid (And.intro ((o1.set6 (g := V3.heap.size) (fun (h : _ ≤ V3.heap.size) => by omega) (.bool y.n0) (.bool y.s0) (.slice E2 y.l0.length e2) (.bool y.n1) (.bool y.s1) (.slice E3 y.l1.length e3)).mono (new_le (Nat.le_of_lt hlt7))) ((o2.set6 (g := V3.heap.size) (fun (h : _ ≤ V3.heap.size) => by omega) (.bool y.n0) (.bool y.s0) (.slice E2 y.l0.length e2) (.bool y.n1) (.bool y.s1) (.slice E3 y.l1.length e3)).mono (new_le (Nat.le_of_lt hlt7))))
             clear hP6 hlt7 b6 g0 g1 g2 g3 g4 g5 f0' f1' f2' f3' f4' f5' o1 o2 hc hdr hdr0 bN
             generalize hV4 : ((((((w7.setCell ⟨V3.heap.size, 0, none⟩ (.bool y.n0)).setCell ⟨V3.heap.size, 1, none⟩ (.bool y.s0)).setCell ⟨V3.heap.size, 2, none⟩ (.slice E2 y.l0.length e2)).setCell ⟨V3.heap.size, 3, none⟩ (.bool y.n1)).setCell ⟨V3.heap.size, 4, none⟩ (.bool y.s1)).setCell ⟨V3.heap.size, 5, none⟩ (.slice E3 y.l1.length e3)) = V4 at *
             obtain ⟨gX, hgX⟩ : ∃ gX, gX = V3.heap.size := ⟨_, rfl⟩
             have B4 := Lib.hid (hgX ▸ B4.out : Box6 V4 gX (.bool y.n0) (.bool y.s0) (.slice E2 y.l0.length e2) (.bool y.n1) (.bool y.s1) (.slice E3 y.l1.length e3)))
          | (have hax := (Below.refl w7.heap.size w7).alloc (Nat.le_refl _) (.cells #[.bool y.n0, .bool y.s0, .slice E2 y.l0.length e2, .bool y.n1, .bool y.s1, .slice E3 y.l1.length e3] 29)
             have B4 := Lib.hid (Box6.new w7 (.bool y.n0) (.bool y.s0) (.slice E2 y.l0.length e2) (.bool y.n1) (.bool y.s1) (.slice E3 y.l1.length e3) 29)
             have HB4 := Lib.hid (from_ (from_ hdr0 hc) hax)
             have U4 := Lib.hid (And.intro ((o1.below hax).mono (new_le hdr0.size)) ((o2.below hax).mono (new_le hdr0.size)))
             clear hax o1 o2 hc hdr hdr0 bN
             generalize hV4 : w7.alloc (.cells #[.bool y.n0, .bool y.s0, .slice E2 y.l0.length e2, .bool y.n1, .bool y.s1, .slice E3 y.l1.length e3] 29) = V4 at *
             obtain ⟨gX, hgX⟩ : ∃ gX, gX = w7.heap.size := ⟨_, rfl⟩
             have B4 := Lib.hid (hgX ▸ B4.out : Box6 V4 gX (.bool y.n0) (.bool y.s0) (.slice E2 y.l0.length e2) (.bool y.n1) (.bool y.s1) (.slice E3 y.l1.length e3)))
          have HBw := Lib.hid (from_ HB3.out HB4.out)
          have hdr4 : Below V4.heap.size V4 V4.drew := (Below.refl _ _).drew
          have J := Lib.hid (HWI.out k hlt s r y q hs.out Hr.out HY.out HQQ.out V4.drew _ _ _ _ _ _ _ _ _ _ _ _ _ _ _ _ _ _ ((us.out.1.below HBw.out).below hdr4) ((us.out.2.below HBw.out).below hdr4) (U4.out.1.below hdr4) (U4.out.2.below hdr4) (((X2.out.1.below hbel).below HBw.out).below hdr4) (((X2.out.2.below hbel).below HBw.out).below hdr4))
          have HOd := Lib.hid ((ho.out.below HBw.out).below hdr4)
          have B5d := Lib.hid ((b5.out.below HBw.out).below hdr4)
          have hol := ho.out.lt
          have hgR4 : gR < V4.drew.heap.size := Nat.lt_of_lt_of_le hol.2 (Nat.le_trans HBw.out.size hdr4.size)
          have n1 : ¬ gR = w.heap.size := by omega
          have n2 : ¬ w.heap.size = gR := by omega
          have UM4 := Lib.hid (((UM3.out.below HB4.out).below hdr4).mono (new_offS (show w.heap.size + 1 ≤ wr.heap.size + 1 by omega) (show gR < wr.heap.size + 1 by omega)))
          have HB4d := Lib.hid (from_ HBw.out hdr4)
          obtain ⟨m0, m1, _, _, _⟩ := (HBM3.out.below HB4.out).below hdr4
          obtain ⟨r0, r1, r2, r3, r4, r5, _, _, _, _, _, _, _⟩ := id B5d.out
          obtain ⟨l0, l1, l2, l3, l4, l5, _, _, _, _, _, _, _⟩ := B4.out.below hdr4
          obtain ⟨k0, k1, k2, k3, k4, k5, _, _, _, _, _, _, _⟩ := (BQ3.out.below HB4.out).below hdr4
          clear U4 hdr4
          try simp only [hV4]
          try simp only [← hgX]
          clear hV4 hgX
          go_wp2
          have nW : w.heap.size ≠ gM := by omega
          have nR : gR ≠ gM := by omega
          have NW := Lib.hid nW
          have NR := Lib.hid nR
          have H13 := And.intro (And.intro m0 m1) (And.intro (show V4.drew.cell? ⟨w.heap.size, 0, none⟩ = some (.bool s.n0) ∧ V4.drew.cell? ⟨w.heap.size, 1, none⟩ = some (.bool s.s0) ∧ V4.drew.cell? ⟨w.heap.size, 2, none⟩ = some (.slice E0 s.l0.length e0) ∧ V4.drew.cell? ⟨w.heap.size, 3, none⟩ = some (.bool s.n1) ∧ V4.drew.cell? ⟨w.heap.size, 4, none⟩ = some (.bool s.s1) ∧ V4.drew.cell? ⟨w.heap.size, 5, none⟩ = some (.slice E1 s.l1.length e1) from ⟨r0, r1, r2, r3, r4, r5⟩) (And.intro (show V4.drew.cell? ⟨gX, 0, none⟩ = some (.bool y.n0) ∧ V4.drew.cell? ⟨gX, 1, none⟩ = some (.bool y.s0) ∧ V4.drew.cell? ⟨gX, 2, none⟩ = some (.slice E2 y.l0.length e2) ∧ V4.drew.cell? ⟨gX, 3, none⟩ = some (.bool y.n1) ∧ V4.drew.cell? ⟨gX, 4, none⟩ = some (.bool y.s1) ∧ V4.drew.cell? ⟨gX, 5, none⟩ = some (.slice E3 y.l1.length e3) from ⟨l0, l1, l2, l3, l4, l5⟩) (show V4.drew.cell? ⟨wr.heap.size, 0, none⟩ = some (.bool q.n0) ∧ V4.drew.cell? ⟨wr.heap.size, 1, none⟩ = some (.bool q.s0) ∧ V4.drew.cell? ⟨wr.heap.size, 2, none⟩ = some (.slice G0 q.l0.length d0) ∧ V4.drew.cell? ⟨wr.heap.size, 3, none⟩ = some (.bool q.n1) ∧ V4.drew.cell? ⟨wr.heap.size, 4, none⟩ = some (.bool q.s1) ∧ V4.drew.cell? ⟨wr.heap.size, 5, none⟩ = some (.slice G1 q.l1.length d1) from ⟨k0, k1, k2, k3, k4, k5⟩)))
          refine wp_region_L (fun w' => w'.cell? ⟨gM, 0, none⟩ = some (.bool mr) ∧ w'.cell? ⟨gM, 1, none⟩ = some (.slice A1 ml.length a1)) (fun w' => (w'.cell? ⟨w.heap.size, 0, none⟩ = some (.bool s.n0) ∧ w'.cell? ⟨w.heap.size, 1, none⟩ = some (.bool s.s0) ∧ w'.cell? ⟨w.heap.size, 2, none⟩ = some (.slice E0 s.l0.length e0) ∧ w'.cell? ⟨w.heap.size, 3, none⟩ = some (.bool s.n1) ∧ w'.cell? ⟨w.heap.size, 4, none⟩ = some (.bool s.s1) ∧ w'.cell? ⟨w.heap.size, 5, none⟩ = some (.slice E1 s.l1.length e1)) ∧ (w'.cell? ⟨gX, 0, none⟩ = some (.bool y.n0) ∧ w'.cell? ⟨gX, 1, none⟩ = some (.bool y.s0) ∧ w'.cell? ⟨gX, 2, none⟩ = some (.slice E2 y.l0.length e2) ∧ w'.cell? ⟨gX, 3, none⟩ = some (.bool y.n1) ∧ w'.cell? ⟨gX, 4, none⟩ = some (.bool y.s1) ∧ w'.cell? ⟨gX, 5, none⟩ = some (.slice E3 y.l1.length e3)) ∧ (w'.cell? ⟨wr.heap.size, 0, none⟩ = some (.bool q.n0) ∧ w'.cell? ⟨wr.heap.size, 1, none⟩ = some (.bool q.s0) ∧ w'.cell? ⟨wr.heap.size, 2, none⟩ = some (.slice G0 q.l0.length d0) ∧ w'.cell? ⟨wr.heap.size, 3, none⟩ = some (.bool q.n1) ∧ w'.cell? ⟨wr.heap.size, 4, none⟩ = some (.bool q.s1) ∧ w'.cell? ⟨wr.heap.size, 5, none⟩ = some (.slice G1 q.l1.length d1))) 7 (by kernel_rfl) ?_
          show wpAnyL _ _ _ _ _ _ _ 11 _ _ _
          refine wpAnyL_takeA (i := 0) (v := ?_) rfl (by kernel_rfl) (by kernel_rfl) (by kernel_rfl) (fun _ _ _ h => h) (by rfl) (Or.inl ⟨by rfl, ?_⟩) H13 ?_
          rotate_left
          · intro w' hSw; (try dsimp only at hSw); go_simp; (try with_reducible rfl)
          try simp only [Act.put, List.setIfInBounds_toArray, List.set_cons_zero, List.set_cons_succ]
          refine wpAnyL_takeA (i := 1) (v := ?_) rfl (by kernel_rfl) (by kernel_rfl) (by kernel_rfl) (fun _ _ _ h => h) (by rfl) (Or.inl ⟨by rfl, ?_⟩) H13 ?_
          rotate_left
          · intro w' hSw; (try dsimp only at hSw); go_simp; (try with_reducible rfl)
          try simp only [Act.put, List.setIfInBounds_toArray, List.set_cons_zero, List.set_cons_succ]
          refine wpAnyL_takeA (i := 2) (v := ?_) rfl (by kernel_rfl) (by kernel_rfl) (by kernel_rfl) (fun _ _ _ h => h) (by rfl) (Or.inl ⟨by rfl, ?_⟩) H13 ?_
          rotate_left
          · intro w' hSw; (try dsimp only at hSw); go_simp; (try with_reducible rfl)
          try simp only [Act.put, List.setIfInBounds_toArray, List.set_cons_zero, List.set_cons_succ]
          refine wpAnyL_takeA (i := 3) (v := ?_) rfl (by kernel_rfl) (by kernel_rfl) (by kernel_rfl) (fun _ _ _ h => h) (by rfl) (Or.inl ⟨by rfl, ?_⟩) H13 ?_
          rotate_left
          · intro w' hSw; (try dsimp only at hSw); go_simp; (try with_reducible rfl)
          try simp only [Act.put, List.setIfInBounds_toArray, List.set_cons_zero, List.set_cons_succ]
          refine wpAnyL_take (i := 4) (v := ?_) rfl (by kernel_rfl) (by kernel_rfl) (by kernel_rfl) (fun _ _ _ h => h) (by kernel_rfl) (by rfl) (by rfl) (Or.inl ⟨by rfl, ?_⟩) H13 ?_
          rotate_left
          · intro w' hSw; (try dsimp only at hSw); go_simp; (try with_reducible rfl)
          try simp only [Act.put, List.setIfInBounds_toArray, List.set_cons_zero, List.set_cons_succ]
          refine wpAnyL_take (i := 5) (v := ?_) rfl (by kernel_rfl) (by kernel_rfl) (by kernel_rfl) (fun _ _ _ h => h) (by kernel_rfl) (by rfl) (by rfl) (Or.inl ⟨by rfl, ?_⟩) H13 ?_
          rotate_left
          · intro w' hSw; (try dsimp only at hSw); go_simp; (try with_reducible rfl)
          try simp only [Act.put, List.setIfInBounds_toArray, List.set_cons_zero, List.set_cons_succ]
          refine wpAnyL_take (i := 6) (v := ?_) rfl (by kernel_rfl) (by kernel_rfl) (by kernel_rfl) (fun _ _ _ h => h) (by kernel_rfl) (by rfl) (by rfl) (Or.inl ⟨by rfl, ?_⟩) H13 ?_
          rotate_left
          · intro w' hSw; (try dsimp only at hSw); go_simp; (try with_reducible rfl)
          try simp only [Act.put, List.setIfInBounds_toArray, List.set_cons_zero, List.set_cons_succ]
          refine anyL_last (by kernel_rfl) (by rfl) (wpOp_step rfl (by rfl) fun K hK => ?_)
          clear H13
          go_simp
          refine J.out.mono ?_
          rintro e w5 ⟨E4, e4, E5, e5, rfl, o3, o4, hc5⟩
          have t13 := And.intro (keepC hc5 m0) (keepC hc5 m1)
          obtain ⟨j0, j1, i0', i1', fr0, fr1⟩ := (HOd.out.below hc5).at hmL
          obtain ⟨g0, g1, g2, g3, g4, g5, f0', f1', f2', f3', f4', f5', _⟩ := B5d.out.below hc5
          refine hK _ _ ⟨t13, ?_⟩
          clear hK K
          try simp only [Act.put, List.setIfInBounds_toArray, List.set_cons_zero, List.set_cons_succ]
          refine wpAnyH_take (i := 8) (v := ?_) rfl (by kernel_rfl) (by kernel_rfl) (by kernel_rfl) (fun _ _ _ h => h) (Or.inl ⟨by rfl, ?_⟩) t13 ?_
          rotate_left
          · intro w' hSw; (try dsimp only at hSw); go_simp; (try with_reducible rfl)
          try simp only [Act.put, List.setIfInBounds_toArray, List.set_cons_zero, List.set_cons_succ]
          refine anyH_one (i := 9) (by kernel_rfl) (wpOp_step rfl (by rfl) fun K hK => ?_)
          go_simp
          refine hK _ _ ⟨⟨st2 t13.1 NR.out, st2 t13.2 NR.out⟩, ?_⟩
          clear hK K
          try simp only [Act.put, List.setIfInBounds_toArray, List.set_cons_zero, List.set_cons_succ]
          refine anyH_one (i := 10) (by kernel_rfl) (wpOp_step rfl (by rfl) fun K hK => ?_)
          go_simp
          refine hK _ _ ⟨⟨st6 (st2 t13.1 NR.out) NW.out, st6 (st2 t13.2 NR.out) NW.out⟩, ?_⟩
          clear hK K
          try simp only [Act.put, List.setIfInBounds_toArray, List.set_cons_zero, List.set_cons_succ]
          refine wpAnyH_done (by kernel_rfl) ?_ _
          all_goals
            have hO5 := HOd.out.below hc5
            have HO6 := Lib.hid ((hO5.set hmL (UM4.out.below hc5) HMN.out).other6 (Nat.lt_succ_self w.heap.size) (.bool r.n0) (.bool r.s0) (.slice E4 r.l0.length e4) (.bool r.n1) (.bool r.s1) (.slice E5 r.l1.length e5))
            have hgw : w.heap.size ≤ gR := by omega
            have hbw := ((from_ hbel (from_ HB4d.out hc5)).setCell (p := ⟨gR, (k + 1) * 2, none⟩) hgw (.bool mr)).setCell (p := ⟨gR, (k + 1) * 2 + 1, none⟩) hgw (.slice A1 ml.length a1)
            have hP := (((B5d.out.below hc5).other (k := gR) n1 (j := (k + 1) * 2) (.bool mr)).other (k := gR) n1 (j := (k + 1) * 2 + 1) (.slice A1 ml.length a1)).put (w := w) hbw (Nat.le_refl _) (.bool r.n0) (.bool r.s0) (.slice E4 r.l0.length e4) (.bool r.n1) (.bool r.s1) (.slice E5 r.l1.length e5)
            have HPb := Lib.hid hP.box
            have HPl := Lib.hid hP.bel
            have hgW : ¬ (V4.drew.heap.size ≤ gR) := by omega
            have hgV : ¬ (V4.drew.heap.size ≤ w.heap.size) := by omega
            have Un := Lib.hid (And.intro ((((o3.set1 gR ((k + 1) * 2) hgW (.bool mr)).set1 gR ((k + 1) * 2 + 1) hgW (.slice A1 ml.length a1)).set6 (g := w.heap.size) hgV (.bool r.n0) (.bool r.s0) (.slice E4 r.l0.length e4) (.bool r.n1) (.bool r.s1) (.slice E5 r.l1.length e5)).mono (new_le (show w.heap.size + 1 ≤ _ by omega))) ((((o4.set1 gR ((k + 1) * 2) hgW (.bool mr)).set1 gR ((k + 1) * 2 + 1) hgW (.slice A1 ml.length a1)).set6 (g := w.heap.size) hgV (.bool r.n0) (.bool r.s0) (.slice E4 r.l0.length e4) (.bool r.n1) (.bool r.s1) (.slice E5 r.l1.length e5)).mono (new_le (show w.heap.size + 1 ≤ _ by omega))))
            have HZ := Lib.hid (show zs.set (k + 1) (M k) = S (k + 1) by rw [HSs.out k hlt, ← hzs.out])
            clear hO5 hbw hP o3 o4 hc5
            go_wp2
            go_roundw
            case rel => exact ⟨k + 1, r, _, _, _, _, _, _, by omega, by go_num, Hr, HZ, HO6, HPb, Un, HPl.out⟩
            case measure => simp [intOf]; omega
      · obtain rfl : k = n := by omega
        obtain rfl := IvW.uniq Hrr.out hs.out
        have hdr4 : Below wr.heap.size wr wr.drew := (Below.refl _ _).drew
        have hdr5 : Below (((((((wr.setCell ⟨w.heap.size, 0, none⟩ (.bool r.n0)).setCell ⟨w.heap.size, 1, none⟩ (.bool r.s0)).setCell ⟨w.heap.size, 2, none⟩ (.slice E0 r.l0.length e0)).setCell ⟨w.heap.size, 3, none⟩ (.bool r.n1)).setCell ⟨w.heap.size, 4, none⟩ (.bool r.s1)).setCell ⟨w.heap.size, 5, none⟩ (.slice E1 r.l1.length e1))).heap.size (((((((wr.setCell ⟨w.heap.size, 0, none⟩ (.bool r.n0)).setCell ⟨w.heap.size, 1, none⟩ (.bool r.s0)).setCell ⟨w.heap.size, 2, none⟩ (.slice E0 r.l0.length e0)).setCell ⟨w.heap.size, 3, none⟩ (.bool r.n1)).setCell ⟨w.heap.size, 4, none⟩ (.bool r.s1)).setCell ⟨w.heap.size, 5, none⟩ (.slice E1 r.l1.length e1))) (((((((wr.setCell ⟨w.heap.size, 0, none⟩ (.bool r.n0)).setCell ⟨w.heap.size, 1, none⟩ (.bool r.s0)).setCell ⟨w.heap.size, 2, none⟩ (.slice E0 r.l0.length e0)).setCell ⟨w.heap.size, 3, none⟩ (.bool r.n1)).setCell ⟨w.heap.size, 4, none⟩ (.bool r.s1)).setCell ⟨w.heap.size, 5, none⟩ (.slice E1 r.l1.length e1))).drew := (Below.refl _ _).drew
        have hP := b5.out.put (w := w) hbel (Nat.le_refl _) (.bool r.n0) (.bool r.s0) (.slice E0 r.l0.length e0) (.bool r.n1) (.bool r.s1) (.slice E1 r.l1.length e1)
        have HPb := Lib.hid (hP.box.below hdr5)
        have HPl := Lib.hid (from_ hP.bel hdr5)
        have U1 := Lib.hid (((us.out.1.set6 (g := w.heap.size) (fun (h : w.heap.size + 1 ≤ w.heap.size) => by omega) (.bool r.n0) (.bool r.s0) (.slice E0 r.l0.length e0) (.bool r.n1) (.bool r.s1) (.slice E1 r.l1.length e1)).below hdr5).mono (new_le (Nat.le_succ w.heap.size)))
        have U2 := Lib.hid (((us.out.2.set6 (g := w.heap.size) (fun (h : w.heap.size + 1 ≤ w.heap.size) => by omega) (.bool r.n0) (.bool r.s0) (.slice E0 r.l0.length e0) (.bool r.n1) (.bool r.s1) (.slice E1 r.l1.length e1)).below hdr5).mono (new_le (Nat.le_succ w.heap.size)))
        have hv := (((ho.out).other6 (Nat.lt_succ_self w.heap.size) (.bool r.n0) (.bool r.s0) (.slice E0 r.l0.length e0) (.bool r.n1) (.bool r.s1) (.slice E1 r.l1.length e1)).below hdr5).vec (B' := w.heap.size) (Nat.le_succ _) (by omega)
        rw [hzs.out] at hv
        have HVc := Lib.hid hv
        have sE := six_keep0 b5.out.all hdr4
        have sF := HPb.out.all
        obtain ⟨_, _, _, _, _, _, y0', y1', y2', y3', y4', y5', _⟩ := b5.out
        clear hP hdr5
        clear hv us ho b5 hdr4
        go_wp2
        first | go_region_held3 (fun w' => w'.cell? ⟨w.heap.size, 0, none⟩ = some (.bool r.n0) ∧ w'.cell? ⟨w.heap.size, 1, none⟩ = some (.bool r.s0) ∧ w'.cell? ⟨w.heap.size, 2, none⟩ = some (.slice E0 r.l0.length e0) ∧ w'.cell? ⟨w.heap.size, 3, none⟩ = some (.bool r.n1) ∧ w'.cell? ⟨w.heap.size, 4, none⟩ = some (.bool r.s1) ∧ w'.cell? ⟨w.heap.size, 5, none⟩ = some (.slice E1 r.l1.length e1))
          (first
            | (go_keep; done)
            | with_reducible exact sE
            | with_reducible exact sF)
          (first | fail) | fail
        all_goals
          go_wp2
          refine bodyPost_ret (res_split rfl _ w.heap.size rfl HPb.out) rfl ?_
          exact ⟨_, _, _, _, _, _, rfl, HVc.out, U1.out, U2.out, HPl.out⟩

end Go.Proofs.YtamenhffplhddaaGreat

namespace Go.Proofs.YtamenhffplhddaaGreat
open Go.RowKit
set_option linter.unusedVariables false
set_option linter.unusedSimpArgs false

theorem lsplit_w {w : World} {Z Y : Zone} {A B : Option Addr} {c d : Nat} {ps qs : List Iv} {Ps Qs : List IvP} {r : Iv} (ha : IvsAt w Z A c ps) (hb : IvsAt w Y B d qs) (hp : FmW 8 Ps ps) (hq : FmW 8 Qs qs) (hl : ps.length = qs.length + 1) (h40 : qs.length ≤ 35) (hr : IvW (valL (hdF Ps) (prS Ps Qs)) r) :
    Calls Tryz.prog 42 #[.slice A ps.length c, .slice B qs.length d] w fun e w' => ∃ Av cv rA ra rB rb, e = .returned (.tuple #[.slice Av ps.length cv, .agg #[.bool r.n0, .bool r.s0, .slice rA r.l0.length ra, .bool r.n1, .bool r.s1, .slice rB r.l1.length rb], .int .i64 0]) ∧ VecAt w' (new w.heap.size) Av cv (encI (rowL Ps)) ∧ U64s w' (new w.heap.size) rA ra r.l0 ∧ U64s w' (new w.heap.size) rB rb r.l1 ∧ Below w.heap.size w w' := by
  have pl := hp.len
  have ql := hq.len
  have hL : Ps.length = Qs.length + 1 := by omega
  have hwl := prS_len hL
  have h0 : 0 < Ps.length := by omega
  have hws : ∀ q ∈ prS Ps Qs, IvN 12 q.1.1 q.1.2 ∧ IvN 12 q.2.1 q.2.2 := fun q hm => by
    obtain ⟨j, hj, rfl⟩ := List.getElem_of_mem hm
    have hj2 : j < Qs.length := by rw [← hwl]; exact hj
    have hj1 : j + 1 < Ps.length := by omega
    rw [prS_get hj hj1 hj2]
    exact ⟨lessI_ok (hp.n (j + 1) hj1), (hq.n j hj2).up (by omega)⟩
  have hh : IvN 24 (hdF Ps).1 (hdF Ps).2 := by
    rw [hdF_get h0]
    exact (hp.n 0 h0).up (by omega)
  have hgd : ∀ k (hk : k < qs.length), Ps.getD (k + 1) (0, 0) = Ps[k + 1]'(by omega) := fun k hk => by
    rw [List.getD_eq_getElem?_getD, List.getElem?_eq_getElem (show k + 1 < Ps.length by omega)]
    rfl
  have hrun := lsplit_run (n := qs.length) (R := runV (hdF Ps) (prS Ps Qs)) (Lf := fun k => lessI (Ps.getD (k + 1) (0, 0))) (M := fun k => midI (Ps.getD (k + 1) (0, 0))) (S := rowS Ps) (r := r) ha hb hp hq rfl hl h40
    (fun h => by rw [runV_zero, hdF_get h])
    (fun k h => by rw [hgd k (by omega)])
    (fun k h => by rw [hgd k h]; exact ⟨(midI_ok (hp.n (k + 1) (by omega))).1, (midI_ok (hp.n (k + 1) (by omega))).2.1⟩)
    (fun k h => by rw [hgd k (by omega)]; rfl)
    (fun k h2 => by rw [runV_succ (by rw [hwl]; exact h2), prS_get (by rw [hwl]; exact h2) (by omega) h2, hgd k (by omega)])
    (fun k hk => runK_ok (K := 12) (by omega) (by omega) hh hws)
    (fun k hk => by rw [hgd k hk]; exact lessI_ok (hp.n (k + 1) (by omega)))
    (by rw [show qs.length = (prS Ps Qs).length by rw [hwl]; omega, runV_all]; exact hr)
    (by show List.replicate Ps.length 0 = _; rw [show Ps.length = qs.length + 1 by omega])
    (fun k hk => rfl)
  rw [rowS_all (by omega)] at hrun
  rw [hl]
  exact hrun

set_option maxRecDepth 100000 in
set_option maxHeartbeats 4000000 in
theorem lsplit_bad {w : World} {Z Y : Zone} {A B : Option Addr} {c d : Nat} {ps qs : List Iv} {g : Int} (ha : IvsAt w Z A c ps) (hb : IvsAt w Y B d qs) (hs : ∀ p ∈ ps, p.short) (hs2 : ∀ p ∈ qs, p.short) (hg : errFB ps qs = g) (h0 : g ≠ 0) :
    Calls Tryz.prog 42 #[.slice A ps.length c, .slice B qs.length d] w fun e w' => e = .returned (.tuple #[.slice none 0 0, .agg #[.bool false, .bool false, .slice none 0 0, .bool false, .bool false, .slice none 0 0], .int .i64 g]) ∧ Below w.heap.size w w' := by
  have hB0 : Below w.heap.size w (w.alloc (.cells #[.bool false, .bool false, .slice none 0 0, .bool false, .bool false, .slice none 0 0] 29)) := (Below.refl _ w).alloc (Nat.le_refl _) _
  have hR4 := Box6.new w (.bool false) (.bool false) (.slice none 0 0) (.bool false) (.bool false) (.slice none 0 0) 29
  have hck := lchecked_any (ha.below hB0) (hb.below hB0) hs hs2
  rw [hg] at hck
  have t1 : (g != 0) = true := bne_iff_ne.2 h0
  have HR := Lib.hid hR4
  have Hb0 := Lib.hid hB0
  have Hck := Lib.hid hck
  clear ha hb hs hs2 hg h0 hR4 hB0 hck
  generalize ps.length = L at *
  generalize qs.length = M at *
  go_enter Tryz.func42, Tryz.ntmps42
  go_wp2_with fail
  refine Hck.out.mono ?_
  rintro e w1 ⟨rfl, hc⟩
  have R4 := HR.out.below hc
  have HP := Lib.hid (R4.put (w := w) (from_ Hb0.out hc) (Nat.le_refl _) (.bool false) (.bool false) (.slice none 0 0) (.bool false) (.bool false) (.slice none 0 0))
  obtain ⟨g0, g1, g2, g3, g4, g5, f0', f1', f2', f3', f4', f5', _⟩ := R4
  clear hc
  go_wp2
  refine bodyPost_ret (res_split rfl _ w.heap.size rfl HP.out.box) rfl ?_
  exact ⟨rfl, HP.out.bel⟩

end Go.Proofs.YtamenhffplhddaaGreat

namespace Go.Proofs.YtamenhffplhddaaGreat
open Go.RowKit
set_option linter.unusedVariables false
set_option linter.unusedSimpArgs false

theorem l17of_r {w : World} {x y : Int} {r : Iv} (hr : IvW (x, y) r) (hx : -9223372036854775808 ≤ x ∧ x ≤ 9223372036854775807) (hy : -9223372036854775808 ≤ y ∧ y ≤ 9223372036854775807) (h : x ≤ y) :
    Calls Tryz.prog 77 #[.int .i64 x, .int .i64 y] w fun e w' => ∃ A c B d, e = .returned (.agg #[.bool r.n0, .bool r.s0, .slice A r.l0.length c, .bool r.n1, .bool r.s1, .slice B r.l1.length d]) ∧ U64s w' (new w.heap.size) A c r.l0 ∧ U64s w' (new w.heap.size) B d r.l1 ∧ Below w.heap.size w w' := by
  obtain rfl := hr.uniq (IvW.mk (x, y))
  exact l17of_w hx hy h
theorem ivs_one {w : World} {Z : Zone} {p : Iv} {A B : Option Addr} {a b : Nat} (t : TypeId) (u : U64s w Z A a p.l0) (v : U64s w Z B b p.l1) : IvsAt (w.alloc (.cells #[.bool p.n0, .bool p.s0, .slice A p.l0.length a, .bool p.n1, .bool p.s1, .slice B p.l1.length b] t)) Z (some ⟨w.heap.size, 0, none⟩) 1 [p] := by
  have hax : Below w.heap.size w (w.alloc (.cells #[.bool p.n0, .bool p.s0, .slice A p.l0.length a, .bool p.n1, .bool p.s1, .slice B p.l1.length b] t)) := (Below.refl _ _).alloc (Nat.le_refl _) _
  refine ⟨by simp, by omega, fun _ => ⟨_, 0, rfl, by simp, fun j hj => ?_⟩⟩
  obtain rfl : j = 0 := by simp at hj; omega
  exact ⟨A, a, B, b, ⟨cell_newest rfl rfl, cell_newest rfl rfl, cell_newest rfl rfl, cell_newest rfl rfl, cell_newest rfl rfl, cell_newest rfl rfl⟩, u.below hax, v.below hax⟩
theorem int_n8 {x y : Int} (hx : -9223372036854775808 ≤ x ∧ x ≤ 9223372036854775807) (hy : -9223372036854775808 ≤ y ∧ y ≤ 9223372036854775807) (h : x ≤ y) : IvN 8 x y := by
  have h1 : wN 1 = 18446744073709551616 := rfl
  have h2 : wN 1 ≤ wN 8 := wN_mono (by omega)
  have h3 : wN 8 ≤ bigZ := wN_le (by omega)
  exact ⟨.inr (.inr (by omega)), .inr (.inr (by omega)), h, by omega, by omega⟩
theorem same16_yes {w : World} {Z1 Z2 Z3 Z4 : Zone} {p : Iv} {A B C D : Option Addr} {a b c d : Nat} (u1 : U64s w Z1 A a p.l0) (u2 : U64s w Z2 B b p.l1) (u3 : U64s w Z3 C c p.l0) (u4 : U64s w Z4 D d p.l1) :
    Calls Tryz.prog 73 #[.agg #[.bool p.n0, .bool p.s0, .slice A p.l0.length a, .bool p.n1, .bool p.s1, .slice B p.l1.length b], .agg #[.bool p.n0, .bool p.s0, .slice C p.l0.length c, .bool p.n1, .bool p.s1, .slice D p.l1.length d]] w fun e w' => e = .returned (.bool true) ∧ Below w.heap.size w w' := by
  have h := r16same_any (n0 := p.n0) (s0 := p.s0) (n1 := p.n1) (s1 := p.s1) (m0 := p.n0) (t0 := p.s0) (m1 := p.n1) (t1 := p.s1) u1 u2 u3 u4
  rw [decide_eq_true (show (p.n0 = p.n0 ∧ p.s0 = p.s0 ∧ p.l0 = p.l0) ∧ p.n1 = p.n1 ∧ p.s1 = p.s1 ∧ p.l1 = p.l1 from ⟨⟨rfl, rfl, rfl⟩, rfl, rfl, rfl⟩)] at h
  exact h

def exF : List IvP := [(1, 2), (3, 5)]
theorem exF_w : FmW 8 exF (fmOf exF) := FmW.of fun j h => by
  rcases j with _ | _ | j
  · exact int_n8 (x := 1) (y := 2) (by omega) (by omega) (by omega)
  · exact int_n8 (x := 3) (y := 5) (by omega) (by omega) (by omega)
  · simp [exF] at h
    omega
theorem exB_w : FmW 8 [((0 : Int), (10 : Int))] [ivOf 0 10] := FmW.of (Ps := [(0, 10)]) fun j h => by
  obtain rfl : j = 0 := by simp at h; omega
  exact int_n8 (x := 0) (y := 10) (by omega) (by omega) (by omega)
theorem exV : valL (hdF exF) (prF exF [(0, 10)]) = (1, 52) := by decide +kernel
theorem exS : valL (hdF exF) (prS exF [(0, 10)]) = (-9, 12) := by decide +kernel
theorem exR : rowL exF = [0, 4] := by decide +kernel

end Go.Proofs.YtamenhffplhddaaGreat

namespace Go.Proofs.YtamenhffplhddaaGreat
open Go.RowKit
set_option linter.unusedVariables false
set_option linter.unusedSimpArgs false


set_option maxRecDepth 100000 in
set_option maxHeartbeats 8000000 in
theorem alive17 (w : World) : Calls Tryz.prog 34 #[] w fun e w' => e = .returned (.bool true) ∧ Below w.heap.size w w' := by
  obtain ⟨b, hb⟩ : ∃ b, IvW (0, 10) b := ⟨_, IvW.mk _⟩
  obtain ⟨r, hr⟩ : ∃ r, IvW (1, 52) r := ⟨_, IvW.mk _⟩
  obtain ⟨q, hq⟩ : ∃ q, IvW (-9, 12) q := ⟨_, IvW.mk _⟩
  have eb : b = ivOf 0 10 := hb.uniq (IvW.mk (0, 10))
  have SO := Lib.hid (fun W : World => l17some_w (w := W))
  have OB := Lib.hid (fun W : World => l17of_r (w := W) hb (by omega) (by omega) (by omega))
  have OR := Lib.hid (fun W : World => l17of_r (w := W) hr (by omega) (by omega) (by omega))
  have OQ := Lib.hid (fun W : World => l17of_r (w := W) hq (by omega) (by omega) (by omega))
  have HV : Hid (∀ W A c g, IvsAt W old A c (fmOf exF) → IvsAt W old (some ⟨g, 0, none⟩) 1 [b] → Calls Tryz.prog 37 #[.slice A 2 c, .slice (some ⟨g, 0, none⟩) 1 1] W fun e w' => ∃ rA ra rB rb, e = .returned (.tuple #[.agg #[.bool r.n0, .bool r.s0, .slice rA r.l0.length ra, .bool r.n1, .bool r.s1, .slice rB r.l1.length rb], .int .i64 0]) ∧ U64s w' (new W.heap.size) rA ra r.l0 ∧ U64s w' (new W.heap.size) rB rb r.l1 ∧ Below W.heap.size W w') := fun W A c g h1 h2 => by
    rw [eb] at h2
    have h3 := lvalue_w h1 h2 exF_w exB_w rfl (by simp) (r := r) (by rw [exV]; exact hr)
    exact h3
  have HS : Hid (∀ W A c g, IvsAt W old A c (fmOf exF) → IvsAt W old (some ⟨g, 0, none⟩) 1 [b] → Calls Tryz.prog 42 #[.slice A 2 c, .slice (some ⟨g, 0, none⟩) 1 1] W fun e w' => ∃ Av cv rA ra rB rb, e = .returned (.tuple #[.slice Av 2 cv, .agg #[.bool q.n0, .bool q.s0, .slice rA q.l0.length ra, .bool q.n1, .bool q.s1, .slice rB q.l1.length rb], .int .i64 0]) ∧ VecAt w' (new W.heap.size) Av cv (encI [0, 4]) ∧ U64s w' (new W.heap.size) rA ra q.l0 ∧ U64s w' (new W.heap.size) rB rb q.l1 ∧ Below W.heap.size W w') := fun W A c g h1 h2 => by
    rw [eb] at h2
    have h3 := lsplit_w h1 h2 exF_w exB_w rfl (by simp) (r := q) (by rw [exS]; exact hq)
    rw [exR] at h3
    exact h3
  have HO : Hid (∀ (W : World) g, W.heap.size = g → Calls Tryz.prog 79 #[.slice (some ⟨g, 0, none⟩) 2 2] (W.alloc (.cells #[.int .i64 0, .int .i64 4] 3)) fun e w' => ∃ A c, e = .returned (.slice A 2 c) ∧ VecAt w' old A c (encI [0, 4]) ∧ Below W.heap.size W w') := fun W g hg => by
    subst hg
    refine (vof_n (ints2 W 0 4 3 (by omega) (by omega)) (show NmV [0, 4] (encI [0, 4]) from rfl) (by simp)).mono ?_
    rintro e w' ⟨A, c, rfl, hv, hb⟩
    exact ⟨A, c, rfl, hv, from_ ((Below.refl _ _).alloc (Nat.le_refl _) _) hb⟩
  have HM : Hid (∀ W Z A c B d, VecAt W Z A c (encI [0, 4]) → VecAt W old B d (encI [0, 4]) → Calls Tryz.prog 78 #[.slice A 2 c, .slice B 2 d] W fun e w' => e = .returned (.bool true) ∧ Below W.heap.size W w') := fun W Z A c B d h1 h2 => by
    have h := same7_n h1 h2
    rw [show (encI [0, 4]).length = 2 by rw [encI_len]; rfl] at h
    exact h
  clear hb hr hq eb
  generalize encI [0, 4] = en at *
  generalize hfm : fmOf exF = fm at *
  replace SO : Hid (∀ W : World, Calls Tryz.prog 76 #[] W fun e w' => ∃ A c, e = .returned (.slice A 2 c) ∧ IvsAt w' (new W.heap.size) A c fm ∧ Below W.heap.size W w') := by
    rw [← hfm]; exact SO
  clear hfm
  go_enter Tryz.func34, Tryz.ntmps34
  go_wp2_with fail
  refine (SO.out _).mono ?_
  rintro e w1 ⟨A0, c0, rfl, hF, hc⟩
  have HB := Lib.hid hc
  replace hF := hF.mono (le_old _)
  clear hc
  go_wp2_with fail
  refine (OB.out _).mono ?_
  rintro e w2 ⟨A2, c2, B2, d2, rfl, o1, o2, hc⟩
  have hax : Below w2.heap.size w2 (w2.alloc (.cells #[.bool b.n0, .bool b.s0, .slice A2 b.l0.length c2, .bool b.n1, .bool b.s1, .slice B2 b.l1.length d2] 29)) := (Below.refl _ _).alloc (Nat.le_refl _) _
  replace HB := Lib.hid (from_ (from_ HB.out hc) hax)
  replace hF := (hF.below hc).below hax
  have hI := ivs_one 29 (o1.mono (le_old _)) (o2.mono (le_old _))
  clear o1 o2 hax hc
  go_wp2_with fail
  refine (HV.out _ _ _ _ hF hI).mono ?_
  rintro e w3 ⟨A1, c1, B1, d1, rfl, o1, o2, hc⟩
  have hax : Below w3.heap.size w3 (w3.alloc (.cells #[.bool r.n0, .bool r.s0, .slice A1 r.l0.length c1, .bool r.n1, .bool r.s1, .slice B1 r.l1.length d1] 29)) := (Below.refl _ _).alloc (Nat.le_refl _) _
  replace HB := Lib.hid (from_ (from_ HB.out hc) hax)
  have BA := Lib.hid (Box6.new w3 (.bool r.n0) (.bool r.s0) (.slice A1 r.l0.length c1) (.bool r.n1) (.bool r.s1) (.slice B1 r.l1.length d1) 29)
  replace o1 := (o1.mono (le_old _)).below hax
  replace o2 := (o2.mono (le_old _)).below hax
  obtain ⟨gA, hgA⟩ : ∃ gA, gA = w3.heap.size := ⟨_, rfl⟩
  rw [← hgA] at BA
  clear hax hc hF hI HV
  generalize hV3 : w3.alloc (.cells #[.bool r.n0, .bool r.s0, .slice A1 r.l0.length c1, .bool r.n1, .bool r.s1, .slice B1 r.l1.length d1] 29) = V3 at *
  go_wp2_with fail
  try simp only [hV3]
  try simp only [← hgA]
  clear hV3 hgA
  refine (SO.out _).mono ?_
  rintro e w4 ⟨A0', c0', rfl, hF, hc⟩
  replace HB := Lib.hid (from_ HB.out hc)
  replace o1 := o1.below hc
  replace o2 := o2.below hc
  replace BA := Lib.hid (BA.out.below hc)
  replace hF := hF.mono (le_old _)
  clear hc SO
  go_wp2_with fail
  refine (OB.out _).mono ?_
  rintro e w5 ⟨A2', c2', B2', d2', rfl, o3, o4, hc⟩
  have hax : Below w5.heap.size w5 (w5.alloc (.cells #[.bool b.n0, .bool b.s0, .slice A2' b.l0.length c2', .bool b.n1, .bool b.s1, .slice B2' b.l1.length d2'] 29)) := (Below.refl _ _).alloc (Nat.le_refl _) _
  replace HB := Lib.hid (from_ (from_ HB.out hc) hax)
  replace o1 := (o1.below hc).below hax
  replace o2 := (o2.below hc).below hax
  replace BA := Lib.hid ((BA.out.below hc).below hax)
  replace hF := (hF.below hc).below hax
  have hI := ivs_one 29 (o3.mono (le_old _)) (o4.mono (le_old _))
  clear o3 o4 hax hc OB
  go_wp2_with fail
  refine (HS.out _ _ _ _ hF hI).mono ?_
  rintro e w6 ⟨Av, cv, A3, c3, B3, d3, rfl, hrow, o3, o4, hc⟩
  have hax : Below w6.heap.size w6 (w6.alloc (.cells #[.bool q.n0, .bool q.s0, .slice A3 q.l0.length c3, .bool q.n1, .bool q.s1, .slice B3 q.l1.length d3] 29)) := (Below.refl _ _).alloc (Nat.le_refl _) _
  replace HB := Lib.hid (from_ (from_ HB.out hc) hax)
  have BQ := Lib.hid (Box6.new w6 (.bool q.n0) (.bool q.s0) (.slice A3 q.l0.length c3) (.bool q.n1) (.bool q.s1) (.slice B3 q.l1.length d3) 29)
  replace BA := Lib.hid ((BA.out.below hc).below hax)
  replace hrow := hrow.below hax
  replace o1 := (o1.below hc).below hax
  replace o2 := (o2.below hc).below hax
  replace o3 := (o3.mono (le_old _)).below hax
  replace o4 := (o4.mono (le_old _)).below hax
  obtain ⟨gQ, hgQ⟩ : ∃ gQ, gQ = w6.heap.size := ⟨_, rfl⟩
  rw [← hgQ] at BQ
  clear hax hc hF hI HS
  generalize hV6 : w6.alloc (.cells #[.bool q.n0, .bool q.s0, .slice A3 q.l0.length c3, .bool q.n1, .bool q.s1, .slice B3 q.l1.length d3] 29) = V6 at *
  go_wp2
  try simp only [hV6]
  try simp only [← hgQ]
  clear hV6 hgQ
  have hs := boxT_keep (boxT_of BA.out BQ.out) (Below.refl _ _).drew
  have hc2 : Below V6.heap.size V6 V6.drew := (Below.refl _ _).drew
  replace o1 := o1.below hc2
  replace o2 := o2.below hc2
  replace o3 := o3.below hc2
  replace o4 := o4.below hc2
  replace hrow := hrow.below hc2
  replace HB := Lib.hid (from_ HB.out hc2)
  clear hc2 BA BQ
  first | go_region_held3 (fun w' => w'.cell? ⟨gA, 0, none⟩ = some (.bool r.n0) ∧ w'.cell? ⟨gA, 1, none⟩ = some (.bool r.s0) ∧ w'.cell? ⟨gA, 2, none⟩ = some (.slice A1 r.l0.length c1) ∧ w'.cell? ⟨gA, 3, none⟩ = some (.bool r.n1) ∧ w'.cell? ⟨gA, 4, none⟩ = some (.bool r.s1) ∧ w'.cell? ⟨gA, 5, none⟩ = some (.slice B1 r.l1.length d1) ∧ w'.cell? ⟨gQ, 0, none⟩ = some (.bool q.n0) ∧ w'.cell? ⟨gQ, 1, none⟩ = some (.bool q.s0) ∧ w'.cell? ⟨gQ, 2, none⟩ = some (.slice A3 q.l0.length c3) ∧ w'.cell? ⟨gQ, 3, none⟩ = some (.bool q.n1) ∧ w'.cell? ⟨gQ, 4, none⟩ = some (.bool q.s1) ∧ w'.cell? ⟨gQ, 5, none⟩ = some (.slice B3 q.l1.length d3))
    ((first | with_reducible exact hs | (with_reducible apply boxT_al rfl; with_reducible exact hs)))
    (first
      | (go_at_call 77; (first | (with_reducible refine (OR.out _).mono ?_) | (with_reducible refine (OQ.out _).mono ?_)); rintro e w7 ⟨A5, c5, B5, d5, rfl, o5, o6, hc2⟩; (try replace o1 := o1.below hc2); (try replace o2 := o2.below hc2); (try replace o3 := o3.below hc2); (try replace o4 := o4.below hc2); (try replace hrow := hrow.below hc2); (try replace hrow2 := hrow2.below hc2); replace hs := boxT_keep hs hc2; replace HB := Lib.hid (from_ HB.out hc2))
      | (go_at_call 73; (first | (with_reducible refine (same16_yes o1 o2 o5 o6).mono ?_) | (with_reducible refine (same16_yes o3 o4 o5 o6).mono ?_)); rintro e w8 ⟨rfl, hc2⟩; (try replace o1 := o1.below hc2); (try replace o2 := o2.below hc2); (try replace o3 := o3.below hc2); (try replace o4 := o4.below hc2); (try replace o5 := o5.below hc2); (try replace o6 := o6.below hc2); (try replace hrow := hrow.below hc2); (try replace hrow2 := hrow2.below hc2); replace hs := boxT_keep hs hc2; replace HB := Lib.hid (from_ HB.out hc2))
      | (go_at_call 79; refine (HO.out _ _ (by first | rfl | simp)).mono ?_; rintro e w9 ⟨A9, c9, rfl, hrow2, hc2⟩; (try replace o1 := o1.below hc2); (try replace o2 := o2.below hc2); (try replace o3 := o3.below hc2); (try replace o4 := o4.below hc2); (try replace o5 := o5.below hc2); (try replace o6 := o6.below hc2); (try replace hrow := hrow.below hc2); replace hs := boxT_keep hs hc2; replace HB := Lib.hid (from_ HB.out hc2))
      | (go_at_call 78; with_reducible refine (HM.out _ _ _ _ _ _ hrow hrow2).mono ?_; rintro e w10 ⟨rfl, hc2⟩; (try replace o1 := o1.below hc2); (try replace o2 := o2.below hc2); (try replace o3 := o3.below hc2); (try replace o4 := o4.below hc2); (try replace o5 := o5.below hc2); (try replace o6 := o6.below hc2); (try replace hrow := hrow.below hc2); (try replace hrow2 := hrow2.below hc2); replace hs := boxT_keep hs hc2; replace HB := Lib.hid (from_ HB.out hc2))) | fail
  all_goals
    go_wp2
    go_ret
    exact ⟨by first | rfl | trivial, HB.out⟩

end Go.Proofs.YtamenhffplhddaaGreat

namespace Go.Proofs.YtamenhffplhddaaGreat
open Go.RowKit
set_option linter.unusedVariables false
set_option linter.unusedSimpArgs false

set_option maxRecDepth 100000 in
set_option maxHeartbeats 8000000 in
theorem llt_great1 {w : World} {f g x a y : Value} {ps ts qs : List Iv} {p : Iv} {bs : List Nat} (hf : IsIvs w old f ps) (hg : IsIvs w old g ts) (hx : IsIvs w old x qs) (ha : IsItv w old a p) (hy : y = bytesV bs ∧ bs.length = 16 ∧ ∀ b ∈ bs, b ≤ 255) (k1 : greatF ps 10 3 = true) : Calls Tryz.prog 6 #[f, g, x, a, y] w fun e w' => e = .returned (.bool true) ∧ Below w.heap.size w w' := by
  obtain ⟨A, c, rfl, hf⟩ := hf
  obtain ⟨C, d, rfl, hg⟩ := hg
  obtain ⟨B, m, rfl, hx⟩ := hx
  obtain ⟨A0, a0, B0, b0, rfl, ha0, ha1⟩ := ha
  obtain ⟨rfl, hy1, hy2⟩ := hy
  have AL := Lib.hid alive17
  have G1 : Hid (∀ W, Below w.heap.size w W → Calls Tryz.prog 35 #[.slice A ps.length c, .int .i64 10, .int .i64 3] W fun e w' => e = .returned (.bool (greatF ps 10 3)) ∧ Below W.heap.size W w') := fun W h => by
    have h1 := great17_any (M := 10) (K := 3) (hf.below h) (by omega) (by omega)
    exact h1
  rw [k1] at G1
  clear hf hg hx hy2 ha0 ha1
  generalize ps.length = LP at *
  generalize ts.length = LT at *
  generalize qs.length = LQ at *
  have hA0 : Below w.heap.size w (w.alloc (.cells #[.bool p.n0, .bool p.s0, .slice A0 p.l0.length a0, .bool p.n1, .bool p.s1, .slice B0 p.l1.length b0] 29)) := (Below.refl _ _).alloc (Nat.le_refl _) _
  have hB0 : Below w.heap.size w ((w.alloc (.cells #[.bool p.n0, .bool p.s0, .slice A0 p.l0.length a0, .bool p.n1, .bool p.s1, .slice B0 p.l1.length b0] 29)).alloc (.cells (bs.map fun b : Nat => Value.int .u8 (b : Int)).toArray 55)) := hA0.alloc hA0.size _
  have HBY : Hid (∀ j (hj : j < 16), ((w.alloc (.cells #[.bool p.n0, .bool p.s0, .slice A0 p.l0.length a0, .bool p.n1, .bool p.s1, .slice B0 p.l1.length b0] 29)).alloc (.cells (bs.map fun b : Nat => Value.int .u8 (b : Int)).toArray 55)).cell? ⟨w.heap.size + 1, j, none⟩ = some (.int .u8 ((bs[j]'(by omega) : Nat) : Int))) := fun j hj => by
    have h1 := bytes_at (w := (w.alloc (.cells #[.bool p.n0, .bool p.s0, .slice A0 p.l0.length a0, .bool p.n1, .bool p.s1, .slice B0 p.l1.length b0] 29))) (bs := bs) (t := 55) (j := j) (by omega)
    rw [World.size_alloc] at h1
    exact h1
  have HA := Lib.hid ((Box6.new w (.bool p.n0) (.bool p.s0) (.slice A0 p.l0.length a0) (.bool p.n1) (.bool p.s1) (.slice B0 p.l1.length b0) 29).alloc (.cells (bs.map fun b : Nat => Value.int .u8 (b : Int)).toArray 55))
  have HB := Lib.hid hB0
  unfold bytesV
  generalize (bs.map fun b : Nat => Value.int .u8 (b : Int)).toArray = cells at *
  clear hA0 hB0
  go_enter Tryz.func6, Tryz.ntmps6
  go_wp2_with fail
  refine (AL.out _).mono ?_
  rintro e w0 ⟨rfl, hc⟩
  replace HBY : Hid (∀ j (hj : j < 16), w0.cell? ⟨w.heap.size + 1, j, none⟩ = some (.int .u8 ((bs[j]'(by omega) : Nat) : Int))) := fun j hj => keepC hc (HBY.out j hj)
  replace HA := Lib.hid (HA.out.below hc)
  replace HB := Lib.hid (from_ HB.out hc)
  clear hc
  clear AL
  go_wp2_with fail
  refine (G1.out _ HB.out).mono ?_
  rintro e v1 ⟨rfl, hc⟩
  replace HBY : Hid (∀ j (hj : j < 16), v1.cell? ⟨w.heap.size + 1, j, none⟩ = some (.int .u8 ((bs[j]'(by omega) : Nat) : Int))) := fun j hj => keepC hc (HBY.out j hj)
  replace HA := Lib.hid (HA.out.below hc)
  replace HB := Lib.hid (from_ HB.out hc)
  clear hc
  clear G1
  go_wp2
  go_ret
  exact ⟨by first | rfl | trivial, HB.out⟩

set_option maxRecDepth 100000 in
set_option maxHeartbeats 8000000 in
theorem llt_great2 {w : World} {f g x a y : Value} {ps ts qs : List Iv} {p : Iv} {bs : List Nat} (hf : IsIvs w old f ps) (hg : IsIvs w old g ts) (hx : IsIvs w old x qs) (ha : IsItv w old a p) (hy : y = bytesV bs ∧ bs.length = 16 ∧ ∀ b ∈ bs, b ≤ 255) (k1 : greatF ps 10 3 = false) (k2 : greatF ts 10 3 = true) : Calls Tryz.prog 6 #[f, g, x, a, y] w fun e w' => e = .returned (.bool true) ∧ Below w.heap.size w w' := by
  obtain ⟨A, c, rfl, hf⟩ := hf
  obtain ⟨C, d, rfl, hg⟩ := hg
  obtain ⟨B, m, rfl, hx⟩ := hx
  obtain ⟨A0, a0, B0, b0, rfl, ha0, ha1⟩ := ha
  obtain ⟨rfl, hy1, hy2⟩ := hy
  have AL := Lib.hid alive17
  have G1 : Hid (∀ W, Below w.heap.size w W → Calls Tryz.prog 35 #[.slice A ps.length c, .int .i64 10, .int .i64 3] W fun e w' => e = .returned (.bool (greatF ps 10 3)) ∧ Below W.heap.size W w') := fun W h => by
    have h1 := great17_any (M := 10) (K := 3) (hf.below h) (by omega) (by omega)
    exact h1
  have G2 : Hid (∀ W, Below w.heap.size w W → Calls Tryz.prog 35 #[.slice C ts.length d, .int .i64 10, .int .i64 3] W fun e w' => e = .returned (.bool (greatF ts 10 3)) ∧ Below W.heap.size W w') := fun W h => by
    have h1 := great17_any (M := 10) (K := 3) (hg.below h) (by omega) (by omega)
    exact h1
  rw [k1] at G1
  rw [k2] at G2
  clear hf hg hx hy2 ha0 ha1
  generalize ps.length = LP at *
  generalize ts.length = LT at *
  generalize qs.length = LQ at *
  have hA0 : Below w.heap.size w (w.alloc (.cells #[.bool p.n0, .bool p.s0, .slice A0 p.l0.length a0, .bool p.n1, .bool p.s1, .slice B0 p.l1.length b0] 29)) := (Below.refl _ _).alloc (Nat.le_refl _) _
  have hB0 : Below w.heap.size w ((w.alloc (.cells #[.bool p.n0, .bool p.s0, .slice A0 p.l0.length a0, .bool p.n1, .bool p.s1, .slice B0 p.l1.length b0] 29)).alloc (.cells (bs.map fun b : Nat => Value.int .u8 (b : Int)).toArray 55)) := hA0.alloc hA0.size _
  have HBY : Hid (∀ j (hj : j < 16), ((w.alloc (.cells #[.bool p.n0, .bool p.s0, .slice A0 p.l0.length a0, .bool p.n1, .bool p.s1, .slice B0 p.l1.length b0] 29)).alloc (.cells (bs.map fun b : Nat => Value.int .u8 (b : Int)).toArray 55)).cell? ⟨w.heap.size + 1, j, none⟩ = some (.int .u8 ((bs[j]'(by omega) : Nat) : Int))) := fun j hj => by
    have h1 := bytes_at (w := (w.alloc (.cells #[.bool p.n0, .bool p.s0, .slice A0 p.l0.length a0, .bool p.n1, .bool p.s1, .slice B0 p.l1.length b0] 29))) (bs := bs) (t := 55) (j := j) (by omega)
    rw [World.size_alloc] at h1
    exact h1
  have HA := Lib.hid ((Box6.new w (.bool p.n0) (.bool p.s0) (.slice A0 p.l0.length a0) (.bool p.n1) (.bool p.s1) (.slice B0 p.l1.length b0) 29).alloc (.cells (bs.map fun b : Nat => Value.int .u8 (b : Int)).toArray 55))
  have HB := Lib.hid hB0
  unfold bytesV
  generalize (bs.map fun b : Nat => Value.int .u8 (b : Int)).toArray = cells at *
  clear hA0 hB0
  go_enter Tryz.func6, Tryz.ntmps6
  go_wp2_with fail
  refine (AL.out _).mono ?_
  rintro e w0 ⟨rfl, hc⟩
  replace HBY : Hid (∀ j (hj : j < 16), w0.cell? ⟨w.heap.size + 1, j, none⟩ = some (.int .u8 ((bs[j]'(by omega) : Nat) : Int))) := fun j hj => keepC hc (HBY.out j hj)
  replace HA := Lib.hid (HA.out.below hc)
  replace HB := Lib.hid (from_ HB.out hc)
  clear hc
  clear AL
  go_wp2_with fail
  refine (G1.out _ HB.out).mono ?_
  rintro e v1 ⟨rfl, hc⟩
  replace HBY : Hid (∀ j (hj : j < 16), v1.cell? ⟨w.heap.size + 1, j, none⟩ = some (.int .u8 ((bs[j]'(by omega) : Nat) : Int))) := fun j hj => keepC hc (HBY.out j hj)
  replace HA := Lib.hid (HA.out.below hc)
  replace HB := Lib.hid (from_ HB.out hc)
  clear hc
  clear G1
  go_wp2_with fail
  refine (G2.out _ HB.out).mono ?_
  rintro e v2 ⟨rfl, hc⟩
  replace HBY : Hid (∀ j (hj : j < 16), v2.cell? ⟨w.heap.size + 1, j, none⟩ = some (.int .u8 ((bs[j]'(by omega) : Nat) : Int))) := fun j hj => keepC hc (HBY.out j hj)
  replace HA := Lib.hid (HA.out.below hc)
  replace HB := Lib.hid (from_ HB.out hc)
  clear hc
  clear G2
  go_wp2
  go_ret
  exact ⟨by first | rfl | trivial, HB.out⟩

set_option maxRecDepth 100000 in
set_option maxHeartbeats 8000000 in
theorem llt_great3 {w : World} {f g x a y : Value} {ps ts qs : List Iv} {p : Iv} {bs : List Nat} (hf : IsIvs w old f ps) (hg : IsIvs w old g ts) (hx : IsIvs w old x qs) (ha : IsItv w old a p) (hy : y = bytesV bs ∧ bs.length = 16 ∧ ∀ b ∈ bs, b ≤ 255) (k1 : greatF ps 10 3 = false) (k2 : greatF ts 10 3 = false) (k3 : greatF qs 10 3 = true) : Calls Tryz.prog 6 #[f, g, x, a, y] w fun e w' => e = .returned (.bool true) ∧ Below w.heap.size w w' := by
  obtain ⟨A, c, rfl, hf⟩ := hf
  obtain ⟨C, d, rfl, hg⟩ := hg
  obtain ⟨B, m, rfl, hx⟩ := hx
  obtain ⟨A0, a0, B0, b0, rfl, ha0, ha1⟩ := ha
  obtain ⟨rfl, hy1, hy2⟩ := hy
  have AL := Lib.hid alive17
  have G1 : Hid (∀ W, Below w.heap.size w W → Calls Tryz.prog 35 #[.slice A ps.length c, .int .i64 10, .int .i64 3] W fun e w' => e = .returned (.bool (greatF ps 10 3)) ∧ Below W.heap.size W w') := fun W h => by
    have h1 := great17_any (M := 10) (K := 3) (hf.below h) (by omega) (by omega)
    exact h1
  have G2 : Hid (∀ W, Below w.heap.size w W → Calls Tryz.prog 35 #[.slice C ts.length d, .int .i64 10, .int .i64 3] W fun e w' => e = .returned (.bool (greatF ts 10 3)) ∧ Below W.heap.size W w') := fun W h => by
    have h1 := great17_any (M := 10) (K := 3) (hg.below h) (by omega) (by omega)
    exact h1
  have G3 : Hid (∀ W, Below w.heap.size w W → Calls Tryz.prog 35 #[.slice B qs.length m, .int .i64 10, .int .i64 3] W fun e w' => e = .returned (.bool (greatF qs 10 3)) ∧ Below W.heap.size W w') := fun W h => by
    have h1 := great17_any (M := 10) (K := 3) (hx.below h) (by omega) (by omega)
    exact h1
  rw [k1] at G1
  rw [k2] at G2
  rw [k3] at G3
  clear hf hg hx hy2 ha0 ha1
  generalize ps.length = LP at *
  generalize ts.length = LT at *
  generalize qs.length = LQ at *
  have hA0 : Below w.heap.size w (w.alloc (.cells #[.bool p.n0, .bool p.s0, .slice A0 p.l0.length a0, .bool p.n1, .bool p.s1, .slice B0 p.l1.length b0] 29)) := (Below.refl _ _).alloc (Nat.le_refl _) _
  have hB0 : Below w.heap.size w ((w.alloc (.cells #[.bool p.n0, .bool p.s0, .slice A0 p.l0.length a0, .bool p.n1, .bool p.s1, .slice B0 p.l1.length b0] 29)).alloc (.cells (bs.map fun b : Nat => Value.int .u8 (b : Int)).toArray 55)) := hA0.alloc hA0.size _
  have HBY : Hid (∀ j (hj : j < 16), ((w.alloc (.cells #[.bool p.n0, .bool p.s0, .slice A0 p.l0.length a0, .bool p.n1, .bool p.s1, .slice B0 p.l1.length b0] 29)).alloc (.cells (bs.map fun b : Nat => Value.int .u8 (b : Int)).toArray 55)).cell? ⟨w.heap.size + 1, j, none⟩ = some (.int .u8 ((bs[j]'(by omega) : Nat) : Int))) := fun j hj => by
    have h1 := bytes_at (w := (w.alloc (.cells #[.bool p.n0, .bool p.s0, .slice A0 p.l0.length a0, .bool p.n1, .bool p.s1, .slice B0 p.l1.length b0] 29))) (bs := bs) (t := 55) (j := j) (by omega)
    rw [World.size_alloc] at h1
    exact h1
  have HA := Lib.hid ((Box6.new w (.bool p.n0) (.bool p.s0) (.slice A0 p.l0.length a0) (.bool p.n1) (.bool p.s1) (.slice B0 p.l1.length b0) 29).alloc (.cells (bs.map fun b : Nat => Value.int .u8 (b : Int)).toArray 55))
  have HB := Lib.hid hB0
  unfold bytesV
  generalize (bs.map fun b : Nat => Value.int .u8 (b : Int)).toArray = cells at *
  clear hA0 hB0
  go_enter Tryz.func6, Tryz.ntmps6
  go_wp2_with fail
  refine (AL.out _).mono ?_
  rintro e w0 ⟨rfl, hc⟩
  replace HBY : Hid (∀ j (hj : j < 16), w0.cell? ⟨w.heap.size + 1, j, none⟩ = some (.int .u8 ((bs[j]'(by omega) : Nat) : Int))) := fun j hj => keepC hc (HBY.out j hj)
  replace HA := Lib.hid (HA.out.below hc)
  replace HB := Lib.hid (from_ HB.out hc)
  clear hc
  clear AL
  go_wp2_with fail
  refine (G1.out _ HB.out).mono ?_
  rintro e v1 ⟨rfl, hc⟩
  replace HBY : Hid (∀ j (hj : j < 16), v1.cell? ⟨w.heap.size + 1, j, none⟩ = some (.int .u8 ((bs[j]'(by omega) : Nat) : Int))) := fun j hj => keepC hc (HBY.out j hj)
  replace HA := Lib.hid (HA.out.below hc)
  replace HB := Lib.hid (from_ HB.out hc)
  clear hc
  clear G1
  go_wp2_with fail
  refine (G2.out _ HB.out).mono ?_
  rintro e v2 ⟨rfl, hc⟩
  replace HBY : Hid (∀ j (hj : j < 16), v2.cell? ⟨w.heap.size + 1, j, none⟩ = some (.int .u8 ((bs[j]'(by omega) : Nat) : Int))) := fun j hj => keepC hc (HBY.out j hj)
  replace HA := Lib.hid (HA.out.below hc)
  replace HB := Lib.hid (from_ HB.out hc)
  clear hc
  clear G2
  go_wp2_with fail
  refine (G3.out _ HB.out).mono ?_
  rintro e v3 ⟨rfl, hc⟩
  replace HBY : Hid (∀ j (hj : j < 16), v3.cell? ⟨w.heap.size + 1, j, none⟩ = some (.int .u8 ((bs[j]'(by omega) : Nat) : Int))) := fun j hj => keepC hc (HBY.out j hj)
  replace HA := Lib.hid (HA.out.below hc)
  replace HB := Lib.hid (from_ HB.out hc)
  clear hc
  clear G3
  go_wp2
  go_ret
  exact ⟨by first | rfl | trivial, HB.out⟩

set_option maxRecDepth 100000 in
set_option maxHeartbeats 8000000 in
theorem llt_great4 {w : World} {f g x a y : Value} {ps ts qs : List Iv} {p : Iv} {bs : List Nat} (hf : IsIvs w old f ps) (hg : IsIvs w old g ts) (hx : IsIvs w old x qs) (ha : IsItv w old a p) (hy : y = bytesV bs ∧ bs.length = 16 ∧ ∀ b ∈ bs, b ≤ 255) (k1 : greatF ps 10 3 = false) (k2 : greatF ts 10 3 = false) (k3 : greatF qs 10 3 = false) (k4 : greatI p 3 = true) : Calls Tryz.prog 6 #[f, g, x, a, y] w fun e w' => e = .returned (.bool true) ∧ Below w.heap.size w w' := by
  obtain ⟨A, c, rfl, hf⟩ := hf
  obtain ⟨C, d, rfl, hg⟩ := hg
  obtain ⟨B, m, rfl, hx⟩ := hx
  obtain ⟨A0, a0, B0, b0, rfl, ha0, ha1⟩ := ha
  obtain ⟨rfl, hy1, hy2⟩ := hy
  have AL := Lib.hid alive17
  have G1 : Hid (∀ W, Below w.heap.size w W → Calls Tryz.prog 35 #[.slice A ps.length c, .int .i64 10, .int .i64 3] W fun e w' => e = .returned (.bool (greatF ps 10 3)) ∧ Below W.heap.size W w') := fun W h => by
    have h1 := great17_any (M := 10) (K := 3) (hf.below h) (by omega) (by omega)
    exact h1
  have G2 : Hid (∀ W, Below w.heap.size w W → Calls Tryz.prog 35 #[.slice C ts.length d, .int .i64 10, .int .i64 3] W fun e w' => e = .returned (.bool (greatF ts 10 3)) ∧ Below W.heap.size W w') := fun W h => by
    have h1 := great17_any (M := 10) (K := 3) (hg.below h) (by omega) (by omega)
    exact h1
  have G3 : Hid (∀ W, Below w.heap.size w W → Calls Tryz.prog 35 #[.slice B qs.length m, .int .i64 10, .int .i64 3] W fun e w' => e = .returned (.bool (greatF qs 10 3)) ∧ Below W.heap.size W w') := fun W h => by
    have h1 := great17_any (M := 10) (K := 3) (hx.below h) (by omega) (by omega)
    exact h1
  have G4 : Hid (∀ W, Below w.heap.size w W → Calls Tryz.prog 9 #[.agg #[.bool p.n0, .bool p.s0, .slice A0 p.l0.length a0, .bool p.n1, .bool p.s1, .slice B0 p.l1.length b0], .int .i64 3] W fun e w' => e = .returned (.bool (greatI p 3)) ∧ Below W.heap.size W w') := fun W h => by
    have h1 := great16_any (w := W) (n0 := p.n0) (s0 := p.s0) (n1 := p.n1) (s1 := p.s1) (A := A0) (B := B0) (a := a0) (b := b0) (K := 3) (by omega) ha0.len ha1.len
    exact h1
  rw [k1] at G1
  rw [k2] at G2
  rw [k3] at G3
  rw [k4] at G4
  clear hf hg hx hy2 ha0 ha1
  generalize ps.length = LP at *
  generalize ts.length = LT at *
  generalize qs.length = LQ at *
  have hA0 : Below w.heap.size w (w.alloc (.cells #[.bool p.n0, .bool p.s0, .slice A0 p.l0.length a0, .bool p.n1, .bool p.s1, .slice B0 p.l1.length b0] 29)) := (Below.refl _ _).alloc (Nat.le_refl _) _
  have hB0 : Below w.heap.size w ((w.alloc (.cells #[.bool p.n0, .bool p.s0, .slice A0 p.l0.length a0, .bool p.n1, .bool p.s1, .slice B0 p.l1.length b0] 29)).alloc (.cells (bs.map fun b : Nat => Value.int .u8 (b : Int)).toArray 55)) := hA0.alloc hA0.size _
  have HBY : Hid (∀ j (hj : j < 16), ((w.alloc (.cells #[.bool p.n0, .bool p.s0, .slice A0 p.l0.length a0, .bool p.n1, .bool p.s1, .slice B0 p.l1.length b0] 29)).alloc (.cells (bs.map fun b : Nat => Value.int .u8 (b : Int)).toArray 55)).cell? ⟨w.heap.size + 1, j, none⟩ = some (.int .u8 ((bs[j]'(by omega) : Nat) : Int))) := fun j hj => by
    have h1 := bytes_at (w := (w.alloc (.cells #[.bool p.n0, .bool p.s0, .slice A0 p.l0.length a0, .bool p.n1, .bool p.s1, .slice B0 p.l1.length b0] 29))) (bs := bs) (t := 55) (j := j) (by omega)
    rw [World.size_alloc] at h1
    exact h1
  have HA := Lib.hid ((Box6.new w (.bool p.n0) (.bool p.s0) (.slice A0 p.l0.length a0) (.bool p.n1) (.bool p.s1) (.slice B0 p.l1.length b0) 29).alloc (.cells (bs.map fun b : Nat => Value.int .u8 (b : Int)).toArray 55))
  have HB := Lib.hid hB0
  unfold bytesV
  generalize (bs.map fun b : Nat => Value.int .u8 (b : Int)).toArray = cells at *
  clear hA0 hB0
  go_enter Tryz.func6, Tryz.ntmps6
  go_wp2_with fail
  refine (AL.out _).mono ?_
  rintro e w0 ⟨rfl, hc⟩
  replace HBY : Hid (∀ j (hj : j < 16), w0.cell? ⟨w.heap.size + 1, j, none⟩ = some (.int .u8 ((bs[j]'(by omega) : Nat) : Int))) := fun j hj => keepC hc (HBY.out j hj)
  replace HA := Lib.hid (HA.out.below hc)
  replace HB := Lib.hid (from_ HB.out hc)
  clear hc
  clear AL
  go_wp2_with fail
  refine (G1.out _ HB.out).mono ?_
  rintro e v1 ⟨rfl, hc⟩
  replace HBY : Hid (∀ j (hj : j < 16), v1.cell? ⟨w.heap.size + 1, j, none⟩ = some (.int .u8 ((bs[j]'(by omega) : Nat) : Int))) := fun j hj => keepC hc (HBY.out j hj)
  replace HA := Lib.hid (HA.out.below hc)
  replace HB := Lib.hid (from_ HB.out hc)
  clear hc
  clear G1
  go_wp2_with fail
  refine (G2.out _ HB.out).mono ?_
  rintro e v2 ⟨rfl, hc⟩
  replace HBY : Hid (∀ j (hj : j < 16), v2.cell? ⟨w.heap.size + 1, j, none⟩ = some (.int .u8 ((bs[j]'(by omega) : Nat) : Int))) := fun j hj => keepC hc (HBY.out j hj)
  replace HA := Lib.hid (HA.out.below hc)
  replace HB := Lib.hid (from_ HB.out hc)
  clear hc
  clear G2
  go_wp2_with fail
  refine (G3.out _ HB.out).mono ?_
  rintro e v3 ⟨rfl, hc⟩
  replace HBY : Hid (∀ j (hj : j < 16), v3.cell? ⟨w.heap.size + 1, j, none⟩ = some (.int .u8 ((bs[j]'(by omega) : Nat) : Int))) := fun j hj => keepC hc (HBY.out j hj)
  replace HA := Lib.hid (HA.out.below hc)
  replace HB := Lib.hid (from_ HB.out hc)
  clear hc
  clear G3
  obtain ⟨q0, q1, q2, q3, q4, q5, _, _, _, _, _, _, _⟩ := id HA.out
  go_wp2_with fail
  refine (G4.out _ HB.out).mono ?_
  rintro e v4 ⟨rfl, hc⟩
  clear q0 q1 q2 q3 q4 q5
  replace HBY : Hid (∀ j (hj : j < 16), v4.cell? ⟨w.heap.size + 1, j, none⟩ = some (.int .u8 ((bs[j]'(by omega) : Nat) : Int))) := fun j hj => keepC hc (HBY.out j hj)
  replace HA := Lib.hid (HA.out.below hc)
  replace HB := Lib.hid (from_ HB.out hc)
  clear hc
  clear G4
  go_wp2
  go_ret
  exact ⟨by first | rfl | trivial, HB.out⟩

set_option maxRecDepth 100000 in
set_option maxHeartbeats 8000000 in
theorem llt_bad1 {w : World} {f g x a y : Value} {ps ts qs : List Iv} {p : Iv} {bs : List Nat} (hf : IsIvs w old f ps) (hg : IsIvs w old g ts) (hx : IsIvs w old x qs) (ha : IsItv w old a p) (hy : y = bytesV bs ∧ bs.length = 16 ∧ ∀ b ∈ bs, b ≤ 255) (k1 : greatF ps 10 3 = false) (k2 : greatF ts 10 3 = false) (k3 : greatF qs 10 3 = false) (k4 : greatI p 3 = false) (hE : errAdd ps ts ≠ 0) : Calls Tryz.prog 6 #[f, g, x, a, y] w fun e w' => e = .returned (.bool true) ∧ Below w.heap.size w w' := by
  obtain ⟨A, c, rfl, hf⟩ := hf
  obtain ⟨C, d, rfl, hg⟩ := hg
  obtain ⟨B, m, rfl, hx⟩ := hx
  obtain ⟨A0, a0, B0, b0, rfl, ha0, ha1⟩ := ha
  obtain ⟨rfl, hy1, hy2⟩ := hy
  have AL := Lib.hid alive17
  have G1 : Hid (∀ W, Below w.heap.size w W → Calls Tryz.prog 35 #[.slice A ps.length c, .int .i64 10, .int .i64 3] W fun e w' => e = .returned (.bool (greatF ps 10 3)) ∧ Below W.heap.size W w') := fun W h => by
    have h1 := great17_any (M := 10) (K := 3) (hf.below h) (by omega) (by omega)
    exact h1
  have G2 : Hid (∀ W, Below w.heap.size w W → Calls Tryz.prog 35 #[.slice C ts.length d, .int .i64 10, .int .i64 3] W fun e w' => e = .returned (.bool (greatF ts 10 3)) ∧ Below W.heap.size W w') := fun W h => by
    have h1 := great17_any (M := 10) (K := 3) (hg.below h) (by omega) (by omega)
    exact h1
  have G3 : Hid (∀ W, Below w.heap.size w W → Calls Tryz.prog 35 #[.slice B qs.length m, .int .i64 10, .int .i64 3] W fun e w' => e = .returned (.bool (greatF qs 10 3)) ∧ Below W.heap.size W w') := fun W h => by
    have h1 := great17_any (M := 10) (K := 3) (hx.below h) (by omega) (by omega)
    exact h1
  have G4 : Hid (∀ W, Below w.heap.size w W → Calls Tryz.prog 9 #[.agg #[.bool p.n0, .bool p.s0, .slice A0 p.l0.length a0, .bool p.n1, .bool p.s1, .slice B0 p.l1.length b0], .int .i64 3] W fun e w' => e = .returned (.bool (greatI p 3)) ∧ Below W.heap.size W w') := fun W h => by
    have h1 := great16_any (w := W) (n0 := p.n0) (s0 := p.s0) (n1 := p.n1) (s1 := p.s1) (A := A0) (B := B0) (a := a0) (b := b0) (K := 3) (by omega) ha0.len ha1.len
    exact h1
  rw [k1] at G1
  rw [k2] at G2
  rw [k3] at G3
  rw [k4] at G4
  obtain ⟨m1, b1⟩ := greatF_no k1
  obtain ⟨m2, b2⟩ := greatF_no k2
  obtain ⟨m3, b3⟩ := greatF_no k3
  have sh1 : ∀ r ∈ ps, r.short := fun r hr => ⟨by have := (b1 r hr).1; omega, by have := (b1 r hr).2; omega⟩
  have sh2 : ∀ r ∈ ts, r.short := fun r hr => ⟨by have := (b2 r hr).1; omega, by have := (b2 r hr).2; omega⟩
  have sh3 : ∀ r ∈ qs, r.short := fun r hr => ⟨by have := (b3 r hr).1; omega, by have := (b3 r hr).2; omega⟩
  obtain ⟨n, hn⟩ : ∃ n, errAdd ps ts = n := ⟨_, rfl⟩
  rw [hn] at hE
  have HV := Lib.hid (fun (W : World) (h : Below w.heap.size w W) => ladd_bad (hf.below h) (hg.below h) sh1 sh2 hn hE)
  have hE2 : errFB [] qs = 8 := by unfold errFB; rw [if_neg]; intro h; have := h.1; unfold errF at this; rw [if_neg (by simp)] at this; cases this
  have HS := Lib.hid (fun (W : World) (h : Below w.heap.size w W) => lvalue_bad (w := W) (IvsAt.nil W old) (hx.below h) (fun r hr => by cases hr) sh3 hE2 (by decide))
  rw [List.length_nil] at HS
  have t1 : (n != 0) = true := bne_iff_ne.2 hE
  clear hf hg hx hy2 ha0 ha1 hn hE hE2 sh1 sh2 sh3 b1 b2 b3 m1 m2 m3 k1 k2 k3 k4
  generalize ps.length = LP at *
  generalize ts.length = LT at *
  generalize qs.length = LQ at *
  have hA0 : Below w.heap.size w (w.alloc (.cells #[.bool p.n0, .bool p.s0, .slice A0 p.l0.length a0, .bool p.n1, .bool p.s1, .slice B0 p.l1.length b0] 29)) := (Below.refl _ _).alloc (Nat.le_refl _) _
  have hB0 : Below w.heap.size w ((w.alloc (.cells #[.bool p.n0, .bool p.s0, .slice A0 p.l0.length a0, .bool p.n1, .bool p.s1, .slice B0 p.l1.length b0] 29)).alloc (.cells (bs.map fun b : Nat => Value.int .u8 (b : Int)).toArray 55)) := hA0.alloc hA0.size _
  have HBY : Hid (∀ j (hj : j < 16), ((w.alloc (.cells #[.bool p.n0, .bool p.s0, .slice A0 p.l0.length a0, .bool p.n1, .bool p.s1, .slice B0 p.l1.length b0] 29)).alloc (.cells (bs.map fun b : Nat => Value.int .u8 (b : Int)).toArray 55)).cell? ⟨w.heap.size + 1, j, none⟩ = some (.int .u8 ((bs[j]'(by omega) : Nat) : Int))) := fun j hj => by
    have h1 := bytes_at (w := (w.alloc (.cells #[.bool p.n0, .bool p.s0, .slice A0 p.l0.length a0, .bool p.n1, .bool p.s1, .slice B0 p.l1.length b0] 29))) (bs := bs) (t := 55) (j := j) (by omega)
    rw [World.size_alloc] at h1
    exact h1
  have HA := Lib.hid ((Box6.new w (.bool p.n0) (.bool p.s0) (.slice A0 p.l0.length a0) (.bool p.n1) (.bool p.s1) (.slice B0 p.l1.length b0) 29).alloc (.cells (bs.map fun b : Nat => Value.int .u8 (b : Int)).toArray 55))
  have HB := Lib.hid hB0
  unfold bytesV
  generalize (bs.map fun b : Nat => Value.int .u8 (b : Int)).toArray = cells at *
  clear hA0 hB0
  go_enter Tryz.func6, Tryz.ntmps6
  go_wp2_with fail
  refine (AL.out _).mono ?_
  rintro e w0 ⟨rfl, hc⟩
  replace HBY : Hid (∀ j (hj : j < 16), w0.cell? ⟨w.heap.size + 1, j, none⟩ = some (.int .u8 ((bs[j]'(by omega) : Nat) : Int))) := fun j hj => keepC hc (HBY.out j hj)
  replace HA := Lib.hid (HA.out.below hc)
  replace HB := Lib.hid (from_ HB.out hc)
  clear hc
  clear AL
  go_wp2_with fail
  refine (G1.out _ HB.out).mono ?_
  rintro e v1 ⟨rfl, hc⟩
  replace HBY : Hid (∀ j (hj : j < 16), v1.cell? ⟨w.heap.size + 1, j, none⟩ = some (.int .u8 ((bs[j]'(by omega) : Nat) : Int))) := fun j hj => keepC hc (HBY.out j hj)
  replace HA := Lib.hid (HA.out.below hc)
  replace HB := Lib.hid (from_ HB.out hc)
  clear hc
  clear G1
  go_wp2_with fail
  refine (G2.out _ HB.out).mono ?_
  rintro e v2 ⟨rfl, hc⟩
  replace HBY : Hid (∀ j (hj : j < 16), v2.cell? ⟨w.heap.size + 1, j, none⟩ = some (.int .u8 ((bs[j]'(by omega) : Nat) : Int))) := fun j hj => keepC hc (HBY.out j hj)
  replace HA := Lib.hid (HA.out.below hc)
  replace HB := Lib.hid (from_ HB.out hc)
  clear hc
  clear G2
  go_wp2_with fail
  refine (G3.out _ HB.out).mono ?_
  rintro e v3 ⟨rfl, hc⟩
  replace HBY : Hid (∀ j (hj : j < 16), v3.cell? ⟨w.heap.size + 1, j, none⟩ = some (.int .u8 ((bs[j]'(by omega) : Nat) : Int))) := fun j hj => keepC hc (HBY.out j hj)
  replace HA := Lib.hid (HA.out.below hc)
  replace HB := Lib.hid (from_ HB.out hc)
  clear hc
  clear G3
  obtain ⟨q0, q1, q2, q3, q4, q5, _, _, _, _, _, _, _⟩ := id HA.out
  go_wp2_with fail
  refine (G4.out _ HB.out).mono ?_
  rintro e v4 ⟨rfl, hc⟩
  clear q0 q1 q2 q3 q4 q5
  replace HBY : Hid (∀ j (hj : j < 16), v4.cell? ⟨w.heap.size + 1, j, none⟩ = some (.int .u8 ((bs[j]'(by omega) : Nat) : Int))) := fun j hj => keepC hc (HBY.out j hj)
  replace HA := Lib.hid (HA.out.below hc)
  replace HB := Lib.hid (from_ HB.out hc)
  clear hc
  clear G4
  go_wp2_with fail
  refine (HV.out _ HB.out).mono ?_
  rintro e w7 ⟨rfl, hc⟩
  replace HBY : Hid (∀ j (hj : j < 16), w7.cell? ⟨w.heap.size + 1, j, none⟩ = some (.int .u8 ((bs[j]'(by omega) : Nat) : Int))) := fun j hj => keepC hc (HBY.out j hj)
  replace HA := Lib.hid (HA.out.below hc)
  replace HB := Lib.hid (from_ HB.out hc)
  clear hc
  go_wp2_with fail
  refine (HS.out _ HB.out).mono ?_
  rintro e w8 ⟨rfl, hc⟩
  have hax : Below w8.heap.size w8 (w8.alloc (.cells #[.bool false, .bool false, .slice none 0 0, .bool false, .bool false, .slice none 0 0] 29)) := (Below.refl _ _).alloc (Nat.le_refl _) _
  replace HB := Lib.hid (from_ (from_ HB.out hc) hax)
  clear hc hax
  go_wp2
  go_ret
  exact ⟨by first | rfl | trivial, HB.out⟩

set_option maxRecDepth 100000 in
set_option maxHeartbeats 8000000 in
theorem llt_bad2 {w : World} {f g x a y : Value} {ps ts qs : List Iv} {p : Iv} {bs : List Nat} (hf : IsIvs w old f ps) (hg : IsIvs w old g ts) (hx : IsIvs w old x qs) (ha : IsItv w old a p) (hy : y = bytesV bs ∧ bs.length = 16 ∧ ∀ b ∈ bs, b ≤ 255) (k1 : greatF ps 10 3 = false) (k2 : greatF ts 10 3 = false) (k3 : greatF qs 10 3 = false) (k4 : greatI p 3 = false) (hE : errAdd ps ts = 0) (hE2 : errFB (fmOf (addLL (ps.map Iv.P) (ts.map Iv.P))) qs ≠ 0) : Calls Tryz.prog 6 #[f, g, x, a, y] w fun e w' => e = .returned (.bool true) ∧ Below w.heap.size w w' := by
  obtain ⟨A, c, rfl, hf⟩ := hf
  obtain ⟨C, d, rfl, hg⟩ := hg
  obtain ⟨B, m, rfl, hx⟩ := hx
  obtain ⟨A0, a0, B0, b0, rfl, ha0, ha1⟩ := ha
  obtain ⟨rfl, hy1, hy2⟩ := hy
  have AL := Lib.hid alive17
  have G1 : Hid (∀ W, Below w.heap.size w W → Calls Tryz.prog 35 #[.slice A ps.length c, .int .i64 10, .int .i64 3] W fun e w' => e = .returned (.bool (greatF ps 10 3)) ∧ Below W.heap.size W w') := fun W h => by
    have h1 := great17_any (M := 10) (K := 3) (hf.below h) (by omega) (by omega)
    exact h1
  have G2 : Hid (∀ W, Below w.heap.size w W → Calls Tryz.prog 35 #[.slice C ts.length d, .int .i64 10, .int .i64 3] W fun e w' => e = .returned (.bool (greatF ts 10 3)) ∧ Below W.heap.size W w') := fun W h => by
    have h1 := great17_any (M := 10) (K := 3) (hg.below h) (by omega) (by omega)
    exact h1
  have G3 : Hid (∀ W, Below w.heap.size w W → Calls Tryz.prog 35 #[.slice B qs.length m, .int .i64 10, .int .i64 3] W fun e w' => e = .returned (.bool (greatF qs 10 3)) ∧ Below W.heap.size W w') := fun W h => by
    have h1 := great17_any (M := 10) (K := 3) (hx.below h) (by omega) (by omega)
    exact h1
  have G4 : Hid (∀ W, Below w.heap.size w W → Calls Tryz.prog 9 #[.agg #[.bool p.n0, .bool p.s0, .slice A0 p.l0.length a0, .bool p.n1, .bool p.s1, .slice B0 p.l1.length b0], .int .i64 3] W fun e w' => e = .returned (.bool (greatI p 3)) ∧ Below W.heap.size W w') := fun W h => by
    have h1 := great16_any (w := W) (n0 := p.n0) (s0 := p.s0) (n1 := p.n1) (s1 := p.s1) (A := A0) (B := B0) (a := a0) (b := b0) (K := 3) (by omega) ha0.len ha1.len
    exact h1
  rw [k1] at G1
  rw [k2] at G2
  rw [k3] at G3
  rw [k4] at G4
  obtain ⟨m1, b1⟩ := greatF_no k1
  obtain ⟨m2, b2⟩ := greatF_no k2
  obtain ⟨m3, b3⟩ := greatF_no k3
  have sh1 : ∀ r ∈ ps, r.short := fun r hr => ⟨by have := (b1 r hr).1; omega, by have := (b1 r hr).2; omega⟩
  have sh2 : ∀ r ∈ ts, r.short := fun r hr => ⟨by have := (b2 r hr).1; omega, by have := (b2 r hr).2; omega⟩
  have sh3 : ∀ r ∈ qs, r.short := fun r hr => ⟨by have := (b3 r hr).1; omega, by have := (b3 r hr).2; omega⟩
  obtain ⟨ok1, ok2, hlen, hpos⟩ : ps.all Iv.ok = true ∧ ts.all Iv.ok = true ∧ ts.length = ps.length ∧ 1 ≤ ps.length := by
    unfold errAdd at hE
    by_cases h1 : errF ps = 0 ∧ errF ts = 0
    · rw [if_pos h1] at hE
      by_cases h2 : ts.length = ps.length
      · have h3 := h1.1
        have h4 := h1.2
        unfold errF at h3 h4
        by_cases h5 : (1 ≤ ps.length ∧ ps.length ≤ 64) ∧ ps.all Iv.ok = true
        · by_cases h6 : (1 ≤ ts.length ∧ ts.length ≤ 64) ∧ ts.all Iv.ok = true
          · exact ⟨h5.2, h6.2, h2, h5.1.1⟩
          · rw [if_neg h6] at h4; cases h4
        · rw [if_neg h5] at h3; cases h3
      · rw [if_neg h2] at hE; cases hE
    · rw [if_neg h1] at hE; cases hE
  have hp := fmw_of (N := 3) ok1 hf.small b1 (by omega)
  have ht := fmw_of (N := 3) ok2 hg.small b2 (by omega)
  generalize hPs : ps.map Iv.P = Ps at *
  generalize hTs : ts.map Iv.P = Ts at *
  have plen := hp.len
  have tlen := ht.len
  have hlp : ps.length = Ps.length := plen
  have hP3 : ∀ P ∈ Ps, IvN 3 P.1 P.2 := fun P hP => by obtain ⟨j, hj, rfl⟩ := List.getElem_of_mem hP; exact hp.n j hj
  have hT3 : ∀ P ∈ Ts, IvN 3 P.1 P.2 := fun P hP => by obtain ⟨j, hj, rfl⟩ := List.getElem_of_mem hP; exact ht.n j hj
  have hP4 : ∀ P ∈ Ps, IvN 4 P.1 P.2 := fun P hP => (hP3 P hP).up (by omega)
  have hT4 : ∀ P ∈ Ts, IvN 4 P.1 P.2 := fun P hP => (hT3 P hP).up (by omega)
  have hR5 := addLL_ok hP4 hT4
  have hRl : (addLL Ps Ts).length = Ps.length := by rw [addLL, List.length_zipWith]; omega
  have hrf := fmw_mk hR5
  have hrl : (fmOf (addLL Ps Ts)).length = ps.length := by rw [fmOf_len, hRl]; omega
  have HV := Lib.hid (fun (W : World) (h : Below w.heap.size w W) => ladd_w (hf.below h) (hg.below h) (hp.up (by omega)) (ht.up (by omega)) ⟨hpos, by omega⟩ (by omega))
  rw [hrl] at HV
  obtain ⟨n, hn⟩ : ∃ n, errFB (fmOf (addLL Ps Ts)) qs = n := ⟨_, rfl⟩
  rw [hn] at hE2
  have HS := Lib.hid (fun (W : World) (Av : Option Addr) (cv : Nat) (Z : Zone) (h : Below w.heap.size w W) (h2 : IvsAt W Z Av cv (fmOf (addLL Ps Ts))) => lvalue_bad (w := W) h2 (hx.below h) (hrf.short (by omega)) sh3 hn hE2)
  rw [hrl] at HS
  have t1 : (n != 0) = true := bne_iff_ne.2 hE2
  clear hf hg hx hy2 ha0 ha1 hn hE hE2 sh1 sh2 sh3 b1 b2 b3 m1 m2 m3 k1 k2 k3 k4 ok1 ok2 hlen hpos hp ht hPs hTs plen tlen hlp hP3 hT3 hP4 hT4 hR5 hRl hrf hrl
  generalize ps.length = LP at *
  generalize ts.length = LT at *
  generalize qs.length = LQ at *
  have hA0 : Below w.heap.size w (w.alloc (.cells #[.bool p.n0, .bool p.s0, .slice A0 p.l0.length a0, .bool p.n1, .bool p.s1, .slice B0 p.l1.length b0] 29)) := (Below.refl _ _).alloc (Nat.le_refl _) _
  have hB0 : Below w.heap.size w ((w.alloc (.cells #[.bool p.n0, .bool p.s0, .slice A0 p.l0.length a0, .bool p.n1, .bool p.s1, .slice B0 p.l1.length b0] 29)).alloc (.cells (bs.map fun b : Nat => Value.int .u8 (b : Int)).toArray 55)) := hA0.alloc hA0.size _
  have HBY : Hid (∀ j (hj : j < 16), ((w.alloc (.cells #[.bool p.n0, .bool p.s0, .slice A0 p.l0.length a0, .bool p.n1, .bool p.s1, .slice B0 p.l1.length b0] 29)).alloc (.cells (bs.map fun b : Nat => Value.int .u8 (b : Int)).toArray 55)).cell? ⟨w.heap.size + 1, j, none⟩ = some (.int .u8 ((bs[j]'(by omega) : Nat) : Int))) := fun j hj => by
    have h1 := bytes_at (w := (w.alloc (.cells #[.bool p.n0, .bool p.s0, .slice A0 p.l0.length a0, .bool p.n1, .bool p.s1, .slice B0 p.l1.length b0] 29))) (bs := bs) (t := 55) (j := j) (by omega)
    rw [World.size_alloc] at h1
    exact h1
  have HA := Lib.hid ((Box6.new w (.bool p.n0) (.bool p.s0) (.slice A0 p.l0.length a0) (.bool p.n1) (.bool p.s1) (.slice B0 p.l1.length b0) 29).alloc (.cells (bs.map fun b : Nat => Value.int .u8 (b : Int)).toArray 55))
  have HB := Lib.hid hB0
  unfold bytesV
  generalize (bs.map fun b : Nat => Value.int .u8 (b : Int)).toArray = cells at *
  clear hA0 hB0
  go_enter Tryz.func6, Tryz.ntmps6
  go_wp2_with fail
  refine (AL.out _).mono ?_
  rintro e w0 ⟨rfl, hc⟩
  replace HBY : Hid (∀ j (hj : j < 16), w0.cell? ⟨w.heap.size + 1, j, none⟩ = some (.int .u8 ((bs[j]'(by omega) : Nat) : Int))) := fun j hj => keepC hc (HBY.out j hj)
  replace HA := Lib.hid (HA.out.below hc)
  replace HB := Lib.hid (from_ HB.out hc)
  clear hc
  clear AL
  go_wp2_with fail
  refine (G1.out _ HB.out).mono ?_
  rintro e v1 ⟨rfl, hc⟩
  replace HBY : Hid (∀ j (hj : j < 16), v1.cell? ⟨w.heap.size + 1, j, none⟩ = some (.int .u8 ((bs[j]'(by omega) : Nat) : Int))) := fun j hj => keepC hc (HBY.out j hj)
  replace HA := Lib.hid (HA.out.below hc)
  replace HB := Lib.hid (from_ HB.out hc)
  clear hc
  clear G1
  go_wp2_with fail
  refine (G2.out _ HB.out).mono ?_
  rintro e v2 ⟨rfl, hc⟩
  replace HBY : Hid (∀ j (hj : j < 16), v2.cell? ⟨w.heap.size + 1, j, none⟩ = some (.int .u8 ((bs[j]'(by omega) : Nat) : Int))) := fun j hj => keepC hc (HBY.out j hj)
  replace HA := Lib.hid (HA.out.below hc)
  replace HB := Lib.hid (from_ HB.out hc)
  clear hc
  clear G2
  go_wp2_with fail
  refine (G3.out _ HB.out).mono ?_
  rintro e v3 ⟨rfl, hc⟩
  replace HBY : Hid (∀ j (hj : j < 16), v3.cell? ⟨w.heap.size + 1, j, none⟩ = some (.int .u8 ((bs[j]'(by omega) : Nat) : Int))) := fun j hj => keepC hc (HBY.out j hj)
  replace HA := Lib.hid (HA.out.below hc)
  replace HB := Lib.hid (from_ HB.out hc)
  clear hc
  clear G3
  obtain ⟨q0, q1, q2, q3, q4, q5, _, _, _, _, _, _, _⟩ := id HA.out
  go_wp2_with fail
  refine (G4.out _ HB.out).mono ?_
  rintro e v4 ⟨rfl, hc⟩
  clear q0 q1 q2 q3 q4 q5
  replace HBY : Hid (∀ j (hj : j < 16), v4.cell? ⟨w.heap.size + 1, j, none⟩ = some (.int .u8 ((bs[j]'(by omega) : Nat) : Int))) := fun j hj => keepC hc (HBY.out j hj)
  replace HA := Lib.hid (HA.out.below hc)
  replace HB := Lib.hid (from_ HB.out hc)
  clear hc
  clear G4
  go_wp2_with fail
  refine (HV.out _ HB.out).mono ?_
  rintro e w7 ⟨Av, cv, rfl, hrow, hc⟩
  replace HBY : Hid (∀ j (hj : j < 16), w7.cell? ⟨w.heap.size + 1, j, none⟩ = some (.int .u8 ((bs[j]'(by omega) : Nat) : Int))) := fun j hj => keepC hc (HBY.out j hj)
  replace HA := Lib.hid (HA.out.below hc)
  replace HB := Lib.hid (from_ HB.out hc)
  clear hc
  go_wp2_with fail
  refine (HS.out _ _ _ _ HB.out hrow).mono ?_
  rintro e w8 ⟨rfl, hc⟩
  have hax : Below w8.heap.size w8 (w8.alloc (.cells #[.bool false, .bool false, .slice none 0 0, .bool false, .bool false, .slice none 0 0] 29)) := (Below.refl _ _).alloc (Nat.le_refl _) _
  replace HB := Lib.hid (from_ (from_ HB.out hc) hax)
  clear hc hax
  go_wp2
  go_ret
  exact ⟨by first | rfl | trivial, HB.out⟩

set_option maxRecDepth 100000 in
set_option maxHeartbeats 8000000 in
theorem llt_bad3 {w : World} {f g x a y : Value} {ps ts qs : List Iv} {p : Iv} {bs : List Nat} (hf : IsIvs w old f ps) (hg : IsIvs w old g ts) (hx : IsIvs w old x qs) (ha : IsItv w old a p) (hy : y = bytesV bs ∧ bs.length = 16 ∧ ∀ b ∈ bs, b ≤ 255) (k1 : greatF ps 10 3 = false) (k2 : greatF ts 10 3 = false) (k3 : greatF qs 10 3 = false) (k4 : greatI p 3 = false) (hE : errAdd ps ts = 0) (hE2 : errFB (fmOf (addLL (ps.map Iv.P) (ts.map Iv.P))) qs = 0) (hE3 : p.ok = false) : Calls Tryz.prog 6 #[f, g, x, a, y] w fun e w' => e = .returned (.bool true) ∧ Below w.heap.size w w' := by
  obtain ⟨A, c, rfl, hf⟩ := hf
  obtain ⟨C, d, rfl, hg⟩ := hg
  obtain ⟨B, m, rfl, hx⟩ := hx
  obtain ⟨A0, a0, B0, b0, rfl, ha0, ha1⟩ := ha
  obtain ⟨rfl, hy1, hy2⟩ := hy
  have AL := Lib.hid alive17
  have G1 : Hid (∀ W, Below w.heap.size w W → Calls Tryz.prog 35 #[.slice A ps.length c, .int .i64 10, .int .i64 3] W fun e w' => e = .returned (.bool (greatF ps 10 3)) ∧ Below W.heap.size W w') := fun W h => by
    have h1 := great17_any (M := 10) (K := 3) (hf.below h) (by omega) (by omega)
    exact h1
  have G2 : Hid (∀ W, Below w.heap.size w W → Calls Tryz.prog 35 #[.slice C ts.length d, .int .i64 10, .int .i64 3] W fun e w' => e = .returned (.bool (greatF ts 10 3)) ∧ Below W.heap.size W w') := fun W h => by
    have h1 := great17_any (M := 10) (K := 3) (hg.below h) (by omega) (by omega)
    exact h1
  have G3 : Hid (∀ W, Below w.heap.size w W → Calls Tryz.prog 35 #[.slice B qs.length m, .int .i64 10, .int .i64 3] W fun e w' => e = .returned (.bool (greatF qs 10 3)) ∧ Below W.heap.size W w') := fun W h => by
    have h1 := great17_any (M := 10) (K := 3) (hx.below h) (by omega) (by omega)
    exact h1
  have G4 : Hid (∀ W, Below w.heap.size w W → Calls Tryz.prog 9 #[.agg #[.bool p.n0, .bool p.s0, .slice A0 p.l0.length a0, .bool p.n1, .bool p.s1, .slice B0 p.l1.length b0], .int .i64 3] W fun e w' => e = .returned (.bool (greatI p 3)) ∧ Below W.heap.size W w') := fun W h => by
    have h1 := great16_any (w := W) (n0 := p.n0) (s0 := p.s0) (n1 := p.n1) (s1 := p.s1) (A := A0) (B := B0) (a := a0) (b := b0) (K := 3) (by omega) ha0.len ha1.len
    exact h1
  rw [k1] at G1
  rw [k2] at G2
  rw [k3] at G3
  rw [k4] at G4
  obtain ⟨m1, b1⟩ := greatF_no k1
  obtain ⟨m2, b2⟩ := greatF_no k2
  obtain ⟨m3, b3⟩ := greatF_no k3
  have sh1 : ∀ r ∈ ps, r.short := fun r hr => ⟨by have := (b1 r hr).1; omega, by have := (b1 r hr).2; omega⟩
  have sh2 : ∀ r ∈ ts, r.short := fun r hr => ⟨by have := (b2 r hr).1; omega, by have := (b2 r hr).2; omega⟩
  have sh3 : ∀ r ∈ qs, r.short := fun r hr => ⟨by have := (b3 r hr).1; omega, by have := (b3 r hr).2; omega⟩
  obtain ⟨ok1, ok2, hlen, hpos⟩ : ps.all Iv.ok = true ∧ ts.all Iv.ok = true ∧ ts.length = ps.length ∧ 1 ≤ ps.length := by
    unfold errAdd at hE
    by_cases h1 : errF ps = 0 ∧ errF ts = 0
    · rw [if_pos h1] at hE
      by_cases h2 : ts.length = ps.length
      · have h3 := h1.1
        have h4 := h1.2
        unfold errF at h3 h4
        by_cases h5 : (1 ≤ ps.length ∧ ps.length ≤ 64) ∧ ps.all Iv.ok = true
        · by_cases h6 : (1 ≤ ts.length ∧ ts.length ≤ 64) ∧ ts.all Iv.ok = true
          · exact ⟨h5.2, h6.2, h2, h5.1.1⟩
          · rw [if_neg h6] at h4; cases h4
        · rw [if_neg h5] at h3; cases h3
      · rw [if_neg h2] at hE; cases hE
    · rw [if_neg h1] at hE; cases hE
  have hp := fmw_of (N := 3) ok1 hf.small b1 (by omega)
  have ht := fmw_of (N := 3) ok2 hg.small b2 (by omega)
  generalize hPs : ps.map Iv.P = Ps at *
  generalize hTs : ts.map Iv.P = Ts at *
  have plen := hp.len
  have tlen := ht.len
  have hlp : ps.length = Ps.length := plen
  have hP3 : ∀ P ∈ Ps, IvN 3 P.1 P.2 := fun P hP => by obtain ⟨j, hj, rfl⟩ := List.getElem_of_mem hP; exact hp.n j hj
  have hT3 : ∀ P ∈ Ts, IvN 3 P.1 P.2 := fun P hP => by obtain ⟨j, hj, rfl⟩ := List.getElem_of_mem hP; exact ht.n j hj
  have hP4 : ∀ P ∈ Ps, IvN 4 P.1 P.2 := fun P hP => (hP3 P hP).up (by omega)
  have hT4 : ∀ P ∈ Ts, IvN 4 P.1 P.2 := fun P hP => (hT3 P hP).up (by omega)
  have hR5 := addLL_ok hP4 hT4
  have hRl : (addLL Ps Ts).length = Ps.length := by rw [addLL, List.length_zipWith]; omega
  have hrf := fmw_mk hR5
  have hrl : (fmOf (addLL Ps Ts)).length = ps.length := by rw [fmOf_len, hRl]; omega
  have HV := Lib.hid (fun (W : World) (h : Below w.heap.size w W) => ladd_w (hf.below h) (hg.below h) (hp.up (by omega)) (ht.up (by omega)) ⟨hpos, by omega⟩ (by omega))
  rw [hrl] at HV
  obtain ⟨ok3, hlq⟩ : qs.all Iv.ok = true ∧ qs.length + 1 = ps.length := by
    unfold errFB at hE2
    by_cases h1 : errF (fmOf (addLL Ps Ts)) = 0 ∧ qs.all Iv.ok = true
    · rw [if_pos h1] at hE2
      by_cases h2 : qs.length + 1 = (fmOf (addLL Ps Ts)).length
      · exact ⟨h1.2, by rw [hrl] at h2; exact h2⟩
      · rw [if_neg h2] at hE2; cases hE2
    · rw [if_neg h1] at hE2; cases hE2
  have hq := fmw_of (N := 3) ok3 hx.small b3 (by omega)
  generalize hQs : qs.map Iv.P = Qs at *
  have qlen := hq.len
  have hQ3 : ∀ P ∈ Qs, IvN 3 P.1 P.2 := fun P hP => by obtain ⟨j, hj, rfl⟩ := List.getElem_of_mem hP; exact hq.n j hj
  obtain ⟨n, hn⟩ : ∃ n, qs.length = n := ⟨_, rfl⟩
  have hn1 : ps.length = n + 1 := by omega
  have hn2 : ts.length = n + 1 := by omega
  have hn9 : n ≤ 9 := by omega
  obtain ⟨vI, hv⟩ : ∃ vI, IvW (valL (hdF (addLL Ps Ts)) (prF (addLL Ps Ts) Qs)) vI := ⟨_, IvW.mk _⟩
  have HS := Lib.hid (fun (W : World) (Av : Option Addr) (cv : Nat) (Z : Zone) (h : Below w.heap.size w W) (h2 : IvsAt W Z Av cv (fmOf (addLL Ps Ts))) => lvalue_w (w := W) h2 (hx.below h) (hrf.up (by omega)) (hq.up (by omega)) (by rw [hrl]; omega) (by omega) hv)
  rw [hrl, hn, hn1] at HS
  rw [hn1, hn2] at HV
  have hpl : p.l0.length ≤ 9000 ∧ p.l1.length ≤ 9000 := by
    unfold greatI at k4
    rw [Bool.or_eq_false_iff] at k4
    exact ⟨by have := of_decide_eq_false k4.1; omega, by have := of_decide_eq_false k4.2; omega⟩
  have CK := Lib.hid (fun (W : World) (h : Below w.heap.size w W) => icheck_any (n0 := p.n0) (s0 := p.s0) (n1 := p.n1) (s1 := p.s1) (ha0.below h) (ha1.below h) hpl.1 hpl.2)
  rw [show errA p.n0 p.s0 p.l0 p.n1 p.s1 p.l1 = 8 by unfold errA; rw [if_neg (by intro h; have : p.ok = true := h; rw [hE3] at this; cases this)]] at CK
  rw [hn1] at G1
  rw [hn2] at G2
  rw [hn] at G3
  rw [hn1, hn2, hn]
  clear hpl hE3 k4 ha0 ha1 hf hg hx hy2 hE hE2 sh1 sh2 sh3 b1 b2 b3 m1 m2 m3 k1 k2 k3 ok1 ok2 ok3 hlen hpos hp ht hq hPs hTs hQs plen tlen qlen hlp hP3 hT3 hQ3 hP4 hT4 hR5 hRl hrf hrl hlq hv hn hn1 hn2
  have hA0 : Below w.heap.size w (w.alloc (.cells #[.bool p.n0, .bool p.s0, .slice A0 p.l0.length a0, .bool p.n1, .bool p.s1, .slice B0 p.l1.length b0] 29)) := (Below.refl _ _).alloc (Nat.le_refl _) _
  have hB0 : Below w.heap.size w ((w.alloc (.cells #[.bool p.n0, .bool p.s0, .slice A0 p.l0.length a0, .bool p.n1, .bool p.s1, .slice B0 p.l1.length b0] 29)).alloc (.cells (bs.map fun b : Nat => Value.int .u8 (b : Int)).toArray 55)) := hA0.alloc hA0.size _
  have HBY : Hid (∀ j (hj : j < 16), ((w.alloc (.cells #[.bool p.n0, .bool p.s0, .slice A0 p.l0.length a0, .bool p.n1, .bool p.s1, .slice B0 p.l1.length b0] 29)).alloc (.cells (bs.map fun b : Nat => Value.int .u8 (b : Int)).toArray 55)).cell? ⟨w.heap.size + 1, j, none⟩ = some (.int .u8 ((bs[j]'(by omega) : Nat) : Int))) := fun j hj => by
    have h1 := bytes_at (w := (w.alloc (.cells #[.bool p.n0, .bool p.s0, .slice A0 p.l0.length a0, .bool p.n1, .bool p.s1, .slice B0 p.l1.length b0] 29))) (bs := bs) (t := 55) (j := j) (by omega)
    rw [World.size_alloc] at h1
    exact h1
  have HA := Lib.hid ((Box6.new w (.bool p.n0) (.bool p.s0) (.slice A0 p.l0.length a0) (.bool p.n1) (.bool p.s1) (.slice B0 p.l1.length b0) 29).alloc (.cells (bs.map fun b : Nat => Value.int .u8 (b : Int)).toArray 55))
  have HB := Lib.hid hB0
  unfold bytesV
  generalize (bs.map fun b : Nat => Value.int .u8 (b : Int)).toArray = cells at *
  clear hA0 hB0
  go_enter Tryz.func6, Tryz.ntmps6
  go_wp2_with fail
  refine (AL.out _).mono ?_
  rintro e w0 ⟨rfl, hc⟩
  replace HBY : Hid (∀ j (hj : j < 16), w0.cell? ⟨w.heap.size + 1, j, none⟩ = some (.int .u8 ((bs[j]'(by omega) : Nat) : Int))) := fun j hj => keepC hc (HBY.out j hj)
  replace HA := Lib.hid (HA.out.below hc)
  replace HB := Lib.hid (from_ HB.out hc)
  clear hc
  clear AL
  go_wp2_with fail
  refine (G1.out _ HB.out).mono ?_
  rintro e v1 ⟨rfl, hc⟩
  replace HBY : Hid (∀ j (hj : j < 16), v1.cell? ⟨w.heap.size + 1, j, none⟩ = some (.int .u8 ((bs[j]'(by omega) : Nat) : Int))) := fun j hj => keepC hc (HBY.out j hj)
  replace HA := Lib.hid (HA.out.below hc)
  replace HB := Lib.hid (from_ HB.out hc)
  clear hc
  clear G1
  go_wp2_with fail
  refine (G2.out _ HB.out).mono ?_
  rintro e v2 ⟨rfl, hc⟩
  replace HBY : Hid (∀ j (hj : j < 16), v2.cell? ⟨w.heap.size + 1, j, none⟩ = some (.int .u8 ((bs[j]'(by omega) : Nat) : Int))) := fun j hj => keepC hc (HBY.out j hj)
  replace HA := Lib.hid (HA.out.below hc)
  replace HB := Lib.hid (from_ HB.out hc)
  clear hc
  clear G2
  go_wp2_with fail
  refine (G3.out _ HB.out).mono ?_
  rintro e v3 ⟨rfl, hc⟩
  replace HBY : Hid (∀ j (hj : j < 16), v3.cell? ⟨w.heap.size + 1, j, none⟩ = some (.int .u8 ((bs[j]'(by omega) : Nat) : Int))) := fun j hj => keepC hc (HBY.out j hj)
  replace HA := Lib.hid (HA.out.below hc)
  replace HB := Lib.hid (from_ HB.out hc)
  clear hc
  clear G3
  obtain ⟨q0, q1, q2, q3, q4, q5, _, _, _, _, _, _, _⟩ := id HA.out
  go_wp2_with fail
  refine (G4.out _ HB.out).mono ?_
  rintro e v4 ⟨rfl, hc⟩
  clear q0 q1 q2 q3 q4 q5
  replace HBY : Hid (∀ j (hj : j < 16), v4.cell? ⟨w.heap.size + 1, j, none⟩ = some (.int .u8 ((bs[j]'(by omega) : Nat) : Int))) := fun j hj => keepC hc (HBY.out j hj)
  replace HA := Lib.hid (HA.out.below hc)
  replace HB := Lib.hid (from_ HB.out hc)
  clear hc
  clear G4
  go_wp2_with fail
  refine (HV.out _ HB.out).mono ?_
  rintro e w7 ⟨Av, cv, rfl, hrow, hc⟩
  replace HBY : Hid (∀ j (hj : j < 16), w7.cell? ⟨w.heap.size + 1, j, none⟩ = some (.int .u8 ((bs[j]'(by omega) : Nat) : Int))) := fun j hj => keepC hc (HBY.out j hj)
  replace HA := Lib.hid (HA.out.below hc)
  replace HB := Lib.hid (from_ HB.out hc)
  clear hc
  go_wp2_with fail
  refine (HS.out _ _ _ _ HB.out hrow).mono ?_
  rintro e w8 ⟨X4, x4, Y4, y4, rfl, u4, v4, hc⟩
  go_upto_region 6 with fail
  have hax : Below w8.heap.size w8 (w8.alloc (.cells #[.bool vI.n0, .bool vI.s0, .slice X4 vI.l0.length x4, .bool vI.n1, .bool vI.s1, .slice Y4 vI.l1.length y4] 29)) := (Below.refl _ _).alloc (Nat.le_refl _) _
  replace HA := Lib.hid ((HA.out.below hc).below hax)
  replace HB := Lib.hid (from_ (from_ HB.out hc) hax)
  clear hc hax u4 v4 HBY
  generalize w8.alloc (.cells #[.bool vI.n0, .bool vI.s0, .slice X4 vI.l0.length x4, .bool vI.n1, .bool vI.s1, .slice Y4 vI.l1.length y4] 29) = W8 at *
  obtain ⟨q0, q1, q2, q3, q4, q5, _, _, _, _, _, _, _⟩ := id HA.out
  go_wp2_with fail
  refine (CK.out _ HB.out).mono ?_
  rintro e w9 ⟨rfl, hc⟩
  replace HB := Lib.hid (from_ HB.out hc)
  clear hc q0 q1 q2 q3 q4 q5
  go_wp2
  go_ret
  exact ⟨by first | rfl | trivial, HB.out⟩

end Go.Proofs.YtamenhffplhddaaGreat

namespace Go.Proofs.YtamenhffplhddaaGreat
open Go.RowKit
set_option linter.unusedVariables false
set_option linter.unusedSimpArgs false

set_option maxRecDepth 100000 in
set_option maxHeartbeats 8000000 in
theorem llt_good {w : World} {f g x a y : Value} {ps ts qs : List Iv} {p : Iv} {bs : List Nat} (hf : IsIvs w old f ps) (hg : IsIvs w old g ts) (hx : IsIvs w old x qs) (ha : IsItv w old a p) (hy : y = bytesV bs ∧ bs.length = 16 ∧ ∀ b ∈ bs, b ≤ 255) (k1 : greatF ps 10 3 = false) (k2 : greatF ts 10 3 = false) (k3 : greatF qs 10 3 = false) (k4 : greatI p 3 = false) (hE : errAdd ps ts = 0) (hE2 : errFB (fmOf (addLL (ps.map Iv.P) (ts.map Iv.P))) qs = 0) (hE3 : p.ok = true) : Calls Tryz.prog 6 #[f, g, x, a, y] w fun e w' => e = .returned (.bool true) ∧ Below w.heap.size w w' := by
  obtain ⟨A, c, rfl, hf⟩ := hf
  obtain ⟨C, d, rfl, hg⟩ := hg
  obtain ⟨B, m, rfl, hx⟩ := hx
  obtain ⟨A0, a0, B0, b0, rfl, ha0, ha1⟩ := ha
  obtain ⟨rfl, hy1, hy2⟩ := hy
  have AL := Lib.hid alive17
  have G1 : Hid (∀ W, Below w.heap.size w W → Calls Tryz.prog 35 #[.slice A ps.length c, .int .i64 10, .int .i64 3] W fun e w' => e = .returned (.bool (greatF ps 10 3)) ∧ Below W.heap.size W w') := fun W h => by
    have h1 := great17_any (M := 10) (K := 3) (hf.below h) (by omega) (by omega)
    exact h1
  have G2 : Hid (∀ W, Below w.heap.size w W → Calls Tryz.prog 35 #[.slice C ts.length d, .int .i64 10, .int .i64 3] W fun e w' => e = .returned (.bool (greatF ts 10 3)) ∧ Below W.heap.size W w') := fun W h => by
    have h1 := great17_any (M := 10) (K := 3) (hg.below h) (by omega) (by omega)
    exact h1
  have G3 : Hid (∀ W, Below w.heap.size w W → Calls Tryz.prog 35 #[.slice B qs.length m, .int .i64 10, .int .i64 3] W fun e w' => e = .returned (.bool (greatF qs 10 3)) ∧ Below W.heap.size W w') := fun W h => by
    have h1 := great17_any (M := 10) (K := 3) (hx.below h) (by omega) (by omega)
    exact h1
  have G4 : Hid (∀ W, Below w.heap.size w W → Calls Tryz.prog 9 #[.agg #[.bool p.n0, .bool p.s0, .slice A0 p.l0.length a0, .bool p.n1, .bool p.s1, .slice B0 p.l1.length b0], .int .i64 3] W fun e w' => e = .returned (.bool (greatI p 3)) ∧ Below W.heap.size W w') := fun W h => by
    have h1 := great16_any (w := W) (n0 := p.n0) (s0 := p.s0) (n1 := p.n1) (s1 := p.s1) (A := A0) (B := B0) (a := a0) (b := b0) (K := 3) (by omega) ha0.len ha1.len
    exact h1
  rw [k1] at G1
  rw [k2] at G2
  rw [k3] at G3
  rw [k4] at G4
  obtain ⟨m1, b1⟩ := greatF_no k1
  obtain ⟨m2, b2⟩ := greatF_no k2
  obtain ⟨m3, b3⟩ := greatF_no k3
  have sh1 : ∀ r ∈ ps, r.short := fun r hr => ⟨by have := (b1 r hr).1; omega, by have := (b1 r hr).2; omega⟩
  have sh2 : ∀ r ∈ ts, r.short := fun r hr => ⟨by have := (b2 r hr).1; omega, by have := (b2 r hr).2; omega⟩
  have sh3 : ∀ r ∈ qs, r.short := fun r hr => ⟨by have := (b3 r hr).1; omega, by have := (b3 r hr).2; omega⟩
  obtain ⟨ok1, ok2, hlen, hpos⟩ : ps.all Iv.ok = true ∧ ts.all Iv.ok = true ∧ ts.length = ps.length ∧ 1 ≤ ps.length := by
    unfold errAdd at hE
    by_cases h1 : errF ps = 0 ∧ errF ts = 0
    · rw [if_pos h1] at hE
      by_cases h2 : ts.length = ps.length
      · have h3 := h1.1
        have h4 := h1.2
        unfold errF at h3 h4
        by_cases h5 : (1 ≤ ps.length ∧ ps.length ≤ 64) ∧ ps.all Iv.ok = true
        · by_cases h6 : (1 ≤ ts.length ∧ ts.length ≤ 64) ∧ ts.all Iv.ok = true
          · exact ⟨h5.2, h6.2, h2, h5.1.1⟩
          · rw [if_neg h6] at h4; cases h4
        · rw [if_neg h5] at h3; cases h3
      · rw [if_neg h2] at hE; cases hE
    · rw [if_neg h1] at hE; cases hE
  have hp := fmw_of (N := 3) ok1 hf.small b1 (by omega)
  have ht := fmw_of (N := 3) ok2 hg.small b2 (by omega)
  generalize hPs : ps.map Iv.P = Ps at *
  generalize hTs : ts.map Iv.P = Ts at *
  have plen := hp.len
  have tlen := ht.len
  have hlp : ps.length = Ps.length := plen
  have hP3 : ∀ P ∈ Ps, IvN 3 P.1 P.2 := fun P hP => by obtain ⟨j, hj, rfl⟩ := List.getElem_of_mem hP; exact hp.n j hj
  have hT3 : ∀ P ∈ Ts, IvN 3 P.1 P.2 := fun P hP => by obtain ⟨j, hj, rfl⟩ := List.getElem_of_mem hP; exact ht.n j hj
  have hP4 : ∀ P ∈ Ps, IvN 4 P.1 P.2 := fun P hP => (hP3 P hP).up (by omega)
  have hT4 : ∀ P ∈ Ts, IvN 4 P.1 P.2 := fun P hP => (hT3 P hP).up (by omega)
  have hR5 := addLL_ok hP4 hT4
  have hRl : (addLL Ps Ts).length = Ps.length := by rw [addLL, List.length_zipWith]; omega
  have hrf := fmw_mk hR5
  have hrl : (fmOf (addLL Ps Ts)).length = ps.length := by rw [fmOf_len, hRl]; omega
  have HV := Lib.hid (fun (W : World) (h : Below w.heap.size w W) => ladd_w (hf.below h) (hg.below h) (hp.up (by omega)) (ht.up (by omega)) ⟨hpos, by omega⟩ (by omega))
  rw [hrl] at HV
  obtain ⟨ok3, hlq⟩ : qs.all Iv.ok = true ∧ qs.length + 1 = ps.length := by
    unfold errFB at hE2
    by_cases h1 : errF (fmOf (addLL Ps Ts)) = 0 ∧ qs.all Iv.ok = true
    · rw [if_pos h1] at hE2
      by_cases h2 : qs.length + 1 = (fmOf (addLL Ps Ts)).length
      · exact ⟨h1.2, by rw [hrl] at h2; exact h2⟩
      · rw [if_neg h2] at hE2; cases hE2
    · rw [if_neg h1] at hE2; cases hE2
  have hq := fmw_of (N := 3) ok3 hx.small b3 (by omega)
  generalize hQs : qs.map Iv.P = Qs at *
  have qlen := hq.len
  have hQ3 : ∀ P ∈ Qs, IvN 3 P.1 P.2 := fun P hP => by obtain ⟨j, hj, rfl⟩ := List.getElem_of_mem hP; exact hq.n j hj
  obtain ⟨n, hn⟩ : ∃ n, qs.length = n := ⟨_, rfl⟩
  have hn1 : ps.length = n + 1 := by omega
  have hn2 : ts.length = n + 1 := by omega
  have hn9 : n ≤ 9 := by omega
  obtain ⟨vI, hv⟩ : ∃ vI, IvW (valL (hdF (addLL Ps Ts)) (prF (addLL Ps Ts) Qs)) vI := ⟨_, IvW.mk _⟩
  have HS := Lib.hid (fun (W : World) (Av : Option Addr) (cv : Nat) (Z : Zone) (h : Below w.heap.size w W) (h2 : IvsAt W Z Av cv (fmOf (addLL Ps Ts))) => lvalue_w (w := W) h2 (hx.below h) (hrf.up (by omega)) (hq.up (by omega)) (by rw [hrl]; omega) (by omega) hv)
  rw [hrl, hn, hn1] at HS
  rw [hn1, hn2] at HV
  have hpl : p.l0.length ≤ 3 ∧ p.l1.length ≤ 3 := by
    unfold greatI at k4
    rw [Bool.or_eq_false_iff] at k4
    exact ⟨by have := of_decide_eq_false k4.1; omega, by have := of_decide_eq_false k4.2; omega⟩
  obtain ⟨hpa1, hpa2⟩ := iv_of (N := 3) hE3 ha0.small ha1.small hpl.1 hpl.2 (by omega)
  generalize hPA : p.P = PA at *
  have CK := Lib.hid (fun (W : World) (h : Below w.heap.size w W) => icheck_any (n0 := p.n0) (s0 := p.s0) (n1 := p.n1) (s1 := p.s1) (ha0.below h) (ha1.below h) (by omega) (by omega))
  rw [show errA p.n0 p.s0 p.l0 p.n1 p.s1 p.l1 = 0 by unfold errA; rw [if_pos (show okA p.n0 p.s0 p.l0 p.n1 p.s1 p.l1 = true from hE3)]] at CK
  have HP : Hid (∀ j (hj : j < n + 1), ∃ (b o : Nat) (F0 : Option Addr) (f0 : Nat) (F1 : Option Addr) (f1 : Nat) (p : Iv) (Pk : IvP), A = some ⟨b, o, none⟩ ∧ b < w.heap.size ∧ (w.cell? ⟨b, o + j * 6, none⟩ = some (.bool p.n0) ∧ w.cell? ⟨b, o + j * 6 + 1, none⟩ = some (.bool p.s0) ∧ w.cell? ⟨b, o + j * 6 + 2, none⟩ = some (.slice F0 p.l0.length f0) ∧ w.cell? ⟨b, o + j * 6 + 3, none⟩ = some (.bool p.n1) ∧ w.cell? ⟨b, o + j * 6 + 4, none⟩ = some (.bool p.s1) ∧ w.cell? ⟨b, o + j * 6 + 5, none⟩ = some (.slice F1 p.l1.length f1)) ∧ U64s w (eld w.heap.size) F0 f0 p.l0 ∧ U64s w (eld w.heap.size) F1 f1 p.l1 ∧ IvW Pk p ∧ IvN 3 Pk.1 Pk.2 ∧ Ps[j]? = some Pk) := fun j hj => by
    obtain ⟨b, o, F0, f0, F1, f1, e, hb, hc, u0, u1⟩ := (hf.eld).at (j := j) (by omega)
    have h1 := hp.iv j (by omega) (by have := hp.len; omega)
    exact ⟨b, o, F0, f0, F1, f1, _, _, e, hb, hc, u0, u1, h1.1, h1.2, List.getElem?_eq_getElem (by have := hp.len; omega)⟩
  have HT : Hid (∀ j (hj : j < n + 1), ∃ (b o : Nat) (F0 : Option Addr) (f0 : Nat) (F1 : Option Addr) (f1 : Nat) (p : Iv) (Pk : IvP), C = some ⟨b, o, none⟩ ∧ b < w.heap.size ∧ (w.cell? ⟨b, o + j * 6, none⟩ = some (.bool p.n0) ∧ w.cell? ⟨b, o + j * 6 + 1, none⟩ = some (.bool p.s0) ∧ w.cell? ⟨b, o + j * 6 + 2, none⟩ = some (.slice F0 p.l0.length f0) ∧ w.cell? ⟨b, o + j * 6 + 3, none⟩ = some (.bool p.n1) ∧ w.cell? ⟨b, o + j * 6 + 4, none⟩ = some (.bool p.s1) ∧ w.cell? ⟨b, o + j * 6 + 5, none⟩ = some (.slice F1 p.l1.length f1)) ∧ U64s w (eld w.heap.size) F0 f0 p.l0 ∧ U64s w (eld w.heap.size) F1 f1 p.l1 ∧ IvW Pk p ∧ IvN 3 Pk.1 Pk.2 ∧ Ts[j]? = some Pk) := fun j hj => by
    obtain ⟨b, o, F0, f0, F1, f1, e, hb, hc, u0, u1⟩ := (hg.eld).at (j := j) (by omega)
    have h1 := ht.iv j (by omega) (by have := ht.len; omega)
    exact ⟨b, o, F0, f0, F1, f1, _, _, e, hb, hc, u0, u1, h1.1, h1.2, List.getElem?_eq_getElem (by have := ht.len; omega)⟩
  have HQ : Hid (∀ j (hj : j < n), ∃ (b o : Nat) (F0 : Option Addr) (f0 : Nat) (F1 : Option Addr) (f1 : Nat) (p : Iv) (Pk : IvP), B = some ⟨b, o, none⟩ ∧ b < w.heap.size ∧ (w.cell? ⟨b, o + j * 6, none⟩ = some (.bool p.n0) ∧ w.cell? ⟨b, o + j * 6 + 1, none⟩ = some (.bool p.s0) ∧ w.cell? ⟨b, o + j * 6 + 2, none⟩ = some (.slice F0 p.l0.length f0) ∧ w.cell? ⟨b, o + j * 6 + 3, none⟩ = some (.bool p.n1) ∧ w.cell? ⟨b, o + j * 6 + 4, none⟩ = some (.bool p.s1) ∧ w.cell? ⟨b, o + j * 6 + 5, none⟩ = some (.slice F1 p.l1.length f1)) ∧ U64s w (eld w.heap.size) F0 f0 p.l0 ∧ U64s w (eld w.heap.size) F1 f1 p.l1 ∧ IvW Pk p ∧ IvN 3 Pk.1 Pk.2 ∧ Qs[j]? = some Pk) := fun j hj => by
    obtain ⟨b, o, F0, f0, F1, f1, e, hb, hc, u0, u1⟩ := (hx.eld).at (j := j) (by omega)
    have h1 := hq.iv j (by omega) (by have := hq.len; omega)
    exact ⟨b, o, F0, f0, F1, f1, _, _, e, hb, hc, u0, u1, h1.1, h1.2, List.getElem?_eq_getElem (by have := hq.len; omega)⟩
  have HP4 := Lib.hid hP4
  have HT4 := Lib.hid hT4
  have HQ3 := Lib.hid hQ3
  have HPAw := Lib.hid hpa1
  have HPA3 := Lib.hid hpa2
  have HPA4 := Lib.hid (hpa2.up (M := 4) (by omega))
  have Hf := Lib.hid hf
  have Hx := Lib.hid hx
  have Ha0 := Lib.hid ha0
  have Ha1 := Lib.hid ha1
  have Hpf := Lib.hid hp
  have Hqf := Lib.hid hq
  have Hpn := Lib.hid hn1
  have Hqn := Lib.hid hn
  have Hv := Lib.hid hv
  have Hpl := Lib.hid (show Ps.length = n + 1 by omega)
  have Htl := Lib.hid (show Ts.length = n + 1 by omega)
  have Hql := Lib.hid (show Qs.length = n by omega)
  have Hby := Lib.hid hy2
  rw [hn1] at G1
  rw [hn2] at G2
  rw [hn] at G3
  rw [hn1, hn2, hn]
  clear hpl hE3 k4 ha0 ha1 hpa1 hpa2 hPA hf hg hx hy2 hE hE2 sh1 sh2 sh3 b1 b2 b3 m1 m2 m3 k1 k2 k3 ok1 ok2 ok3 hlen hpos hp ht hq hPs hTs hQs plen tlen qlen hlp hP3 hT3 hQ3 hP4 hT4 hR5 hRl hrf hrl hlq hv hn hn1 hn2
  have hA0 : Below w.heap.size w (w.alloc (.cells #[.bool p.n0, .bool p.s0, .slice A0 p.l0.length a0, .bool p.n1, .bool p.s1, .slice B0 p.l1.length b0] 29)) := (Below.refl _ _).alloc (Nat.le_refl _) _
  have hB0 : Below w.heap.size w ((w.alloc (.cells #[.bool p.n0, .bool p.s0, .slice A0 p.l0.length a0, .bool p.n1, .bool p.s1, .slice B0 p.l1.length b0] 29)).alloc (.cells (bs.map fun b : Nat => Value.int .u8 (b : Int)).toArray 55)) := hA0.alloc hA0.size _
  have HBY : Hid (∀ j (hj : j < 16), ((w.alloc (.cells #[.bool p.n0, .bool p.s0, .slice A0 p.l0.length a0, .bool p.n1, .bool p.s1, .slice B0 p.l1.length b0] 29)).alloc (.cells (bs.map fun b : Nat => Value.int .u8 (b : Int)).toArray 55)).cell? ⟨w.heap.size + 1, j, none⟩ = some (.int .u8 ((bs[j]'(by omega) : Nat) : Int))) := fun j hj => by
    have h1 := bytes_at (w := (w.alloc (.cells #[.bool p.n0, .bool p.s0, .slice A0 p.l0.length a0, .bool p.n1, .bool p.s1, .slice B0 p.l1.length b0] 29))) (bs := bs) (t := 55) (j := j) (by omega)
    rw [World.size_alloc] at h1
    exact h1
  have HA := Lib.hid ((Box6.new w (.bool p.n0) (.bool p.s0) (.slice A0 p.l0.length a0) (.bool p.n1) (.bool p.s1) (.slice B0 p.l1.length b0) 29).alloc (.cells (bs.map fun b : Nat => Value.int .u8 (b : Int)).toArray 55))
  have HB := Lib.hid hB0
  unfold bytesV
  generalize (bs.map fun b : Nat => Value.int .u8 (b : Int)).toArray = cells at *
  clear hA0 hB0
  go_enter Tryz.func6, Tryz.ntmps6
  go_wp2_with fail
  refine (AL.out _).mono ?_
  rintro e w0 ⟨rfl, hc⟩
  replace HBY : Hid (∀ j (hj : j < 16), w0.cell? ⟨w.heap.size + 1, j, none⟩ = some (.int .u8 ((bs[j]'(by omega) : Nat) : Int))) := fun j hj => keepC hc (HBY.out j hj)
  replace HA := Lib.hid (HA.out.below hc)
  replace HB := Lib.hid (from_ HB.out hc)
  clear hc
  clear AL
  go_wp2_with fail
  refine (G1.out _ HB.out).mono ?_
  rintro e v1 ⟨rfl, hc⟩
  replace HBY : Hid (∀ j (hj : j < 16), v1.cell? ⟨w.heap.size + 1, j, none⟩ = some (.int .u8 ((bs[j]'(by omega) : Nat) : Int))) := fun j hj => keepC hc (HBY.out j hj)
  replace HA := Lib.hid (HA.out.below hc)
  replace HB := Lib.hid (from_ HB.out hc)
  clear hc
  clear G1
  go_wp2_with fail
  refine (G2.out _ HB.out).mono ?_
  rintro e v2 ⟨rfl, hc⟩
  replace HBY : Hid (∀ j (hj : j < 16), v2.cell? ⟨w.heap.size + 1, j, none⟩ = some (.int .u8 ((bs[j]'(by omega) : Nat) : Int))) := fun j hj => keepC hc (HBY.out j hj)
  replace HA := Lib.hid (HA.out.below hc)
  replace HB := Lib.hid (from_ HB.out hc)
  clear hc
  clear G2
  go_wp2_with fail
  refine (G3.out _ HB.out).mono ?_
  rintro e v3 ⟨rfl, hc⟩
  replace HBY : Hid (∀ j (hj : j < 16), v3.cell? ⟨w.heap.size + 1, j, none⟩ = some (.int .u8 ((bs[j]'(by omega) : Nat) : Int))) := fun j hj => keepC hc (HBY.out j hj)
  replace HA := Lib.hid (HA.out.below hc)
  replace HB := Lib.hid (from_ HB.out hc)
  clear hc
  clear G3
  obtain ⟨q0, q1, q2, q3, q4, q5, _, _, _, _, _, _, _⟩ := id HA.out
  go_wp2_with fail
  refine (G4.out _ HB.out).mono ?_
  rintro e v4 ⟨rfl, hc⟩
  clear q0 q1 q2 q3 q4 q5
  replace HBY : Hid (∀ j (hj : j < 16), v4.cell? ⟨w.heap.size + 1, j, none⟩ = some (.int .u8 ((bs[j]'(by omega) : Nat) : Int))) := fun j hj => keepC hc (HBY.out j hj)
  replace HA := Lib.hid (HA.out.below hc)
  replace HB := Lib.hid (from_ HB.out hc)
  clear hc
  clear G4
  go_wp2_with fail
  refine (HV.out _ HB.out).mono ?_
  rintro e w7 ⟨Av, cv, rfl, hrow, hc⟩
  replace HBY : Hid (∀ j (hj : j < 16), w7.cell? ⟨w.heap.size + 1, j, none⟩ = some (.int .u8 ((bs[j]'(by omega) : Nat) : Int))) := fun j hj => keepC hc (HBY.out j hj)
  replace HA := Lib.hid (HA.out.below hc)
  replace HB := Lib.hid (from_ HB.out hc)
  clear hc
  go_wp2_with fail
  refine (HS.out _ _ _ _ HB.out hrow).mono ?_
  rintro e w8 ⟨X4, x4, Y4, y4, rfl, u4, v4, hc⟩
  go_upto_region 6 with fail
  have hax : Below w8.heap.size w8 (w8.alloc (.cells #[.bool vI.n0, .bool vI.s0, .slice X4 vI.l0.length x4, .bool vI.n1, .bool vI.s1, .slice Y4 vI.l1.length y4] 29)) := (Below.refl _ _).alloc (Nat.le_refl _) _
  have BV := Lib.hid (Box6.new w8 (.bool vI.n0) (.bool vI.s0) (.slice X4 vI.l0.length x4) (.bool vI.n1) (.bool vI.s1) (.slice Y4 vI.l1.length y4) 29)
  obtain ⟨gV, hgV⟩ : ∃ g, g = w8.heap.size := ⟨_, rfl⟩
  rw [← hgV] at BV
  have hc8 := from_ hc hax
  have U4 := Lib.hid (u4.below hax)
  have V4 := Lib.hid (v4.below hax)
  replace HA := Lib.hid (HA.out.below hc8)
  replace HBY : Hid (∀ j (hj : j < 16), (w8.alloc (.cells #[.bool vI.n0, .bool vI.s0, .slice X4 vI.l0.length x4, .bool vI.n1, .bool vI.s1, .slice Y4 vI.l1.length y4] 29)).cell? ⟨w.heap.size + 1, j, none⟩ = some (.int .u8 ((bs[j]'(by omega) : Nat) : Int))) := fun j hj => keepC hc8 (HBY.out j hj)
  replace HB := Lib.hid (from_ HB.out hc8)
  clear hc hax hc8 u4 v4
  generalize hWx : w8.alloc (.cells #[.bool vI.n0, .bool vI.s0, .slice X4 vI.l0.length x4, .bool vI.n1, .bool vI.s1, .slice Y4 vI.l1.length y4] 29) = W8 at *
  try simp only [← hgV]
  clear hWx hgV
  clear hrow HV HS
  obtain ⟨q0, q1, q2, q3, q4, q5, _, _, _, _, _, _, _⟩ := id HA.out
  go_wp2_with fail
  refine (CK.out _ HB.out).mono ?_
  rintro e w9 ⟨rfl, hc⟩
  clear q0 q1 q2 q3 q4 q5
  replace BV := Lib.hid (BV.out.below hc)
  replace U4 := Lib.hid (U4.out.below hc)
  replace V4 := Lib.hid (V4.out.below hc)
  replace HBY : Hid (∀ j (hj : j < 16), w9.cell? ⟨w.heap.size + 1, j, none⟩ = some (.int .u8 ((bs[j]'(by omega) : Nat) : Int))) := fun j hj => keepC hc (HBY.out j hj)
  replace HA := Lib.hid (HA.out.below hc)
  replace HB := Lib.hid (from_ HB.out hc)
  clear hc
  clear CK
  obtain ⟨W9, hren⟩ : ∃ W9, W9 = w9 := ⟨_, rfl⟩
  subst hren
  go_wp2
  go_loopw [16, 17, 18] (fun v u i wr => ∃ (vr ur : Value) (k : Nat) (xs ys : List Value) (zs us : List Int), v = vr ∧ u = ur ∧ k ≤ n + 1 ∧ i = .int .i64 (k : Int) ∧ zs.length = k ∧ us.length = k ∧ wr.ownsRow W9.heap.size 25 2 vr k xs ∧ wr.ownsRow W9.heap.size 25 2 ur k ys ∧ Hid (Apart vr ur) ∧ Hid (NumsP wr vr ur xs zs) ∧ Hid (NumsP wr ur vr ys us) ∧ Hid (InL 4 zs (Ps.take k)) ∧ Hid (InL 4 us (Ts.take k)) ∧ Below W9.heap.size W9 wr) (fun _ _ i _ => (n + 1) - (intOf i).toNat)
  case atStart => exact ⟨_, _, 0, [], [], [], [], rfl, rfl, Nat.zero_le _, rfl, rfl, rfl, World.ownsRow_nil _ _ _ _, World.ownsRow_nil _ _ _ _, Lib.hid (fun k h => by cases h), Lib.hid (NumsP.nil _ _ _ _), Lib.hid (NumsP.nil _ _ _ _), Lib.hid (InL.nil _), Lib.hid (InL.nil _), Below.refl _ _⟩
  case round =>
    obtain ⟨v, u, k, xs, ys, zs, us, hvr, hur, hk, rfl, hzl, hul, hown, hown2, hap, hn1, hn2, hin, hin2, hbel⟩ := hrel
    have hvr2 := hvr.symm
    subst hvr2
    have hur2 := hur.symm
    subst hur2
    by_cases hlt : k < n + 1
    · have HZL := Lib.hid hzl
      have HUL := Lib.hid hul
      have HO := Lib.hid hown
      have HUo := Lib.hid hown2
      have Hbel := Lib.hid hbel
      have hi3 : (k : Int) < (n : Int) + 1 := by omega
      obtain ⟨bp, op, F0p, f0p, F1p, f1p, pp, Pkp, rfl, hbbp, c6p, u0p, u1p, hPwp, hPnp, hPep⟩ := HP.out k hlt
      obtain ⟨jmp, hjmp⟩ : ∃ jm : Nat, jm = k % 16 := ⟨_, rfl⟩
      have hj16p : jmp < 16 := by omega
      have cBp := HBY.out jmp hj16p
      have hi4p : (0 : Int) ≤ (jmp : Int) := by omega
      have hi5p : (jmp : Int) < 16 := by omega
      obtain ⟨byp, hbyp⟩ : ∃ by0 : Nat, by0 = bs[jmp]'(by rw [hy1]; exact hj16p) := ⟨_, rfl⟩
      have hbzp : byp ≤ 255 := by rw [hbyp]; exact Hby.out _ (List.getElem_mem _)
      rw [← hbyp] at cBp
      have hs5p : (W9.cell? ⟨bp, op + k * 6, none⟩ = some (.bool pp.n0) ∧ W9.cell? ⟨bp, op + k * 6 + 1, none⟩ = some (.bool pp.s0) ∧ W9.cell? ⟨bp, op + k * 6 + 2, none⟩ = some (.slice F0p pp.l0.length f0p) ∧ W9.cell? ⟨bp, op + k * 6 + 3, none⟩ = some (.bool pp.n1) ∧ W9.cell? ⟨bp, op + k * 6 + 4, none⟩ = some (.bool pp.s1) ∧ W9.cell? ⟨bp, op + k * 6 + 5, none⟩ = some (.slice F1p pp.l1.length f1p)) ∧ W9.cell? ⟨w.heap.size + 1, jmp, none⟩ = some (.int .u8 (byp : Int)) := ⟨six_keep c6p HB.out, cBp⟩
      have Hs5p := Lib.hid hs5p
      have PKp := Lib.hid (fun (V W : World) (v u : Value) (hV : Below W9.heap.size W9 V) (h1 : ∀ g, v.ownBlock = some g → W9.heap.size ≤ g ∧ g < V.heap.size) (h2 : ∀ g, u.ownBlock = some g → W9.heap.size ≤ g ∧ g < V.heap.size) (h : Below V.heap.size V W) => lpick_w (w := W) hbzp hPwp hPnp (by omega) (by omega) ((u0p.below (from_ HB.out hV)).below h) ((u1p.below (from_ HB.out hV)).below h) (Y := notOwn2 v u) (eld_notOwn2 (fun g hg => Nat.le_trans HB.out.size (h1 g hg).1) (fun g hg => Nat.le_trans HB.out.size (h2 g hg).1)) (eld_notOwn2 (fun g hg => Nat.le_trans HB.out.size (h1 g hg).1) (fun g hg => Nat.le_trans HB.out.size (h2 g hg).1)) (new_notOwn2 (fun g hg => Nat.lt_of_lt_of_le (h1 g hg).2 h.size) (fun g hg => Nat.lt_of_lt_of_le (h2 g hg).2 h.size)) (fun h => h))
      have HPep := Lib.hid hPep
      have e1p : IntKind.i64.wrap (((k : Int)).tmod 16) = (jmp : Int) := by rw [Int.tmod_eq_emod_of_nonneg (by omega), IntKind.wrap_i64]; omega
      have e0p : ((k : Int)).tmod 16 = (jmp : Int) := by rw [Int.tmod_eq_emod_of_nonneg (by omega)]; omega
      have e3p : (k : Int) % 16 = (jmp : Int) := by omega
      have e4p : IntKind.i64.wrap ((k : Int) % 16) = (jmp : Int) := by rw [IntKind.wrap_i64]; omega
      clear hjmp c6p u0p u1p hPwp hPnp hPep cBp hbyp hbzp hs5p

      obtain ⟨bq, oq, F0q, f0q, F1q, f1q, pq, Pkq, rfl, hbbq, c6q, u0q, u1q, hPwq, hPnq, hPeq⟩ := HT.out k hlt
      obtain ⟨jmq, hjmq⟩ : ∃ jm : Nat, jm = (k + 5) % 16 := ⟨_, rfl⟩
      have hj16q : jmq < 16 := by omega
      have cBq := HBY.out jmq hj16q
      have hi4q : (0 : Int) ≤ (jmq : Int) := by omega
      have hi5q : (jmq : Int) < 16 := by omega
      have hwoq : IntKind.i64.wrap ((k : Int) + 5) = (k : Int) + 5 := by rw [IntKind.wrap_i64]; omega
      obtain ⟨byq, hbyq⟩ : ∃ by0 : Nat, by0 = bs[jmq]'(by rw [hy1]; exact hj16q) := ⟨_, rfl⟩
      have hbzq : byq ≤ 255 := by rw [hbyq]; exact Hby.out _ (List.getElem_mem _)
      rw [← hbyq] at cBq
      have hs5q : (W9.cell? ⟨bq, oq + k * 6, none⟩ = some (.bool pq.n0) ∧ W9.cell? ⟨bq, oq + k * 6 + 1, none⟩ = some (.bool pq.s0) ∧ W9.cell? ⟨bq, oq + k * 6 + 2, none⟩ = some (.slice F0q pq.l0.length f0q) ∧ W9.cell? ⟨bq, oq + k * 6 + 3, none⟩ = some (.bool pq.n1) ∧ W9.cell? ⟨bq, oq + k * 6 + 4, none⟩ = some (.bool pq.s1) ∧ W9.cell? ⟨bq, oq + k * 6 + 5, none⟩ = some (.slice F1q pq.l1.length f1q)) ∧ W9.cell? ⟨w.heap.size + 1, jmq, none⟩ = some (.int .u8 (byq : Int)) := ⟨six_keep c6q HB.out, cBq⟩
      have Hs5q := Lib.hid hs5q
      have PKq := Lib.hid (fun (V W : World) (v u : Value) (hV : Below W9.heap.size W9 V) (h1 : ∀ g, v.ownBlock = some g → W9.heap.size ≤ g ∧ g < V.heap.size) (h2 : ∀ g, u.ownBlock = some g → W9.heap.size ≤ g ∧ g < V.heap.size) (h : Below V.heap.size V W) => lpick_w (w := W) hbzq hPwq hPnq (by omega) (by omega) ((u0q.below (from_ HB.out hV)).below h) ((u1q.below (from_ HB.out hV)).below h) (Y := notOwn2 v u) (eld_notOwn2 (fun g hg => Nat.le_trans HB.out.size (h1 g hg).1) (fun g hg => Nat.le_trans HB.out.size (h2 g hg).1)) (eld_notOwn2 (fun g hg => Nat.le_trans HB.out.size (h1 g hg).1) (fun g hg => Nat.le_trans HB.out.size (h2 g hg).1)) (new_notOwn2 (fun g hg => Nat.lt_of_lt_of_le (h1 g hg).2 h.size) (fun g hg => Nat.lt_of_lt_of_le (h2 g hg).2 h.size)) (fun h => h))
      have HPeq := Lib.hid hPeq
      have e1q : IntKind.i64.wrap ((((k : Int) + 5)).tmod 16) = (jmq : Int) := by rw [Int.tmod_eq_emod_of_nonneg (by omega), IntKind.wrap_i64]; omega
      have e0q : (((k : Int) + 5)).tmod 16 = (jmq : Int) := by rw [Int.tmod_eq_emod_of_nonneg (by omega)]; omega
      have e3q : ((k : Int) + 5) % 16 = (jmq : Int) := by omega
      have e4q : IntKind.i64.wrap (((k : Int) + 5) % 16) = (jmq : Int) := by rw [IntKind.wrap_i64]; omega
      clear hjmq c6q u0q u1q hPwq hPnq hPeq cBq hbyq hbzq hs5q

      obtain ⟨i0, hi, hz0, hz1, hz2⟩ := info_parts infoI
      clear hzl hul hown hown2 hbel
      go_wp2
      have hs := s7_keep (s7_keep Hs5p.out Hbel.out) (Below.refl _ _).drew
      have Hc := Lib.hid (Below.refl wr.heap.size wr).drew
      have Hvb := Lib.hid (fun g hg => HO.out.lt g hg : ∀ g, v.ownBlock = some g → W9.heap.size ≤ g ∧ g < wr.heap.size)
      have Hub := Lib.hid (fun g hg => HUo.out.lt g hg : ∀ g, u.ownBlock = some g → W9.heap.size ≤ g ∧ g < wr.heap.size)
      have Hxl := Lib.hid HO.out.1
      first | go_region_held3 (fun w' => (w'.cell? ⟨bp, op + k * 6, none⟩ = some (.bool pp.n0) ∧ w'.cell? ⟨bp, op + k * 6 + 1, none⟩ = some (.bool pp.s0) ∧ w'.cell? ⟨bp, op + k * 6 + 2, none⟩ = some (.slice F0p pp.l0.length f0p) ∧ w'.cell? ⟨bp, op + k * 6 + 3, none⟩ = some (.bool pp.n1) ∧ w'.cell? ⟨bp, op + k * 6 + 4, none⟩ = some (.bool pp.s1) ∧ w'.cell? ⟨bp, op + k * 6 + 5, none⟩ = some (.slice F1p pp.l1.length f1p)) ∧ w'.cell? ⟨w.heap.size + 1, jmp, none⟩ = some (.int .u8 (byp : Int)))
        ((first | with_reducible exact hs | (with_reducible apply s7_al rfl; with_reducible exact hs) | with_reducible exact hsB))
        (first
          | (go_at_call 38; with_reducible refine (PKp.out wr _ v u Hbel.out Hvb.out Hub.out Hc.out).mono ?_; rintro e w2 ⟨z, sz, lz, Az, cz, rfl, hnz, hiz, hbz, uz, hc2⟩; replace hs := s7_keep hs hc2; replace Hc := Lib.hid (from_ Hc.out hc2); clear hc2)
          | (refine step_appF rfl _ _ 60 rfl W9.heap.size 25 i0 (.agg #[.bool false, .slice none 0 0]) 2 32 Tryz.underlying60 hi hz0 hz1 hz2 rfl (by omega) (by omega) _ _ _ rfl ((own_below HO.out Hc.out).alloc _) w2.heap.size [.bool sz, .slice Az lz.length cz] rfl rfl two_news (by simp [Value.oneCell']) (by omega) (by have h1 := Hbel.out.size; have h2 := Hc.out.size; simp; omega) ?_; intro vp wp hownp hgrow hfresh; have hal := (Below.refl w2.heap.size w2).alloc (Nat.le_refl _) (.cells #[.bool sz, .slice Az lz.length cz] 25); have hgB := (from_ (from_ Hbel.out Hc.out) hal).grown hgrow (from_ (from_ Hbel.out Hc.out) hal).size (fun g hg => (Hvb.out g hg).1); have hsB := s7_keep Hs5p.out hgB)) | fail
      all_goals
        have HNp := Lib.hid (NumsP.snoc ((hn1.out.below Hc.out).below hal) (by rw [Hxl.out, HZL.out]) hgrow hfresh (uz.below hal) hnz)
        have HMp := Lib.hid (((hn2.out.below Hc.out).below hal).other hgrow hfresh)
        have hulr : ∀ k, u.ownBlock = some k → k < (w2.alloc (.cells #[.bool sz, .slice Az lz.length cz] 25)).heap.size := fun k hk => Nat.lt_of_lt_of_le (Hub.out k hk).2 (Nat.le_trans Hc.out.size hal.size)
        have HAp := Lib.hid (hap.out.grow hfresh hulr)
        have HUp := Lib.hid (own_other (own_below (own_below HUo.out Hc.out) hal) hgrow hap.out.sym)
        have HOp := Lib.hid hownp
        have HBlp := Lib.hid hgB
        have HIp : Hid (InL 4 (zs ++ [z]) (Ps.take (k + 1))) := by
          rw [List.take_add_one, HPep.out]
          exact hin.out.snoc hiz hbz
        clear hs Hc Hvb Hub Hxl hnz hiz hbz uz hal hgB hsB hgrow hfresh hulr hownp
        have HApS := Lib.hid HAp.out.sym
        go_wp2
        have hs := s7_keep (s7_keep Hs5q.out HBlp.out) (Below.refl _ _).drew
        have Hc := Lib.hid (Below.refl wp.heap.size wp).drew
        have Hvb := Lib.hid (fun g hg => HUp.out.lt g hg : ∀ g, u.ownBlock = some g → W9.heap.size ≤ g ∧ g < wp.heap.size)
        have Hub := Lib.hid (fun g hg => HOp.out.lt g hg : ∀ g, vp.ownBlock = some g → W9.heap.size ≤ g ∧ g < wp.heap.size)
        have Hxl := Lib.hid HUp.out.1
        first | go_region_held3 (fun w' => (w'.cell? ⟨bq, oq + k * 6, none⟩ = some (.bool pq.n0) ∧ w'.cell? ⟨bq, oq + k * 6 + 1, none⟩ = some (.bool pq.s0) ∧ w'.cell? ⟨bq, oq + k * 6 + 2, none⟩ = some (.slice F0q pq.l0.length f0q) ∧ w'.cell? ⟨bq, oq + k * 6 + 3, none⟩ = some (.bool pq.n1) ∧ w'.cell? ⟨bq, oq + k * 6 + 4, none⟩ = some (.bool pq.s1) ∧ w'.cell? ⟨bq, oq + k * 6 + 5, none⟩ = some (.slice F1q pq.l1.length f1q)) ∧ w'.cell? ⟨w.heap.size + 1, jmq, none⟩ = some (.int .u8 (byq : Int)))
          ((first | with_reducible exact hs | (with_reducible apply s7_al rfl; with_reducible exact hs) | with_reducible exact hsB))
          (first
            | (go_at_call 38; with_reducible refine (PKq.out wp _ u vp HBlp.out Hvb.out Hub.out Hc.out).mono ?_; rintro e w2 ⟨y, sy, ly, Ay, cy, rfl, hnz, hiz, hbz, uz, hc2⟩; replace hs := s7_keep hs hc2; replace Hc := Lib.hid (from_ Hc.out hc2); clear hc2)
            | (refine step_appF rfl _ _ 60 rfl W9.heap.size 25 i0 (.agg #[.bool false, .slice none 0 0]) 2 32 Tryz.underlying60 hi hz0 hz1 hz2 rfl (by omega) (by omega) _ _ _ rfl ((own_below HUp.out Hc.out).alloc _) w2.heap.size [.bool sy, .slice Ay ly.length cy] rfl rfl two_news (by simp [Value.oneCell']) (by omega) (by have h1 := HBlp.out.size; have h2 := Hc.out.size; simp; omega) ?_; intro vq wq hownq hgrow hfresh; have hal := (Below.refl w2.heap.size w2).alloc (Nat.le_refl _) (.cells #[.bool sy, .slice Ay ly.length cy] 25); have hgB := (from_ (from_ HBlp.out Hc.out) hal).grown hgrow (from_ (from_ HBlp.out Hc.out) hal).size (fun g hg => (Hvb.out g hg).1); have hsB := s7_keep Hs5q.out hgB)) | fail
        all_goals
          have HNq := Lib.hid (NumsP.snoc ((HMp.out.below Hc.out).below hal) (by rw [Hxl.out, HUL.out]) hgrow hfresh (uz.below hal) hnz)
          have HMq := Lib.hid (((HNp.out.below Hc.out).below hal).other hgrow hfresh)
          have hulr : ∀ k, vp.ownBlock = some k → k < (w2.alloc (.cells #[.bool sy, .slice Ay ly.length cy] 25)).heap.size := fun k hk => Nat.lt_of_lt_of_le (Hub.out k hk).2 (Nat.le_trans Hc.out.size hal.size)
          have HAq := Lib.hid (HApS.out.grow hfresh hulr)
          have HUq := Lib.hid (own_other (own_below (own_below HOp.out Hc.out) hal) hgrow HApS.out.sym)
          have HOq := Lib.hid hownq
          have HBlq := Lib.hid hgB
          have HIq : Hid (InL 4 (us ++ [y]) (Ts.take (k + 1))) := by
            rw [List.take_add_one, HPeq.out]
            exact hin2.out.snoc hiz hbz
          clear hs Hc Hvb Hub Hxl hnz hiz hbz uz hal hgB hsB hgrow hfresh hulr hownq
          go_wp2
          go_roundw
          case rel => exact ⟨_, _, k + 1, _, _, zs ++ [z], us ++ [y], rfl, rfl, by omega, by go_num, by simp [HZL.out], by simp [HUL.out], HUq.out, HOq.out, HAq.out.sym, HMq, HNq, HIp, HIq, HBlq.out⟩
          case measure => simp [intOf]; omega
    · obtain rfl : k = n + 1 := by omega
      obtain ⟨A6, a6, rfl, hW1⟩ := hn1.out.toO.fin (show wr.ownsRow _ 25 2 v zs.length xs by rw [hzl]; exact hown)
      obtain ⟨A5, a5, rfl, hW2⟩ := hn2.out.toO.fin (show wr.ownsRow _ 25 2 u us.length ys by rw [hul]; exact hown2)
      have hel1 : (encI zs).length = n + 1 := by rw [encI_len]; exact hzl
      have hel2 : (encI us).length = n + 1 := by rw [encI_len]; exact hul
      rw [hel1, hel2]
      simp only [show ((n + 1 : Nat) : Int) = (n : Int) + 1 from Int.natCast_add n 1]
      have hin1 : InL 4 zs Ps := by
        have := hin.out
        rwa [List.take_of_length_le (by rw [Hpl.out]; omega)] at this
      have hin2' : InL 4 us Ts := by
        have := hin2.out
        rwa [List.take_of_length_le (by rw [Htl.out]; omega)] at this
      have HW1 := Lib.hid hW1
      have HW2 := Lib.hid hW2
      have HIN1 := Lib.hid hin1
      have HIN2 := Lib.hid hin2'
      have HL1 := Lib.hid hzl
      have HL2 := Lib.hid hul
      have HB96 := Lib.hid hbel
      replace HBY : Hid (∀ j (hj : j < 16), wr.cell? ⟨w.heap.size + 1, j, none⟩ = some (.int .u8 ((bs[j]'(by omega) : Nat) : Int))) := fun j hj => keepC hbel (HBY.out j hj)
      replace HB := Lib.hid (from_ HB.out hbel)
      clear hown hown2 hap hn1 hn2 hin hin2 hbel hW1 hW2 hin1 hin2' hel1 hel2 hzl hul
      obtain ⟨w6, hren⟩ : ∃ w6, w6 = wr := ⟨_, rfl⟩
      subst hren
      obtain ⟨ones, hren⟩ : ∃ ones, ones = zs := ⟨_, rfl⟩
      subst hren
      obtain ⟨twos, hren⟩ : ∃ twos, twos = us := ⟨_, rfl⟩
      subst hren
      go_wp2
      go_loopw [19, 20] (fun v i wr => ∃ (vr : Value) (k : Nat) (xs : List Value) (zs : List Int), v = vr ∧ k ≤ n ∧ i = .int .i64 (k : Int) ∧ zs.length = k ∧ wr.ownsRow w6.heap.size 25 2 vr k xs ∧ Hid (NumsO wr vr xs zs) ∧ Hid (InL 4 zs (Qs.take k)) ∧ Below w6.heap.size w6 wr) (fun _ i _ => n - (intOf i).toNat)
      case atStart => exact ⟨_, 0, [], [], rfl, Nat.zero_le _, rfl, rfl, World.ownsRow_nil _ _ _ _, Lib.hid (NumsO.nil _ _ _), Lib.hid (InL.nil _), Below.refl _ _⟩
      case round =>
        obtain ⟨v, k, xs, zs, hvr, hk, rfl, hzl, hown, hnum, hin, hbel⟩ := hrel
        have hvr2 := hvr.symm
        subst hvr2
        by_cases hlt : k < n
        · obtain ⟨b, o, F0, f0, F1, f1, p, Pk, rfl, hbb, c6, u0, u1, hPw, hPn, hPe⟩ := HQ.out k hlt
          obtain ⟨jm, hjm⟩ : ∃ jm : Nat, jm = (k + 11) % 16 := ⟨_, rfl⟩
          have hj16 : jm < 16 := by omega
          have cB := HBY.out jm hj16
          have hi3 : (k : Int) < (n : Int) := by omega
          have hi4 : (0 : Int) ≤ (jm : Int) := by omega
          have hi5 : (jm : Int) < 16 := by omega
          have hwo : IntKind.i64.wrap ((k : Int) + 11) = (k : Int) + 11 := by rw [IntKind.wrap_i64]; omega
          obtain ⟨by0, hby0⟩ : ∃ by0 : Nat, by0 = bs[jm]'(by rw [hy1]; exact hj16) := ⟨_, rfl⟩
          have hby1 : by0 ≤ 255 := by rw [hby0]; exact Hby.out _ (List.getElem_mem _)
          have hbel0 := from_ HB.out hbel
          rw [← hby0] at cB
          have hs5' : (w6.cell? ⟨b, o + k * 6, none⟩ = some (.bool p.n0) ∧ w6.cell? ⟨b, o + k * 6 + 1, none⟩ = some (.bool p.s0) ∧ w6.cell? ⟨b, o + k * 6 + 2, none⟩ = some (.slice F0 p.l0.length f0) ∧ w6.cell? ⟨b, o + k * 6 + 3, none⟩ = some (.bool p.n1) ∧ w6.cell? ⟨b, o + k * 6 + 4, none⟩ = some (.bool p.s1) ∧ w6.cell? ⟨b, o + k * 6 + 5, none⟩ = some (.slice F1 p.l1.length f1)) ∧ w6.cell? ⟨w.heap.size + 1, jm, none⟩ = some (.int .u8 (by0 : Int)) := ⟨six_keep c6 HB.out, cB⟩
          have Hs5 := Lib.hid hs5'
          have hs := s7_keep (s7_keep hs5' hbel) (Below.refl _ _).drew
          have hbg : ∀ g, v.ownBlock = some g → w6.heap.size ≤ g ∧ g < wr.heap.size := fun g hg => hown.lt g hg
          have Hbg := Lib.hid hbg
          have Hlt := Lib.hid (own_lt hown)
          have PK := Lib.hid (fun (W : World) (h : Below wr.heap.size wr W) => lpick_w (w := W) hby1 hPw hPn (by omega) (by omega) ((u0.below hbel0).below h) ((u1.below hbel0).below h) (Y := notOwn v) (eld_notOwn fun g hg => Nat.le_trans HB.out.size (Hbg.out g hg).1) (eld_notOwn fun g hg => Nat.le_trans HB.out.size (Hbg.out g hg).1) (new_notOwn fun g hg => Nat.lt_of_lt_of_le (Hbg.out g hg).2 h.size) (fun h => h))
          have HO := Lib.hid hown
          have Hc := Lib.hid (Below.refl wr.heap.size wr).drew
          have Hbel := Lib.hid hbel
          have HZL := Lib.hid hzl
          have Hxl := Lib.hid hown.1
          have HPe := Lib.hid hPe
          have e1 : IntKind.i64.wrap ((((k : Int) + 11)).tmod 16) = (jm : Int) := by rw [Int.tmod_eq_emod_of_nonneg (by omega), IntKind.wrap_i64]; omega
          have e0 : (((k : Int) + 11)).tmod 16 = (jm : Int) := by rw [Int.tmod_eq_emod_of_nonneg (by omega)]; omega
          have e3 : ((k : Int) + 11) % 16 = (jm : Int) := by omega
          have e1' : IntKind.i64.wrap (((k : Int) + 11) % 16) = (jm : Int) := by rw [IntKind.wrap_i64]; omega
          clear hjm
          obtain ⟨i0, hi, hz0, hz1, hz2⟩ := info_parts infoI
          clear hs5' hbg hown hbel hbel0 c6 u0 u1 hPw hPn hPe cB hby0 hby1 hzl
          go_wp2
          first | go_region_held3 (fun w' => (w'.cell? ⟨b, o + k * 6, none⟩ = some (.bool p.n0) ∧ w'.cell? ⟨b, o + k * 6 + 1, none⟩ = some (.bool p.s0) ∧ w'.cell? ⟨b, o + k * 6 + 2, none⟩ = some (.slice F0 p.l0.length f0) ∧ w'.cell? ⟨b, o + k * 6 + 3, none⟩ = some (.bool p.n1) ∧ w'.cell? ⟨b, o + k * 6 + 4, none⟩ = some (.bool p.s1) ∧ w'.cell? ⟨b, o + k * 6 + 5, none⟩ = some (.slice F1 p.l1.length f1)) ∧ w'.cell? ⟨w.heap.size + 1, jm, none⟩ = some (.int .u8 (by0 : Int)))
            ((first | with_reducible exact hs | (with_reducible apply s7_al rfl; with_reducible exact hs) | with_reducible exact hsB))
            (first
              | (go_at_call 38; with_reducible refine (PK.out _ Hc.out).mono ?_; rintro e w2 ⟨z, sz, lz, Az, cz, rfl, hnz, hiz, hbz, uz, hc2⟩; replace hs := s7_keep hs hc2; replace Hc := Lib.hid (from_ Hc.out hc2); clear hc2)
              | (refine step_appF rfl _ _ 60 rfl w6.heap.size 25 i0 (.agg #[.bool false, .slice none 0 0]) 2 32 Tryz.underlying60 hi hz0 hz1 hz2 rfl (by omega) (by omega) _ _ _ rfl ((own_below HO.out Hc.out).alloc _) w2.heap.size [.bool sz, .slice Az lz.length cz] rfl rfl two_news (by simp [Value.oneCell']) (by omega) (by have h1 := Hbel.out.size; have h2 := Hc.out.size; simp; omega) ?_; intro v' wb hown' hgrow hfresh; have hal := (Below.refl w2.heap.size w2).alloc (Nat.le_refl _) (.cells #[.bool sz, .slice Az lz.length cz] 25); have hgB := (from_ (from_ Hbel.out Hc.out) hal).grown hgrow (from_ (from_ Hbel.out Hc.out) hal).size (fun g hg => (Hbg.out g hg).1); have hsB := s7_keep Hs5.out hgB)) | fail
          all_goals
            have hnum' := Lib.hid (NumsO.snoc ((hnum.out.below Hc.out).below hal) (by rw [Hxl.out]; rw [HZL.out]) hgrow hfresh (uz.below hal) hnz)
            have hin' : Hid (InL 4 (zs ++ [z]) (Qs.take (k + 1))) := by
              rw [List.take_add_one, HPe.out]
              exact hin.out.snoc hiz hbz
            go_wp2
            go_roundw
            case rel => exact ⟨_, k + 1, _, zs ++ [z], rfl, by omega, by go_num, by simp [HZL.out], hown', hnum', hin', hgB⟩
            case measure => simp [intOf]; omega
        · have hkn : n = k := by omega
          subst hkn
          obtain ⟨A7, a7, rfl, hX1⟩ := hnum.out.fin (show wr.ownsRow _ 25 2 v zs.length xs by rw [hzl]; exact hown)
          have hel : (encI zs).length = n := by rw [encI_len]; exact hzl
          rw [hel]
          have hin3 : InL 4 zs Qs := by
            have := hin.out
            rwa [List.take_of_length_le (by rw [Hql.out]; omega)] at this
          have hc69 := from_ HB96.out hbel
          have hP8 : ∀ P ∈ Ps, IvN 8 P.1 P.2 := fun P hP => (HP4.out P hP).up (by omega)
          have hQ8 : ∀ P ∈ Qs, IvN 8 P.1 P.2 := fun P hP => (HQ3.out P hP).up (by omega)
          have hR8 : ∀ P ∈ addLL Ps Ts, IvN 8 P.1 P.2 := fun P hP => (addLL_ok HP4.out HT4.out P hP).up (by omega)
          have hN8 : ∀ P ∈ negL Ps, IvN 8 P.1 P.2 := negL_ok hP8
          have hS8 : ∀ P ∈ scaL Ps PA, IvN 8 P.1 P.2 := scaL_ok HP4.out HPA4.out
          have hx8 := hin3.up (M := 8) (by omega)
          have lq : Qs.length = n := Hql.out
          have lp : Ps.length = Qs.length + 1 := by rw [Hpl.out, lq]
          have lt : Ts.length = Qs.length + 1 := by rw [Htl.out, lq]
          have lo1 : ones.length = zs.length + 1 := by rw [HL1.out, hzl]
          have lo2 : twos.length = zs.length + 1 := by rw [HL2.out, hzl]
          have lR : (addLL Ps Ts).length = Qs.length + 1 := by rw [addLL, List.length_zipWith]; omega
          have lN : (negL Ps).length = Qs.length + 1 := by rw [negL, List.length_map]; omega
          have lS : (scaL Ps PA).length = Qs.length + 1 := by rw [scaL, List.length_map]; omega
          have F1 := form_in (N := 0) hR8 hQ8 ((HIN1.out.add HIN2.out (by omega) HP4.out HT4.out).up (by omega)) hx8 lR (by omega)
          rw [formL_add lo1 lo2] at F1
          have F2 := form_in (N := 0) hN8 hQ8 (HIN1.out.neg.up (by omega)) hx8 lN (by omega)
          rw [formL_neg lo1] at F2
          have F0 := form_in (N := 0) hP8 hQ8 (HIN1.out.up (by omega)) hx8 lp (by omega)
          have F0b := form_in (N := 0) (fun P hP => (HT4.out P hP).up (by omega)) hQ8 (HIN2.out.up (by omega)) hx8 lt (by omega)
          obtain ⟨s8, l8, n8⟩ : ∃ s l, Nm (formL ones zs) s l := ⟨_, _, rfl, rfl⟩
          obtain ⟨s9, l9, n9⟩ : ∃ s l, Nm (formL twos zs) s l := ⟨_, _, rfl, rfl⟩
          obtain ⟨sB, lB, nB⟩ : ∃ s l, Nm (formL ones zs + formL twos zs) s l := ⟨_, _, rfl, rfl⟩
          obtain ⟨sC, lC, nC⟩ : ∃ s l, Nm (-formL ones zs) s l := ⟨_, _, rfl, rfl⟩
          have q8 := nm_len (bound_up (M := 40) F0.2 (by omega)) n8
          have q9 := nm_len (bound_up (M := 40) F0b.2 (by omega)) n9
          have qB := nm_len (bound_up (M := 40) F1.2 (by omega)) nB
          have qC := nm_len (bound_up (M := 40) F2.2 (by omega)) nC
          have IS1 := Lib.hid (fun (W : World) (h : Below wr.heap.size wr W) (F : Value) => lis_w (F := F) ((HW1.out.below hbel).below h) (hX1.below h) HL1.out hzl (by omega) (HIN1.out.up (M := 8) (by omega)).all hx8.all n8)
          have IS2 := Lib.hid (fun (W : World) (h : Below wr.heap.size wr W) (F : Value) => lis_w (F := F) ((HW2.out.below hbel).below h) (hX1.below h) HL2.out hzl (by omega) (HIN2.out.up (M := 8) (by omega)).all hx8.all n9)
          have AD := Lib.hid (fun (W : World) (Z1 Z2 : Zone) (C D : Option Addr) (c d : Nat) (u : U64s W Z1 C c l8) (v : U64s W Z2 D d l9) => wadd_n n8 n9 nB rfl (by omega) (by omega) u v)
          have HAS1 := Lib.hid (fun (W : World) (Z : Zone) (C : Option Addr) (c : Nat) (h : Below wr.heap.size wr W) (u : U64s W Z C c lB) => has_w Hv.out (val_okF hR8 hQ8 lR (by omega)) (by omega) nB (by omega) ((U4.out.below hc69).below h) ((V4.out.below hc69).below h) u (decide_eq_true F1.1))
          have hw9 := from_ HB.out hbel
          have NEG := Lib.hid (fun (W : World) (h : Below wr.heap.size wr W) => lneg_w ((Hf.out.below hw9).below h) (Hpf.out.up (by omega)) ⟨by have := Hpn.out; omega, by have := Hpn.out; omega⟩)
          rw [show (fmOf (negL Ps)).length = n + 1 by rw [fmOf_len, lN, lq], Hpn.out] at NEG
          obtain ⟨vJ, hvJ⟩ : ∃ vI, IvW (valL (hdF (negL Ps)) (prF (negL Ps) Qs)) vI := ⟨_, IvW.mk _⟩
          have VAL2 := Lib.hid (fun (W : World) (Av : Option Addr) (cv : Nat) (Z : Zone) (h : Below wr.heap.size wr W) (h2 : IvsAt W Z Av cv (fmOf (negL Ps))) => lvalue_w (w := W) h2 ((Hx.out.below hw9).below h) (fmw_mk hN8) (Hqf.out.up (by omega)) (by rw [fmOf_len, lN, lq, Hqn.out]) (by rw [Hqn.out]; omega) hvJ)
          rw [show (fmOf (negL Ps)).length = n + 1 by rw [fmOf_len, lN, lq], Hqn.out] at VAL2
          have WNEG := Lib.hid (fun (W : World) (Z : Zone) (C : Option Addr) (c : Nat) (u : U64s W Z C c l8) => wneg_n n8 nC rfl (by omega) u)
          have HAS2 := Lib.hid (fun (W : World) (Z Z1 Z2 : Zone) (C E F : Option Addr) (c e f : Nat) (h1 : U64s W Z1 E e vJ.l0) (h2 : U64s W Z2 F f vJ.l1) (u : U64s W Z C c lC) => has_w hvJ (val_okF hN8 hQ8 lN (by omega)) (by omega) nC (by omega) h1 h2 u (decide_eq_true F2.1))
          obtain ⟨by0, hby0⟩ : ∃ by0 : Nat, by0 = bs[3]'(by omega) := ⟨_, rfl⟩
          have hby1 : by0 ≤ 255 := by rw [hby0]; exact Hby.out _ (List.getElem_mem _)
          have cB3 := keepC hbel (HBY.out 3 (by omega))
          rw [← hby0] at cB3
          have PKA := Lib.hid (fun (W : World) (h : Below wr.heap.size wr W) => lpick_w (w := W) hby1 HPAw.out HPA3.out (by omega) (by omega) ((Ha0.out.below hw9).below h) ((Ha1.out.below hw9).below h) (Y := old) (le_old _) (le_old _) (le_old _) (fun h => h))
          have SC := Lib.hid (fun (W : World) (h : Below wr.heap.size wr W) => lscale_w ((Hf.out.below hw9).below h) (Hpf.out.up (by omega)) ⟨by have := Hpn.out; omega, by have := Hpn.out; omega⟩ HPAw.out (HPA3.out.up (by omega)) ((Ha0.out.below hw9).below h) ((Ha1.out.below hw9).below h))
          rw [show (fmOf (scaL Ps PA)).length = n + 1 by rw [fmOf_len, lS, lq], Hpn.out] at SC
          obtain ⟨vK, hvK⟩ : ∃ vI, IvW (valL (hdF (scaL Ps PA)) (prF (scaL Ps PA) Qs)) vI := ⟨_, IvW.mk _⟩
          have VAL3 := Lib.hid (fun (W : World) (Av : Option Addr) (cv : Nat) (Z : Zone) (h : Below wr.heap.size wr W) (h2 : IvsAt W Z Av cv (fmOf (scaL Ps PA))) => lvalue_w (w := W) h2 ((Hx.out.below hw9).below h) (fmw_mk hS8) (Hqf.out.up (by omega)) (by rw [fmOf_len, lS, lq, Hqn.out]) (by rw [Hqn.out]; omega) hvK)
          rw [show (fmOf (scaL Ps PA)).length = n + 1 by rw [fmOf_len, lS, lq], Hqn.out] at VAL3
          have TM : Hid (∀ (m : Int) (sm : Bool) (lm : List Nat), Nm m sm lm → inI m PA → (-wN 4 < m ∧ m < wN 4) → ∃ sT lT, (∀ (W : World) (Z1 Z2 : Zone) (C D : Option Addr) (c d : Nat), U64s W Z1 C c l8 → U64s W Z2 D d lm → Calls Tryz.prog 14 #[.agg #[.bool s8, .slice C l8.length c], .agg #[.bool sm, .slice D lm.length d]] W fun e w' => ∃ Av cv, e = .returned (.tuple #[.agg #[.bool sT, .slice Av (lT : List Nat).length cv], .int .i64 0]) ∧ U64s w' (new W.heap.size) Av cv lT ∧ Below W.heap.size W w') ∧ (∀ (W : World) (Z Z1 Z2 : Zone) (C E F : Option Addr) (c e f : Nat), U64s W Z1 E e vK.l0 → U64s W Z2 F f vK.l1 → U64s W Z C c lT → Calls Tryz.prog 10 #[.agg #[.bool vK.n0, .bool vK.s0, .slice E vK.l0.length e, .bool vK.n1, .bool vK.s1, .slice F vK.l1.length f], .agg #[.bool sT, .slice C lT.length c]] W fun e w' => e = .returned (.tuple #[.bool true, .int .i64 0]) ∧ Below W.heap.size W w')) := fun m sm lm hnm him hbm => by
            have F3 := form_in (N := 0) hS8 hQ8 (HIN1.out.scale HP4.out HPA4.out him hbm) hx8 lS (by omega)
            rw [formL_mul lo1] at F3
            have qm := nm_len hbm hnm
            have qT := nm_len (bound_up (M := 40) F3.2 (by omega)) (Nm.mk' (formL ones zs * m))
            exact ⟨_, _, fun W Z1 Z2 C D c d h1 h2 => wmul_n n8 hnm (Nm.mk' _) rfl (by omega) (by omega) h1 h2, fun W Z Z1 Z2 C E F c e f h1 h2 u => has_w hvK (val_okF hS8 hQ8 lS (by omega)) (by omega) (Nm.mk' _) (by omega) h1 h2 u (decide_eq_true F3.1)⟩
          have HWR := Lib.hid hw9
          replace BV := Lib.hid (BV.out.below hc69)
          replace HA := Lib.hid (HA.out.below hc69)
          have HB8 := Lib.hid (Below.refl wr.heap.size wr)
          have CB3 := Lib.hid cB3
          clear hown hnum hin hbel hX1 hin3 hel hzl hc69 hP8 hQ8 hR8 hN8 hS8 hx8 lq lp lt lo1 lo2 lR lN lS F1 F2 F0 F0b n8 n9 nB nC q8 q9 qB qC hw9 hvJ hvK hby0 hby1 cB3 HP4 HQ3 HT4 HPA3 HPA4 HPAw Hv U4 V4 Hf Hx Hpf Hqf Hpn Hqn Ha0 Ha1 HW1 HW2 HIN1 HIN2 HL1 HL2 Hpl Hql Htl Hby HBY HB HB96 HQ HT HP
          go_wp2_with fail
          refine (IS1.out _ HB8.out _).mono ?_
          rintro e wa ⟨C8, c8, rfl, u8, hc⟩
          go_upto_region 21 with fail
          have hax : Below wa.heap.size wa (wa.alloc (.cells #[.bool s8, .slice C8 l8.length c8] 25)) := (Below.refl _ _).alloc (Nat.le_refl _) _
          have BN := Lib.hid (Box.new wa (.bool s8) (.slice C8 l8.length c8) 25)
          obtain ⟨gN, hgN⟩ : ∃ g, g = wa.heap.size := ⟨_, rfl⟩
          rw [← hgN] at BN
          have hc8 := from_ hc hax
          have U8 := Lib.hid (u8.below hax)
          replace BV := Lib.hid (BV.out.below hc8)
          replace HA := Lib.hid (HA.out.below hc8)
          replace HB8 := Lib.hid (from_ HB8.out hc8)
          clear hc hax hc8 u8
          generalize hWx : wa.alloc (.cells #[.bool s8, .slice C8 l8.length c8] 25) = Wa at *
          try simp only [← hgN]
          clear hWx hgN
          clear IS1
          have hs0 := And.intro BN.out.c0 BN.out.c1
          have hs := c2_keep hs0 (Below.refl _ _).drew
          have Hc0 := Lib.hid (Below.refl Wa.heap.size Wa)
          have Hc := Lib.hid (Below.refl Wa.heap.size Wa).drew
          have hgN := BN.out.lt
          first | go_region_held3 (fun w' => w'.cell? ⟨gN, 0, none⟩ = some (.bool s8) ∧ w'.cell? ⟨gN, 1, none⟩ = some (.slice C8 l8.length c8))
            ((repeat' (first | with_reducible apply c2_al rfl | with_reducible apply c2_st2 rfl)) <;> (first | with_reducible exact hs | (with_reducible apply c2_dr rfl; (repeat' (with_reducible apply c2_al rfl)); with_reducible exact hs0) | omega))
            (first
              | (go_at_call 39; (first | (with_reducible refine (IS2.out _ (from_ HB8.out Hc.out) _).mono ?_) | (with_reducible refine (IS2.out _ (from_ HB8.out (from_ (from_ Hc0.out ((Below.refl _ _).alloc (Nat.le_refl _) _)) (Below.refl _ _).drew)) _).mono ?_)); rintro e w2 ⟨D4, d4, rfl, o4, hc2⟩; (first | (with_reducible have hx := c2_keep hs hc2; have hb := Lib.hid (from_ Hc.out hc2)) | (with_reducible have hx := c2_keep (c2_keep (c2_keep hs0 ((Below.refl _ _).alloc (Nat.le_refl _) _)) (Below.refl _ _).drew) hc2; have hb := Lib.hid (from_ (from_ (from_ Hc0.out ((Below.refl _ _).alloc (Nat.le_refl _) _)) (Below.refl _ _).drew) hc2); have HF1 := Lib.hid (((Box.new _ (.bool false) (.slice none 0 0) 25).below (Below.refl _ _).drew).below hc2); have lt2 := HF1.out.lt)); replace hs := hx; replace Hc := hb; clear hx hb hc2; have lz2 := Hc.out.size)
              | (go_at_call 12; (first | (with_reducible refine (AD.out _ _ _ _ _ _ _ (U8.out.below Hc.out) o4).mono ?_) | (with_reducible refine (AD.out _ _ _ _ _ _ _ (U8.out.below (from_ Hc.out ((Below.refl _ _).alloc (Nat.le_refl _) _))) (o4.below ((Below.refl _ _).alloc (Nat.le_refl _) _))).mono ?_)); rintro e w3 ⟨D5, d5, rfl, o5, hc2⟩; (first | (with_reducible have hx := c2_keep hs hc2; have hb := Lib.hid (from_ Hc.out hc2); (try replace HF1 := Lib.hid (HF1.out.below hc2))) | (with_reducible have hx := c2_keep (c2_keep hs ((Below.refl _ _).alloc (Nat.le_refl _) _)) hc2; have hb := Lib.hid (from_ (from_ Hc.out ((Below.refl _ _).alloc (Nat.le_refl _) _)) hc2); have HF1 := Lib.hid ((Box.new _ (.bool false) (.slice none 0 0) 25).below hc2))); replace hs := hx; replace Hc := hb; clear hx hb hc2; (try have ne3 := Nat.ne_of_lt HF1.out.lt); (try have ne4 := Ne.symm ne3); (try obtain ⟨x0, x1, x2, x3, _⟩ := id HF1.out); have lz := Hc.out.size)) | fail
          all_goals
            have hdsz : Wa.drew.heap.size = Wa.heap.size := by simp
            clear hs hs0
            first
            | (have h6 := Cut6.ol (V := Wa) (g := Wa.heap.size) (g5 := gN) (s := sB) Hc.out HF1.out o5 (by first | omega | (simp; done) | (simp; omega)) (by omega) (by first | omega | (simp; omega))
               generalize hV5 : (w3.setCell ⟨Wa.heap.size, 0, none⟩ (.bool sB)).setCell ⟨Wa.heap.size, 1, none⟩ (.slice D5 lB.length d5) = Wb at *
               obtain ⟨gB, hgB⟩ : ∃ gB, gB = Wa.heap.size := ⟨_, rfl⟩
               rw [← hgB] at h6)
            | (have h6 := Cut6.ol (V := Wa) (g := w2.heap.size) (g5 := gN) (s := sB) Hc.out HF1.out o5 (by first | omega | (simp; done) | (simp; omega)) (by omega) (by first | omega | (simp; omega))
               generalize hV5 : (w3.setCell ⟨w2.heap.size, 0, none⟩ (.bool sB)).setCell ⟨w2.heap.size, 1, none⟩ (.slice D5 lB.length d5) = Wb at *
               obtain ⟨gB, hgB⟩ : ∃ gB, gB = w2.heap.size := ⟨_, rfl⟩
               rw [← hgB] at h6)
            | (have h6 := Cut6.nw (V := Wa) (g5 := gN) (s := sB) (t := 25) Hc.out o5 (by first | omega | (simp; omega))
               generalize hV5 : w3.alloc (.cells #[.bool sB, .slice D5 lB.length d5] 25) = Wb at *
               obtain ⟨gB, hgB⟩ : ∃ gB, gB = w3.heap.size := ⟨_, rfl⟩
               rw [← hgB] at h6)
            have hc := h6.bel
            replace BN := Lib.hid (BN.out.below hc)
            replace BV := Lib.hid (BV.out.below hc)
            replace HA := Lib.hid (HA.out.below hc)
            replace U8 := Lib.hid (U8.out.below hc)
            replace HB8 := Lib.hid (from_ HB8.out hc)
            have UB := Lib.hid h6.u
            have k0 := h6.c0
            have k1 := h6.c1
            clear h6 hc Hc Hc0 o4 o5
            try simp only [hV5]
            try simp only [← hgB]
            clear hV5 hgB hdsz
            obtain ⟨y0, y1, y2, y3, y4, y5, _, _, _, _, _, _, _⟩ := id BV.out
            go_wp2_with fail
            refine (HAS1.out _ _ _ _ HB8.out UB.out).mono ?_
            rintro e wc ⟨rfl, hc⟩
            clear k0 k1 y0 y1 y2 y3 y4 y5 BV UB HAS1
            replace BN := Lib.hid (BN.out.below hc)
            replace HA := Lib.hid (HA.out.below hc)
            replace U8 := Lib.hid (U8.out.below hc)
            replace HB8 := Lib.hid (from_ HB8.out hc)
            clear hc
            go_wp2_with fail
            refine (NEG.out _ HB8.out).mono ?_
            rintro e wd ⟨Av2, cv2, rfl, hrow2, hc⟩
            replace BN := Lib.hid (BN.out.below hc)
            replace HA := Lib.hid (HA.out.below hc)
            replace U8 := Lib.hid (U8.out.below hc)
            replace HB8 := Lib.hid (from_ HB8.out hc)
            clear hc NEG
            go_wp2_with fail
            refine (VAL2.out _ _ _ _ HB8.out hrow2).mono ?_
            rintro e we ⟨X5, x5, Y5, z5, rfl, u5, v5, hc⟩
            go_upto_region 25 with fail
            have hax : Below we.heap.size we (we.alloc (.cells #[.bool vJ.n0, .bool vJ.s0, .slice X5 vJ.l0.length x5, .bool vJ.n1, .bool vJ.s1, .slice Y5 vJ.l1.length z5] 29)) := (Below.refl _ _).alloc (Nat.le_refl _) _
            have B2 := Lib.hid (Box6.new we (.bool vJ.n0) (.bool vJ.s0) (.slice X5 vJ.l0.length x5) (.bool vJ.n1) (.bool vJ.s1) (.slice Y5 vJ.l1.length z5) 29)
            obtain ⟨gW, hgW⟩ : ∃ g, g = we.heap.size := ⟨_, rfl⟩
            rw [← hgW] at B2
            have hc8 := from_ hc hax
            have U5 := Lib.hid (u5.below hax)
            have V5 := Lib.hid (v5.below hax)
            replace BN := Lib.hid (BN.out.below hc8)
            replace HA := Lib.hid (HA.out.below hc8)
            replace U8 := Lib.hid (U8.out.below hc8)
            replace HB8 := Lib.hid (from_ HB8.out hc8)
            clear hc hax hc8 u5 v5
            generalize hWx : we.alloc (.cells #[.bool vJ.n0, .bool vJ.s0, .slice X5 vJ.l0.length x5, .bool vJ.n1, .bool vJ.s1, .slice Y5 vJ.l1.length z5] 29) = We at *
            try simp only [← hgW]
            clear hWx hgW
            clear VAL2 hrow2
            obtain ⟨k0, k1, _, _, _⟩ := id BN.out
            go_wp2_with fail
            refine (WNEG.out _ _ _ _ U8.out).mono ?_
            rintro e wf ⟨C9, c9, rfl, uC, hc⟩
            clear k0 k1
            go_upto_region 26 with fail
            have hax : Below wf.heap.size wf (wf.alloc (.cells #[.bool sC, .slice C9 lC.length c9] 25)) := (Below.refl _ _).alloc (Nat.le_refl _) _
            have BC := Lib.hid (Box.new wf (.bool sC) (.slice C9 lC.length c9) 25)
            obtain ⟨gC, hgC⟩ : ∃ g, g = wf.heap.size := ⟨_, rfl⟩
            rw [← hgC] at BC
            have hc8 := from_ hc hax
            have UC := Lib.hid (uC.below hax)
            replace BN := Lib.hid (BN.out.below hc8)
            replace HA := Lib.hid (HA.out.below hc8)
            replace U8 := Lib.hid (U8.out.below hc8)
            replace B2 := Lib.hid (B2.out.below hc8)
            replace U5 := Lib.hid (U5.out.below hc8)
            replace V5 := Lib.hid (V5.out.below hc8)
            replace HB8 := Lib.hid (from_ HB8.out hc8)
            clear hc hax hc8 uC
            generalize hWx : wf.alloc (.cells #[.bool sC, .slice C9 lC.length c9] 25) = Wf at *
            try simp only [← hgC]
            clear hWx hgC
            clear WNEG
            obtain ⟨k0, k1, _, _, _⟩ := id BC.out
            obtain ⟨y0, y1, y2, y3, y4, y5, _, _, _, _, _, _, _⟩ := id B2.out
            go_wp2_with fail
            refine (HAS2.out _ _ _ _ _ _ _ _ _ _ U5.out V5.out UC.out).mono ?_
            rintro e wg ⟨rfl, hc⟩
            clear k0 k1 y0 y1 y2 y3 y4 y5 B2 BC U5 V5 UC HAS2
            replace BN := Lib.hid (BN.out.below hc)
            replace HA := Lib.hid (HA.out.below hc)
            replace U8 := Lib.hid (U8.out.below hc)
            replace HB8 := Lib.hid (from_ HB8.out hc)
            clear hc
            obtain ⟨y0, y1, y2, y3, y4, y5, _, _, _, _, _, _, _⟩ := id HA.out
            have k0 := keepC HB8.out CB3.out
            go_wp2_with fail
            refine (PKA.out _ HB8.out).mono ?_
            rintro e wh ⟨z, sz, lz, Az, cz, rfl, hnz, hiz, hbz, uz, hc⟩
            clear k0 y0 y1 y2 y3 y4 y5
            obtain ⟨sT, lT, hMUL, hHAS3⟩ := TM.out z sz lz hnz hiz hbz
            have MUL := Lib.hid hMUL
            have HAS3 := Lib.hid hHAS3
            clear hMUL hHAS3 hnz hiz hbz TM CB3 PKA
            go_upto_region 28 with fail
            have hax : Below wh.heap.size wh (wh.alloc (.cells #[.bool sz, .slice Az lz.length cz] 25)) := (Below.refl _ _).alloc (Nat.le_refl _) _
            have BP := Lib.hid (Box.new wh (.bool sz) (.slice Az lz.length cz) 25)
            obtain ⟨gP, hgP⟩ : ∃ g, g = wh.heap.size := ⟨_, rfl⟩
            rw [← hgP] at BP
            have hc8 := from_ hc hax
            have UZ := Lib.hid (uz.below hax)
            replace BN := Lib.hid (BN.out.below hc8)
            replace HA := Lib.hid (HA.out.below hc8)
            replace U8 := Lib.hid (U8.out.below hc8)
            replace HB8 := Lib.hid (from_ HB8.out hc8)
            clear hc hax hc8 uz
            generalize hWx : wh.alloc (.cells #[.bool sz, .slice Az lz.length cz] 25) = Wh at *
            try simp only [← hgP]
            clear hWx hgP
            obtain ⟨y0, y1, y2, y3, y4, y5, _, _, _, _, _, _, _⟩ := id HA.out
            go_wp2_with fail
            refine (SC.out _ HB8.out).mono ?_
            rintro e wi ⟨Av3, cv3, rfl, hrow3, hc⟩
            clear y0 y1 y2 y3 y4 y5 HA SC
            replace BN := Lib.hid (BN.out.below hc)
            replace BP := Lib.hid (BP.out.below hc)
            replace U8 := Lib.hid (U8.out.below hc)
            replace UZ := Lib.hid (UZ.out.below hc)
            replace HB8 := Lib.hid (from_ HB8.out hc)
            clear hc
            go_wp2_with fail
            refine (VAL3.out _ _ _ _ HB8.out hrow3).mono ?_
            rintro e wj ⟨X6, x6, Y6, z6, rfl, u6, v6, hc⟩
            go_upto_region 30 with fail
            have hax : Below wj.heap.size wj (wj.alloc (.cells #[.bool vK.n0, .bool vK.s0, .slice X6 vK.l0.length x6, .bool vK.n1, .bool vK.s1, .slice Y6 vK.l1.length z6] 29)) := (Below.refl _ _).alloc (Nat.le_refl _) _
            have B3 := Lib.hid (Box6.new wj (.bool vK.n0) (.bool vK.s0) (.slice X6 vK.l0.length x6) (.bool vK.n1) (.bool vK.s1) (.slice Y6 vK.l1.length z6) 29)
            obtain ⟨gK, hgK⟩ : ∃ g, g = wj.heap.size := ⟨_, rfl⟩
            rw [← hgK] at B3
            have hc8 := from_ hc hax
            have U6 := Lib.hid (u6.below hax)
            have V6 := Lib.hid (v6.below hax)
            replace BN := Lib.hid (BN.out.below hc8)
            replace BP := Lib.hid (BP.out.below hc8)
            replace U8 := Lib.hid (U8.out.below hc8)
            replace UZ := Lib.hid (UZ.out.below hc8)
            replace HB8 := Lib.hid (from_ HB8.out hc8)
            clear hc hax hc8 u6 v6
            generalize hWx : wj.alloc (.cells #[.bool vK.n0, .bool vK.s0, .slice X6 vK.l0.length x6, .bool vK.n1, .bool vK.s1, .slice Y6 vK.l1.length z6] 29) = Wj at *
            try simp only [← hgK]
            clear hWx hgK
            clear VAL3 hrow3
            obtain ⟨k0, k1, _, _, _⟩ := id BN.out
            obtain ⟨k2, k3, _, _, _⟩ := id BP.out
            go_wp2_with fail
            refine (MUL.out _ _ _ _ _ _ _ U8.out UZ.out).mono ?_
            rintro e wk ⟨C10, c10, rfl, uT, hc⟩
            clear k0 k1 k2 k3 BN BP
            go_upto_region 31 with fail
            have hax : Below wk.heap.size wk (wk.alloc (.cells #[.bool sT, .slice C10 lT.length c10] 25)) := (Below.refl _ _).alloc (Nat.le_refl _) _
            have BT := Lib.hid (Box.new wk (.bool sT) (.slice C10 lT.length c10) 25)
            obtain ⟨gT, hgT⟩ : ∃ g, g = wk.heap.size := ⟨_, rfl⟩
            rw [← hgT] at BT
            have hc8 := from_ hc hax
            have UT := Lib.hid (uT.below hax)
            replace B3 := Lib.hid (B3.out.below hc8)
            replace U6 := Lib.hid (U6.out.below hc8)
            replace V6 := Lib.hid (V6.out.below hc8)
            replace HB8 := Lib.hid (from_ HB8.out hc8)
            clear hc hax hc8 uT
            generalize hWx : wk.alloc (.cells #[.bool sT, .slice C10 lT.length c10] 25) = Wk at *
            try simp only [← hgT]
            clear hWx hgT
            clear MUL U8 UZ
            obtain ⟨k0, k1, _, _, _⟩ := id BT.out
            obtain ⟨y0, y1, y2, y3, y4, y5, _, _, _, _, _, _, _⟩ := id B3.out
            go_wp2_with fail
            refine (HAS3.out _ _ _ _ _ _ _ _ _ _ U6.out V6.out UT.out).mono ?_
            rintro e wl ⟨rfl, hc⟩
            have HE := Lib.hid (from_ (from_ HWR.out HB8.out) hc)
            clear hc k0 k1 y0 y1 y2 y3 y4 y5 B3 BT U6 V6 UT HAS3
            go_wp2
            go_ret
            exact ⟨by first | rfl | trivial, HE.out⟩

end Go.Proofs.YtamenhffplhddaaGreat
