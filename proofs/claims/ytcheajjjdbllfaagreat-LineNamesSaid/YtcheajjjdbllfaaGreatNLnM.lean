/- (*looker).keep and ranged where nothing goes wrong. No conditions but bounds. -/
import Derived.RegionCalls
import Derived.Test.YtcheajjjdbllfaaGreatNTelJ
set_option linter.unusedVariables false
set_option linter.unusedSimpArgs false
set_option maxRecDepth 100000
set_option maxHeartbeats 40000000
namespace Go.Proofs.YtcheajjjdbllfaaGreat
open Go.Lib (hid)
open Go.RowKit
variable {A B C D FA FB : Option Addr} {P Q : IvP} {Z1 Z2 Z3 Z4 Z5 Z6 : Zone} {a b c d fa fb ga gb lk : Nat} {q r : Iv} {w : World} {x y : Int}
theorem iv_n8 (hx : -9223372036854775808 ≤ x ∧ x ≤ 9223372036854775807) (hy : -9223372036854775808 ≤ y ∧ y ≤ 9223372036854775807) (h : x ≤ y) : IvN 8 x y := by
 have h1 : wN 1 = 18446744073709551616 := rfl
 have h2 : wN 1 ≤ wN 8 := wN_mono (by omega)
 have h3 : wN 8 ≤ bigZ := wN_le (by omega)
 exact ⟨.inr (.inr (by omega)), .inr (.inr (by omega)), h, by omega, by omega⟩
theorem iv_n (hx : -9223372036854775808 ≤ x ∧ x ≤ 9223372036854775807) (hy : -9223372036854775808 ≤ y ∧ y ≤ 9223372036854775807) (h : x ≤ y) {N : Nat} (hN : 8 ≤ N) : IvN N x y := (iv_n8 hx hy h).up hN
theorem allP_n : IvN 60 allP.1 allP.2 := iv_n (by decide) (by decide) (by decide) (by omega)
theorem lkeep_in {m : Int} {p : Iv} (hp : IvW P p) (gp : IvN 60 P.1 P.2) (hq : IvW Q q) (gq : IvN 60 Q.1 Q.2) (u1 : U64s w Z1 A a p.l0) (u2 : U64s w Z2 B b p.l1) (u3 : U64s w Z3 C c q.l0) (u4 : U64s w Z4 D d q.l1) (hin : Q.1 ≤ P.1 ∧ P.2 ≤ Q.2) :
  Calls Tryz.prog 62 #[.pointer (some ⟨lk, 0, none⟩), .agg #[.bool p.n0, .bool p.s0, .slice A p.l0.length a, .bool p.n1, .bool p.s1, .slice B p.l1.length b], .agg #[.bool q.n0, .bool q.s0, .slice C q.l0.length c, .bool q.n1, .bool q.s1, .slice D q.l1.length d], .int .u8 m] w fun e w' => e = .returned (.tuple #[.agg #[.bool p.n0, .bool p.s0, .slice A p.l0.length a, .bool p.n1, .bool p.s1, .slice B p.l1.length b], .bool true]) ∧ Below w.heap.size w w' := by
 have hB1 : Below w.heap.size w (w.alloc (.cells #[.bool p.n0, .bool p.s0, .slice A p.l0.length a, .bool p.n1, .bool p.s1, .slice B p.l1.length b] 29)) := (Below.refl _ w).alloc (Nat.le_refl _) _
 have hB2 := hB1.alloc hB1.size (.cells #[.bool q.n0, .bool q.s0, .slice C q.l0.length c, .bool q.n1, .bool q.s1, .slice D q.l1.length d] 29)
 have hB0 := hB2.alloc hB2.size (.cells #[.bool false, .bool false, .slice none 0 0, .bool false, .bool false, .slice none 0 0] 29)
 have q3 := Q3.new w (.bool p.n0) (.bool p.s0) (.slice A p.l0.length a) (.bool p.n1) (.bool p.s1) (.slice B p.l1.length b) (.bool q.n0) (.bool q.s0) (.slice C q.l0.length c) (.bool q.n1) (.bool q.s1) (.slice D q.l1.length d) (.bool false) (.bool false) (.slice none 0 0) (.bool false) (.bool false) (.slice none 0 0) 29
 obtain ⟨W1, hW1⟩ : ∃ W, ((w.alloc (.cells #[.bool p.n0, .bool p.s0, .slice A p.l0.length a, .bool p.n1, .bool p.s1, .slice B p.l1.length b] 29)).alloc (.cells #[.bool q.n0, .bool q.s0, .slice C q.l0.length c, .bool q.n1, .bool q.s1, .slice D q.l1.length d] 29)).alloc (.cells #[.bool false, .bool false, .slice none 0 0, .bool false, .bool false, .slice none 0 0] 29) = W := ⟨_, rfl⟩
 replace q3 := q3.1
 rw [hW1] at hB0 q3
 obtain ⟨HI, HB, HQ⟩ := hid3 (iin_w (w := W1) hp gp hq gq (u1.below hB0) (u2.below hB0) (u3.below hB0) (u4.below hB0) (decide_eq_true hin)) hB0 q3
 obtain ⟨qa, qb, qc⟩ := q3
 obtain ⟨x0, x1, x2, x3, x4, x5, _, _, _, _, _, _, _⟩ := qa
 obtain ⟨y0, y1, y2, y3, y4, y5, _, _, _, _, _, _, _⟩ := qb
 clear qc
 clear hB1 hB2 hB0 hp gp hq gq u1 u2 u3 u4 hin
 go_enter Tryz.func62, Tryz.ntmps62
 go_wp2_with fail
 refine HI.out.mono ?_
 rintro e w2 ⟨rfl, hc⟩
 replace HQ := hid (HQ.out.below hc)
 have HB2 := hid (from_ HB.out hc)
 have HP := hid (HQ.out.2.2.put (w := w) HB2.out (by omega) (.bool p.n0) (.bool p.s0) (.slice A p.l0.length a) (.bool p.n1) (.bool p.s1) (.slice B p.l1.length b))
 clear hW1 x0 x1 x2 x3 x4 x5 y0 y1 y2 y3 y4 y5 hc HI
 obtain ⟨qa, qb, qc⟩ := id HQ.out
 have x0 := qa.all
 have y0 := qc.cf
 clear qb
 go_wp2
 refine bodyPost_ret (res_itv2 rfl _ (w.heap.size + 2) rfl HP.out.box) rfl ?_
 exact ⟨rfl, HP.out.bel⟩
theorem lranged_in {n f : Nat} {F : Option Addr} {p : Iv} (hp : IvW P p) (gp : IvN 60 P.1 P.2) (u1 : U64s w Z1 A a p.l0) (u2 : U64s w Z2 B b p.l1) (hin : allP.1 ≤ P.1 ∧ P.2 ≤ allP.2) :
  Calls Tryz.prog 67 #[.pointer (some ⟨lk, 0, none⟩), .agg #[.bool p.n0, .bool p.s0, .slice A p.l0.length a, .bool p.n1, .bool p.s1, .slice B p.l1.length b], .slice F n f] w fun e w' => e = .returned (.tuple #[.agg #[.bool p.n0, .bool p.s0, .slice A p.l0.length a, .bool p.n1, .bool p.s1, .slice B p.l1.length b, .slice F n f], .bool true]) ∧ Below w.heap.size w w' := by
 obtain ⟨q, hq⟩ : ∃ r, IvW allP r := ⟨_, IvW.mk _⟩
 have gq : IvN 60 allP.1 allP.2 := allP_n
 have hB1 : Below w.heap.size w (w.alloc (.cells #[.bool p.n0, .bool p.s0, .slice A p.l0.length a, .bool p.n1, .bool p.s1, .slice B p.l1.length b] 29)) := (Below.refl _ w).alloc (Nat.le_refl _) _
 have hB0 := hB1.alloc hB1.size (.cells #[.bool false, .bool false, .slice none 0 0, .bool false, .bool false, .slice none 0 0, .slice none 0 0] 70)
 obtain ⟨W1, hW1⟩ : ∃ W, (w.alloc (.cells #[.bool p.n0, .bool p.s0, .slice A p.l0.length a, .bool p.n1, .bool p.s1, .slice B p.l1.length b] 29)).alloc (.cells #[.bool false, .bool false, .slice none 0 0, .bool false, .bool false, .slice none 0 0, .slice none 0 0] 70) = W := ⟨_, rfl⟩
 rw [hW1] at hB0
 have HA : Hid (Box6 W1 w.heap.size (.bool p.n0) (.bool p.s0) (.slice A p.l0.length a) (.bool p.n1) (.bool p.s1) (.slice B p.l1.length b)) := hid (by rw [← hW1]; exact (Box6.new w _ _ _ _ _ _ _).alloc _)
 have HR : Hid (BoxL W1 (w.heap.size + 1) [.bool false, .bool false, .slice none 0 0, .bool false, .bool false, .slice none 0 0, .slice none 0 0]) := hid (by
  rw [← hW1]
  have h := BoxL.new (w.alloc (.cells #[.bool p.n0, .bool p.s0, .slice A p.l0.length a, .bool p.n1, .bool p.s1, .slice B p.l1.length b] 29)) [.bool false, .bool false, .slice none 0 0, .bool false, .bool false, .slice none 0 0, .slice none 0 0] 70
  simpa using h)
 obtain ⟨HB, HAL, HK⟩ := hid3 hB0 (lall_r (w := W1.drew) hq) (fun (W : World) (h : Below w.heap.size w W) (C D : Option Addr) (c d : Nat) (K : Nat) (u3 : U64s W (new K) C c q.l0) (u4 : U64s W (new K) D d q.l1) => lkeep_in (lk := lk) (m := 2) hp gp hq gq (u1.below h) (u2.below h) u3 u4 hin)
 have z0 := HA.out.all
 clear hB1 hB0 hp gp hq gq u1 u2 hin
 go_enter Tryz.func67, Tryz.ntmps67
 go_wp2
 clear hW1
 first | go_region_with (first
  | (go_at_call 36; with_reducible refine HAL.out.mono ?_; rintro e w2 ⟨C, c, D, d, rfl, v1, v2, hc⟩; have hc2 : Below W1.heap.size W1 w2 := from_ ((Below.refl W1.heap.size W1).drew) hc; have hB2 := from_ HB.out hc2; have y0 := (HA.out.below hc2).all)
  | (go_at_call 62; with_reducible refine (HK.out _ hB2 _ _ _ _ _ v1 v2).mono ?_; rintro e w3 ⟨rfl, hc3⟩; have HA3 := hid ((HA.out.below hc2).below hc3); have HR3 := hid ((HR.out.below hc2).below hc3); have HB3 := hid (from_ hB2 hc3); obtain ⟨x0, x1, x2, x3, x4, x5, f0, f1, f2, f3, f4, f5, _⟩ := id HA3.out)) | fail
 all_goals
  obtain ⟨HA4, HR4⟩ := hid2 (HA3.out.put (w := w) HB3.out (Nat.le_refl _) (.bool p.n0) (.bool p.s0) (.slice A p.l0.length a) (.bool p.n1) (.bool p.s1) (.slice B p.l1.length b)) ((((((HR3.out.other w.heap.size 0 (by omega) (.bool p.n0)).other w.heap.size 1 (by omega) (.bool p.s0)).other w.heap.size 2 (by omega) (.slice A p.l0.length a)).other w.heap.size 3 (by omega) (.bool p.n1)).other w.heap.size 4 (by omega) (.bool p.s1)).other w.heap.size 5 (by omega) (.slice B p.l1.length b))
  have HB4 := hid HA4.out.bel
  replace HA4 := hid HA4.out.box
  generalize (((((w3.setCell ⟨w.heap.size, 0, none⟩ (.bool p.n0)).setCell ⟨w.heap.size, 1, none⟩ (.bool p.s0)).setCell ⟨w.heap.size, 2, none⟩ (.slice A p.l0.length a)).setCell ⟨w.heap.size, 3, none⟩ (.bool p.n1)).setCell ⟨w.heap.size, 4, none⟩ (.bool p.s1)).setCell ⟨w.heap.size, 5, none⟩ (.slice B p.l1.length b) = W4 at *
  clear x0 x1 x2 x3 x4 x5 y0 z0 f0 f1 f2 f3 f4 f5 v1 v2 hc hc2 hB2 hc3 HK HAL HA3 HR3 HB3 HA HR
  obtain ⟨HP, HBF⟩ := hid2 (HR4.out.put7 (.bool p.n0) (.bool p.s0) (.slice A p.l0.length a) (.bool p.n1) (.bool p.s1) (.slice B p.l1.length b) (.slice F n f)) (HB4.out.grown (grown_set7 W4 (w.heap.size + 1) (.bool p.n0) (.bool p.s0) (.slice A p.l0.length a) (.bool p.n1) (.bool p.s1) (.slice B p.l1.length b) (.slice F n f)) HB4.out.size (fun k e => by injection e; omega))
  obtain ⟨⟨r0, r1, r2, r3, r4, r5, r6⟩, q0, q1, q2, q3, q4, q5, q6⟩ := HR4.out.all7
  have x0 := HA4.out.cf
  go_wp2
  refine bodyPost_ret (res_lined2 rfl _ (w.heap.size + 1) rfl HP.out) rfl ?_
  exact ⟨rfl, HBF.out⟩
theorem lstraight2 {Z Y : Zone} {Ps Qs : List IvP} (ca : w.cell? ⟨ga, 6, none⟩ = some (.slice FA (fmOf Ps).length fa)) (cb : w.cell? ⟨gb, 6, none⟩ = some (.slice FB (fmOf Qs).length fb)) (ha : IvsAt w Z FA fa (fmOf Ps)) (hb : IvsAt w Y FB fb (fmOf Qs)) (hp : FmW 32 Ps (fmOf Ps)) (hq : FmW 32 Qs (fmOf Qs)) (hl : 1 ≤ Ps.length ∧ Ps.length ≤ 64) (hpq : Qs.length = Ps.length) :
  Calls Tryz.prog 72 #[.pointer (some ⟨ga, 0, none⟩), .pointer (some ⟨gb, 0, none⟩)] w fun e w' => ∃ Av cv, e = .returned (.tuple #[.slice Av (fmOf (addLL Ps Qs)).length cv, .int .i64 0]) ∧ IvsAt w' (new w.heap.size) Av cv (fmOf (addLL Ps Qs)) ∧ Below w.heap.size w w' ∧ NewA w.heap.size Av := by
 have HA := hid (ladd_n ha hb hp hq (by rw [fmOf_len]; exact hl) (by rw [fmOf_len, fmOf_len]; exact hpq))
 clear ha hb hp hq hl hpq
 generalize (fmOf Ps).length = L at *
 generalize (fmOf Qs).length = M at *
 generalize fmOf (addLL Ps Qs) = rs at *
 go_enter Tryz.func72, Tryz.ntmps72
 go_wp2_with fail
 refine HA.out.mono ?_
 rintro e w1 ⟨Av, cv, rfl, hv, hc, hn⟩
 have HV := hid (And.intro hv (And.intro hc hn))
 clear hv hc hn ca cb
 go_wp2
 go_ret2
 exact ⟨_, _, rfl, HV.out⟩
theorem lstraight1_add {gw : Nat} {Ps Qs : List IvP} {p : Iv} (hka : BoxL w ga [.bool p.n0, .bool p.s0, .slice A p.l0.length a, .bool p.n1, .bool p.s1, .slice B p.l1.length b, .slice FA (fmOf Ps).length fa]) (hkb : BoxL w gb [.bool q.n0, .bool q.s0, .slice C q.l0.length c, .bool q.n1, .bool q.s1, .slice D q.l1.length d, .slice FB (fmOf Qs).length fb])
  (hw : w.cell? ⟨gw, 0, none⟩ = some (.pointer (some ⟨lk, 0, none⟩))) (ha : IvsAt w Z5 FA fa (fmOf Ps)) (hb : IvsAt w Z6 FB fb (fmOf Qs)) (hp : FmW 32 Ps (fmOf Ps)) (hq : FmW 32 Qs (fmOf Qs)) (hl : 1 ≤ Ps.length ∧ Ps.length ≤ 64) (hpq : Qs.length = Ps.length)
  (ip : IvW P p) (gp : IvN 59 P.1 P.2) (iq : IvW Q q) (gq : IvN 59 Q.1 Q.2) (u1 : U64s w Z1 A a p.l0) (u2 : U64s w Z2 B b p.l1) (u3 : U64s w Z3 C c q.l0) (u4 : U64s w Z4 D d q.l1) (hr : IvW (ivA P Q) r) (hin : allP.1 ≤ (ivA P Q).1 ∧ (ivA P Q).2 ≤ allP.2) (gr : IvN 60 (ivA P Q).1 (ivA P Q).2) :
  Calls Tryz.prog 68 #[.func (.func 71) #[] #[], .func (.func 72) #[] #[.pointer (some ⟨ga, 0, none⟩), .pointer (some ⟨gb, 0, none⟩)], .pointer (some ⟨ga, 0, none⟩), .pointer (some ⟨gb, 0, none⟩), .pointer (some ⟨gw, 0, none⟩)] w fun e w' =>
   ∃ rA ra rB rb F f, e = .returned (.tuple #[.agg #[.bool r.n0, .bool r.s0, .slice rA r.l0.length ra, .bool r.n1, .bool r.s1, .slice rB r.l1.length rb, .slice F (fmOf (addLL Ps Qs)).length f], .bool true]) ∧ U64s w' (new w.heap.size) rA ra r.l0 ∧ U64s w' (new w.heap.size) rB rb r.l1 ∧ IvsAt w' (new w.heap.size) F f (fmOf (addLL Ps Qs)) ∧ NewA w.heap.size F ∧ Below w.heap.size w w' := by
 have hB0 : Below w.heap.size w (w.alloc (.cells #[.bool false, .bool false, .slice none 0 0, .bool false, .bool false, .slice none 0 0, .slice none 0 0] 70)) := (Below.refl _ w).alloc (Nat.le_refl _) _
 obtain ⟨W1, hW1⟩ : ∃ W, w.alloc (.cells #[.bool false, .bool false, .slice none 0 0, .bool false, .bool false, .slice none 0 0, .slice none 0 0] 70) = W := ⟨_, rfl⟩
 rw [hW1] at hB0
 have HR : Hid (BoxL W1 w.heap.size [.bool false, .bool false, .slice none 0 0, .bool false, .bool false, .slice none 0 0, .slice none 0 0]) := hid (by rw [← hW1]; exact BoxL.new w [.bool false, .bool false, .slice none 0 0, .bool false, .bool false, .slice none 0 0, .slice none 0 0] _)
 have hsz : w.heap.size + 1 ≤ W1.heap.size := by rw [← hW1]; simp
 obtain ⟨HZ, HB, HKA, HKB⟩ := hid4 hsz hB0 (hka.below hB0) (hkb.below hB0)
 have hw1 := keepC hB0 hw
 obtain ⟨HAD, HS, HRN⟩ := hid3 (iadd_w (w := W1) ip iq hr gp gq (by omega) (u1.below hB0) (u2.below hB0) (u3.below hB0) (u4.below hB0)) (fun (W : World) (h : Below w.heap.size w W) => lstraight2 (hka.below h).all7.1.2.2.2.2.2.2 (hkb.below h).all7.1.2.2.2.2.2.2 (ha.below h) (hb.below h) hp hq hl hpq) (fun (W : World) (F A B : Option Addr) (n f a b K : Nat) (h1 : U64s W (new K) A a r.l0) (h2 : U64s W (new K) B b r.l1) => lranged_in (lk := lk) (n := n) (f := f) (F := F) hr gr h1 h2 hin)
 obtain ⟨⟨x0, x1, x2, x3, x4, x5, x6⟩, _⟩ := HKA.out.all7
 obtain ⟨⟨y0, y1, y2, y3, y4, y5, y6⟩, _⟩ := HKB.out.all7
 clear hB0 hka hkb hw ha hb hp hq hl hpq ip gp iq gq u1 u2 u3 u4 hr hin gr hsz
 generalize (fmOf Ps).length = L at *
 generalize (fmOf Qs).length = M at *
 generalize fmOf (addLL Ps Qs) = rs at *
 go_enter Tryz.func68, Tryz.ntmps68
 go_wp2_with fail
 refine HAD.out.mono ?_
 rintro e w2 ⟨rA, ra, rB, rb, rfl, v1, v2, hc⟩
 clear hW1 x0 x1 x2 x3 x4 x5 x6 y0 y1 y2 y3 y4 y5 y6 HAD
 have hax := (Below.refl w2.heap.size w2).alloc (Nat.le_refl _) (.cells #[.bool r.n0, .bool r.s0, .slice rA r.l0.length ra, .bool r.n1, .bool r.s1, .slice rB r.l1.length rb] 29)
 have HX : Hid (Box6 (w2.alloc (.cells #[.bool r.n0, .bool r.s0, .slice rA r.l0.length ra, .bool r.n1, .bool r.s1, .slice rB r.l1.length rb] 29)) w2.heap.size (.bool r.n0) (.bool r.s0) (.slice rA r.l0.length ra) (.bool r.n1) (.bool r.s1) (.slice rB r.l1.length rb)) := hid (Box6.new w2 _ _ _ _ _ _ _)
 have HB2 := hid (from_ (from_ HB.out hc) hax)
 obtain ⟨HS2, HR2⟩ := hid2 (HS.out _ HB2.out) ((HR.out.below hc).below hax)
 have hw2 := keepC hax (keepC hc hw1)
 obtain ⟨V1, V2, HZ2⟩ := hid3 (v1.below hax) (v2.below hax) (Nat.le_trans HZ.out (Nat.le_trans hc.size hax.size))
 clear hax hc v1 v2 hw1 HS HKA HKB HR HB
 go_wp2_with fail
 refine HS2.out.mono ?_
 rintro e w3 ⟨F, f, rfl, hf, hc, hn⟩
 obtain ⟨HX3, HB3, HR3⟩ := hid3 (HX.out.below hc) (from_ HB2.out hc) (HR2.out.below hc)
 have hw3 := keepC hc hw2
 have HRG := hid (HRN.out w3 F rA rB rs.length f ra rb _ (V1.out.below hc) (V2.out.below hc))
 replace V1 := hid (V1.out.below hc)
 replace V2 := hid (V2.out.below hc)
 have HF := hid (And.intro hf hn)
 clear hc hf hn HX HS2 HRN hw2 HR2
 obtain ⟨x0, x1, x2, x3, x4, x5, _, _, _, _, _, _, _⟩ := id HX3.out
 go_wp2_with fail
 refine HRG.out.mono ?_
 rintro e w4 ⟨rfl, hc⟩
 have hgr := grown_set7 w4 w.heap.size (.bool r.n0) (.bool r.s0) (.slice rA r.l0.length ra) (.bool r.n1) (.bool r.s1) (.slice rB r.l1.length rb) (.slice F rs.length f)
 obtain ⟨HP, HBF, U1, U2, U3, HN⟩ := hid6 ((HR3.out.below hc).put7 (.bool r.n0) (.bool r.s0) (.slice rA r.l0.length ra) (.bool r.n1) (.bool r.s1) (.slice rB r.l1.length rb) (.slice F rs.length f)) ((from_ HB3.out hc).grown hgr (by have := HB3.out.size; have := hc.size; omega) (fun k e => by injection e; omega)) (((V1.out.below hc).keepN hgr (fun h => by have h' : W1.heap.size ≤ w.heap.size := h; have := HZ.out; omega)).mono (Y := new w.heap.size) (new_le (by have := HZ.out; omega))) (((V2.out.below hc).keepN hgr (fun h => by have h' : W1.heap.size ≤ w.heap.size := h; have := HZ.out; omega)).mono (Y := new w.heap.size) (new_le (by have := HZ.out; omega))) (((HF.out.1.below hc).keepN HF.out.2 hgr (fun h => by have h' : _ ≤ w.heap.size := h; have := HZ2.out; omega) (by have := HZ2.out; omega)).mono (Y := new w.heap.size) (new_le (by have := HZ2.out; omega))) (show NewA w.heap.size F from fun b o e => by have h1 := HF.out.2 b o e; have := HZ2.out; omega)
 have HR4 := hid (HR3.out.below hc)
 obtain ⟨⟨r0, r1, r2, r3, r4, r5, r6⟩, q0, q1, q2, q3, q4, q5, q6⟩ := HR4.out.all7
 clear x0 x1 x2 x3 x4 x5 hc hgr hw3 HRG HX3 V1 V2 HF HR3
 go_wp2
 refine bodyPost_ret (res_lined2 rfl _ w.heap.size rfl HP.out) rfl ?_
 exact ⟨_, _, _, _, _, _, rfl, U1.out, U2.out, U3.out, HN.out, HBF.out⟩
theorem lstraight_add {Ps Qs : List IvP} {p : Iv} (ha : IvsAt w Z5 FA fa (fmOf Ps)) (hb : IvsAt w Z6 FB fb (fmOf Qs)) (hp : FmW 32 Ps (fmOf Ps)) (hq : FmW 32 Qs (fmOf Qs)) (hl : 1 ≤ Ps.length ∧ Ps.length ≤ 64) (hpq : Qs.length = Ps.length)
  (ip : IvW P p) (gp : IvN 59 P.1 P.2) (iq : IvW Q q) (gq : IvN 59 Q.1 Q.2) (u1 : U64s w Z1 A a p.l0) (u2 : U64s w Z2 B b p.l1) (u3 : U64s w Z3 C c q.l0) (u4 : U64s w Z4 D d q.l1) (hr : IvW (ivA P Q) r) (hin : allP.1 ≤ (ivA P Q).1 ∧ (ivA P Q).2 ≤ allP.2) (gr : IvN 60 (ivA P Q).1 (ivA P Q).2) :
  Calls Tryz.prog 44 #[.pointer (some ⟨lk, 0, none⟩), .int .u8 5, .agg #[.bool p.n0, .bool p.s0, .slice A p.l0.length a, .bool p.n1, .bool p.s1, .slice B p.l1.length b, .slice FA (fmOf Ps).length fa], .agg #[.bool q.n0, .bool q.s0, .slice C q.l0.length c, .bool q.n1, .bool q.s1, .slice D q.l1.length d, .slice FB (fmOf Qs).length fb]] w fun e w' =>
   ∃ rA ra rB rb F f, e = .returned (.tuple #[.agg #[.bool r.n0, .bool r.s0, .slice rA r.l0.length ra, .bool r.n1, .bool r.s1, .slice rB r.l1.length rb, .slice F (fmOf (addLL Ps Qs)).length f], .bool true]) ∧ U64s w' (new w.heap.size) rA ra r.l0 ∧ U64s w' (new w.heap.size) rB rb r.l1 ∧ IvsAt w' (new w.heap.size) F f (fmOf (addLL Ps Qs)) ∧ NewA w.heap.size F ∧ Below w.heap.size w w' := by
 obtain ⟨W1, hW1⟩ : ∃ W, ((((w.alloc (.cells #[.pointer (some ⟨lk, 0, none⟩)] 65)).alloc (.cells #[.bool p.n0, .bool p.s0, .slice A p.l0.length a, .bool p.n1, .bool p.s1, .slice B p.l1.length b, .slice FA (fmOf Ps).length fa] 70)).alloc (.cells #[.bool q.n0, .bool q.s0, .slice C q.l0.length c, .bool q.n1, .bool q.s1, .slice D q.l1.length d, .slice FB (fmOf Qs).length fb] 70)).alloc (.cells #[.bool false, .bool false, .slice none 0 0, .bool false, .bool false, .slice none 0 0, .slice none 0 0] 70)) = W := ⟨_, rfl⟩
 have hB0 : Below w.heap.size w W1 := by
  rw [← hW1]
  exact ((((Below.refl _ w).alloc (Nat.le_refl _) _).alloc (by simp) _).alloc (by first | (simp; done) | (simp; omega)) _).alloc (by first | (simp; done) | (simp; omega)) _
 have hw1 : W1.cell? ⟨w.heap.size, 0, none⟩ = some (.pointer (some ⟨lk, 0, none⟩)) := by
  rw [← hW1]
  exact keepC ((bal_.alloc (by simp) _).alloc (by first | (simp; done) | (simp; omega)) _) (cell_newest (W := w) rfl rfl)
 have hka : BoxL W1 (w.heap.size + 1) [.bool p.n0, .bool p.s0, .slice A p.l0.length a, .bool p.n1, .bool p.s1, .slice B p.l1.length b, .slice FA (fmOf Ps).length fa] := by
  rw [← hW1]
  have h := ((BoxL.new (w.alloc (.cells #[.pointer (some ⟨lk, 0, none⟩)] 65)) [.bool p.n0, .bool p.s0, .slice A p.l0.length a, .bool p.n1, .bool p.s1, .slice B p.l1.length b, .slice FA (fmOf Ps).length fa] 70).alloc (.cells #[.bool q.n0, .bool q.s0, .slice C q.l0.length c, .bool q.n1, .bool q.s1, .slice D q.l1.length d, .slice FB (fmOf Qs).length fb] 70)).alloc (.cells #[.bool false, .bool false, .slice none 0 0, .bool false, .bool false, .slice none 0 0, .slice none 0 0] 70)
  rw [show (w.alloc (.cells #[.pointer (some ⟨lk, 0, none⟩)] 65)).heap.size = w.heap.size + 1 by simp] at h
  exact h
 have hkb : BoxL W1 (w.heap.size + 2) [.bool q.n0, .bool q.s0, .slice C q.l0.length c, .bool q.n1, .bool q.s1, .slice D q.l1.length d, .slice FB (fmOf Qs).length fb] := by
  rw [← hW1]
  have h := (BoxL.new ((w.alloc (.cells #[.pointer (some ⟨lk, 0, none⟩)] 65)).alloc (.cells #[.bool p.n0, .bool p.s0, .slice A p.l0.length a, .bool p.n1, .bool p.s1, .slice B p.l1.length b, .slice FA (fmOf Ps).length fa] 70)) [.bool q.n0, .bool q.s0, .slice C q.l0.length c, .bool q.n1, .bool q.s1, .slice D q.l1.length d, .slice FB (fmOf Qs).length fb] 70).alloc (.cells #[.bool false, .bool false, .slice none 0 0, .bool false, .bool false, .slice none 0 0, .slice none 0 0] 70)
  rw [show ((w.alloc (.cells #[.pointer (some ⟨lk, 0, none⟩)] 65)).alloc (.cells #[.bool p.n0, .bool p.s0, .slice A p.l0.length a, .bool p.n1, .bool p.s1, .slice B p.l1.length b, .slice FA (fmOf Ps).length fa] 70)).heap.size = w.heap.size + 2 by simp] at h
  exact h
 have HR : Hid (BoxL W1 (w.heap.size + 3) [.bool false, .bool false, .slice none 0 0, .bool false, .bool false, .slice none 0 0, .slice none 0 0]) := hid (by
  rw [← hW1]
  have h := BoxL.new (((w.alloc (.cells #[.pointer (some ⟨lk, 0, none⟩)] 65)).alloc (.cells #[.bool p.n0, .bool p.s0, .slice A p.l0.length a, .bool p.n1, .bool p.s1, .slice B p.l1.length b, .slice FA (fmOf Ps).length fa] 70)).alloc (.cells #[.bool q.n0, .bool q.s0, .slice C q.l0.length c, .bool q.n1, .bool q.s1, .slice D q.l1.length d, .slice FB (fmOf Qs).length fb] 70)) [.bool false, .bool false, .slice none 0 0, .bool false, .bool false, .slice none 0 0, .slice none 0 0] 70
  rw [show (((w.alloc (.cells #[.pointer (some ⟨lk, 0, none⟩)] 65)).alloc (.cells #[.bool p.n0, .bool p.s0, .slice A p.l0.length a, .bool p.n1, .bool p.s1, .slice B p.l1.length b, .slice FA (fmOf Ps).length fa] 70)).alloc (.cells #[.bool q.n0, .bool q.s0, .slice C q.l0.length c, .bool q.n1, .bool q.s1, .slice D q.l1.length d, .slice FB (fmOf Qs).length fb] 70)).heap.size = w.heap.size + 3 by simp] at h
  exact h)
 have hsz : w.heap.size + 4 ≤ W1.heap.size := by rw [← hW1]; simp
 obtain ⟨HZ, HB, H1⟩ := hid3 hsz hB0 (lstraight1_add hka hkb hw1 (ha.below hB0) (hb.below hB0) hp hq hl hpq ip gp iq gq (u1.below hB0) (u2.below hB0) (u3.below hB0) (u4.below hB0) hr hin gr)
 clear hB0 hw1 hka hkb ha hb hp hq hl hpq ip gp iq gq u1 u2 u3 u4 hr hin gr hsz
 generalize (fmOf Ps).length = L at *
 generalize (fmOf Qs).length = M at *
 generalize fmOf (addLL Ps Qs) = rs at *
 go_enter Tryz.func44, Tryz.ntmps44
 go_wp2_with fail
 refine H1.out.mono ?_
 rintro e w2 ⟨rA, ra, rB, rb, F, f, rfl, v1, v2, hf, hn, hc⟩
 clear hW1 H1
 have hgr := grown_set7 w2 (w.heap.size + 3) (.bool r.n0) (.bool r.s0) (.slice rA r.l0.length ra) (.bool r.n1) (.bool r.s1) (.slice rB r.l1.length rb) (.slice F rs.length f)
 obtain ⟨HP, HBF, U1, U2, U3, HN⟩ := hid6 ((HR.out.below hc).put7 (.bool r.n0) (.bool r.s0) (.slice rA r.l0.length ra) (.bool r.n1) (.bool r.s1) (.slice rB r.l1.length rb) (.slice F rs.length f)) ((from_ HB.out hc).grown hgr (by have := HB.out.size; have := hc.size; omega) (fun k e => by injection e; omega)) ((v1.keepN hgr (fun h => by have h' : W1.heap.size ≤ w.heap.size + 3 := h; have := HZ.out; omega)).mono (Y := new w.heap.size) (new_le (by have := HZ.out; omega))) ((v2.keepN hgr (fun h => by have h' : W1.heap.size ≤ w.heap.size + 3 := h; have := HZ.out; omega)).mono (Y := new w.heap.size) (new_le (by have := HZ.out; omega))) ((hf.keepN hn hgr (fun h => by have h' : W1.heap.size ≤ w.heap.size + 3 := h; have := HZ.out; omega) (by have := HZ.out; omega)).mono (Y := new w.heap.size) (new_le (by have := HZ.out; omega))) (show NewA w.heap.size F from fun b o e => by have h1 := hn b o e; have := HZ.out; omega)
 have HR4 := hid (HR.out.below hc)
 obtain ⟨⟨r0, r1, r2, r3, r4, r5, r6⟩, q0, q1, q2, q3, q4, q5, q6⟩ := HR4.out.all7
 clear hc hgr v1 v2 hf hn HR
 go_wp2
 refine bodyPost_ret (res_lined2 rfl _ (w.heap.size + 3) rfl HP.out) rfl ?_
 exact ⟨_, _, _, _, _, _, rfl, U1.out, U2.out, U3.out, HN.out, HBF.out⟩
end Go.Proofs.YtcheajjjdbllfaaGreat
