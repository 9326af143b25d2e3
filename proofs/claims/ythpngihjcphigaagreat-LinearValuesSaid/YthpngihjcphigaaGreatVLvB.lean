/- Linear forms, the document's: Value of forms given by their ends' numbers. No conditions but bounds on lengths. -/
import Derived.Deep.RegionHeld3
import Derived.Test.YthpngihjcphigaaGreatVTelC
import Derived.Test.YthpngihjcphigaaGreatVLinU
import Derived.Test.YthpngihjcphigaaGreatVLvA
import Derived.Test.YthpngihjcphigaaGreatVTelL
import Derived.Test.YthpngihjcphigaaGreatVHeldL
import Derived.Test.YthpngihjcphigaaGreatVFenceR
set_option linter.unusedVariables false
set_option linter.unusedSimpArgs false
set_option maxRecDepth 100000
set_option maxHeartbeats 40000000
namespace Go.Proofs.YthpngihjcphigaaGreat
open Go.Lib (hid)
open Go.RowKit
variable {A B : Option Addr} {Y Z : Zone} {c d : Nat} {w : World}
theorem rvalue_bad {ps qs : List Iv} {g : Int} (ha : IvsAt w Z A c ps) (hb : IvsAt w Y B d qs) (hs : ∀ p ∈ ps, p.short) (hs2 : ∀ p ∈ qs, p.short) (hg : errFB ps qs = g) (h0 : g ≠ 0) :
  Calls Tryz.prog 21 #[.slice A ps.length c, .slice B qs.length d] w fun e w' => e = .returned (.tuple #[.agg #[.bool false, .bool false, .slice none 0 0, .bool false, .bool false, .slice none 0 0], .int .i64 g]) ∧ Below w.heap.size w w' := by
 have hB0 : Below w.heap.size w (w.alloc (.cells #[.bool false, .bool false, .slice none 0 0, .bool false, .bool false, .slice none 0 0] 29)) := (Below.refl _ w).alloc (Nat.le_refl _) _
 have hck := rboxed_any (ha.below hB0) (hb.below hB0) hs hs2
 rw [hg] at hck
 obtain ⟨HR, Hck, Hb0⟩ := hid3 (Box6.new w (.bool false) (.bool false) (.slice none 0 0) (.bool false) (.bool false) (.slice none 0 0) 29) hck hB0
 have hbe : (g == 0) = false := beq_eq_false_iff_ne.2 h0
 clear ha hb hs hs2 hg hck hB0
 generalize ps.length = L at *
 generalize qs.length = M at *
 go_enter Tryz.func21, Tryz.ntmps21
 go_wp2_with fail
 refine Hck.out.mono ?_
 rintro e w1 ⟨rfl, hc⟩
 have HP := hid ((HR.out.below hc).put (w := w) (from_ Hb0.out hc) (Nat.le_refl _) (.bool false) (.bool false) (.slice none 0 0) (.bool false) (.bool false) (.slice none 0 0))
 obtain ⟨g0, g1, g2, g3, g4, g5, f0', f1', f2', f3', f4', f5', _⟩ := HR.out.below hc
 clear hc Hck HR
 go_wp2
 refine bodyPost_ret (res_itv2 rfl _ w.heap.size rfl HP.out.box) rfl ?_
 exact ⟨rfl, HP.out.bel⟩
theorem rvalue_run {n : Nat} {ps qs : List Iv} {Ps Qs : List IvP} {R : Nat → IvP} {r : Iv} (ha : IvsAt w Z A c ps) (hb : IvsAt w Y B d qs) (hp : FmW 8 Ps ps) (hq : FmW 8 Qs qs) (hn : qs.length = n) (hpn : ps.length = n + 1) (h64 : n < 64)
  (hR0 : ∀ (h : 0 < Ps.length), R 0 = Ps[0]) (hRs : ∀ k (h1 : k + 1 < Ps.length) (h2 : k < Qs.length), R (k + 1) = ivA (R k) (ivM Ps[k + 1] Qs[k]) ∧ IvN 30 (ivM Ps[k + 1] Qs[k]).1 (ivM Ps[k + 1] Qs[k]).2) (hRN : ∀ k, k ≤ n → IvN 30 (R k).1 (R k).2) (hr : IvW (R n) r) :
  Calls Tryz.prog 21 #[.slice A (n + 1) c, .slice B n d] w fun e w' => ∃ rA ra rB rb, e = .returned (.tuple #[.agg #[.bool r.n0, .bool r.s0, .slice rA r.l0.length ra, .bool r.n1, .bool r.s1, .slice rB r.l1.length rb], .int .i64 0]) ∧ U64s w' old rA ra r.l0 ∧ U64s w' old rB rb r.l1 ∧ Below w.heap.size w w' := by
 have hB0 : Below w.heap.size w (w.alloc (.cells #[.bool false, .bool false, .slice none 0 0, .bool false, .bool false, .slice none 0 0] 29)) := (Below.refl _ w).alloc (Nat.le_refl _) _
 have hsz0 : (w.alloc (.cells #[.bool false, .bool false, .slice none 0 0, .bool false, .bool false, .slice none 0 0] 29)).heap.size = w.heap.size + 1 := by simp
 have HZ := hid (BZ.new w 29)
 have hck := rboxed_any (ha.below hB0) (hb.below hB0) (hp.short (by omega)) (hq.short (by omega))
 rw [show errFB ps qs = 0 by unfold errFB; rw [if_pos ⟨hp.err (by omega) (by omega), hq.all (by omega)⟩, if_pos (by omega)]] at hck
 rw [hpn, hn] at hck
 have pl := hp.len
 have ql := hq.len
 have ha0 := ha.below hB0
 have hb0 := hb.below hB0
 obtain ⟨b, o, X0, x0, X1, x1, rfl, hbb, hX⟩ := ha0.at (j := 0) (by omega)
 have c0 := hX.1
 have HW := hid hX.2
 simp only [Nat.zero_mul, Nat.add_zero] at c0
 have hp0 := hp.iv 0 (by omega) (by omega)
 clear hX
 generalize hW0 : w.alloc (.cells #[.bool false, .bool false, .slice none 0 0, .bool false, .bool false, .slice none 0 0] 29) = W0 at *
 have HF : Hid (∀ j (hj : j < n + 1), ∃ (p : Iv) (F0 : Option Addr) (f0 : Nat) (F1 : Option Addr) (f1 : Nat), (W0.cell? ⟨b, o + j * 6, none⟩ = some (.bool p.n0) ∧ W0.cell? ⟨b, o + j * 6 + 1, none⟩ = some (.bool p.s0) ∧ W0.cell? ⟨b, o + j * 6 + 2, none⟩ = some (.slice F0 p.l0.length f0) ∧ W0.cell? ⟨b, o + j * 6 + 3, none⟩ = some (.bool p.n1) ∧ W0.cell? ⟨b, o + j * 6 + 4, none⟩ = some (.bool p.s1) ∧ W0.cell? ⟨b, o + j * 6 + 5, none⟩ = some (.slice F1 p.l1.length f1)) ∧ (∃ h' : j < Ps.length, IvW Ps[j] p ∧ IvN 8 Ps[j].1 Ps[j].2) ∧ (U64s W0 Z F0 f0 p.l0 ∧ U64s W0 Z F1 f1 p.l1)) := fun j hj => by
  obtain ⟨b', o', F0, f0, F1, f1, e, _, hc, u0, u1⟩ := ha0.at (j := j) (by omega)
  injection e with e
  injection e with e1 e2
  subst e1 e2
  exact ⟨ps[j], F0, f0, F1, f1, hc, ⟨by omega, hp.iv j (by omega) (by omega)⟩, u0, u1⟩
 have HQ : Hid (∀ j (hj : j < n), ∃ (q : Iv) (G0 : Option Addr) (d0 : Nat) (G1 : Option Addr) (d1 : Nat) (b2 o2 : Nat), (W0.cell? ⟨b2, o2 + j * 6, none⟩ = some (.bool q.n0) ∧ W0.cell? ⟨b2, o2 + j * 6 + 1, none⟩ = some (.bool q.s0) ∧ W0.cell? ⟨b2, o2 + j * 6 + 2, none⟩ = some (.slice G0 q.l0.length d0) ∧ W0.cell? ⟨b2, o2 + j * 6 + 3, none⟩ = some (.bool q.n1) ∧ W0.cell? ⟨b2, o2 + j * 6 + 4, none⟩ = some (.bool q.s1) ∧ W0.cell? ⟨b2, o2 + j * 6 + 5, none⟩ = some (.slice G1 q.l1.length d1)) ∧ (∃ h' : j < Qs.length, IvW Qs[j] q ∧ IvN 8 Qs[j].1 Qs[j].2) ∧ (U64s W0 Y G0 d0 q.l0 ∧ U64s W0 Y G1 d1 q.l1) ∧ B = some ⟨b2, o2, none⟩) := fun j hj => by
  obtain ⟨b', o', F0, f0, F1, f1, e, _, hc, u0, u1⟩ := hb0.at (j := j) (by omega)
  exact ⟨qs[j], F0, f0, F1, f1, b', o', hc, ⟨by omega, hq.iv j (by omega) (by omega)⟩, ⟨u0, u1⟩, e⟩
 have HTI : Hid (∀ k m, k < n → m = k + 1 → ∀ s r p q, IvW (R k) s → IvW (R m) r → (∃ h' : m < Ps.length, IvW Ps[m] p ∧ IvN 8 Ps[m].1 Ps[m].2) → (∃ h' : k < Qs.length, IvW Qs[k] q ∧ IvN 8 Qs[k].1 Qs[k].2) → ∃ y : Iv,
   (∀ (W : World) (Z1 Z2 Z3 Z4 : Zone) (A B C D : Option Addr) (a b c d : Nat), U64s W Z1 A a p.l0 → U64s W Z2 B b p.l1 → U64s W Z3 C c q.l0 → U64s W Z4 D d q.l1 → Calls Tryz.prog 34 #[.agg #[.bool p.n0, .bool p.s0, .slice A p.l0.length a, .bool p.n1, .bool p.s1, .slice B p.l1.length b], .agg #[.bool q.n0, .bool q.s0, .slice C q.l0.length c, .bool q.n1, .bool q.s1, .slice D q.l1.length d]] W fun e w' => ∃ rA ra rB rb, e = .returned (.agg #[.bool y.n0, .bool y.s0, .slice rA y.l0.length ra, .bool y.n1, .bool y.s1, .slice rB y.l1.length rb]) ∧ U64s w' old rA ra y.l0 ∧ U64s w' old rB rb y.l1 ∧ Below W.heap.size W w') ∧
   (∀ (W : World) (Z1 Z2 Z3 Z4 : Zone) (A B C D : Option Addr) (a b c d : Nat), U64s W Z1 A a s.l0 → U64s W Z2 B b s.l1 → U64s W Z3 C c y.l0 → U64s W Z4 D d y.l1 → Calls Tryz.prog 31 #[.agg #[.bool s.n0, .bool s.s0, .slice A s.l0.length a, .bool s.n1, .bool s.s1, .slice B s.l1.length b], .agg #[.bool y.n0, .bool y.s0, .slice C y.l0.length c, .bool y.n1, .bool y.s1, .slice D y.l1.length d]] W fun e w' => ∃ rA ra rB rb, e = .returned (.agg #[.bool r.n0, .bool r.s0, .slice rA r.l0.length ra, .bool r.n1, .bool r.s1, .slice rB r.l1.length rb]) ∧ U64s w' (new W.heap.size) rA ra r.l0 ∧ U64s w' (new W.heap.size) rB rb r.l1 ∧ Below W.heap.size W w')) := by
  rintro k m hk rfl s r p q hs hr ⟨h1, hp1, hp2⟩ ⟨h2, hq1, hq2⟩
  refine ⟨ivOf (ivM Ps[k + 1] Qs[k]).1 (ivM Ps[k + 1] Qs[k]).2, ?_, ?_⟩
  · intro W Z1 Z2 Z3 Z4 A B C D a b c d u1 u2 u3 u4
    exact r16times_w hp1 hp2 hq1 hq2 (by omega) (by omega) (IvW.mk _) u1 u2 u3 u4
  · intro W Z1 Z2 Z3 Z4 A B C D a b c d u1 u2 u3 u4
    exact r16plus_w hs (hRN k (by omega)) (IvW.mk _) (hRs k h1 h2).2 (by omega) (by rw [← (hRs k h1 h2).1]; exact hr) u1 u2 u3 u4
 have H00 : Hid (IvW (R 0) ps[0]) := hid (by rw [hR0 (by omega)]; exact hp0.1)
 generalize ps[0] = p0 at *
 obtain ⟨Hrr, Hb0, Hsz, Hck⟩ := hid4 hr hB0 hsz0 hck
 clear ha hb hp hq hn hpn hR0 hRs hRN hr hB0 hsz0 hck ha0 hb0 pl ql hp0
 go_enter Tryz.func21, Tryz.ntmps21
 go_wp2_with fail
 try simp only [hW0]
 refine Hck.out.mono ?_
 rintro e w1 ⟨rfl, hc⟩
 have Hg1 := hid hc.size
 obtain ⟨s0, s1, s2, s3, s4, s5⟩ := six_keep c0 hc
 have hal : Below w1.heap.size w1 (w1.alloc (.cells #[.bool p0.n0, .bool p0.s0, .slice X0 p0.l0.length x0, .bool p0.n1, .bool p0.s1, .slice X1 p0.l1.length x1] 29)) := (Below.refl _ w1).alloc (Nat.le_refl _) _
 obtain ⟨B7, HV⟩ := hid2 (BX.new (t := 29) (HW.out.1.below hc) (HW.out.2.below hc)) (from_ hc hal)
 clear hc c0 hW0 Hck hal HW
 go_wp2
 go_loopw [8] (fun i wr => ∃ (k : Nat) (s : Iv) (E0 E1 : Option Addr) (e0 e1 : Nat), k ≤ n ∧ i = .int .i64 (k : Int) ∧ Hid (IvW (R k) s) ∧ Hid (BX wr w1.heap.size s E0 e0 E1 e1) ∧ Below W0.heap.size W0 wr) (fun i _ => n - (intOf i).toNat)
 case atStart => exact ⟨0, p0, _, _, _, _, Nat.zero_le _, rfl, H00, B7, HV.out⟩
 case round =>
  obtain ⟨k, s, E0, E1, e0, e1, hk, rfl, hs, b7, hbel⟩ := hrel
  clear B7 HV
  by_cases hlt : k < n
  · obtain ⟨q, G0, d0, G1, d1, b2, o2, c2, hqq, x2, rfl⟩ := HQ.out k hlt
    have hmL : k + 1 < n + 1 := by omega
    have hw1 : IntKind.i64.wrap ((k : Int) + 1) = (k : Int) + 1 := by rw [IntKind.wrap_i64]; omega
    have hi1 : (k : Int) + 1 ≤ (n : Int) := by omega
    have hi2 : (k : Int) + 1 < (n : Int) + 1 := by omega
    have hi3 : (k : Int) < (n : Int) := by omega
    have hi4 : (0 : Int) ≤ (k : Int) + 1 := by omega
    obtain ⟨p, F0, f0, F1, f1, c1, hpp, x1⟩ := HF.out (k + 1) hmL
    obtain ⟨r, hr⟩ : ∃ r, IvW (R (k + 1)) r := ⟨_, IvW.mk _⟩
    obtain ⟨y, CT, CP⟩ := HTI.out k (k + 1) hlt rfl s r p q hs.out hr hpp hqq
    have hdr : Below wr.heap.size wr wr.drew := bdr_
    have Hc := hid hdr
    have HT := And.intro (And.intro (six_keep (six_keep c1 hbel) hdr) (six_keep (six_keep c2 hbel) hdr)) (b7.out.below hdr).box.all
    obtain ⟨HTi, HPl⟩ := hid2 (CT wr.drew _ _ _ _ _ _ _ _ _ _ _ _ ((x1.1.below hbel).below hdr) ((x1.2.below hbel).below hdr) ((x2.1.below hbel).below hdr) ((x2.2.below hbel).below hdr)) CP
    have hgl := b7.out.box.lt
    obtain ⟨HB8, Hr, Hl2, Hl1⟩ := hid4 (b7.out.below hdr) hr (show b2 < wr.heap.size from Nat.lt_of_lt_of_le (lt_of_cell c2.1) hbel.size) (show b < wr.heap.size from Nat.lt_of_lt_of_le (lt_of_cell c1.1) hbel.size)
    have NE : Hid (w1.heap.size ≠ b ∧ w1.heap.size ≠ b2) := hid (by
     have h1 : b < W0.heap.size := lt_of_cell c1.1
     have h2 : b2 < W0.heap.size := lt_of_cell c2.1
     have h3 := Hg1.out
     exact ⟨by omega, by omega⟩)
    clear c1 c2 hqq x2 hpp x1 hr hdr hs b7 CT CP
    go_upto_region 8 with fail
    refine wp_region_L (fun w' : World => (w'.cell? ⟨b, o + (k + 1) * 6, none⟩ = some (.bool p.n0) ∧ w'.cell? ⟨b, o + (k + 1) * 6 + 1, none⟩ = some (.bool p.s0) ∧ w'.cell? ⟨b, o + (k + 1) * 6 + 2, none⟩ = some (.slice F0 p.l0.length f0) ∧ w'.cell? ⟨b, o + (k + 1) * 6 + 3, none⟩ = some (.bool p.n1) ∧ w'.cell? ⟨b, o + (k + 1) * 6 + 4, none⟩ = some (.bool p.s1) ∧ w'.cell? ⟨b, o + (k + 1) * 6 + 5, none⟩ = some (.slice F1 p.l1.length f1)) ∧ w'.cell? ⟨b2, o2 + k * 6, none⟩ = some (.bool q.n0) ∧ w'.cell? ⟨b2, o2 + k * 6 + 1, none⟩ = some (.bool q.s0) ∧ w'.cell? ⟨b2, o2 + k * 6 + 2, none⟩ = some (.slice G0 q.l0.length d0) ∧ w'.cell? ⟨b2, o2 + k * 6 + 3, none⟩ = some (.bool q.n1) ∧ w'.cell? ⟨b2, o2 + k * 6 + 4, none⟩ = some (.bool q.s1) ∧ w'.cell? ⟨b2, o2 + k * 6 + 5, none⟩ = some (.slice G1 q.l1.length d1)) (fun w' : World => C6 w' w1.heap.size (.bool s.n0) (.bool s.s0) (.slice E0 s.l0.length e0) (.bool s.n1) (.bool s.s1) (.slice E1 s.l1.length e1)) 11 (by kernel_rfl) ?_
    show wpAnyL _ _ _ _ _ _ _ 13 _ _ _
    refine wpAnyL_take (i := 0) (v := ?_) rfl (by kernel_rfl) (by kernel_rfl) (by kernel_rfl) (fun _ _ _ h => h) (by kernel_rfl) (by rfl) (by rfl) (Or.inl ⟨by rfl, ?_⟩) HT ?_
    rotate_left
    · intro w' hSw; (try dsimp only at hSw); go_simp; (try with_reducible rfl)
    try simp only [Act.put, List.setIfInBounds_toArray, List.set_cons_zero, List.set_cons_succ]
    refine wpAnyL_takeA (i := 1) (v := ?_) rfl (by kernel_rfl) (by kernel_rfl) (by kernel_rfl) (fun _ _ _ h => h) (by rfl) (Or.inl ⟨by rfl, ?_⟩) HT ?_
    rotate_left
    · intro w' hSw; (try dsimp only at hSw); go_simp; (try with_reducible rfl)
    try simp only [Act.put, List.setIfInBounds_toArray, List.set_cons_zero, List.set_cons_succ]
    refine wpAnyL_takeA (i := 2) (v := ?_) rfl (by kernel_rfl) (by kernel_rfl) (by kernel_rfl) (fun _ _ _ h => h) (by rfl) (Or.inl ⟨by rfl, ?_⟩) HT ?_
    rotate_left
    · intro w' hSw; (try dsimp only at hSw); go_simp; (try with_reducible rfl)
    try simp only [Act.put, List.setIfInBounds_toArray, List.set_cons_zero, List.set_cons_succ]
    refine wpAnyL_takeA (i := 3) (v := ?_) rfl (by kernel_rfl) (by kernel_rfl) (by kernel_rfl) (fun _ _ _ h => h) (by rfl) (Or.inl ⟨by rfl, ?_⟩) HT ?_
    rotate_left
    · intro w' hSw; (try dsimp only at hSw); go_simp; (try with_reducible rfl)
    try simp only [Act.put, List.setIfInBounds_toArray, List.set_cons_zero, List.set_cons_succ]
    refine wpAnyL_takeA (i := 4) (v := ?_) rfl (by kernel_rfl) (by kernel_rfl) (by kernel_rfl) (fun _ _ _ h => h) (by rfl) (Or.inl ⟨by rfl, ?_⟩) HT ?_
    rotate_left
    · intro w' hSw; (try dsimp only at hSw); go_simp; (try with_reducible rfl)
    try simp only [Act.put, List.setIfInBounds_toArray, List.set_cons_zero, List.set_cons_succ]
    refine wpAnyL_takeA (i := 5) (v := ?_) rfl (by kernel_rfl) (by kernel_rfl) (by kernel_rfl) (fun _ _ _ h => h) (by rfl) (Or.inl ⟨by rfl, ?_⟩) HT ?_
    rotate_left
    · intro w' hSw; (try dsimp only at hSw); go_simp; (try with_reducible rfl)
    try simp only [Act.put, List.setIfInBounds_toArray, List.set_cons_zero, List.set_cons_succ]
    refine wpAnyL_takeA (i := 6) (v := ?_) rfl (by kernel_rfl) (by kernel_rfl) (by kernel_rfl) (fun _ _ _ h => h) (by rfl) (Or.inl ⟨by rfl, ?_⟩) HT ?_
    rotate_left
    · intro w' hSw; (try dsimp only at hSw); go_simp; (try with_reducible rfl)
    try simp only [Act.put, List.setIfInBounds_toArray, List.set_cons_zero, List.set_cons_succ]
    refine wpAnyL_takeA (i := 7) (v := ?_) rfl (by kernel_rfl) (by kernel_rfl) (by kernel_rfl) (fun _ _ _ h => h) (by rfl) (Or.inl ⟨by rfl, ?_⟩) HT ?_
    rotate_left
    · intro w' hSw; (try dsimp only at hSw); go_simp; (try with_reducible rfl)
    try simp only [Act.put, List.setIfInBounds_toArray, List.set_cons_zero, List.set_cons_succ]
    refine wpAnyL_takeA (i := 8) (v := ?_) rfl (by kernel_rfl) (by kernel_rfl) (by kernel_rfl) (fun _ _ _ h => h) (by rfl) (Or.inl ⟨by rfl, ?_⟩) HT ?_
    rotate_left
    · intro w' hSw; (try dsimp only at hSw); go_simp; (try with_reducible rfl)
    try simp only [Act.put, List.setIfInBounds_toArray, List.set_cons_zero, List.set_cons_succ]
    refine wpAnyL_takeA (i := 9) (v := ?_) rfl (by kernel_rfl) (by kernel_rfl) (by kernel_rfl) (fun _ _ _ h => h) (by rfl) (Or.inl ⟨by rfl, ?_⟩) HT ?_
    rotate_left
    · intro w' hSw; (try dsimp only at hSw); go_simp; (try with_reducible rfl)
    try simp only [Act.put, List.setIfInBounds_toArray, List.set_cons_zero, List.set_cons_succ]
    refine anyL_one (i := 10) (by kernel_rfl) (wpOp_step rfl (by rfl) fun K hK => ?_)
    go_simp
    refine (HTi.out).mono ?_
    rintro e w4 ⟨Y0, y0, Y1, y1, rfl, o0, o1, hc2⟩
    have tA := And.intro (six_keep HT.1.1 hc2) (six_keep HT.1.2 hc2)
    have tT := six_keep0 HT.2 hc2
    replace HB8 := hid (HB8.out.below hc2)
    replace Hc := hid (from_ Hc.out hc2)
    refine hK _ _ ⟨⟨tA, fun _ => tT⟩, ?_⟩
    clear hK K hc2 HT tT
    try simp only [Act.put, List.setIfInBounds_toArray, List.set_cons_zero, List.set_cons_succ]
    refine anyL_last (by kernel_rfl) (by rfl) (wpOp_step rfl (by rfl) fun K hK => ?_)
    go_simp
    refine (HPl.out _ _ _ _ _ _ _ _ _ _ _ _ _ HB8.out.u0 HB8.out.u1 o0 o1).mono ?_
    rintro e w5 ⟨Y2, y2, Y3, y3, rfl, n0, n1, hc2⟩
    have tB := And.intro (six_keep tA.1 hc2) (six_keep tA.2 hc2)
    replace HB8 := hid (HB8.out.below hc2)
    replace Hc := hid (from_ Hc.out hc2)
    obtain ⟨g0, g1, g2, g3, g4, g5, f0', f1', f2', f3', f4', f5', _⟩ := id HB8.out.box
    refine hK _ _ ⟨tB, ?_⟩
    clear hK K hc2 tA o0 o1
    try simp only [Act.put, List.setIfInBounds_toArray, List.set_cons_zero, List.set_cons_succ]
    refine anyH_one (i := 12) (by kernel_rfl) (wpOp_step rfl (by rfl) fun K hK => ?_)
    go_simp
    refine hK _ _ ⟨⟨six_st6 NE.out.1 tB.1, six_st6 NE.out.2 tB.2⟩, ?_⟩
    clear hK K tB g0 g1 g2 g3 g4 g5 f0' f1' f2' f3' f4' f5'
    try simp only [Act.put, List.setIfInBounds_toArray, List.set_cons_zero, List.set_cons_succ]
    refine wpAnyH_done (by kernel_rfl) ?_ _
    all_goals
     have HP := hid (HB8.out.box.put (w := W0) (from_ hbel Hc.out) Hg1.out (.bool r.n0) (.bool r.s0) (.slice Y2 r.l0.length y2) (.bool r.n1) (.bool r.s1) (.slice Y3 r.l1.length y3)).bel
     replace HB8 := hid (HB8.out.own (q := r) n0 n1)
     clear n0 n1
     go_wp2
     go_roundw
     case rel => exact ⟨k + 1, r, _, _, _, _, by omega, by go_num, Hr, HB8, HP.out⟩
     case measure => simp [intOf]; omega
  · obtain rfl : k = n := by omega
    have z0 := b7.out.box.all
    have R4 := hid (HZ.out.below hbel)
    obtain rfl := IvW.uniq Hrr.out hs.out
    have HP := hid (R4.out.own (q := r) b7.out.u0 b7.out.u1)
    have HPl := hid (R4.out.box.put (w := w) (from_ Hb0.out hbel) (Nat.le_refl _) (.bool r.n0) (.bool r.s0) (.slice E0 r.l0.length e0) (.bool r.n1) (.bool r.s1) (.slice E1 r.l1.length e1)).bel
    obtain ⟨g0, g1, g2, g3, g4, g5, f0', f1', f2', f3', f4', f5', _⟩ := id R4.out.box
    clear hs b7
    go_wp2
    refine bodyPost_ret (res_itv2 rfl _ w.heap.size rfl HP.out.box) rfl ?_
    exact ⟨_, _, _, _, rfl, HP.out.u0, HP.out.u1, HPl.out⟩
end Go.Proofs.YthpngihjcphigaaGreat
