/- Linear forms, the program's: Value of long forms given by their ends' numbers. No conditions but bounds on lengths. -/
import Derived.Deep.RegionHeld3
import Derived.Test.YthpngihjcphigaaGreatVLinU
set_option linter.unusedVariables false
set_option linter.unusedSimpArgs false
set_option maxRecDepth 100000
set_option maxHeartbeats 40000000
namespace Go.Proofs.YthpngihjcphigaaGreat
open Go.Lib (hid)
open Go.RowKit
theorem lvalue_run2 {w : World} {Z Y : Zone} {A B : Option Addr} {c d n : Nat} {ps qs : List Iv} {Ps Qs : List IvP} {R : Nat → IvP} {r : Iv} (ha : IvsAt w Z A c ps) (hb : IvsAt w Y B d qs) (hp : FmW 8 Ps ps) (hq : FmW 8 Qs qs) (hn : qs.length = n) (hpn : ps.length = n + 1) (h40 : n < 64)
  (hR0 : ∀ (h : 0 < Ps.length), R 0 = Ps[0]) (hRs : ∀ k (h1 : k + 1 < Ps.length) (h2 : k < Qs.length), R (k + 1) = ivA (R k) (ivM Ps[k + 1] Qs[k])) (hRN : ∀ k, k ≤ n → IvN 30 (R k).1 (R k).2) (hr : IvW (R n) r) :
  Calls Tryz.prog 20 #[.slice A (n + 1) c, .slice B n d] w fun e w' => ∃ rA ra rB rb, e = .returned (.tuple #[.agg #[.bool r.n0, .bool r.s0, .slice rA r.l0.length ra, .bool r.n1, .bool r.s1, .slice rB r.l1.length rb], .int .i64 0]) ∧ U64s w' (new w.heap.size) rA ra r.l0 ∧ U64s w' (new w.heap.size) rB rb r.l1 ∧ Below w.heap.size w w' := by
 have hB0 : Below w.heap.size w (w.alloc (.cells #[.bool false, .bool false, .slice none 0 0, .bool false, .bool false, .slice none 0 0] 29)) := (Below.refl _ w).alloc (Nat.le_refl _) _
 have hR4 := Box6.new w (.bool false) (.bool false) (.slice none 0 0) (.bool false) (.bool false) (.slice none 0 0) 29
 have hsz0 : (w.alloc (.cells #[.bool false, .bool false, .slice none 0 0, .bool false, .bool false, .slice none 0 0] 29)).heap.size = w.heap.size + 1 := by simp
 have hck := lchecked_any (ha.below hB0) (hb.below hB0) (hp.short (by omega)) (hq.short (by omega))
 rw [show errFB ps qs = 0 by unfold errFB; rw [if_pos ⟨hp.err (by omega) (by omega), hq.all (by omega)⟩, if_pos (by omega)]] at hck
 rw [hpn, hn] at hck
 have pl := hp.len
 have ql := hq.len
 have ha0 := ha.below hB0
 have hb0 := hb.below hB0
 obtain ⟨b, o, X0, x0, X1, x1, rfl, hbb, hX⟩ := ha.at (j := 0) (by omega)
 clear hX
 generalize hW0 : w.alloc (.cells #[.bool false, .bool false, .slice none 0 0, .bool false, .bool false, .slice none 0 0] 29) = W0 at *
 have HF : Hid (∀ j (hj : j < n + 1), ∃ (p : Iv) (F0 : Option Addr) (f0 : Nat) (F1 : Option Addr) (f1 : Nat), (W0.cell? ⟨b, o + j * 6, none⟩ = some (.bool p.n0) ∧ W0.cell? ⟨b, o + j * 6 + 1, none⟩ = some (.bool p.s0) ∧ W0.cell? ⟨b, o + j * 6 + 2, none⟩ = some (.slice F0 p.l0.length f0) ∧ W0.cell? ⟨b, o + j * 6 + 3, none⟩ = some (.bool p.n1) ∧ W0.cell? ⟨b, o + j * 6 + 4, none⟩ = some (.bool p.s1) ∧ W0.cell? ⟨b, o + j * 6 + 5, none⟩ = some (.slice F1 p.l1.length f1)) ∧ (∃ h' : j < Ps.length, IvW Ps[j] p ∧ IvN 8 Ps[j].1 Ps[j].2) ∧ (U64s W0 Z F0 f0 p.l0 ∧ U64s W0 Z F1 f1 p.l1)) := fun j hj => by
  obtain ⟨b', o', F0, f0, F1, f1, e, _, hc, u0, u1⟩ := ha0.at (j := j) (by omega)
  injection e with e
  injection e with e1 e2
  subst e1 e2
  exact ⟨ps[j], F0, f0, F1, f1, hc, ⟨by omega, hp.iv j (by omega) (by omega)⟩, u0, u1⟩
 have HQ : Hid (∀ j (hj : j < n), ∃ (q : Iv) (G0 : Option Addr) (d0 : Nat) (G1 : Option Addr) (d1 : Nat) (b2 o2 : Nat), (W0.cell? ⟨b2, o2 + j * 6, none⟩ = some (.bool q.n0) ∧ W0.cell? ⟨b2, o2 + j * 6 + 1, none⟩ = some (.bool q.s0) ∧ W0.cell? ⟨b2, o2 + j * 6 + 2, none⟩ = some (.slice G0 q.l0.length d0) ∧ W0.cell? ⟨b2, o2 + j * 6 + 3, none⟩ = some (.bool q.n1) ∧ W0.cell? ⟨b2, o2 + j * 6 + 4, none⟩ = some (.bool q.s1) ∧ W0.cell? ⟨b2, o2 + j * 6 + 5, none⟩ = some (.slice G1 q.l1.length d1)) ∧ (∃ h' : j < Qs.length, IvW Qs[j] q ∧ IvN 8 Qs[j].1 Qs[j].2) ∧ (U64s W0 Y G0 d0 q.l0 ∧ U64s W0 Y G1 d1 q.l1) ∧ B = some ⟨b2, o2, none⟩) := fun j hj => by
  obtain ⟨b', o', F0, f0, F1, f1, e, _, hc, u0, u1⟩ := hb0.at (j := j) (by omega)
  exact ⟨qs[j], F0, f0, F1, f1, b', o', hc, ⟨by omega, hq.iv j (by omega) (by omega)⟩, ⟨u0, u1⟩, e⟩
 have HWI : Hid (∀ k m, k < n → m = k + 1 → ∀ s r p q, IvW (R k) s → IvW (R m) r → (∃ h' : m < Ps.length, IvW Ps[m] p ∧ IvN 8 Ps[m].1 Ps[m].2) → (∃ h' : k < Qs.length, IvW Qs[k] q ∧ IvN 8 Qs[k].1 Qs[k].2) → ∀ (W : World) (Z1 Z2 Z3 Z4 Z5 Z6 : Zone) (A B C D E F : Option Addr) (a b c d e f : Nat), U64s W Z1 A a s.l0 → U64s W Z2 B b s.l1 → U64s W Z3 C c p.l0 → U64s W Z4 D d p.l1 → U64s W Z5 E e q.l0 → U64s W Z6 F f q.l1 →
   Calls Tryz.prog 58 #[.agg #[.bool s.n0, .bool s.s0, .slice A s.l0.length a, .bool s.n1, .bool s.s1, .slice B s.l1.length b], .agg #[.bool p.n0, .bool p.s0, .slice C p.l0.length c, .bool p.n1, .bool p.s1, .slice D p.l1.length d], .agg #[.bool q.n0, .bool q.s0, .slice E q.l0.length e, .bool q.n1, .bool q.s1, .slice F q.l1.length f]] W fun e w' => ∃ rA ra rB rb, e = .returned (.agg #[.bool r.n0, .bool r.s0, .slice rA r.l0.length ra, .bool r.n1, .bool r.s1, .slice rB r.l1.length rb]) ∧ U64s w' (new W.heap.size) rA ra r.l0 ∧ U64s w' (new W.heap.size) rB rb r.l1 ∧ Below W.heap.size W w') := by
  rintro k m hk rfl s r p q hs hr ⟨h1, hp1, hp2⟩ ⟨h2, hq1, hq2⟩ W Z1 Z2 Z3 Z4 Z5 Z6 A B C D E F a b c d e f u1 u2 u3 u4 u5 u6
  exact lwith_w hs hp1 hq1 (by rw [← hRs k h1 h2]; exact hr) (hRN k (by omega)) hp2 hq2 (by omega) u1 u2 u3 u4 u5 u6
 obtain ⟨p0, F0, f0, F1, f1, c0, ⟨hp1, hp2, hp3⟩, u0⟩ := HF.out 0 (by omega)
 simp only [Nat.zero_mul, Nat.add_zero] at c0
 have JN := hid (fun (W : World) (h : Below W0.heap.size W0 W) => ijoin_w (w := W) hp2 hp3 (by omega) (u0.1.below h) (u0.2.below h) (u0.1.below h) (u0.2.below h))
 have H00 : Hid (IvW (R 0) p0) := hid (by rw [hR0 hp1]; exact hp2)
 obtain ⟨Hrr, HR, Hb0, Hsz, Hck⟩ := hid5 hr hR4 hB0 hsz0 hck
 clear ha hb hp hq hn hpn hR0 hRs hRN hr hR4 hB0 hsz0 hck ha0 hb0 pl ql hp1 hp2 hp3 u0
 go_enter Tryz.func20, Tryz.ntmps20
 go_wp2_with fail
 try simp only [hW0]
 refine Hck.out.mono ?_
 rintro e w1 ⟨rfl, hc⟩
 have HC1 := hid hc
 have s0 := six_keep c0 hc
 clear hc c0 hW0 Hck
 have hdr0 : Below w1.heap.size w1 w1.drew := bdr_
 have hdr : Below w1.heap.size w1 (w1.alloc (.cells #[.bool false, .bool false, .slice none 0 0, .bool false, .bool false, .slice none 0 0] 29)).drew := bal_.drew
 have bN := (Box6.new w1 (.bool false) (.bool false) (.slice none 0 0) (.bool false) (.bool false) (.slice none 0 0) 29).below (W' := (w1.alloc (.cells #[.bool false, .bool false, .slice none 0 0, .bool false, .bool false, .slice none 0 0] 29)).drew) (bdr_)
 have sa := six_keep s0 hdr
 have sb := six_keep s0 hdr0
 obtain ⟨J1, J2⟩ := hid2 (JN.out _ (from_ HC1.out hdr0)) (JN.out _ (from_ HC1.out hdr))
 have lb := lt_of_cell s0.1
 simp only at lb
 have nb : w1.heap.size ≠ b := by omega
 clear s0
 go_wp2
 first | go_region_held3 (fun w' => w'.cell? ⟨b, o, none⟩ = some (.bool p0.n0) ∧ w'.cell? ⟨b, o + 1, none⟩ = some (.bool p0.s0) ∧ w'.cell? ⟨b, o + 2, none⟩ = some (.slice F0 p0.l0.length f0) ∧ w'.cell? ⟨b, o + 3, none⟩ = some (.bool p0.n1) ∧ w'.cell? ⟨b, o + 4, none⟩ = some (.bool p0.s1) ∧ w'.cell? ⟨b, o + 5, none⟩ = some (.slice F1 p0.l1.length f1))
  (first
   | (go_keep; done)
   | with_reducible exact sb
   | with_reducible exact sa
   | with_reducible exact t6
   | exact six_keep t6 bal_
   | with_reducible exact six_st6 nb t6)
  (first
   | (go_at_call 57; with_reducible refine J1.out.mono ?_; rintro e w7 ⟨E2, e2, E3, e3, rfl, o1, o2, hc⟩; have t6 := six_keep sb hc)
   | (go_at_call 57; with_reducible refine J2.out.mono ?_; rintro e w7 ⟨E2, e2, E3, e3, rfl, o1, o2, hc⟩; have t6 := six_keep sa hc; obtain ⟨g0, g1, g2, g3, g4, g5, f0', f1', f2', f3', f4', f5', _⟩ := bN.below hc)) | fail
 · have hal : Below w7.heap.size w7 (w7.alloc (.cells #[.bool p0.n0, .bool p0.s0, .slice E2 p0.l0.length e2, .bool p0.n1, .bool p0.s1, .slice E3 p0.l1.length e3] 29)) := (Below.refl _ w7).alloc (Nat.le_refl _) _
   have B7 := hid (Box6.new w7 (.bool p0.n0) (.bool p0.s0) (.slice E2 p0.l0.length e2) (.bool p0.n1) (.bool p0.s1) (.slice E3 p0.l1.length e3) 29)
   have hle := Nat.le_trans HC1.out.size hdr0.size
   obtain ⟨V01, HV, Hg7⟩ := hid3 (And.intro ((o1.below hal).mono (new_le hle)) ((o2.below hal).mono (new_le hle))) (from_ (from_ (from_ HC1.out hdr0) hc) hal) (Nat.le_trans hle hc.size)
   clear o1 o2 hc t6 sa sb hdr0 hdr bN J1 J2 lb nb hle JN
   go_wp2
   go_loopw [30] (fun i wr => ∃ (k : Nat) (s : Iv) (E0 E1 : Option Addr) (e0 e1 : Nat), k ≤ n ∧ i = .int .i64 (k : Int) ∧ Hid (IvW (R k) s) ∧ Hid (Box6 wr w7.heap.size (.bool s.n0) (.bool s.s0) (.slice E0 s.l0.length e0) (.bool s.n1) (.bool s.s1) (.slice E1 s.l1.length e1)) ∧ Hid (U64s wr (new W0.heap.size) E0 e0 s.l0 ∧ U64s wr (new W0.heap.size) E1 e1 s.l1) ∧ Below W0.heap.size W0 wr) (fun i _ => n - (intOf i).toNat)
   case atStart => exact ⟨0, p0, _, _, _, _, Nat.zero_le _, rfl, H00, B7, V01, HV.out⟩
   case round =>
    obtain ⟨k, s, E0, E1, e0, e1, hk, rfl, hs, b7, us, hbel⟩ := hrel
    clear B7 V01 HV
    by_cases hlt : k < n
    · obtain ⟨q, G0, d0, G1, d1, b2, o2, c2, hqq, x2, rfl⟩ := HQ.out k hlt
      have hmL : k + 1 < n + 1 := by omega
      have hw1 : IntKind.i64.wrap ((k : Int) + 1) = (k : Int) + 1 := by rw [IntKind.wrap_i64]; omega
      obtain ⟨p, F0, f0, F1, f1, c1, hpp, x1⟩ := HF.out (k + 1) hmL
      obtain ⟨r, hr⟩ : ∃ r, IvW (R (k + 1)) r := ⟨_, IvW.mk _⟩
      replace c1 := six_keep c1 hbel
      obtain ⟨y0, y1, y2, y3, y4, y5⟩ := six_keep c2 hbel
      have hal : Below wr.heap.size wr (wr.alloc (.cells #[.bool q.n0, .bool q.s0, .slice G0 q.l0.length d0, .bool q.n1, .bool q.s1, .slice G1 q.l1.length d1] 29)).drew := bal_.drew
      have hW := HWI.out k (k + 1) hlt rfl s r p q hs.out hr hpp hqq (wr.alloc (.cells #[.bool q.n0, .bool q.s0, .slice G0 q.l0.length d0, .bool q.n1, .bool q.s1, .slice G1 q.l1.length d1] 29)).drew _ _ _ _ _ _ _ _ _ _ _ _ _ _ _ _ _ _ (us.out.1.below hal) (us.out.2.below hal) ((x1.1.below hbel).below hal) ((x1.2.below hbel).below hal) ((x2.1.below hbel).below hal) ((x2.2.below hbel).below hal)
      have h1 := six_keep0 b7.out.all hal
      have h2 := six_keep c1 hal
      have h3 := ((Box6.new wr (.bool q.n0) (.bool q.s0) (.slice G0 q.l0.length d0) (.bool q.n1) (.bool q.s1) (.slice G1 q.l1.length d1) 29).below (W' := (wr.alloc (.cells #[.bool q.n0, .bool q.s0, .slice G0 q.l0.length d0, .bool q.n1, .bool q.s1, .slice G1 q.l1.length d1] 29)).drew) (bdr_)).all
      have hs3 := And.intro h1 (And.intro h2 h3)
      obtain ⟨HW, Hal⟩ := hid2 hW hal
      have hgl := b7.out.lt
      obtain ⟨HB7, Hr⟩ := hid2 (b7.out.below hal) hr
      clear c1 c2 hqq x2 hpp x1 hr hal hW h1 h2 h3 us hs b7
      generalize s.l0.length = sl0 at *
      generalize s.l1.length = sl1 at *
      generalize p.l0.length = pl0 at *
      generalize p.l1.length = pl1 at *
      generalize q.l0.length = ql0 at *
      generalize q.l1.length = ql1 at *
      generalize s.n0 = sn0 at *
      generalize s.s0 = ss0 at *
      generalize s.n1 = sn1 at *
      generalize s.s1 = ss1 at *
      generalize p.n0 = pn0 at *
      generalize p.s0 = ps0 at *
      generalize p.n1 = pn1 at *
      generalize p.s1 = ps1 at *
      generalize q.n0 = qn0 at *
      generalize q.s0 = qs0 at *
      generalize q.n1 = qn1 at *
      generalize q.s1 = qs1 at *
      go_wp2
      obtain ⟨⟨h0, h1, h2, h3, h4, h5⟩, ⟨h6, h7, h8, h9, h10, h11⟩, ⟨h12, h13, h14, h15, h16, h17⟩⟩ := hs3
      first | go_region_with
       (first
        | (go_at_call 58; with_reducible refine HW.out.mono ?_; rintro e' w2 ⟨E2, e2, E3, e3, rfl, v0, v1, hc⟩; obtain ⟨g0, g1, g2, g3, g4, g5, f0', f1', f2', f3', f4', f5', _⟩ := HB7.out.below hc)
        | fail) | fail
      all_goals
       have hB2 := from_ (from_ hbel Hal.out) hc
       have HP := hid ((HB7.out.below hc).put (w := W0) hB2 Hg7.out (.bool r.n0) (.bool r.s0) (.slice E2 r.l0.length e2) (.bool r.n1) (.bool r.s1) (.slice E3 r.l1.length e3))
       have hsz := Hal.out.size
       have U := hid (And.intro ((v0.set6 (g := w7.heap.size) (fun (h : _ ≤ w7.heap.size) => by omega) (.bool r.n0) (.bool r.s0) (.slice E2 r.l0.length e2) (.bool r.n1) (.bool r.s1) (.slice E3 r.l1.length e3)).mono (new_le (Nat.le_trans hbel.size Hal.out.size))) ((v1.set6 (g := w7.heap.size) (fun (h : _ ≤ w7.heap.size) => by omega) (.bool r.n0) (.bool r.s0) (.slice E2 r.l0.length e2) (.bool r.n1) (.bool r.s1) (.slice E3 r.l1.length e3)).mono (new_le (Nat.le_trans hbel.size Hal.out.size))))
       clear v0 v1 hB2 hsz hc h0 h1 h2 h3 h4 h5 h6 h7 h8 h9 h10 h11 h12 h13 h14 h15 h16 h17
       go_wp2
       go_roundw
       case rel => exact ⟨k + 1, r, _, _, _, _, by omega, by go_num, Hr, hid HP.out.box, U, HP.out.bel⟩
       case measure => simp [intOf]; omega
    · obtain rfl : k = n := by omega
      obtain ⟨z0, z1, z2, z3, z4, z5, _, _, _, _, _, _, _⟩ := id b7.out
      have R4 := HR.out.below hbel
      have hsz := Hsz.out
      obtain rfl := IvW.uniq Hrr.out hs.out
      obtain ⟨HP, U1, U2⟩ := hid3 (R4.put (w := w) (from_ Hb0.out hbel) (Nat.le_refl _) (.bool r.n0) (.bool r.s0) (.slice E0 r.l0.length e0) (.bool r.n1) (.bool r.s1) (.slice E1 r.l1.length e1)) ((us.out.1.set6 (g := w.heap.size) (fun (h : W0.heap.size ≤ w.heap.size) => by omega) (.bool r.n0) (.bool r.s0) (.slice E0 r.l0.length e0) (.bool r.n1) (.bool r.s1) (.slice E1 r.l1.length e1)).mono (new_le (show w.heap.size ≤ W0.heap.size by omega))) ((us.out.2.set6 (g := w.heap.size) (fun (h : W0.heap.size ≤ w.heap.size) => by omega) (.bool r.n0) (.bool r.s0) (.slice E0 r.l0.length e0) (.bool r.n1) (.bool r.s1) (.slice E1 r.l1.length e1)).mono (new_le (show w.heap.size ≤ W0.heap.size by omega)))
      obtain ⟨g0, g1, g2, g3, g4, g5, f0', f1', f2', f3', f4', f5', _⟩ := R4
      clear us hs b7
      go_wp2
      refine bodyPost_ret (res_itv2 rfl _ w.heap.size rfl HP.out.box) rfl ?_
      exact ⟨_, _, _, _, rfl, U1.out, U2.out, HP.out.bel⟩
 · have hle := Nat.le_trans HC1.out.size hdr.size
   have hP := (bN.below hc).put (w := W0) (from_ (from_ HC1.out hdr) hc) HC1.out.size (.bool p0.n0) (.bool p0.s0) (.slice E2 p0.l0.length e2) (.bool p0.n1) (.bool p0.s1) (.slice E3 p0.l1.length e3)
   have B7 := hid hP.box
   have hlt7 : w1.heap.size < (w1.alloc (.cells #[.bool false, .bool false, .slice none 0 0, .bool false, .bool false, .slice none 0 0] 29)).drew.heap.size := by simp
   obtain ⟨V01, HV, Hg7⟩ := hid3 (And.intro ((o1.set6 (g := w1.heap.size) (fun (h : _ ≤ w1.heap.size) => by omega) (.bool p0.n0) (.bool p0.s0) (.slice E2 p0.l0.length e2) (.bool p0.n1) (.bool p0.s1) (.slice E3 p0.l1.length e3)).mono (new_le hle)) ((o2.set6 (g := w1.heap.size) (fun (h : _ ≤ w1.heap.size) => by omega) (.bool p0.n0) (.bool p0.s0) (.slice E2 p0.l0.length e2) (.bool p0.n1) (.bool p0.s1) (.slice E3 p0.l1.length e3)).mono (new_le hle))) hP.bel HC1.out.size
   clear hP hlt7 g0 g1 g2 g3 g4 g5 f0' f1' f2' f3' f4' f5'
   clear o1 o2 hc t6 sa sb hdr0 hdr bN J1 J2 lb nb hle JN
   go_wp2
   go_loopw [30] (fun i wr => ∃ (k : Nat) (s : Iv) (E0 E1 : Option Addr) (e0 e1 : Nat), k ≤ n ∧ i = .int .i64 (k : Int) ∧ Hid (IvW (R k) s) ∧ Hid (Box6 wr w1.heap.size (.bool s.n0) (.bool s.s0) (.slice E0 s.l0.length e0) (.bool s.n1) (.bool s.s1) (.slice E1 s.l1.length e1)) ∧ Hid (U64s wr (new W0.heap.size) E0 e0 s.l0 ∧ U64s wr (new W0.heap.size) E1 e1 s.l1) ∧ Below W0.heap.size W0 wr) (fun i _ => n - (intOf i).toNat)
   case atStart => exact ⟨0, p0, _, _, _, _, Nat.zero_le _, rfl, H00, B7, V01, HV.out⟩
   case round =>
    obtain ⟨k, s, E0, E1, e0, e1, hk, rfl, hs, b7, us, hbel⟩ := hrel
    clear B7 V01 HV
    by_cases hlt : k < n
    · obtain ⟨q, G0, d0, G1, d1, b2, o2, c2, hqq, x2, rfl⟩ := HQ.out k hlt
      have hmL : k + 1 < n + 1 := by omega
      have hw1 : IntKind.i64.wrap ((k : Int) + 1) = (k : Int) + 1 := by rw [IntKind.wrap_i64]; omega
      obtain ⟨p, F0, f0, F1, f1, c1, hpp, x1⟩ := HF.out (k + 1) hmL
      obtain ⟨r, hr⟩ : ∃ r, IvW (R (k + 1)) r := ⟨_, IvW.mk _⟩
      replace c1 := six_keep c1 hbel
      obtain ⟨y0, y1, y2, y3, y4, y5⟩ := six_keep c2 hbel
      have hal : Below wr.heap.size wr (wr.alloc (.cells #[.bool q.n0, .bool q.s0, .slice G0 q.l0.length d0, .bool q.n1, .bool q.s1, .slice G1 q.l1.length d1] 29)).drew := bal_.drew
      have hW := HWI.out k (k + 1) hlt rfl s r p q hs.out hr hpp hqq (wr.alloc (.cells #[.bool q.n0, .bool q.s0, .slice G0 q.l0.length d0, .bool q.n1, .bool q.s1, .slice G1 q.l1.length d1] 29)).drew _ _ _ _ _ _ _ _ _ _ _ _ _ _ _ _ _ _ (us.out.1.below hal) (us.out.2.below hal) ((x1.1.below hbel).below hal) ((x1.2.below hbel).below hal) ((x2.1.below hbel).below hal) ((x2.2.below hbel).below hal)
      have h1 := six_keep0 b7.out.all hal
      have h2 := six_keep c1 hal
      have h3 := ((Box6.new wr (.bool q.n0) (.bool q.s0) (.slice G0 q.l0.length d0) (.bool q.n1) (.bool q.s1) (.slice G1 q.l1.length d1) 29).below (W' := (wr.alloc (.cells #[.bool q.n0, .bool q.s0, .slice G0 q.l0.length d0, .bool q.n1, .bool q.s1, .slice G1 q.l1.length d1] 29)).drew) (bdr_)).all
      have hs3 := And.intro h1 (And.intro h2 h3)
      obtain ⟨HW, Hal⟩ := hid2 hW hal
      have hgl := b7.out.lt
      obtain ⟨HB7, Hr⟩ := hid2 (b7.out.below hal) hr
      clear c1 c2 hqq x2 hpp x1 hr hal hW h1 h2 h3 us hs b7
      generalize s.l0.length = sl0 at *
      generalize s.l1.length = sl1 at *
      generalize p.l0.length = pl0 at *
      generalize p.l1.length = pl1 at *
      generalize q.l0.length = ql0 at *
      generalize q.l1.length = ql1 at *
      generalize s.n0 = sn0 at *
      generalize s.s0 = ss0 at *
      generalize s.n1 = sn1 at *
      generalize s.s1 = ss1 at *
      generalize p.n0 = pn0 at *
      generalize p.s0 = ps0 at *
      generalize p.n1 = pn1 at *
      generalize p.s1 = ps1 at *
      generalize q.n0 = qn0 at *
      generalize q.s0 = qs0 at *
      generalize q.n1 = qn1 at *
      generalize q.s1 = qs1 at *
      go_wp2
      obtain ⟨⟨h0, h1, h2, h3, h4, h5⟩, ⟨h6, h7, h8, h9, h10, h11⟩, ⟨h12, h13, h14, h15, h16, h17⟩⟩ := hs3
      first | go_region_with
       (first
        | (go_at_call 58; with_reducible refine HW.out.mono ?_; rintro e' w2 ⟨E2, e2, E3, e3, rfl, v0, v1, hc⟩; obtain ⟨g0, g1, g2, g3, g4, g5, f0', f1', f2', f3', f4', f5', _⟩ := HB7.out.below hc)
        | fail) | fail
      all_goals
       have hB2 := from_ (from_ hbel Hal.out) hc
       have HP := hid ((HB7.out.below hc).put (w := W0) hB2 Hg7.out (.bool r.n0) (.bool r.s0) (.slice E2 r.l0.length e2) (.bool r.n1) (.bool r.s1) (.slice E3 r.l1.length e3))
       have hsz := Hal.out.size
       have U := hid (And.intro ((v0.set6 (g := w1.heap.size) (fun (h : _ ≤ w1.heap.size) => by omega) (.bool r.n0) (.bool r.s0) (.slice E2 r.l0.length e2) (.bool r.n1) (.bool r.s1) (.slice E3 r.l1.length e3)).mono (new_le (Nat.le_trans hbel.size Hal.out.size))) ((v1.set6 (g := w1.heap.size) (fun (h : _ ≤ w1.heap.size) => by omega) (.bool r.n0) (.bool r.s0) (.slice E2 r.l0.length e2) (.bool r.n1) (.bool r.s1) (.slice E3 r.l1.length e3)).mono (new_le (Nat.le_trans hbel.size Hal.out.size))))
       clear v0 v1 hB2 hsz hc h0 h1 h2 h3 h4 h5 h6 h7 h8 h9 h10 h11 h12 h13 h14 h15 h16 h17
       go_wp2
       go_roundw
       case rel => exact ⟨k + 1, r, _, _, _, _, by omega, by go_num, Hr, hid HP.out.box, U, HP.out.bel⟩
       case measure => simp [intOf]; omega
    · obtain rfl : k = n := by omega
      have z0 := b7.out.all
      have R4 := HR.out.below hbel
      have hsz := Hsz.out
      obtain rfl := IvW.uniq Hrr.out hs.out
      obtain ⟨HP, U1, U2⟩ := hid3 (R4.put (w := w) (from_ Hb0.out hbel) (Nat.le_refl _) (.bool r.n0) (.bool r.s0) (.slice E0 r.l0.length e0) (.bool r.n1) (.bool r.s1) (.slice E1 r.l1.length e1)) ((us.out.1.set6 (g := w.heap.size) (fun (h : W0.heap.size ≤ w.heap.size) => by omega) (.bool r.n0) (.bool r.s0) (.slice E0 r.l0.length e0) (.bool r.n1) (.bool r.s1) (.slice E1 r.l1.length e1)).mono (new_le (show w.heap.size ≤ W0.heap.size by omega))) ((us.out.2.set6 (g := w.heap.size) (fun (h : W0.heap.size ≤ w.heap.size) => by omega) (.bool r.n0) (.bool r.s0) (.slice E0 r.l0.length e0) (.bool r.n1) (.bool r.s1) (.slice E1 r.l1.length e1)).mono (new_le (show w.heap.size ≤ W0.heap.size by omega)))
      obtain ⟨g0, g1, g2, g3, g4, g5, f0', f1', f2', f3', f4', f5', _⟩ := R4
      clear us hs b7
      go_wp2
      refine bodyPost_ret (res_itv2 rfl _ w.heap.size rfl HP.out.box) rfl ?_
      exact ⟨_, _, _, _, rfl, U1.out, U2.out, HP.out.bel⟩
end Go.Proofs.YthpngihjcphigaaGreat
