/-
  Linear forms, the program's: Value of forms given by their ends' numbers. No conditions but bounds on lengths.
  Linear forms, the program's: Value of a form and a box given by numbers. No conditions but bounds on lengths.
  Linear forms: split, plain: the row of the middles and the interval of the rest; what a form is, of numbers, lies in them. Forms told by their words. No conditions.
-/
import Derived.Deep.RegionHeld3
import Derived.Test.YtofhokhlkgcddaaGreatLLinV
import Derived.Test.YtofhokhlkgcddaaGreatLLinO
namespace Go.Proofs.YtofhokhlkgcddaaGreat
open Go.RowKit
set_option linter.unusedVariables false
set_option linter.unusedSimpArgs false


set_option maxRecDepth 100000 in
set_option maxHeartbeats 4000000 in
theorem lvalue_run {w : World} {Z Y : Zone} {A B : Option Addr} {c d n : Nat} {ps qs : List Iv} {Ps Qs : List IvP} {R : Nat → IvP} {r : Iv} (ha : IvsAt w Z A c ps) (hb : IvsAt w Y B d qs) (hp : FmW 8 Ps ps) (hq : FmW 8 Qs qs) (hn : qs.length = n) (hpn : ps.length = n + 1) (h40 : n ≤ 40)
    (hR0 : ∀ (h : 0 < Ps.length), R 0 = Ps[0]) (hRs : ∀ k (h1 : k + 1 < Ps.length) (h2 : k < Qs.length), R (k + 1) = ivA (R k) (ivM Ps[k + 1] Qs[k])) (hRN : ∀ k, k ≤ n → IvN (16 + k) (R k).1 (R k).2) (hr : IvW (R n) r) :
    Calls Tryz.prog 41 #[.slice A (n + 1) c, .slice B n d] w fun e w' => ∃ rA ra rB rb, e = .returned (.tuple #[.agg #[.bool r.n0, .bool r.s0, .slice rA r.l0.length ra, .bool r.n1, .bool r.s1, .slice rB r.l1.length rb], .int .i64 0]) ∧ U64s w' (new w.heap.size) rA ra r.l0 ∧ U64s w' (new w.heap.size) rB rb r.l1 ∧ Below w.heap.size w w' := by
  have hB0 : Below w.heap.size w (w.alloc (.cells #[.bool false, .bool false, .slice none 0 0, .bool false, .bool false, .slice none 0 0] 29)) := (Below.refl _ w).alloc (Nat.le_refl _) _
  have hR4 := Box6.new w (.bool false) (.bool false) (.slice none 0 0) (.bool false) (.bool false) (.slice none 0 0) 29
  have hsz0 : (w.alloc (.cells #[.bool false, .bool false, .slice none 0 0, .bool false, .bool false, .slice none 0 0] 29)).heap.size = w.heap.size + 1 := by simp
  have hck := lchecked_any (ha.below hB0) (hb.below hB0) (hp.short (by omega)) (hq.short (by omega))
  rw [show errFB ps qs = 0 by unfold errFB; rw [if_pos ⟨hp.err (by omega) (by omega), hq.all (by omega)⟩, if_pos (by omega)]] at hck
  rw [hpn, hn] at hck
  have pl := hp.len
  have ql := hq.len
  have ha0 := ha.below hB0
  have hb0 := hb.below hB0
  obtain ⟨b, o, X0, x0, X1, x1, rfl, hbb, hX⟩ := ha.at (j := 0) (by omega)
  clear hX
  generalize hW0 : w.alloc (.cells #[.bool false, .bool false, .slice none 0 0, .bool false, .bool false, .slice none 0 0] 29) = W0 at *
  have HF : Hid (∀ j (hj : j < n + 1), ∃ (p : Iv) (F0 : Option Addr) (f0 : Nat) (F1 : Option Addr) (f1 : Nat), (W0.cell? ⟨b, o + j * 6, none⟩ = some (.bool p.n0) ∧ W0.cell? ⟨b, o + j * 6 + 1, none⟩ = some (.bool p.s0) ∧ W0.cell? ⟨b, o + j * 6 + 2, none⟩ = some (.slice F0 p.l0.length f0) ∧ W0.cell? ⟨b, o + j * 6 + 3, none⟩ = some (.bool p.n1) ∧ W0.cell? ⟨b, o + j * 6 + 4, none⟩ = some (.bool p.s1) ∧ W0.cell? ⟨b, o + j * 6 + 5, none⟩ = some (.slice F1 p.l1.length f1)) ∧ (∃ h' : j < Ps.length, IvW Ps[j] p ∧ IvN 8 Ps[j].1 Ps[j].2) ∧ (U64s W0 Z F0 f0 p.l0 ∧ U64s W0 Z F1 f1 p.l1)) := fun j hj => by
    obtain ⟨b', o', F0, f0, F1, f1, e, _, hc, u0, u1⟩ := ha0.at (j := j) (by omega)
    injection e with e
    injection e with e1 e2
    subst e1 e2
    exact ⟨ps[j], F0, f0, F1, f1, hc, ⟨by omega, hp.iv j (by omega) (by omega)⟩, u0, u1⟩
  have HQ : Hid (∀ j (hj : j < n), ∃ (q : Iv) (G0 : Option Addr) (d0 : Nat) (G1 : Option Addr) (d1 : Nat) (b2 o2 : Nat), (W0.cell? ⟨b2, o2 + j * 6, none⟩ = some (.bool q.n0) ∧ W0.cell? ⟨b2, o2 + j * 6 + 1, none⟩ = some (.bool q.s0) ∧ W0.cell? ⟨b2, o2 + j * 6 + 2, none⟩ = some (.slice G0 q.l0.length d0) ∧ W0.cell? ⟨b2, o2 + j * 6 + 3, none⟩ = some (.bool q.n1) ∧ W0.cell? ⟨b2, o2 + j * 6 + 4, none⟩ = some (.bool q.s1) ∧ W0.cell? ⟨b2, o2 + j * 6 + 5, none⟩ = some (.slice G1 q.l1.length d1)) ∧ (∃ h' : j < Qs.length, IvW Qs[j] q ∧ IvN 8 Qs[j].1 Qs[j].2) ∧ (U64s W0 Y G0 d0 q.l0 ∧ U64s W0 Y G1 d1 q.l1) ∧ B = some ⟨b2, o2, none⟩) := fun j hj => by
    obtain ⟨b', o', F0, f0, F1, f1, e, _, hc, u0, u1⟩ := hb0.at (j := j) (by omega)
    exact ⟨qs[j], F0, f0, F1, f1, b', o', hc, ⟨by omega, hq.iv j (by omega) (by omega)⟩, ⟨u0, u1⟩, e⟩
  have HWI : Hid (∀ k m, k < n → m = k + 1 → ∀ s r p q, IvW (R k) s → IvW (R m) r → (∃ h' : m < Ps.length, IvW Ps[m] p ∧ IvN 8 Ps[m].1 Ps[m].2) → (∃ h' : k < Qs.length, IvW Qs[k] q ∧ IvN 8 Qs[k].1 Qs[k].2) → ∀ (W : World) (Z1 Z2 Z3 Z4 Z5 Z6 : Zone) (A B C D E F : Option Addr) (a b c d e f : Nat), U64s W Z1 A a s.l0 → U64s W Z2 B b s.l1 → U64s W Z3 C c p.l0 → U64s W Z4 D d p.l1 → U64s W Z5 E e q.l0 → U64s W Z6 F f q.l1 →
      Calls Tryz.prog 90 #[.agg #[.bool s.n0, .bool s.s0, .slice A s.l0.length a, .bool s.n1, .bool s.s1, .slice B s.l1.length b], .agg #[.bool p.n0, .bool p.s0, .slice C p.l0.length c, .bool p.n1, .bool p.s1, .slice D p.l1.length d], .agg #[.bool q.n0, .bool q.s0, .slice E q.l0.length e, .bool q.n1, .bool q.s1, .slice F q.l1.length f]] W fun e w' => ∃ rA ra rB rb, e = .returned (.agg #[.bool r.n0, .bool r.s0, .slice rA r.l0.length ra, .bool r.n1, .bool r.s1, .slice rB r.l1.length rb]) ∧ U64s w' (new W.heap.size) rA ra r.l0 ∧ U64s w' (new W.heap.size) rB rb r.l1 ∧ Below W.heap.size W w') := by
    rintro k m hk rfl s r p q hs hr ⟨h1, hp1, hp2⟩ ⟨h2, hq1, hq2⟩ W Z1 Z2 Z3 Z4 Z5 Z6 A B C D E F a b c d e f u1 u2 u3 u4 u5 u6
    exact lwith_w hs hp1 hq1 (by rw [← hRs k h1 h2]; exact hr) (hRN k (by omega)) hp2 hq2 (by omega) u1 u2 u3 u4 u5 u6
  obtain ⟨p0, F0, f0, F1, f1, c0, ⟨hp1, hp2, hp3⟩, u0⟩ := HF.out 0 (by omega)
  simp only [Nat.zero_mul, Nat.add_zero] at c0
  have JN := Lib.hid (fun (W : World) (h : Below W0.heap.size W0 W) => ijoin_w (w := W) hp2 hp3 (by omega) (u0.1.below h) (u0.2.below h) (u0.1.below h) (u0.2.below h))
  have H00 : Hid (IvW (R 0) p0) := Lib.hid (by rw [hR0 hp1]; exact hp2)
  have Hrr := Lib.hid hr
  have HR := Lib.hid hR4
  have Hb0 := Lib.hid hB0
  have Hsz := Lib.hid hsz0
  have Hck := Lib.hid hck
  clear ha hb hp hq hn hpn hR0 hRs hRN hr hR4 hB0 hsz0 hck ha0 hb0 pl ql hp1 hp2 hp3 u0
  go_enter Tryz.func41, Tryz.ntmps41
  go_wp2_with fail
  try simp only [hW0]
  refine Hck.out.mono ?_
  rintro e w1 ⟨rfl, hc⟩
  have HC1 := Lib.hid hc
  have s0 := six_keep c0 hc
  clear hc c0 hW0 Hck
  have hdr0 : Below w1.heap.size w1 w1.drew := (Below.refl _ _).drew
  have hdr : Below w1.heap.size w1 (w1.alloc (.cells #[.bool false, .bool false, .slice none 0 0, .bool false, .bool false, .slice none 0 0] 29)).drew := ((Below.refl _ _).alloc (Nat.le_refl _) _).drew
  have bN := (Box6.new w1 (.bool false) (.bool false) (.slice none 0 0) (.bool false) (.bool false) (.slice none 0 0) 29).below (W' := (w1.alloc (.cells #[.bool false, .bool false, .slice none 0 0, .bool false, .bool false, .slice none 0 0] 29)).drew) ((Below.refl _ _).drew)
  have sa := six_keep s0 hdr
  have sb := six_keep s0 hdr0
  have J1 := Lib.hid (JN.out _ (from_ HC1.out hdr0))
  have J2 := Lib.hid (JN.out _ (from_ HC1.out hdr))
  have lb := lt_of_cell s0.1
  simp only at lb
  have nb : w1.heap.size ≠ b := by omega
  clear s0
  go_wp2
  first | go_region_held3 (fun w' => w'.cell? ⟨b, o, none⟩ = some (.bool p0.n0) ∧ w'.cell? ⟨b, o + 1, none⟩ = some (.bool p0.s0) ∧ w'.cell? ⟨b, o + 2, none⟩ = some (.slice F0 p0.l0.length f0) ∧ w'.cell? ⟨b, o + 3, none⟩ = some (.bool p0.n1) ∧ w'.cell? ⟨b, o + 4, none⟩ = some (.bool p0.s1) ∧ w'.cell? ⟨b, o + 5, none⟩ = some (.slice F1 p0.l1.length f1))
    (first
      | (go_keep; done)
      | with_reducible exact sb
      | with_reducible exact sa
      | with_reducible exact t6
      | exact six_keep t6 ((Below.refl _ _).alloc (Nat.le_refl _) _)
      | with_reducible exact six_st6 nb t6)
    (first
      | (go_at_call 88; with_reducible refine J1.out.mono ?_; rintro e w7 ⟨E2, e2, E3, e3, rfl, o1, o2, hc⟩; have t6 := six_keep sb hc)
      | (go_at_call 88; with_reducible refine J2.out.mono ?_; rintro e w7 ⟨E2, e2, E3, e3, rfl, o1, o2, hc⟩; have t6 := six_keep sa hc; obtain ⟨g0, g1, g2, g3, g4, g5, f0', f1', f2', f3', f4', f5', _⟩ := bN.below hc)) | fail
  · have hal : Below w7.heap.size w7 (w7.alloc (.cells #[.bool p0.n0, .bool p0.s0, .slice E2 p0.l0.length e2, .bool p0.n1, .bool p0.s1, .slice E3 p0.l1.length e3] 29)) := (Below.refl _ w7).alloc (Nat.le_refl _) _
    have B7 := Lib.hid (Box6.new w7 (.bool p0.n0) (.bool p0.s0) (.slice E2 p0.l0.length e2) (.bool p0.n1) (.bool p0.s1) (.slice E3 p0.l1.length e3) 29)
    have hle := Nat.le_trans HC1.out.size hdr0.size
    have V01 := Lib.hid (And.intro ((o1.below hal).mono (new_le hle)) ((o2.below hal).mono (new_le hle)))
    have HV := Lib.hid (from_ (from_ (from_ HC1.out hdr0) hc) hal)
    have Hg7 := Lib.hid (Nat.le_trans hle hc.size)
    clear o1 o2 hc t6 sa sb hdr0 hdr bN J1 J2 lb nb hle JN
    go_wp2
    go_loopw [30] (fun i wr => ∃ (k : Nat) (s : Iv) (E0 E1 : Option Addr) (e0 e1 : Nat), k ≤ n ∧ i = .int .i64 (k : Int) ∧ Hid (IvW (R k) s) ∧ Hid (Box6 wr w7.heap.size (.bool s.n0) (.bool s.s0) (.slice E0 s.l0.length e0) (.bool s.n1) (.bool s.s1) (.slice E1 s.l1.length e1)) ∧ Hid (U64s wr (new W0.heap.size) E0 e0 s.l0 ∧ U64s wr (new W0.heap.size) E1 e1 s.l1) ∧ Below W0.heap.size W0 wr) (fun i _ => n - (intOf i).toNat)
    case atStart => exact ⟨0, p0, _, _, _, _, Nat.zero_le _, rfl, H00, B7, V01, HV.out⟩
    case round =>
      obtain ⟨k, s, E0, E1, e0, e1, hk, rfl, hs, b7, us, hbel⟩ := hrel
      clear B7 V01 HV
      by_cases hlt : k < n
      · obtain ⟨q, G0, d0, G1, d1, b2, o2, c2, hqq, x2, rfl⟩ := HQ.out k hlt
        have hmL : k + 1 < n + 1 := by omega
        have hw1 : IntKind.i64.wrap ((k : Int) + 1) = (k : Int) + 1 := by rw [IntKind.wrap_i64]; omega
        obtain ⟨p, F0, f0, F1, f1, c1, hpp, x1⟩ := HF.out (k + 1) hmL
        obtain ⟨r, hr⟩ : ∃ r, IvW (R (k + 1)) r := ⟨_, IvW.mk _⟩
        replace c1 := six_keep c1 hbel
        obtain ⟨y0, y1, y2, y3, y4, y5⟩ := six_keep c2 hbel
        have hal : Below wr.heap.size wr (wr.alloc (.cells #[.bool q.n0, .bool q.s0, .slice G0 q.l0.length d0, .bool q.n1, .bool q.s1, .slice G1 q.l1.length d1] 29)).drew := ((Below.refl _ _).alloc (Nat.le_refl _) _).drew
        have hW := HWI.out k (k + 1) hlt rfl s r p q hs.out hr hpp hqq (wr.alloc (.cells #[.bool q.n0, .bool q.s0, .slice G0 q.l0.length d0, .bool q.n1, .bool q.s1, .slice G1 q.l1.length d1] 29)).drew _ _ _ _ _ _ _ _ _ _ _ _ _ _ _ _ _ _ (us.out.1.below hal) (us.out.2.below hal) ((x1.1.below hbel).below hal) ((x1.2.below hbel).below hal) ((x2.1.below hbel).below hal) ((x2.2.below hbel).below hal)
        have h1 := six_keep0 b7.out.all hal
        have h2 := six_keep c1 hal
        have h3 := ((Box6.new wr (.bool q.n0) (.bool q.s0) (.slice G0 q.l0.length d0) (.bool q.n1) (.bool q.s1) (.slice G1 q.l1.length d1) 29).below (W' := (wr.alloc (.cells #[.bool q.n0, .bool q.s0, .slice G0 q.l0.length d0, .bool q.n1, .bool q.s1, .slice G1 q.l1.length d1] 29)).drew) ((Below.refl _ _).drew)).all
        have hs3 := And.intro h1 (And.intro h2 h3)
        have HW := Lib.hid hW
        have Hal := Lib.hid hal
        have hgl := b7.out.lt
        have HB7 := Lib.hid (b7.out.below hal)
        have Hr := Lib.hid hr
        clear c1 c2 hqq x2 hpp x1 hr hal hW h1 h2 h3 us hs b7
        generalize s.l0.length = sl0 at *
        generalize s.l1.length = sl1 at *
        generalize p.l0.length = pl0 at *
        generalize p.l1.length = pl1 at *
        generalize q.l0.length = ql0 at *
        generalize q.l1.length = ql1 at *
        generalize s.n0 = sn0 at *
        generalize s.s0 = ss0 at *
        generalize s.n1 = sn1 at *
        generalize s.s1 = ss1 at *
        generalize p.n0 = pn0 at *
        generalize p.s0 = ps0 at *
        generalize p.n1 = pn1 at *
        generalize p.s1 = ps1 at *
        generalize q.n0 = qn0 at *
        generalize q.s0 = qs0 at *
        generalize q.n1 = qn1 at *
        generalize q.s1 = qs1 at *
        go_wp2
        obtain ⟨⟨h0, h1, h2, h3, h4, h5⟩, ⟨h6, h7, h8, h9, h10, h11⟩, ⟨h12, h13, h14, h15, h16, h17⟩⟩ := hs3
        first | go_region_with
          (first
            | (go_at_call 90; with_reducible refine HW.out.mono ?_; rintro e' w2 ⟨E2, e2, E3, e3, rfl, v0, v1, hc⟩; obtain ⟨g0, g1, g2, g3, g4, g5, f0', f1', f2', f3', f4', f5', _⟩ := HB7.out.below hc)
            | fail) | fail
        all_goals
          have hB2 := from_ (from_ hbel Hal.out) hc
          have HP := Lib.hid ((HB7.out.below hc).put (w := W0) hB2 Hg7.out (.bool r.n0) (.bool r.s0) (.slice E2 r.l0.length e2) (.bool r.n1) (.bool r.s1) (.slice E3 r.l1.length e3))
          have hsz := Hal.out.size
          have U := Lib.hid (And.intro ((v0.set6 (g := w7.heap.size) (fun (h : _ ≤ w7.heap.size) => by omega) (.bool r.n0) (.bool r.s0) (.slice E2 r.l0.length e2) (.bool r.n1) (.bool r.s1) (.slice E3 r.l1.length e3)).mono (new_le (Nat.le_trans hbel.size Hal.out.size))) ((v1.set6 (g := w7.heap.size) (fun (h : _ ≤ w7.heap.size) => by omega) (.bool r.n0) (.bool r.s0) (.slice E2 r.l0.length e2) (.bool r.n1) (.bool r.s1) (.slice E3 r.l1.length e3)).mono (new_le (Nat.le_trans hbel.size Hal.out.size))))
          clear v0 v1 hB2 hsz hc h0 h1 h2 h3 h4 h5 h6 h7 h8 h9 h10 h11 h12 h13 h14 h15 h16 h17
          go_wp2
          go_roundw
          case rel => exact ⟨k + 1, r, _, _, _, _, by omega, by go_num, Hr, Lib.hid HP.out.box, U, HP.out.bel⟩
          case measure => simp [intOf]; omega
      · obtain rfl : k = n := by omega
        obtain ⟨z0, z1, z2, z3, z4, z5, _, _, _, _, _, _, _⟩ := id b7.out
        have R4 := HR.out.below hbel
        have hsz := Hsz.out
        obtain rfl := IvW.uniq Hrr.out hs.out
        have HP := Lib.hid (R4.put (w := w) (from_ Hb0.out hbel) (Nat.le_refl _) (.bool r.n0) (.bool r.s0) (.slice E0 r.l0.length e0) (.bool r.n1) (.bool r.s1) (.slice E1 r.l1.length e1))
        have U1 := Lib.hid ((us.out.1.set6 (g := w.heap.size) (fun (h : W0.heap.size ≤ w.heap.size) => by omega) (.bool r.n0) (.bool r.s0) (.slice E0 r.l0.length e0) (.bool r.n1) (.bool r.s1) (.slice E1 r.l1.length e1)).mono (new_le (show w.heap.size ≤ W0.heap.size by omega)))
        have U2 := Lib.hid ((us.out.2.set6 (g := w.heap.size) (fun (h : W0.heap.size ≤ w.heap.size) => by omega) (.bool r.n0) (.bool r.s0) (.slice E0 r.l0.length e0) (.bool r.n1) (.bool r.s1) (.slice E1 r.l1.length e1)).mono (new_le (show w.heap.size ≤ W0.heap.size by omega)))
        obtain ⟨g0, g1, g2, g3, g4, g5, f0', f1', f2', f3', f4', f5', _⟩ := R4
        clear us hs b7
        go_wp2
        refine bodyPost_ret (res_itv2 rfl _ w.heap.size rfl HP.out.box) rfl ?_
        exact ⟨_, _, _, _, rfl, U1.out, U2.out, HP.out.bel⟩
  · have hle := Nat.le_trans HC1.out.size hdr.size
    have hP := (bN.below hc).put (w := W0) (from_ (from_ HC1.out hdr) hc) HC1.out.size (.bool p0.n0) (.bool p0.s0) (.slice E2 p0.l0.length e2) (.bool p0.n1) (.bool p0.s1) (.slice E3 p0.l1.length e3)
    have B7 := Lib.hid hP.box
    have hlt7 : w1.heap.size < (w1.alloc (.cells #[.bool false, .bool false, .slice none 0 0, .bool false, .bool false, .slice none 0 0] 29)).drew.heap.size := by simp
    have V01 := Lib.hid (And.intro ((o1.set6 (g := w1.heap.size) (fun (h : _ ≤ w1.heap.size) => by omega) (.bool p0.n0) (.bool p0.s0) (.slice E2 p0.l0.length e2) (.bool p0.n1) (.bool p0.s1) (.slice E3 p0.l1.length e3)).mono (new_le hle)) ((o2.set6 (g := w1.heap.size) (fun (h : _ ≤ w1.heap.size) => by omega) (.bool p0.n0) (.bool p0.s0) (.slice E2 p0.l0.length e2) (.bool p0.n1) (.bool p0.s1) (.slice E3 p0.l1.length e3)).mono (new_le hle)))
    have HV := Lib.hid hP.bel
    have Hg7 := Lib.hid HC1.out.size
    clear hP hlt7 g0 g1 g2 g3 g4 g5 f0' f1' f2' f3' f4' f5'
    clear o1 o2 hc t6 sa sb hdr0 hdr bN J1 J2 lb nb hle JN
    go_wp2
    go_loopw [30] (fun i wr => ∃ (k : Nat) (s : Iv) (E0 E1 : Option Addr) (e0 e1 : Nat), k ≤ n ∧ i = .int .i64 (k : Int) ∧ Hid (IvW (R k) s) ∧ Hid (Box6 wr w1.heap.size (.bool s.n0) (.bool s.s0) (.slice E0 s.l0.length e0) (.bool s.n1) (.bool s.s1) (.slice E1 s.l1.length e1)) ∧ Hid (U64s wr (new W0.heap.size) E0 e0 s.l0 ∧ U64s wr (new W0.heap.size) E1 e1 s.l1) ∧ Below W0.heap.size W0 wr) (fun i _ => n - (intOf i).toNat)
    case atStart => exact ⟨0, p0, _, _, _, _, Nat.zero_le _, rfl, H00, B7, V01, HV.out⟩
    case round =>
      obtain ⟨k, s, E0, E1, e0, e1, hk, rfl, hs, b7, us, hbel⟩ := hrel
      clear B7 V01 HV
      by_cases hlt : k < n
      · obtain ⟨q, G0, d0, G1, d1, b2, o2, c2, hqq, x2, rfl⟩ := HQ.out k hlt
        have hmL : k + 1 < n + 1 := by omega
        have hw1 : IntKind.i64.wrap ((k : Int) + 1) = (k : Int) + 1 := by rw [IntKind.wrap_i64]; omega
        obtain ⟨p, F0, f0, F1, f1, c1, hpp, x1⟩ := HF.out (k + 1) hmL
        obtain ⟨r, hr⟩ : ∃ r, IvW (R (k + 1)) r := ⟨_, IvW.mk _⟩
        replace c1 := six_keep c1 hbel
        obtain ⟨y0, y1, y2, y3, y4, y5⟩ := six_keep c2 hbel
        have hal : Below wr.heap.size wr (wr.alloc (.cells #[.bool q.n0, .bool q.s0, .slice G0 q.l0.length d0, .bool q.n1, .bool q.s1, .slice G1 q.l1.length d1] 29)).drew := ((Below.refl _ _).alloc (Nat.le_refl _) _).drew
        have hW := HWI.out k (k + 1) hlt rfl s r p q hs.out hr hpp hqq (wr.alloc (.cells #[.bool q.n0, .bool q.s0, .slice G0 q.l0.length d0, .bool q.n1, .bool q.s1, .slice G1 q.l1.length d1] 29)).drew _ _ _ _ _ _ _ _ _ _ _ _ _ _ _ _ _ _ (us.out.1.below hal) (us.out.2.below hal) ((x1.1.below hbel).below hal) ((x1.2.below hbel).below hal) ((x2.1.below hbel).below hal) ((x2.2.below hbel).below hal)
        have h1 := six_keep0 b7.out.all hal
        have h2 := six_keep c1 hal
        have h3 := ((Box6.new wr (.bool q.n0) (.bool q.s0) (.slice G0 q.l0.length d0) (.bool q.n1) (.bool q.s1) (.slice G1 q.l1.length d1) 29).below (W' := (wr.alloc (.cells #[.bool q.n0, .bool q.s0, .slice G0 q.l0.length d0, .bool q.n1, .bool q.s1, .slice G1 q.l1.length d1] 29)).drew) ((Below.refl _ _).drew)).all
        have hs3 := And.intro h1 (And.intro h2 h3)
        have HW := Lib.hid hW
        have Hal := Lib.hid hal
        have hgl := b7.out.lt
        have HB7 := Lib.hid (b7.out.below hal)
        have Hr := Lib.hid hr
        clear c1 c2 hqq x2 hpp x1 hr hal hW h1 h2 h3 us hs b7
        generalize s.l0.length = sl0 at *
        generalize s.l1.length = sl1 at *
        generalize p.l0.length = pl0 at *
        generalize p.l1.length = pl1 at *
        generalize q.l0.length = ql0 at *
        generalize q.l1.length = ql1 at *
        generalize s.n0 = sn0 at *
        generalize s.s0 = ss0 at *
        generalize s.n1 = sn1 at *
        generalize s.s1 = ss1 at *
        generalize p.n0 = pn0 at *
        generalize p.s0 = ps0 at *
        generalize p.n1 = pn1 at *
        generalize p.s1 = ps1 at *
        generalize q.n0 = qn0 at *
        generalize q.s0 = qs0 at *
        generalize q.n1 = qn1 at *
        generalize q.s1 = qs1 at *
        go_wp2
        obtain ⟨⟨h0, h1, h2, h3, h4, h5⟩, ⟨h6, h7, h8, h9, h10, h11⟩, ⟨h12, h13, h14, h15, h16, h17⟩⟩ := hs3
        first | go_region_with
          (first
            | (go_at_call 90; with_reducible refine HW.out.mono ?_; rintro e' w2 ⟨E2, e2, E3, e3, rfl, v0, v1, hc⟩; obtain ⟨g0, g1, g2, g3, g4, g5, f0', f1', f2', f3', f4', f5', _⟩ := HB7.out.below hc)
            | fail) | fail
        all_goals
          have hB2 := from_ (from_ hbel Hal.out) hc
          have HP := Lib.hid ((HB7.out.below hc).put (w := W0) hB2 Hg7.out (.bool r.n0) (.bool r.s0) (.slice E2 r.l0.length e2) (.bool r.n1) (.bool r.s1) (.slice E3 r.l1.length e3))
          have hsz := Hal.out.size
          have U := Lib.hid (And.intro ((v0.set6 (g := w1.heap.size) (fun (h : _ ≤ w1.heap.size) => by omega) (.bool r.n0) (.bool r.s0) (.slice E2 r.l0.length e2) (.bool r.n1) (.bool r.s1) (.slice E3 r.l1.length e3)).mono (new_le (Nat.le_trans hbel.size Hal.out.size))) ((v1.set6 (g := w1.heap.size) (fun (h : _ ≤ w1.heap.size) => by omega) (.bool r.n0) (.bool r.s0) (.slice E2 r.l0.length e2) (.bool r.n1) (.bool r.s1) (.slice E3 r.l1.length e3)).mono (new_le (Nat.le_trans hbel.size Hal.out.size))))
          clear v0 v1 hB2 hsz hc h0 h1 h2 h3 h4 h5 h6 h7 h8 h9 h10 h11 h12 h13 h14 h15 h16 h17
          go_wp2
          go_roundw
          case rel => exact ⟨k + 1, r, _, _, _, _, by omega, by go_num, Hr, Lib.hid HP.out.box, U, HP.out.bel⟩
          case measure => simp [intOf]; omega
      · obtain rfl : k = n := by omega
        obtain ⟨z0, z1, z2, z3, z4, z5, _, _, _, _, _, _, _⟩ := id b7.out
        have R4 := HR.out.below hbel
        have hsz := Hsz.out
        obtain rfl := IvW.uniq Hrr.out hs.out
        have HP := Lib.hid (R4.put (w := w) (from_ Hb0.out hbel) (Nat.le_refl _) (.bool r.n0) (.bool r.s0) (.slice E0 r.l0.length e0) (.bool r.n1) (.bool r.s1) (.slice E1 r.l1.length e1))
        have U1 := Lib.hid ((us.out.1.set6 (g := w.heap.size) (fun (h : W0.heap.size ≤ w.heap.size) => by omega) (.bool r.n0) (.bool r.s0) (.slice E0 r.l0.length e0) (.bool r.n1) (.bool r.s1) (.slice E1 r.l1.length e1)).mono (new_le (show w.heap.size ≤ W0.heap.size by omega)))
        have U2 := Lib.hid ((us.out.2.set6 (g := w.heap.size) (fun (h : W0.heap.size ≤ w.heap.size) => by omega) (.bool r.n0) (.bool r.s0) (.slice E0 r.l0.length e0) (.bool r.n1) (.bool r.s1) (.slice E1 r.l1.length e1)).mono (new_le (show w.heap.size ≤ W0.heap.size by omega)))
        obtain ⟨g0, g1, g2, g3, g4, g5, f0', f1', f2', f3', f4', f5', _⟩ := R4
        clear us hs b7
        go_wp2
        refine bodyPost_ret (res_itv2 rfl _ w.heap.size rfl HP.out.box) rfl ?_
        exact ⟨_, _, _, _, rfl, U1.out, U2.out, HP.out.bel⟩

set_option maxRecDepth 100000 in
set_option maxHeartbeats 4000000 in
theorem lvalue_bad {w : World} {Z Y : Zone} {A B : Option Addr} {c d : Nat} {ps qs : List Iv} {g : Int} (ha : IvsAt w Z A c ps) (hb : IvsAt w Y B d qs) (hs : ∀ p ∈ ps, p.short) (hs2 : ∀ p ∈ qs, p.short) (hg : errFB ps qs = g) (h0 : g ≠ 0) :
    Calls Tryz.prog 41 #[.slice A ps.length c, .slice B qs.length d] w fun e w' => e = .returned (.tuple #[.agg #[.bool false, .bool false, .slice none 0 0, .bool false, .bool false, .slice none 0 0], .int .i64 g]) ∧ Below w.heap.size w w' := by
  have hB0 : Below w.heap.size w (w.alloc (.cells #[.bool false, .bool false, .slice none 0 0, .bool false, .bool false, .slice none 0 0] 29)) := (Below.refl _ w).alloc (Nat.le_refl _) _
  have hR4 := Box6.new w (.bool false) (.bool false) (.slice none 0 0) (.bool false) (.bool false) (.slice none 0 0) 29
  have hck := lchecked_any (ha.below hB0) (hb.below hB0) hs hs2
  rw [hg] at hck
  have t1 : (g != 0) = true := bne_iff_ne.2 h0
  have HR := Lib.hid hR4
  have Hb0 := Lib.hid hB0
  have Hck := Lib.hid hck
  clear ha hb hs hs2 hg h0 hR4 hB0 hck
  generalize ps.length = L at *
  generalize qs.length = M at *
  go_enter Tryz.func41, Tryz.ntmps41
  go_wp2_with fail
  refine Hck.out.mono ?_
  rintro e w1 ⟨rfl, hc⟩
  have R4 := HR.out.below hc
  have HP := Lib.hid (R4.put (w := w) (from_ Hb0.out hc) (Nat.le_refl _) (.bool false) (.bool false) (.slice none 0 0) (.bool false) (.bool false) (.slice none 0 0))
  obtain ⟨g0, g1, g2, g3, g4, g5, f0', f1', f2', f3', f4', f5', _⟩ := R4
  clear hc
  go_wp2
  refine bodyPost_ret (res_itv2 rfl _ w.heap.size rfl HP.out.box) rfl ?_
  exact ⟨rfl, HP.out.bel⟩

end Go.Proofs.YtofhokhlkgcddaaGreat

namespace Go.Proofs.YtofhokhlkgcddaaGreat
open Go.RowKit
set_option linter.unusedVariables false
set_option linter.unusedSimpArgs false

/-- A form's first interval, and the pairs of the others with a box. -/
def hdF (Ps : List IvP) : IvP := Ps.headD (0, 0)
def prF (Ps Qs : List IvP) : List (IvP × IvP) := Ps.tail.zip Qs
theorem hdF_get {Ps : List IvP} (h : 0 < Ps.length) : hdF Ps = Ps[0] := by
  cases Ps with
  | nil => cases h
  | cons a t => rfl
theorem prF_len {Ps Qs : List IvP} (h : Ps.length = Qs.length + 1) : (prF Ps Qs).length = Qs.length := by
  unfold prF
  rw [List.length_zip, List.length_tail]
  omega
theorem prF_get {Ps Qs : List IvP} {k : Nat} (h : k < (prF Ps Qs).length) (h1 : k + 1 < Ps.length) (h2 : k < Qs.length) : (prF Ps Qs)[k] = (Ps[k + 1], Qs[k]) := by
  unfold prF at h ⊢
  rw [List.getElem_zip, List.getElem_tail]
theorem lvalue_w {w : World} {Z Y : Zone} {A B : Option Addr} {c d : Nat} {ps qs : List Iv} {Ps Qs : List IvP} {r : Iv} (ha : IvsAt w Z A c ps) (hb : IvsAt w Y B d qs) (hp : FmW 8 Ps ps) (hq : FmW 8 Qs qs) (hl : ps.length = qs.length + 1) (h40 : qs.length ≤ 40) (hr : IvW (valL (hdF Ps) (prF Ps Qs)) r) :
    Calls Tryz.prog 41 #[.slice A ps.length c, .slice B qs.length d] w fun e w' => ∃ rA ra rB rb, e = .returned (.tuple #[.agg #[.bool r.n0, .bool r.s0, .slice rA r.l0.length ra, .bool r.n1, .bool r.s1, .slice rB r.l1.length rb], .int .i64 0]) ∧ U64s w' (new w.heap.size) rA ra r.l0 ∧ U64s w' (new w.heap.size) rB rb r.l1 ∧ Below w.heap.size w w' := by
  have pl := hp.len
  have ql := hq.len
  have hL : Ps.length = Qs.length + 1 := by omega
  have hwl := prF_len hL
  have h0 : 0 < Ps.length := by omega
  have hws : ∀ q ∈ prF Ps Qs, IvN 8 q.1.1 q.1.2 ∧ IvN 8 q.2.1 q.2.2 := fun q hm => by
    obtain ⟨j, hj, rfl⟩ := List.getElem_of_mem hm
    rw [prF_get hj (by omega) (by omega)]
    exact ⟨hp.n (j + 1) (by omega), hq.n j (by omega)⟩
  have hh : IvN 16 (hdF Ps).1 (hdF Ps).2 := by
    rw [hdF_get h0]
    exact (hp.n 0 h0).up (by omega)
  rw [hl]
  refine lvalue_run (R := runV (hdF Ps) (prF Ps Qs)) ha hb hp hq rfl hl h40 (fun h => by rw [runV_zero, hdF_get h]) (fun k h1 h2 => ?_) (fun k hk => runV_ok (by omega) (by omega) hh hws) ?_
  · rw [runV_succ (by rw [hwl]; exact h2), prF_get (by rw [hwl]; exact h2) h1 h2]
  · rw [show qs.length = (prF Ps Qs).length by rw [hwl]; omega, runV_all]
    exact hr

end Go.Proofs.YtofhokhlkgcddaaGreat

namespace Go.Proofs.YtofhokhlkgcddaaGreat
set_option linter.unusedVariables false
set_option linter.unusedSimpArgs false

-- sums, whatever the numbers' bound
theorem valK_ok {K : Nat} : ∀ (fb : List (IvP × IvP)) (out : IvP) (N : Nat), K + K ≤ N → N + fb.length ≤ 60 → IvN N out.1 out.2 → (∀ q ∈ fb, IvN K q.1.1 q.1.2 ∧ IvN K q.2.1 q.2.2) → IvN (N + fb.length) (valL out fb).1 (valL out fb).2 := by
  intro fb
  induction fb with
  | nil => intro out N _ _ h _; exact h
  | cons q t ih =>
    intro out N hN hl h hq
    rw [List.length_cons] at hl ⊢
    have h1 := hq q (by simp)
    have h2 := ivA_ok h ((ivM_ok h1.1 h1.2 (by omega)).up hN) (by omega)
    have h3 := ih (ivA out (ivM q.1 q.2)) (N + 1) (by omega) (by omega) h2 fun x hx => hq x (by simp [hx])
    rw [show N + (t.length + 1) = N + 1 + t.length by omega]
    exact h3
theorem valK_in {K : Nat} : ∀ (fb : List (IvP × IvP)) (ws : List (Int × Int)) (out : IvP) (N : Nat) (a : Int), ws.length = fb.length → K + K ≤ N → N + fb.length ≤ 60 → IvN N out.1 out.2 → (∀ q ∈ fb, IvN K q.1.1 q.1.2 ∧ IvN K q.2.1 q.2.2) →
    inI a out → (-wN N < a ∧ a < wN N) → (∀ j (h1 : j < ws.length) (h2 : j < fb.length), (inI ws[j].1 fb[j].1 ∧ inI ws[j].2 fb[j].2) ∧ (-wN K < ws[j].1 ∧ ws[j].1 < wN K) ∧ (-wN K < ws[j].2 ∧ ws[j].2 < wN K)) → inI (sumL a ws) (valL out fb) ∧ (-wN (N + fb.length) < sumL a ws ∧ sumL a ws < wN (N + fb.length)) := by
  intro fb
  induction fb with
  | nil =>
    intro ws out N a hl _ _ _ _ ha hb _
    have : ws = [] := List.eq_nil_of_length_eq_zero hl
    subst this
    exact ⟨ha, hb⟩
  | cons q t ih =>
    intro ws out N a hl hN hlen h hq ha hb hw
    cases ws with
    | nil => simp at hl
    | cons p ws =>
      rw [List.length_cons] at hlen
      rw [List.length_cons, List.length_cons] at hl
      have h1 := hq q (by simp)
      have h0 := hw 0 (by simp) (by simp)
      rw [List.getElem_cons_zero, List.getElem_cons_zero] at h0
      obtain ⟨⟨i1, i2⟩, b1, b2⟩ := h0
      have hm := mul_in (h1.1.up (by omega)) (h1.2.up (by omega)) (bound_up b1 (by omega)) (bound_up b2 (by omega)) i1 i2
      have hbm := bound_up (bound_mul b1 b2) hN
      have h2 := ivA_ok h ((ivM_ok h1.1 h1.2 (by omega)).up hN) (by omega)
      have h3 := add_in h ((ivM_ok h1.1 h1.2 (by omega)).up hN) (by omega) hb hbm ha hm
      have := ih ws (ivA out (ivM q.1 q.2)) (N + 1) (a + p.1 * p.2) (by omega) (by omega) (by omega) h2 (fun x hx => hq x (by simp [hx])) h3 (bound_add hb hbm) fun j g1 g2 => by
        have h9 := hw (j + 1) (by rw [List.length_cons]; omega) (by rw [List.length_cons]; omega)
        rwa [List.getElem_cons_succ, List.getElem_cons_succ] at h9
      rw [List.length_cons, show N + (t.length + 1) = N + 1 + t.length by omega]
      exact this
theorem runK_ok {K N k : Nat} {o : IvP} {ws : List (IvP × IvP)} (hN : K + K ≤ N) (hk : N + k ≤ 60) (h : IvN N o.1 o.2) (hq : ∀ q ∈ ws, IvN K q.1.1 q.1.2 ∧ IvN K q.2.1 q.2.2) : IvN (N + k) (runV o ws k).1 (runV o ws k).2 := by
  have h1 := valK_ok (ws.take k) o N hN (by rw [List.length_take]; omega) h fun q hm => hq q (List.mem_of_mem_take hm)
  exact h1.up (by rw [List.length_take]; omega)

-- middles
theorem tq_small {x : Int} : (tq x 2).natAbs * 2 ≤ x.natAbs := by
  unfold tq
  have h : x.natAbs / (2 : Int).natAbs * 2 ≤ x.natAbs := Nat.div_mul_le_self _ _
  generalize x.natAbs / (2 : Int).natAbs = q at *
  split <;> omega
theorem rq_small {x : Int} : (rq x 2 true).natAbs * 2 ≤ x.natAbs + 2 := by
  have h := tq_small (x := x)
  unfold rq
  generalize tq x 2 = q at *
  split
  · simp only [if_true]; omega
  · omega
theorem midI_ok {P : IvP} (h : IvN 8 P.1 P.2) : IvN 9 (midI P) (midI P) ∧ (-bigZ < midI P ∧ midI P < bigZ) ∧ (-wN 9 < midI P ∧ midI P < wN 9) := by
  have h9 : wN 8 + wN 8 ≤ wN 9 := wN_two 8
  have hp := wN_pos 8
  have h8 : wN 9 ≤ bigZ := wN_le (by omega)
  have hb : -wN 9 < midI P ∧ midI P < wN 9 := by
    unfold midI
    split
    · omega
    · rename_i hn
      have a1 := h.lo
      have a2 := h.hi
      have h1 := rq_small (x := P.1 + P.2)
      generalize rq (P.1 + P.2) 2 true = r at *
      unfold Ext at a1 a2
      have := h.nlo
      have := h.nhi
      have e1 : -wN 8 < P.1 ∧ P.1 < wN 8 := by omega
      have e2 : -wN 8 < P.2 ∧ P.2 < wN 8 := by omega
      omega
  exact ⟨⟨.inr (.inr hb), .inr (.inr hb), Int.le_refl _, by omega, by omega⟩, by omega, hb⟩

/-- The row of the middles, and the pairs of the rest. -/
def rowL (Ps : List IvP) : List Int := 0 :: Ps.tail.map midI
def lessI (P : IvP) : IvP := ivA P (ivNg (midI P, midI P))
def prS (Ps Qs : List IvP) : List (IvP × IvP) := (Ps.tail.map lessI).zip Qs
theorem prS_len {Ps Qs : List IvP} (h : Ps.length = Qs.length + 1) : (prS Ps Qs).length = Qs.length := by
  unfold prS
  rw [List.length_zip, List.length_map, List.length_tail]
  omega
theorem prS_get {Ps Qs : List IvP} {k : Nat} (h : k < (prS Ps Qs).length) (h1 : k + 1 < Ps.length) (h2 : k < Qs.length) : (prS Ps Qs)[k] = (lessI Ps[k + 1], Qs[k]) := by
  unfold prS at h ⊢
  rw [List.getElem_zip, List.getElem_map, List.getElem_tail]
theorem lessI_ok {P : IvP} (h : IvN 8 P.1 P.2) : IvN 12 (lessI P).1 (lessI P).2 :=
  (ivA_ok (h.up (by omega)) (ivNg_ok (midI_ok h).1) (by omega)).up (by omega)
theorem lessI_in {P : IvP} {a : Int} (h : IvN 8 P.1 P.2) (ha : inI a P) (hb : -wN 8 < a ∧ a < wN 8) : inI (a - midI P) (lessI P) ∧ (-wN 12 < a - midI P ∧ a - midI P < wN 12) := by
  obtain ⟨m1, m2, m3⟩ := midI_ok h
  have hi : inI (-midI P) (ivNg (midI P, midI P)) := neg_in ⟨Int.le_refl _, Int.le_refl _⟩
  have := add_in (N := 9) (h.up (by omega)) (ivNg_ok m1) (by omega) (bound_up hb (by omega)) (show -wN 9 < -midI P ∧ -midI P < wN 9 by omega) ha hi
  rw [← Int.sub_eq_add_neg] at this
  have h8 : wN 8 ≤ wN 9 := wN_mono (by omega)
  have h9 : wN 9 + wN 9 ≤ wN 10 := wN_two 9
  have h10 : wN 10 ≤ wN 12 := wN_mono (by omega)
  exact ⟨this, by omega, by omega⟩

/-- The row so far. -/
def rowS (Ps : List IvP) : Nat → List Int
  | 0 => List.replicate Ps.length 0
  | k + 1 => (rowS Ps k).set (k + 1) (midI (Ps.getD (k + 1) (0, 0)))
theorem rowS_len (Ps : List IvP) (k : Nat) : (rowS Ps k).length = Ps.length := by
  induction k with
  | zero => simp [rowS]
  | succ k ih => simp [rowS, ih]
theorem rowS_get {Ps : List IvP} : ∀ (k j : Nat) (h : j < (rowS Ps k).length), (rowS Ps k)[j] = if 0 < j ∧ j ≤ k then midI (Ps.getD j (0, 0)) else 0 := by
  intro k
  induction k with
  | zero =>
    intro j h
    rw [if_neg (by omega)]
    simp [rowS]
  | succ k ih =>
    intro j h
    simp only [rowS]
    rw [List.getElem_set]
    by_cases hj : k + 1 = j
    · subst hj
      rw [if_pos rfl, if_pos (by omega)]
    · rw [if_neg hj, ih j (by rw [rowS_len] at h ⊢; exact h)]
      by_cases h2 : 0 < j ∧ j ≤ k
      · rw [if_pos h2, if_pos (by omega)]
      · rw [if_neg h2, if_neg (by omega)]
theorem rowS_all {Ps : List IvP} {n : Nat} (h : Ps.length = n + 1) : rowS Ps n = rowL Ps := by
  refine List.ext_getElem ?_ fun j h1 h2 => ?_
  · rw [rowS_len, rowL, List.length_cons, List.length_map, List.length_tail]; omega
  · rw [rowS_get]
    rw [rowS_len] at h1
    rcases j with _ | j
    · rw [if_neg (by omega)]; rfl
    · rw [if_pos (by omega)]
      simp only [rowL]
      rw [List.getElem_cons_succ, List.getElem_map, List.getElem_tail, List.getD_eq_getElem?_getD, List.getElem?_eq_getElem h1]
      rfl

-- a form's numbers, of words
def Iv.P (p : Iv) : IvP := (p.lo, p.hi)
theorem iv_of {N : Nat} {p : Iv} (h : p.ok = true) (m0 : Small p.l0) (m1 : Small p.l1) (q0 : p.l0.length ≤ N) (q1 : p.l1.length ≤ N) (hN : N ≤ 60) : IvW p.P p ∧ IvN N p.P.1 p.P.2 := by
  have hf : p.fine 60 := ⟨m0, m1, by omega, by omega⟩
  have e := Iv.is h hf
  obtain ⟨h1, h2⟩ := okA_ends h
  have r1 := lo_range (n := p.n0) (s := p.s0) m0 (show p.l0.length ≤ 60 by omega)
  have r2 := hi_range (n := p.n1) (s := p.s1) m1 (show p.l1.length ≤ 60 by omega)
  have hle := okA_le h m0 m1 (by omega) (by omega)
  obtain ⟨b, s', l', A', c', P⟩ := Plc.ex (-1) p.n0 p.s0 p.l0 none 0
  obtain ⟨d, t', k', B', e', Q⟩ := Plc.ex 1 p.n1 p.s1 p.l1 none 0
  have u := P.lo h1 m0 (show p.l0.length ≤ 60 by omega)
  have v := Q.hi h2 m1 (show p.l1.length ≤ 60 by omega)
  have g1 := P.len
  have g2 := Q.len
  refine ⟨?_, u.ext (by omega), v.ext (by omega), hle, r1.2, r2.1⟩
  have hk := IvW.mk (p.lo, p.hi)
  unfold Iv.P
  rw [show ivOf (p.lo, p.hi).1 (p.lo, p.hi).2 = p from e.symm] at hk
  exact hk
theorem fmw_of {N : Nat} {ps : List Iv} (h : ps.all Iv.ok = true) (hs : ∀ p ∈ ps, Small p.l0 ∧ Small p.l1) (hl : ∀ p ∈ ps, p.l0.length ≤ N ∧ p.l1.length ≤ N) (hN : N ≤ 60) : FmW N (ps.map Iv.P) ps := by
  refine ⟨(List.length_map _).symm, fun j h1 h2 => ?_⟩
  have hm : ps[j] ∈ ps := List.getElem_mem h1
  rw [List.getElem_map]
  exact iv_of (List.all_eq_true.1 h _ hm) (hs _ hm).1 (hs _ hm).2 (hl _ hm).1 (hl _ hm).2 hN

end Go.Proofs.YtofhokhlkgcddaaGreat
