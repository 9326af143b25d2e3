/-
  Linear forms, the program's: Value of forms given by their ends' numbers. No conditions but bounds on lengths.
  Linear forms, the program's: Value of a form and a box given by numbers. No conditions but bounds on lengths.
  Linear forms: split, plain: the row of the middles and the interval of the rest; what a form is, of numbers, lies in them. Forms told by their words. No conditions.
  facetroomlaw17.pick: a number of an interval. No conditions but bounds on lengths.
  facetroomlaw17.is: what a form is, of numbers. No conditions but bounds on lengths.
  Rows of numbers that a loop appends to, whatever memory their words lie in, but not in the row's own; intervals in elder memory. No conditions.
  Linear forms: what a form is, of numbers of a box, lies in what it may be, and without the row's product in the interval of the rest; plain. No conditions.
  Loops of facetroomlaw17's statements: numbers of intervals are picked and appended. No conditions.
  facetroomlaw17.is of numbers given by rows: what a form is. No conditions but bounds on lengths.
  Two rows of numbers that one loop appends to; forms added, turned and scaled: plain. No conditions.
-/
import Derived.Deep.RegionHeld3
import Derived.Deep.DeepCutAuto
import Derived.Test.YtamenhffplhddaaGreatLLinT
import Derived.Test.YtamenhffplhddaaGreatLLinO
import Derived.Test.YtamenhffplhddaaGreatLFrameJ
import Derived.Test.YtamenhffplhddaaGreatLVecK
import Derived.Test.YtamenhffplhddaaGreatLLinG
namespace Go.Proofs.YtamenhffplhddaaGreat
open Go.RowKit
set_option linter.unusedVariables false
set_option linter.unusedSimpArgs false


set_option maxRecDepth 100000 in
set_option maxHeartbeats 4000000 in
theorem lvalue_run {w : World} {Z Y : Zone} {A B : Option Addr} {c d n : Nat} {ps qs : List Iv} {Ps Qs : List IvP} {R : Nat → IvP} {r : Iv} (ha : IvsAt w Z A c ps) (hb : IvsAt w Y B d qs) (hp : FmW 8 Ps ps) (hq : FmW 8 Qs qs) (hn : qs.length = n) (hpn : ps.length = n + 1) (h40 : n ≤ 40)
    (hR0 : ∀ (h : 0 < Ps.length), R 0 = Ps[0]) (hRs : ∀ k (h1 : k + 1 < Ps.length) (h2 : k < Qs.length), R (k + 1) = ivA (R k) (ivM Ps[k + 1] Qs[k])) (hRN : ∀ k, k ≤ n → IvN (16 + k) (R k).1 (R k).2) (hr : IvW (R n) r) :
    Calls Tryz.prog 37 #[.slice A (n + 1) c, .slice B n d] w fun e w' => ∃ rA ra rB rb, e = .returned (.tuple #[.agg #[.bool r.n0, .bool r.s0, .slice rA r.l0.length ra, .bool r.n1, .bool r.s1, .slice rB r.l1.length rb], .int .i64 0]) ∧ U64s w' (new w.heap.size) rA ra r.l0 ∧ U64s w' (new w.heap.size) rB rb r.l1 ∧ Below w.heap.size w w' := by
  have hB0 : Below w.heap.size w (w.alloc (.cells #[.bool false, .bool false, .slice none 0 0, .bool false, .bool false, .slice none 0 0] 29)) := (Below.refl _ w).alloc (Nat.le_refl _) _
  have hR4 := Box6.new w (.bool false) (.bool false) (.slice none 0 0) (.bool false) (.bool false) (.slice none 0 0) 29
  have hsz0 : (w.alloc (.cells #[.bool false, .bool false, .slice none 0 0, .bool false, .bool false, .slice none 0 0] 29)).heap.size = w.heap.size + 1 := by simp
  have hck := lchecked_any (ha.below hB0) (hb.below hB0) (hp.short (by omega)) (hq.short (by omega))
  rw [show errFB ps qs = 0 by unfold errFB; rw [if_pos ⟨hp.err (by omega) (by omega), hq.all (by omega)⟩, if_pos (by omega)]] at hck
  rw [hpn, hn] at hck
  have pl := hp.len
  have ql := hq.len
  have ha0 := ha.below hB0
  have hb0 := hb.below hB0
  obtain ⟨b, o, X0, x0, X1, x1, rfl, hbb, hX⟩ := ha.at (j := 0) (by omega)
  clear hX
  generalize hW0 : w.alloc (.cells #[.bool false, .bool false, .slice none 0 0, .bool false, .bool false, .slice none 0 0] 29) = W0 at *
  have HF : Hid (∀ j (hj : j < n + 1), ∃ (p : Iv) (F0 : Option Addr) (f0 : Nat) (F1 : Option Addr) (f1 : Nat), (W0.cell? ⟨b, o + j * 6, none⟩ = some (.bool p.n0) ∧ W0.cell? ⟨b, o + j * 6 + 1, none⟩ = some (.bool p.s0) ∧ W0.cell? ⟨b, o + j * 6 + 2, none⟩ = some (.slice F0 p.l0.length f0) ∧ W0.cell? ⟨b, o + j * 6 + 3, none⟩ = some (.bool p.n1) ∧ W0.cell? ⟨b, o + j * 6 + 4, none⟩ = some (.bool p.s1) ∧ W0.cell? ⟨b, o + j * 6 + 5, none⟩ = some (.slice F1 p.l1.length f1)) ∧ (∃ h' : j < Ps.length, IvW Ps[j] p ∧ IvN 8 Ps[j].1 Ps[j].2) ∧ (U64s W0 Z F0 f0 p.l0 ∧ U64s W0 Z F1 f1 p.l1)) := fun j hj => by
    obtain ⟨b', o', F0, f0, F1, f1, e, _, hc, u0, u1⟩ := ha0.at (j := j) (by omega)
    injection e with e
    injection e with e1 e2
    subst e1 e2
    exact ⟨ps[j], F0, f0, F1, f1, hc, ⟨by omega, hp.iv j (by omega) (by omega)⟩, u0, u1⟩
  have HQ : Hid (∀ j (hj : j < n), ∃ (q : Iv) (G0 : Option Addr) (d0 : Nat) (G1 : Option Addr) (d1 : Nat) (b2 o2 : Nat), (W0.cell? ⟨b2, o2 + j * 6, none⟩ = some (.bool q.n0) ∧ W0.cell? ⟨b2, o2 + j * 6 + 1, none⟩ = some (.bool q.s0) ∧ W0.cell? ⟨b2, o2 + j * 6 + 2, none⟩ = some (.slice G0 q.l0.length d0) ∧ W0.cell? ⟨b2, o2 + j * 6 + 3, none⟩ = some (.bool q.n1) ∧ W0.cell? ⟨b2, o2 + j * 6 + 4, none⟩ = some (.bool q.s1) ∧ W0.cell? ⟨b2, o2 + j * 6 + 5, none⟩ = some (.slice G1 q.l1.length d1)) ∧ (∃ h' : j < Qs.length, IvW Qs[j] q ∧ IvN 8 Qs[j].1 Qs[j].2) ∧ (U64s W0 Y G0 d0 q.l0 ∧ U64s W0 Y G1 d1 q.l1) ∧ B = some ⟨b2, o2, none⟩) := fun j hj => by
    obtain ⟨b', o', F0, f0, F1, f1, e, _, hc, u0, u1⟩ := hb0.at (j := j) (by omega)
    exact ⟨qs[j], F0, f0, F1, f1, b', o', hc, ⟨by omega, hq.iv j (by omega) (by omega)⟩, ⟨u0, u1⟩, e⟩
  have HWI : Hid (∀ k m, k < n → m = k + 1 → ∀ s r p q, IvW (R k) s → IvW (R m) r → (∃ h' : m < Ps.length, IvW Ps[m] p ∧ IvN 8 Ps[m].1 Ps[m].2) → (∃ h' : k < Qs.length, IvW Qs[k] q ∧ IvN 8 Qs[k].1 Qs[k].2) → ∀ (W : World) (Z1 Z2 Z3 Z4 Z5 Z6 : Zone) (A B C D E F : Option Addr) (a b c d e f : Nat), U64s W Z1 A a s.l0 → U64s W Z2 B b s.l1 → U64s W Z3 C c p.l0 → U64s W Z4 D d p.l1 → U64s W Z5 E e q.l0 → U64s W Z6 F f q.l1 →
      Calls Tryz.prog 85 #[.agg #[.bool s.n0, .bool s.s0, .slice A s.l0.length a, .bool s.n1, .bool s.s1, .slice B s.l1.length b], .agg #[.bool p.n0, .bool p.s0, .slice C p.l0.length c, .bool p.n1, .bool p.s1, .slice D p.l1.length d], .agg #[.bool q.n0, .bool q.s0, .slice E q.l0.length e, .bool q.n1, .bool q.s1, .slice F q.l1.length f]] W fun e w' => ∃ rA ra rB rb, e = .returned (.agg #[.bool r.n0, .bool r.s0, .slice rA r.l0.length ra, .bool r.n1, .bool r.s1, .slice rB r.l1.length rb]) ∧ U64s w' (new W.heap.size) rA ra r.l0 ∧ U64s w' (new W.heap.size) rB rb r.l1 ∧ Below W.heap.size W w') := by
    rintro k m hk rfl s r p q hs hr ⟨h1, hp1, hp2⟩ ⟨h2, hq1, hq2⟩ W Z1 Z2 Z3 Z4 Z5 Z6 A B C D E F a b c d e f u1 u2 u3 u4 u5 u6
    exact lwith_w hs hp1 hq1 (by rw [← hRs k h1 h2]; exact hr) (hRN k (by omega)) hp2 hq2 (by omega) u1 u2 u3 u4 u5 u6
  obtain ⟨p0, F0, f0, F1, f1, c0, ⟨hp1, hp2, hp3⟩, u0⟩ := HF.out 0 (by omega)
  simp only [Nat.zero_mul, Nat.add_zero] at c0
  have JN := Lib.hid (fun (W : World) (h : Below W0.heap.size W0 W) => ijoin_w (w := W) hp2 hp3 (by omega) (u0.1.below h) (u0.2.below h) (u0.1.below h) (u0.2.below h))
  have H00 : Hid (IvW (R 0) p0) := Lib.hid (by rw [hR0 hp1]; exact hp2)
  have Hrr := Lib.hid hr
  have HR := Lib.hid hR4
  have Hb0 := Lib.hid hB0
  have Hsz := Lib.hid hsz0
  have Hck := Lib.hid hck
  clear ha hb hp hq hn hpn hR0 hRs hRN hr hR4 hB0 hsz0 hck ha0 hb0 pl ql hp1 hp2 hp3 u0
  go_enter Tryz.func37, Tryz.ntmps37
  go_wp2_with fail
  try simp only [hW0]
  refine Hck.out.mono ?_
  rintro e w1 ⟨rfl, hc⟩
  have HC1 := Lib.hid hc
  have s0 := six_keep c0 hc
  clear hc c0 hW0 Hck
  have hdr0 : Below w1.heap.size w1 w1.drew := (Below.refl _ _).drew
  have hdr : Below w1.heap.size w1 (w1.alloc (.cells #[.bool false, .bool false, .slice none 0 0, .bool false, .bool false, .slice none 0 0] 29)).drew := ((Below.refl _ _).alloc (Nat.le_refl _) _).drew
  have bN := (Box6.new w1 (.bool false) (.bool false) (.slice none 0 0) (.bool false) (.bool false) (.slice none 0 0) 29).below (W' := (w1.alloc (.cells #[.bool false, .bool false, .slice none 0 0, .bool false, .bool false, .slice none 0 0] 29)).drew) ((Below.refl _ _).drew)
  have sa := six_keep s0 hdr
  have sb := six_keep s0 hdr0
  have J1 := Lib.hid (JN.out _ (from_ HC1.out hdr0))
  have J2 := Lib.hid (JN.out _ (from_ HC1.out hdr))
  have lb := lt_of_cell s0.1
  simp only at lb
  have nb : w1.heap.size ≠ b := by omega
  clear s0
  go_wp2
  first | go_region_held3 (fun w' => w'.cell? ⟨b, o, none⟩ = some (.bool p0.n0) ∧ w'.cell? ⟨b, o + 1, none⟩ = some (.bool p0.s0) ∧ w'.cell? ⟨b, o + 2, none⟩ = some (.slice F0 p0.l0.length f0) ∧ w'.cell? ⟨b, o + 3, none⟩ = some (.bool p0.n1) ∧ w'.cell? ⟨b, o + 4, none⟩ = some (.bool p0.s1) ∧ w'.cell? ⟨b, o + 5, none⟩ = some (.slice F1 p0.l1.length f1))
    (first
      | (go_keep; done)
      | with_reducible exact sb
      | with_reducible exact sa
      | with_reducible exact t6
      | exact six_keep t6 ((Below.refl _ _).alloc (Nat.le_refl _) _)
      | with_reducible exact six_st6 nb t6)
    (first
      | (go_at_call 84; with_reducible refine J1.out.mono ?_; rintro e w7 ⟨E2, e2, E3, e3, rfl, o1, o2, hc⟩; have t6 := six_keep sb hc)
      | (go_at_call 84; with_reducible refine J2.out.mono ?_; rintro e w7 ⟨E2, e2, E3, e3, rfl, o1, o2, hc⟩; have t6 := six_keep sa hc; obtain ⟨g0, g1, g2, g3, g4, g5, f0', f1', f2', f3', f4', f5', _⟩ := bN.below hc)) | fail
  · have hal : Below w7.heap.size w7 (w7.alloc (.cells #[.bool p0.n0, .bool p0.s0, .slice E2 p0.l0.length e2, .bool p0.n1, .bool p0.s1, .slice E3 p0.l1.length e3] 29)) := (Below.refl _ w7).alloc (Nat.le_refl _) _
    have B7 := Lib.hid (Box6.new w7 (.bool p0.n0) (.bool p0.s0) (.slice E2 p0.l0.length e2) (.bool p0.n1) (.bool p0.s1) (.slice E3 p0.l1.length e3) 29)
    have hle := Nat.le_trans HC1.out.size hdr0.size
    have V01 := Lib.hid (And.intro ((o1.below hal).mono (new_le hle)) ((o2.below hal).mono (new_le hle)))
    have HV := Lib.hid (from_ (from_ (from_ HC1.out hdr0) hc) hal)
    have Hg7 := Lib.hid (Nat.le_trans hle hc.size)
    clear o1 o2 hc t6 sa sb hdr0 hdr bN J1 J2 lb nb hle JN
    go_wp2
    go_loopw [30] (fun i wr => ∃ (k : Nat) (s : Iv) (E0 E1 : Option Addr) (e0 e1 : Nat), k ≤ n ∧ i = .int .i64 (k : Int) ∧ Hid (IvW (R k) s) ∧ Hid (Box6 wr w7.heap.size (.bool s.n0) (.bool s.s0) (.slice E0 s.l0.length e0) (.bool s.n1) (.bool s.s1) (.slice E1 s.l1.length e1)) ∧ Hid (U64s wr (new W0.heap.size) E0 e0 s.l0 ∧ U64s wr (new W0.heap.size) E1 e1 s.l1) ∧ Below W0.heap.size W0 wr) (fun i _ => n - (intOf i).toNat)
    case atStart => exact ⟨0, p0, _, _, _, _, Nat.zero_le _, rfl, H00, B7, V01, HV.out⟩
    case round =>
      obtain ⟨k, s, E0, E1, e0, e1, hk, rfl, hs, b7, us, hbel⟩ := hrel
      clear B7 V01 HV
      by_cases hlt : k < n
      · obtain ⟨q, G0, d0, G1, d1, b2, o2, c2, hqq, x2, rfl⟩ := HQ.out k hlt
        have hmL : k + 1 < n + 1 := by omega
        have hw1 : IntKind.i64.wrap ((k : Int) + 1) = (k : Int) + 1 := by rw [IntKind.wrap_i64]; omega
        obtain ⟨p, F0, f0, F1, f1, c1, hpp, x1⟩ := HF.out (k + 1) hmL
        obtain ⟨r, hr⟩ : ∃ r, IvW (R (k + 1)) r := ⟨_, IvW.mk _⟩
        replace c1 := six_keep c1 hbel
        obtain ⟨y0, y1, y2, y3, y4, y5⟩ := six_keep c2 hbel
        have hal : Below wr.heap.size wr (wr.alloc (.cells #[.bool q.n0, .bool q.s0, .slice G0 q.l0.length d0, .bool q.n1, .bool q.s1, .slice G1 q.l1.length d1] 29)).drew := ((Below.refl _ _).alloc (Nat.le_refl _) _).drew
        have hW := HWI.out k (k + 1) hlt rfl s r p q hs.out hr hpp hqq (wr.alloc (.cells #[.bool q.n0, .bool q.s0, .slice G0 q.l0.length d0, .bool q.n1, .bool q.s1, .slice G1 q.l1.length d1] 29)).drew _ _ _ _ _ _ _ _ _ _ _ _ _ _ _ _ _ _ (us.out.1.below hal) (us.out.2.below hal) ((x1.1.below hbel).below hal) ((x1.2.below hbel).below hal) ((x2.1.below hbel).below hal) ((x2.2.below hbel).below hal)
        have h1 := six_keep0 b7.out.all hal
        have h2 := six_keep c1 hal
        have h3 := ((Box6.new wr (.bool q.n0) (.bool q.s0) (.slice G0 q.l0.length d0) (.bool q.n1) (.bool q.s1) (.slice G1 q.l1.length d1) 29).below (W' := (wr.alloc (.cells #[.bool q.n0, .bool q.s0, .slice G0 q.l0.length d0, .bool q.n1, .bool q.s1, .slice G1 q.l1.length d1] 29)).drew) ((Below.refl _ _).drew)).all
        have hs3 := And.intro h1 (And.intro h2 h3)
        have HW := Lib.hid hW
        have Hal := Lib.hid hal
        have hgl := b7.out.lt
        have HB7 := Lib.hid (b7.out.below hal)
        have Hr := Lib.hid hr
        clear c1 c2 hqq x2 hpp x1 hr hal hW h1 h2 h3 us hs b7
        generalize s.l0.length = sl0 at *
        generalize s.l1.length = sl1 at *
        generalize p.l0.length = pl0 at *
        generalize p.l1.length = pl1 at *
        generalize q.l0.length = ql0 at *
        generalize q.l1.length = ql1 at *
        generalize s.n0 = sn0 at *
        generalize s.s0 = ss0 at *
        generalize s.n1 = sn1 at *
        generalize s.s1 = ss1 at *
        generalize p.n0 = pn0 at *
        generalize p.s0 = ps0 at *
        generalize p.n1 = pn1 at *
        generalize p.s1 = ps1 at *
        generalize q.n0 = qn0 at *
        generalize q.s0 = qs0 at *
        generalize q.n1 = qn1 at *
        generalize q.s1 = qs1 at *
        go_wp2
        obtain ⟨⟨h0, h1, h2, h3, h4, h5⟩, ⟨h6, h7, h8, h9, h10, h11⟩, ⟨h12, h13, h14, h15, h16, h17⟩⟩ := hs3
        first | go_region_with
          (first
            | (go_at_call 85; with_reducible refine HW.out.mono ?_; rintro e' w2 ⟨E2, e2, E3, e3, rfl, v0, v1, hc⟩; obtain ⟨g0, g1, g2, g3, g4, g5, f0', f1', f2', f3', f4', f5', _⟩ := HB7.out.below hc)
            | fail) | fail
        all_goals
          have hB2 := from_ (from_ hbel Hal.out) hc
          have HP := Lib.hid ((HB7.out.below hc).put (w := W0) hB2 Hg7.out (.bool r.n0) (.bool r.s0) (.slice E2 r.l0.length e2) (.bool r.n1) (.bool r.s1) (.slice E3 r.l1.length e3))
          have hsz := Hal.out.size
          have U := Lib.hid (And.intro ((v0.set6 (g := w7.heap.size) (fun (h : _ ≤ w7.heap.size) => by omega) (.bool r.n0) (.bool r.s0) (.slice E2 r.l0.length e2) (.bool r.n1) (.bool r.s1) (.slice E3 r.l1.length e3)).mono (new_le (Nat.le_trans hbel.size Hal.out.size))) ((v1.set6 (g := w7.heap.size) (fun (h : _ ≤ w7.heap.size) => by omega) (.bool r.n0) (.bool r.s0) (.slice E2 r.l0.length e2) (.bool r.n1) (.bool r.s1) (.slice E3 r.l1.length e3)).mono (new_le (Nat.le_trans hbel.size Hal.out.size))))
          clear v0 v1 hB2 hsz hc h0 h1 h2 h3 h4 h5 h6 h7 h8 h9 h10 h11 h12 h13 h14 h15 h16 h17
          go_wp2
          go_roundw
          case rel => exact ⟨k + 1, r, _, _, _, _, by omega, by go_num, Hr, Lib.hid HP.out.box, U, HP.out.bel⟩
          case measure => simp [intOf]; omega
      · obtain rfl : k = n := by omega
        obtain ⟨z0, z1, z2, z3, z4, z5, _, _, _, _, _, _, _⟩ := id b7.out
        have R4 := HR.out.below hbel
        have hsz := Hsz.out
        obtain rfl := IvW.uniq Hrr.out hs.out
        have HP := Lib.hid (R4.put (w := w) (from_ Hb0.out hbel) (Nat.le_refl _) (.bool r.n0) (.bool r.s0) (.slice E0 r.l0.length e0) (.bool r.n1) (.bool r.s1) (.slice E1 r.l1.length e1))
        have U1 := Lib.hid ((us.out.1.set6 (g := w.heap.size) (fun (h : W0.heap.size ≤ w.heap.size) => by omega) (.bool r.n0) (.bool r.s0) (.slice E0 r.l0.length e0) (.bool r.n1) (.bool r.s1) (.slice E1 r.l1.length e1)).mono (new_le (show w.heap.size ≤ W0.heap.size by omega)))
        have U2 := Lib.hid ((us.out.2.set6 (g := w.heap.size) (fun (h : W0.heap.size ≤ w.heap.size) => by omega) (.bool r.n0) (.bool r.s0) (.slice E0 r.l0.length e0) (.bool r.n1) (.bool r.s1) (.slice E1 r.l1.length e1)).mono (new_le (show w.heap.size ≤ W0.heap.size by omega)))
        obtain ⟨g0, g1, g2, g3, g4, g5, f0', f1', f2', f3', f4', f5', _⟩ := R4
        clear us hs b7
        go_wp2
        refine bodyPost_ret (res_itv2 rfl _ w.heap.size rfl HP.out.box) rfl ?_
        exact ⟨_, _, _, _, rfl, U1.out, U2.out, HP.out.bel⟩
  · have hle := Nat.le_trans HC1.out.size hdr.size
    have hP := (bN.below hc).put (w := W0) (from_ (from_ HC1.out hdr) hc) HC1.out.size (.bool p0.n0) (.bool p0.s0) (.slice E2 p0.l0.length e2) (.bool p0.n1) (.bool p0.s1) (.slice E3 p0.l1.length e3)
    have B7 := Lib.hid hP.box
    have hlt7 : w1.heap.size < (w1.alloc (.cells #[.bool false, .bool false, .slice none 0 0, .bool false, .bool false, .slice none 0 0] 29)).drew.heap.size := by simp
    have V01 := Lib.hid (And.intro ((o1.set6 (g := w1.heap.size) (fun (h : _ ≤ w1.heap.size) => by omega) (.bool p0.n0) (.bool p0.s0) (.slice E2 p0.l0.length e2) (.bool p0.n1) (.bool p0.s1) (.slice E3 p0.l1.length e3)).mono (new_le hle)) ((o2.set6 (g := w1.heap.size) (fun (h : _ ≤ w1.heap.size) => by omega) (.bool p0.n0) (.bool p0.s0) (.slice E2 p0.l0.length e2) (.bool p0.n1) (.bool p0.s1) (.slice E3 p0.l1.length e3)).mono (new_le hle)))
    have HV := Lib.hid hP.bel
    have Hg7 := Lib.hid HC1.out.size
    clear hP hlt7 g0 g1 g2 g3 g4 g5 f0' f1' f2' f3' f4' f5'
    clear o1 o2 hc t6 sa sb hdr0 hdr bN J1 J2 lb nb hle JN
    go_wp2
    go_loopw [30] (fun i wr => ∃ (k : Nat) (s : Iv) (E0 E1 : Option Addr) (e0 e1 : Nat), k ≤ n ∧ i = .int .i64 (k : Int) ∧ Hid (IvW (R k) s) ∧ Hid (Box6 wr w1.heap.size (.bool s.n0) (.bool s.s0) (.slice E0 s.l0.length e0) (.bool s.n1) (.bool s.s1) (.slice E1 s.l1.length e1)) ∧ Hid (U64s wr (new W0.heap.size) E0 e0 s.l0 ∧ U64s wr (new W0.heap.size) E1 e1 s.l1) ∧ Below W0.heap.size W0 wr) (fun i _ => n - (intOf i).toNat)
    case atStart => exact ⟨0, p0, _, _, _, _, Nat.zero_le _, rfl, H00, B7, V01, HV.out⟩
    case round =>
      obtain ⟨k, s, E0, E1, e0, e1, hk, rfl, hs, b7, us, hbel⟩ := hrel
      clear B7 V01 HV
      by_cases hlt : k < n
      · obtain ⟨q, G0, d0, G1, d1, b2, o2, c2, hqq, x2, rfl⟩ := HQ.out k hlt
        have hmL : k + 1 < n + 1 := by omega
        have hw1 : IntKind.i64.wrap ((k : Int) + 1) = (k : Int) + 1 := by rw [IntKind.wrap_i64]; omega
        obtain ⟨p, F0, f0, F1, f1, c1, hpp, x1⟩ := HF.out (k + 1) hmL
        obtain ⟨r, hr⟩ : ∃ r, IvW (R (k + 1)) r := ⟨_, IvW.mk _⟩
        replace c1 := six_keep c1 hbel
        obtain ⟨y0, y1, y2, y3, y4, y5⟩ := six_keep c2 hbel
        have hal : Below wr.heap.size wr (wr.alloc (.cells #[.bool q.n0, .bool q.s0, .slice G0 q.l0.length d0, .bool q.n1, .bool q.s1, .slice G1 q.l1.length d1] 29)).drew := ((Below.refl _ _).alloc (Nat.le_refl _) _).drew
        have hW := HWI.out k (k + 1) hlt rfl s r p q hs.out hr hpp hqq (wr.alloc (.cells #[.bool q.n0, .bool q.s0, .slice G0 q.l0.length d0, .bool q.n1, .bool q.s1, .slice G1 q.l1.length d1] 29)).drew _ _ _ _ _ _ _ _ _ _ _ _ _ _ _ _ _ _ (us.out.1.below hal) (us.out.2.below hal) ((x1.1.below hbel).below hal) ((x1.2.below hbel).below hal) ((x2.1.below hbel).below hal) ((x2.2.below hbel).below hal)
        have h1 := six_keep0 b7.out.all hal
        have h2 := six_keep c1 hal
        have h3 := ((Box6.new wr (.bool q.n0) (.bool q.s0) (.slice G0 q.l0.length d0) (.bool q.n1) (.bool q.s1) (.slice G1 q.l1.length d1) 29).below (W' := (wr.alloc (.cells #[.bool q.n0, .bool q.s0, .slice G0 q.l0.length d0, .bool q.n1, .bool q.s1, .slice G1 q.l1.length d1] 29)).drew) ((Below.refl _ _).drew)).all
        have hs3 := And.intro h1 (And.intro h2 h3)
        have HW := Lib.hid hW
        have Hal := Lib.hid hal
        have hgl := b7.out.lt
        have HB7 := Lib.hid (b7.out.below hal)
        have Hr := Lib.hid hr
        clear c1 c2 hqq x2 hpp x1 hr hal hW h1 h2 h3 us hs b7
        generalize s.l0.length = sl0 at *
        generalize s.l1.length = sl1 at *
        generalize p.l0.length = pl0 at *
        generalize p.l1.length = pl1 at *
        generalize q.l0.length = ql0 at *
        generalize q.l1.length = ql1 at *
        generalize s.n0 = sn0 at *
        generalize s.s0 = ss0 at *
        generalize s.n1 = sn1 at *
        generalize s.s1 = ss1 at *
        generalize p.n0 = pn0 at *
        generalize p.s0 = ps0 at *
        generalize p.n1 = pn1 at *
        generalize p.s1 = ps1 at *
        generalize q.n0 = qn0 at *
        generalize q.s0 = qs0 at *
        generalize q.n1 = qn1 at *
        generalize q.s1 = qs1 at *
        go_wp2
        obtain ⟨⟨h0, h1, h2, h3, h4, h5⟩, ⟨h6, h7, h8, h9, h10, h11⟩, ⟨h12, h13, h14, h15, h16, h17⟩⟩ := hs3
        first | go_region_with
          (first
            | (go_at_call 85; with_reducible refine HW.out.mono ?_; rintro e' w2 ⟨E2, e2, E3, e3, rfl, v0, v1, hc⟩; obtain ⟨g0, g1, g2, g3, g4, g5, f0', f1', f2', f3', f4', f5', _⟩ := HB7.out.below hc)
            | fail) | fail
        all_goals
          have hB2 := from_ (from_ hbel Hal.out) hc
          have HP := Lib.hid ((HB7.out.below hc).put (w := W0) hB2 Hg7.out (.bool r.n0) (.bool r.s0) (.slice E2 r.l0.length e2) (.bool r.n1) (.bool r.s1) (.slice E3 r.l1.length e3))
          have hsz := Hal.out.size
          have U := Lib.hid (And.intro ((v0.set6 (g := w1.heap.size) (fun (h : _ ≤ w1.heap.size) => by omega) (.bool r.n0) (.bool r.s0) (.slice E2 r.l0.length e2) (.bool r.n1) (.bool r.s1) (.slice E3 r.l1.length e3)).mono (new_le (Nat.le_trans hbel.size Hal.out.size))) ((v1.set6 (g := w1.heap.size) (fun (h : _ ≤ w1.heap.size) => by omega) (.bool r.n0) (.bool r.s0) (.slice E2 r.l0.length e2) (.bool r.n1) (.bool r.s1) (.slice E3 r.l1.length e3)).mono (new_le (Nat.le_trans hbel.size Hal.out.size))))
          clear v0 v1 hB2 hsz hc h0 h1 h2 h3 h4 h5 h6 h7 h8 h9 h10 h11 h12 h13 h14 h15 h16 h17
          go_wp2
          go_roundw
          case rel => exact ⟨k + 1, r, _, _, _, _, by omega, by go_num, Hr, Lib.hid HP.out.box, U, HP.out.bel⟩
          case measure => simp [intOf]; omega
      · obtain rfl : k = n := by omega
        obtain ⟨z0, z1, z2, z3, z4, z5, _, _, _, _, _, _, _⟩ := id b7.out
        have R4 := HR.out.below hbel
        have hsz := Hsz.out
        obtain rfl := IvW.uniq Hrr.out hs.out
        have HP := Lib.hid (R4.put (w := w) (from_ Hb0.out hbel) (Nat.le_refl _) (.bool r.n0) (.bool r.s0) (.slice E0 r.l0.length e0) (.bool r.n1) (.bool r.s1) (.slice E1 r.l1.length e1))
        have U1 := Lib.hid ((us.out.1.set6 (g := w.heap.size) (fun (h : W0.heap.size ≤ w.heap.size) => by omega) (.bool r.n0) (.bool r.s0) (.slice E0 r.l0.length e0) (.bool r.n1) (.bool r.s1) (.slice E1 r.l1.length e1)).mono (new_le (show w.heap.size ≤ W0.heap.size by omega)))
        have U2 := Lib.hid ((us.out.2.set6 (g := w.heap.size) (fun (h : W0.heap.size ≤ w.heap.size) => by omega) (.bool r.n0) (.bool r.s0) (.slice E0 r.l0.length e0) (.bool r.n1) (.bool r.s1) (.slice E1 r.l1.length e1)).mono (new_le (show w.heap.size ≤ W0.heap.size by omega)))
        obtain ⟨g0, g1, g2, g3, g4, g5, f0', f1', f2', f3', f4', f5', _⟩ := R4
        clear us hs b7
        go_wp2
        refine bodyPost_ret (res_itv2 rfl _ w.heap.size rfl HP.out.box) rfl ?_
        exact ⟨_, _, _, _, rfl, U1.out, U2.out, HP.out.bel⟩

set_option maxRecDepth 100000 in
set_option maxHeartbeats 4000000 in
theorem lvalue_bad {w : World} {Z Y : Zone} {A B : Option Addr} {c d : Nat} {ps qs : List Iv} {g : Int} (ha : IvsAt w Z A c ps) (hb : IvsAt w Y B d qs) (hs : ∀ p ∈ ps, p.short) (hs2 : ∀ p ∈ qs, p.short) (hg : errFB ps qs = g) (h0 : g ≠ 0) :
    Calls Tryz.prog 37 #[.slice A ps.length c, .slice B qs.length d] w fun e w' => e = .returned (.tuple #[.agg #[.bool false, .bool false, .slice none 0 0, .bool false, .bool false, .slice none 0 0], .int .i64 g]) ∧ Below w.heap.size w w' := by
  have hB0 : Below w.heap.size w (w.alloc (.cells #[.bool false, .bool false, .slice none 0 0, .bool false, .bool false, .slice none 0 0] 29)) := (Below.refl _ w).alloc (Nat.le_refl _) _
  have hR4 := Box6.new w (.bool false) (.bool false) (.slice none 0 0) (.bool false) (.bool false) (.slice none 0 0) 29
  have hck := lchecked_any (ha.below hB0) (hb.below hB0) hs hs2
  rw [hg] at hck
  have t1 : (g != 0) = true := bne_iff_ne.2 h0
  have HR := Lib.hid hR4
  have Hb0 := Lib.hid hB0
  have Hck := Lib.hid hck
  clear ha hb hs hs2 hg h0 hR4 hB0 hck
  generalize ps.length = L at *
  generalize qs.length = M at *
  go_enter Tryz.func37, Tryz.ntmps37
  go_wp2_with fail
  refine Hck.out.mono ?_
  rintro e w1 ⟨rfl, hc⟩
  have R4 := HR.out.below hc
  have HP := Lib.hid (R4.put (w := w) (from_ Hb0.out hc) (Nat.le_refl _) (.bool false) (.bool false) (.slice none 0 0) (.bool false) (.bool false) (.slice none 0 0))
  obtain ⟨g0, g1, g2, g3, g4, g5, f0', f1', f2', f3', f4', f5', _⟩ := R4
  clear hc
  go_wp2
  refine bodyPost_ret (res_itv2 rfl _ w.heap.size rfl HP.out.box) rfl ?_
  exact ⟨rfl, HP.out.bel⟩

end Go.Proofs.YtamenhffplhddaaGreat

namespace Go.Proofs.YtamenhffplhddaaGreat
open Go.RowKit
set_option linter.unusedVariables false
set_option linter.unusedSimpArgs false

/-- A form's first interval, and the pairs of the others with a box. -/
def hdF (Ps : List IvP) : IvP := Ps.headD (0, 0)
def prF (Ps Qs : List IvP) : List (IvP × IvP) := Ps.tail.zip Qs
theorem hdF_get {Ps : List IvP} (h : 0 < Ps.length) : hdF Ps = Ps[0] := by
  cases Ps with
  | nil => cases h
  | cons a t => rfl
theorem prF_len {Ps Qs : List IvP} (h : Ps.length = Qs.length + 1) : (prF Ps Qs).length = Qs.length := by
  unfold prF
  rw [List.length_zip, List.length_tail]
  omega
theorem prF_get {Ps Qs : List IvP} {k : Nat} (h : k < (prF Ps Qs).length) (h1 : k + 1 < Ps.length) (h2 : k < Qs.length) : (prF Ps Qs)[k] = (Ps[k + 1], Qs[k]) := by
  unfold prF at h ⊢
  rw [List.getElem_zip, List.getElem_tail]
theorem lvalue_w {w : World} {Z Y : Zone} {A B : Option Addr} {c d : Nat} {ps qs : List Iv} {Ps Qs : List IvP} {r : Iv} (ha : IvsAt w Z A c ps) (hb : IvsAt w Y B d qs) (hp : FmW 8 Ps ps) (hq : FmW 8 Qs qs) (hl : ps.length = qs.length + 1) (h40 : qs.length ≤ 40) (hr : IvW (valL (hdF Ps) (prF Ps Qs)) r) :
    Calls Tryz.prog 37 #[.slice A ps.length c, .slice B qs.length d] w fun e w' => ∃ rA ra rB rb, e = .returned (.tuple #[.agg #[.bool r.n0, .bool r.s0, .slice rA r.l0.length ra, .bool r.n1, .bool r.s1, .slice rB r.l1.length rb], .int .i64 0]) ∧ U64s w' (new w.heap.size) rA ra r.l0 ∧ U64s w' (new w.heap.size) rB rb r.l1 ∧ Below w.heap.size w w' := by
  have pl := hp.len
  have ql := hq.len
  have hL : Ps.length = Qs.length + 1 := by omega
  have hwl := prF_len hL
  have h0 : 0 < Ps.length := by omega
  have hws : ∀ q ∈ prF Ps Qs, IvN 8 q.1.1 q.1.2 ∧ IvN 8 q.2.1 q.2.2 := fun q hm => by
    obtain ⟨j, hj, rfl⟩ := List.getElem_of_mem hm
    rw [prF_get hj (by omega) (by omega)]
    exact ⟨hp.n (j + 1) (by omega), hq.n j (by omega)⟩
  have hh : IvN 16 (hdF Ps).1 (hdF Ps).2 := by
    rw [hdF_get h0]
    exact (hp.n 0 h0).up (by omega)
  rw [hl]
  refine lvalue_run (R := runV (hdF Ps) (prF Ps Qs)) ha hb hp hq rfl hl h40 (fun h => by rw [runV_zero, hdF_get h]) (fun k h1 h2 => ?_) (fun k hk => runV_ok (by omega) (by omega) hh hws) ?_
  · rw [runV_succ (by rw [hwl]; exact h2), prF_get (by rw [hwl]; exact h2) h1 h2]
  · rw [show qs.length = (prF Ps Qs).length by rw [hwl]; omega, runV_all]
    exact hr

end Go.Proofs.YtamenhffplhddaaGreat

namespace Go.Proofs.YtamenhffplhddaaGreat
set_option linter.unusedVariables false
set_option linter.unusedSimpArgs false

-- sums, whatever the numbers' bound
theorem valK_ok {K : Nat} : ∀ (fb : List (IvP × IvP)) (out : IvP) (N : Nat), K + K ≤ N → N + fb.length ≤ 60 → IvN N out.1 out.2 → (∀ q ∈ fb, IvN K q.1.1 q.1.2 ∧ IvN K q.2.1 q.2.2) → IvN (N + fb.length) (valL out fb).1 (valL out fb).2 := by
  intro fb
  induction fb with
  | nil => intro out N _ _ h _; exact h
  | cons q t ih =>
    intro out N hN hl h hq
    rw [List.length_cons] at hl ⊢
    have h1 := hq q (by simp)
    have h2 := ivA_ok h ((ivM_ok h1.1 h1.2 (by omega)).up hN) (by omega)
    have h3 := ih (ivA out (ivM q.1 q.2)) (N + 1) (by omega) (by omega) h2 fun x hx => hq x (by simp [hx])
    rw [show N + (t.length + 1) = N + 1 + t.length by omega]
    exact h3
theorem valK_in {K : Nat} : ∀ (fb : List (IvP × IvP)) (ws : List (Int × Int)) (out : IvP) (N : Nat) (a : Int), ws.length = fb.length → K + K ≤ N → N + fb.length ≤ 60 → IvN N out.1 out.2 → (∀ q ∈ fb, IvN K q.1.1 q.1.2 ∧ IvN K q.2.1 q.2.2) →
    inI a out → (-wN N < a ∧ a < wN N) → (∀ j (h1 : j < ws.length) (h2 : j < fb.length), (inI ws[j].1 fb[j].1 ∧ inI ws[j].2 fb[j].2) ∧ (-wN K < ws[j].1 ∧ ws[j].1 < wN K) ∧ (-wN K < ws[j].2 ∧ ws[j].2 < wN K)) → inI (sumL a ws) (valL out fb) ∧ (-wN (N + fb.length) < sumL a ws ∧ sumL a ws < wN (N + fb.length)) := by
  intro fb
  induction fb with
  | nil =>
    intro ws out N a hl _ _ _ _ ha hb _
    have : ws = [] := List.eq_nil_of_length_eq_zero hl
    subst this
    exact ⟨ha, hb⟩
  | cons q t ih =>
    intro ws out N a hl hN hlen h hq ha hb hw
    cases ws with
    | nil => simp at hl
    | cons p ws =>
      rw [List.length_cons] at hlen
      rw [List.length_cons, List.length_cons] at hl
      have h1 := hq q (by simp)
      have h0 := hw 0 (by simp) (by simp)
      rw [List.getElem_cons_zero, List.getElem_cons_zero] at h0
      obtain ⟨⟨i1, i2⟩, b1, b2⟩ := h0
      have hm := mul_in (h1.1.up (by omega)) (h1.2.up (by omega)) (bound_up b1 (by omega)) (bound_up b2 (by omega)) i1 i2
      have hbm := bound_up (bound_mul b1 b2) hN
      have h2 := ivA_ok h ((ivM_ok h1.1 h1.2 (by omega)).up hN) (by omega)
      have h3 := add_in h ((ivM_ok h1.1 h1.2 (by omega)).up hN) (by omega) hb hbm ha hm
      have := ih ws (ivA out (ivM q.1 q.2)) (N + 1) (a + p.1 * p.2) (by omega) (by omega) (by omega) h2 (fun x hx => hq x (by simp [hx])) h3 (bound_add hb hbm) fun j g1 g2 => by
        have h9 := hw (j + 1) (by rw [List.length_cons]; omega) (by rw [List.length_cons]; omega)
        rwa [List.getElem_cons_succ, List.getElem_cons_succ] at h9
      rw [List.length_cons, show N + (t.length + 1) = N + 1 + t.length by omega]
      exact this
theorem runK_ok {K N k : Nat} {o : IvP} {ws : List (IvP × IvP)} (hN : K + K ≤ N) (hk : N + k ≤ 60) (h : IvN N o.1 o.2) (hq : ∀ q ∈ ws, IvN K q.1.1 q.1.2 ∧ IvN K q.2.1 q.2.2) : IvN (N + k) (runV o ws k).1 (runV o ws k).2 := by
  have h1 := valK_ok (ws.take k) o N hN (by rw [List.length_take]; omega) h fun q hm => hq q (List.mem_of_mem_take hm)
  exact h1.up (by rw [List.length_take]; omega)

-- middles
theorem tq_small {x : Int} : (tq x 2).natAbs * 2 ≤ x.natAbs := by
  unfold tq
  have h : x.natAbs / (2 : Int).natAbs * 2 ≤ x.natAbs := Nat.div_mul_le_self _ _
  generalize x.natAbs / (2 : Int).natAbs = q at *
  split <;> omega
theorem rq_small {x : Int} : (rq x 2 true).natAbs * 2 ≤ x.natAbs + 2 := by
  have h := tq_small (x := x)
  unfold rq
  generalize tq x 2 = q at *
  split
  · simp only [if_true]; omega
  · omega
theorem midI_ok {P : IvP} (h : IvN 8 P.1 P.2) : IvN 9 (midI P) (midI P) ∧ (-bigZ < midI P ∧ midI P < bigZ) ∧ (-wN 9 < midI P ∧ midI P < wN 9) := by
  have h9 : wN 8 + wN 8 ≤ wN 9 := wN_two 8
  have hp := wN_pos 8
  have h8 : wN 9 ≤ bigZ := wN_le (by omega)
  have hb : -wN 9 < midI P ∧ midI P < wN 9 := by
    unfold midI
    split
    · omega
    · rename_i hn
      have a1 := h.lo
      have a2 := h.hi
      have h1 := rq_small (x := P.1 + P.2)
      generalize rq (P.1 + P.2) 2 true = r at *
      unfold Ext at a1 a2
      have := h.nlo
      have := h.nhi
      have e1 : -wN 8 < P.1 ∧ P.1 < wN 8 := by omega
      have e2 : -wN 8 < P.2 ∧ P.2 < wN 8 := by omega
      omega
  exact ⟨⟨.inr (.inr hb), .inr (.inr hb), Int.le_refl _, by omega, by omega⟩, by omega, hb⟩

/-- The row of the middles, and the pairs of the rest. -/
def rowL (Ps : List IvP) : List Int := 0 :: Ps.tail.map midI
def lessI (P : IvP) : IvP := ivA P (ivNg (midI P, midI P))
def prS (Ps Qs : List IvP) : List (IvP × IvP) := (Ps.tail.map lessI).zip Qs
theorem prS_len {Ps Qs : List IvP} (h : Ps.length = Qs.length + 1) : (prS Ps Qs).length = Qs.length := by
  unfold prS
  rw [List.length_zip, List.length_map, List.length_tail]
  omega
theorem prS_get {Ps Qs : List IvP} {k : Nat} (h : k < (prS Ps Qs).length) (h1 : k + 1 < Ps.length) (h2 : k < Qs.length) : (prS Ps Qs)[k] = (lessI Ps[k + 1], Qs[k]) := by
  unfold prS at h ⊢
  rw [List.getElem_zip, List.getElem_map, List.getElem_tail]
theorem lessI_ok {P : IvP} (h : IvN 8 P.1 P.2) : IvN 12 (lessI P).1 (lessI P).2 :=
  (ivA_ok (h.up (by omega)) (ivNg_ok (midI_ok h).1) (by omega)).up (by omega)
theorem lessI_in {P : IvP} {a : Int} (h : IvN 8 P.1 P.2) (ha : inI a P) (hb : -wN 8 < a ∧ a < wN 8) : inI (a - midI P) (lessI P) ∧ (-wN 12 < a - midI P ∧ a - midI P < wN 12) := by
  obtain ⟨m1, m2, m3⟩ := midI_ok h
  have hi : inI (-midI P) (ivNg (midI P, midI P)) := neg_in ⟨Int.le_refl _, Int.le_refl _⟩
  have := add_in (N := 9) (h.up (by omega)) (ivNg_ok m1) (by omega) (bound_up hb (by omega)) (show -wN 9 < -midI P ∧ -midI P < wN 9 by omega) ha hi
  rw [← Int.sub_eq_add_neg] at this
  have h8 : wN 8 ≤ wN 9 := wN_mono (by omega)
  have h9 : wN 9 + wN 9 ≤ wN 10 := wN_two 9
  have h10 : wN 10 ≤ wN 12 := wN_mono (by omega)
  exact ⟨this, by omega, by omega⟩

/-- The row so far. -/
def rowS (Ps : List IvP) : Nat → List Int
  | 0 => List.replicate Ps.length 0
  | k + 1 => (rowS Ps k).set (k + 1) (midI (Ps.getD (k + 1) (0, 0)))
theorem rowS_len (Ps : List IvP) (k : Nat) : (rowS Ps k).length = Ps.length := by
  induction k with
  | zero => simp [rowS]
  | succ k ih => simp [rowS, ih]
theorem rowS_get {Ps : List IvP} : ∀ (k j : Nat) (h : j < (rowS Ps k).length), (rowS Ps k)[j] = if 0 < j ∧ j ≤ k then midI (Ps.getD j (0, 0)) else 0 := by
  intro k
  induction k with
  | zero =>
    intro j h
    rw [if_neg (by omega)]
    simp [rowS]
  | succ k ih =>
    intro j h
    simp only [rowS]
    rw [List.getElem_set]
    by_cases hj : k + 1 = j
    · subst hj
      rw [if_pos rfl, if_pos (by omega)]
    · rw [if_neg hj, ih j (by rw [rowS_len] at h ⊢; exact h)]
      by_cases h2 : 0 < j ∧ j ≤ k
      · rw [if_pos h2, if_pos (by omega)]
      · rw [if_neg h2, if_neg (by omega)]
theorem rowS_all {Ps : List IvP} {n : Nat} (h : Ps.length = n + 1) : rowS Ps n = rowL Ps := by
  refine List.ext_getElem ?_ fun j h1 h2 => ?_
  · rw [rowS_len, rowL, List.length_cons, List.length_map, List.length_tail]; omega
  · rw [rowS_get]
    rw [rowS_len] at h1
    rcases j with _ | j
    · rw [if_neg (by omega)]; rfl
    · rw [if_pos (by omega)]
      simp only [rowL]
      rw [List.getElem_cons_succ, List.getElem_map, List.getElem_tail, List.getD_eq_getElem?_getD, List.getElem?_eq_getElem h1]
      rfl

-- a form's numbers, of words
def Iv.P (p : Iv) : IvP := (p.lo, p.hi)
theorem iv_of {N : Nat} {p : Iv} (h : p.ok = true) (m0 : Small p.l0) (m1 : Small p.l1) (q0 : p.l0.length ≤ N) (q1 : p.l1.length ≤ N) (hN : N ≤ 60) : IvW p.P p ∧ IvN N p.P.1 p.P.2 := by
  have hf : p.fine 60 := ⟨m0, m1, by omega, by omega⟩
  have e := Iv.is h hf
  obtain ⟨h1, h2⟩ := okA_ends h
  have r1 := lo_range (n := p.n0) (s := p.s0) m0 (show p.l0.length ≤ 60 by omega)
  have r2 := hi_range (n := p.n1) (s := p.s1) m1 (show p.l1.length ≤ 60 by omega)
  have hle := okA_le h m0 m1 (by omega) (by omega)
  obtain ⟨b, s', l', A', c', P⟩ := Plc.ex (-1) p.n0 p.s0 p.l0 none 0
  obtain ⟨d, t', k', B', e', Q⟩ := Plc.ex 1 p.n1 p.s1 p.l1 none 0
  have u := P.lo h1 m0 (show p.l0.length ≤ 60 by omega)
  have v := Q.hi h2 m1 (show p.l1.length ≤ 60 by omega)
  have g1 := P.len
  have g2 := Q.len
  refine ⟨?_, u.ext (by omega), v.ext (by omega), hle, r1.2, r2.1⟩
  have hk := IvW.mk (p.lo, p.hi)
  unfold Iv.P
  rw [show ivOf (p.lo, p.hi).1 (p.lo, p.hi).2 = p from e.symm] at hk
  exact hk
theorem fmw_of {N : Nat} {ps : List Iv} (h : ps.all Iv.ok = true) (hs : ∀ p ∈ ps, Small p.l0 ∧ Small p.l1) (hl : ∀ p ∈ ps, p.l0.length ≤ N ∧ p.l1.length ≤ N) (hN : N ≤ 60) : FmW N (ps.map Iv.P) ps := by
  refine ⟨(List.length_map _).symm, fun j h1 h2 => ?_⟩
  have hm : ps[j] ∈ ps := List.getElem_mem h1
  rw [List.getElem_map]
  exact iv_of (List.all_eq_true.1 h _ hm) (hs _ hm).1 (hs _ hm).2 (hl _ hm).1 (hl _ hm).2 hN

end Go.Proofs.YtamenhffplhddaaGreat

namespace Go.Proofs.YtamenhffplhddaaGreat
open Go.RowKit
set_option linter.unusedVariables false
set_option linter.unusedSimpArgs false

/-- Anywhere in Y but in two blocks. -/
def zAway (Y : Zone) (g h : Nat) : Zone := ⟨fun b => Y.blk b ∧ b ≠ g ∧ b ≠ h, False⟩
abbrev zOff (g h : Nat) : Zone := zAway old g h
theorem U64s.toY {w : World} {Z Y : Zone} {A : Option Addr} {c : Nat} {l : List Nat} (u : U64s w Z A c l) (hY : Z.le Y) {g h : Nat} (hg : w.heap.size ≤ g) (hh : w.heap.size ≤ h) : U64s w (zAway Y g h) A c l := by
  refine ⟨u.small, u.cap, u.max, u.nul, fun h0 => ?_⟩
  obtain ⟨b, o, e, hb, hl, hf, hc⟩ := u.open (by simpa using h0)
  refine ⟨b, o, e, ⟨hY.1 _ hb, by omega, by omega⟩, fun h => h.elim, fun j v hv => ?_⟩
  have hj : j < l.length := by have := (List.getElem?_eq_some_iff.1 hv).1; simpa using this
  rw [hc j hj]
  rw [← hv]
  simp [hj]
theorem U64s.toF {w : World} {Z : Zone} {A : Option Addr} {c : Nat} {l : List Nat} (u : U64s w Z A c l) {g h : Nat} (hg : w.heap.size ≤ g) (hh : w.heap.size ≤ h) : U64s w (zOff g h) A c l := u.toY (le_old _) hg hh
theorem new_zAway {Y : Zone} {C g h : Nat} (hY : (new C).le Y) (hg : g < C) (hh : h < C) : (new C).le (zAway Y g h) := ⟨fun b hb => by have h1 : C ≤ b := hb; exact ⟨hY.1 _ hb, by omega, by omega⟩, fun h => h.elim⟩
theorem new_zOff {C g h : Nat} (hg : g < C) (hh : h < C) : (new C).le (zOff g h) := new_zAway (le_old _) hg hh
theorem zOff_old (g h : Nat) : (zOff g h).le old := ⟨fun _ _ => trivial, fun h => h⟩
theorem zAway_le {Y : Zone} (hs : ¬ Y.soft) (g h : Nat) : (zAway Y g h).le Y := ⟨fun _ h => h.1, fun h => absurd h hs⟩
theorem new_to {Y : Zone} {B C : Nat} (hY : (new B).le Y) (h : B ≤ C) : (new C).le Y := ⟨fun b hb => hY.1 b (Nat.le_trans h hb), fun _ => trivial⟩
theorem has_w {w : World} {Z1 Z2 Z3 : Zone} {p : Iv} {P : IvP} {N : Nat} {z : Int} {s : Bool} {l : List Nat} {A B C : Option Addr} {a b c : Nat} (hp : IvW P p) (gp : IvN N P.1 P.2) (hN : N ≤ 60) (hz : Nm z s l) (hl : l.length ≤ 60) (u1 : U64s w Z1 A a p.l0) (u2 : U64s w Z2 B b p.l1) (u3 : U64s w Z3 C c l) {r : Bool} (hr : decide (P.1 ≤ z ∧ z ≤ P.2) = r) :
    Calls Tryz.prog 10 #[.agg #[.bool p.n0, .bool p.s0, .slice A p.l0.length a, .bool p.n1, .bool p.s1, .slice B p.l1.length b], .agg #[.bool s, .slice C l.length c]] w fun e w' => e = .returned (.tuple #[.bool r, .int .i64 0]) ∧ Below w.heap.size w w' := by
  have k := hp.k gp (by omega)
  have e1 : okI s l = true := by obtain ⟨rfl, rfl⟩ := hz; exact IsZ.ok z
  have e2 : zof s l = z := by obtain ⟨rfl, rfl⟩ := hz; exact zof_z z
  refine ihas_good u1 u2 u3 k.ok e1 (by have := k.q0; omega) (by have := k.q1; omega) hl ?_
  rw [k.lo, k.hi, e2]
  exact hr

theorem Box6.set2 {W : World} {g h : Nat} {a b c d e f : Value} (H : Box6 W g a b c d e f) (hn : h ≠ g) (x y : Value) : Box6 ((W.setCell ⟨h, 0, none⟩ x).setCell ⟨h, 1, none⟩ y) g a b c d e f := (H.other hn x).other hn y
theorem Box.set2 {W : World} {g : Nat} {a b : Value} (H : Box W g a b) (x y : Value) : Box ((W.setCell ⟨g, 0, none⟩ x).setCell ⟨g, 1, none⟩ y) g x y := by
  have hz : ((W.setCell ⟨g, 0, none⟩ x).setCell ⟨g, 1, none⟩ y).heap.size = W.heap.size := by simp
  have e0 : ((W.setCell ⟨g, 0, none⟩ x).setCell ⟨g, 1, none⟩ y).cell? ⟨g, 0, none⟩ = some x := by
    rw [World.cell?_setCell_other _ _ _ _ (by simp)]
    exact World.cell?_setCell_same _ _ _ H.c0
  have e1 : ((W.setCell ⟨g, 0, none⟩ x).setCell ⟨g, 1, none⟩ y).cell? ⟨g, 1, none⟩ = some y := by
    refine World.cell?_setCell_same _ _ _ (u := b) ?_
    rw [World.cell?_setCell_other _ _ _ _ (by simp)]
    exact H.c1
  exact ⟨e0, e1, by rw [World.frozen?_setCell, World.frozen?_setCell]; exact H.f0, by rw [World.frozen?_setCell, World.frozen?_setCell]; exact H.f1, by rw [hz]; exact H.lt⟩

theorem c2_keep {W V : World} {g i j : Nat} {a b : Value} (hs : W.cell? ⟨g, i, none⟩ = some a ∧ W.cell? ⟨g, j, none⟩ = some b) (hb : Below W.heap.size W V) : V.cell? ⟨g, i, none⟩ = some a ∧ V.cell? ⟨g, j, none⟩ = some b := ⟨keepC hb hs.1, keepC hb hs.2⟩
theorem c2_al {W V : World} {g i j : Nat} {a b : Value} {o : Obj} (e : V = W.alloc o) (hs : W.cell? ⟨g, i, none⟩ = some a ∧ W.cell? ⟨g, j, none⟩ = some b) : V.cell? ⟨g, i, none⟩ = some a ∧ V.cell? ⟨g, j, none⟩ = some b := by
  subst e
  exact c2_keep hs ((Below.refl _ _).alloc (Nat.le_refl _) _)
theorem c2_dr {W V : World} {g i j : Nat} {a b : Value} (e : V = W.drew) (hs : W.cell? ⟨g, i, none⟩ = some a ∧ W.cell? ⟨g, j, none⟩ = some b) : V.cell? ⟨g, i, none⟩ = some a ∧ V.cell? ⟨g, j, none⟩ = some b := by
  subst e
  exact c2_keep hs (Below.refl _ _).drew
theorem c2_st2 {W V : World} {g i j h : Nat} {a b x y : Value} (e : V = (W.setCell ⟨h, 0, none⟩ x).setCell ⟨h, 1, none⟩ y) (hn : h ≠ g) (hs : W.cell? ⟨g, i, none⟩ = some a ∧ W.cell? ⟨g, j, none⟩ = some b) : V.cell? ⟨g, i, none⟩ = some a ∧ V.cell? ⟨g, j, none⟩ = some b := by
  subst e
  rw [World.cell?_setCell_other _ _ _ _ (fun e => hn (by injection e)), World.cell?_setCell_other _ _ _ _ (fun e => hn (by injection e)), World.cell?_setCell_other _ _ _ _ (fun e => hn (by injection e)), World.cell?_setCell_other _ _ _ _ (fun e => hn (by injection e))]
  exact hs

structure Cut6 (V W : World) (g g5 : Nat) (s : Bool) (D : Option Addr) (d : Nat) (l : List Nat) : Prop where
  c0 : W.cell? ⟨g, 0, none⟩ = some (.bool s)
  c1 : W.cell? ⟨g, 1, none⟩ = some (.slice D l.length d)
  u : U64s W (new (g5 + 1)) D d l
  bel : Below V.heap.size V W
theorem Cut6.nw {V w : World} {g5 C d : Nat} {s : Bool} {D : Option Addr} {l : List Nat} {t : TypeId} (Hc : Below V.heap.size V w) (o : U64s w (new C) D d l) (hC : g5 + 1 ≤ C) : Cut6 V (w.alloc (.cells #[.bool s, .slice D l.length d] t)) w.heap.size g5 s D d l :=
  ⟨cell_newest rfl rfl, cell_newest rfl rfl, (o.below ((Below.refl _ _).alloc (Nat.le_refl _) _)).mono (new_le hC), from_ Hc ((Below.refl _ _).alloc (Nat.le_refl _) _)⟩
theorem Cut6.ol {V w : World} {g g5 C d : Nat} {s : Bool} {D : Option Addr} {l : List Nat} {a b : Value} (Hc : Below V.heap.size V w) (H : Box w g a b) (o : U64s w (new C) D d l) (hg : g < C) (hV : V.heap.size ≤ g) (hC : g5 + 1 ≤ C) : Cut6 V ((w.setCell ⟨g, 0, none⟩ (.bool s)).setCell ⟨g, 1, none⟩ (.slice D l.length d)) g g5 s D d l :=
  ⟨(H.set2 _ _).c0, (H.set2 _ _).c1, ((o.set1 g 0 (fun h : C ≤ g => by omega) _).set1 g 1 (fun h : C ≤ g => by omega) _).mono (new_le hC), (Hc.setCell (p := ⟨g, 0, none⟩) hV _).setCell (p := ⟨g, 1, none⟩) hV _⟩

theorem U64s.toN {w : World} {Y : Zone} {A : Option Addr} {c C h : Nat} {l : List Nat} (u : U64s w (new C) A c l) (hY : (new C).le Y) (hh : h < C) : U64s w (zAway Y w.heap.size h) A c l := by
  refine ⟨u.small, u.cap, u.max, u.nul, fun h0 => ?_⟩
  obtain ⟨b, o, e, hb, hl, hf, hc⟩ := u.open (by simpa using h0)
  have hb' : C ≤ b := hb
  refine ⟨b, o, e, ⟨hY.1 _ hb, by omega, by omega⟩, fun h => h.elim, fun j v hv => ?_⟩
  have hj : j < l.length := by have := (List.getElem?_eq_some_iff.1 hv).1; simpa using this
  rw [hc j hj]
  rw [← hv]
  simp [hj]

set_option maxRecDepth 100000 in
set_option maxHeartbeats 4000000 in
theorem pick_tt {w : World} {Z1 Z2 : Zone} {s0 s1 : Bool} {l0 l1 : List Nat} {P : IvP} {N : Nat} {A B : Option Addr} {a c : Nat} {b : Nat} (hb : b ≤ 255) (hp : IvW P ⟨true, s0, l0, true, s1, l1⟩) (gp : IvN N P.1 P.2) (hN1 : 1 ≤ N) (hN : N ≤ 32) (u1 : U64s w Z1 A a l0) (u2 : U64s w Z2 B c l1) {Y : Zone} (hY1 : Z1.le Y) (hY2 : Z2.le Y) (hY3 : (new w.heap.size).le Y) (hYs : ¬ Y.soft) :
    Calls Tryz.prog 38 #[.agg #[.bool true, .bool s0, .slice A l0.length a, .bool true, .bool s1, .slice B l1.length c], .int .u8 (b : Int)] w fun e w' => ∃ z s l A' c', e = .returned (.agg #[.bool s, .slice A' (l : List Nat).length c']) ∧ Nm z s l ∧ inI z P ∧ (-wN (N + 1) < z ∧ z < wN (N + 1)) ∧ U64s w' Y A' c' l ∧ Below w.heap.size w w' := by
  have hw1 : wN 1 = 18446744073709551616 := rfl
  have hwN : wN 1 ≤ wN N := wN_mono hN1
  have hwM : wN N + wN N ≤ wN (N + 1) := wN_two N
  have hbz : wN (N + 1) ≤ bigZ := wN_le (by omega)
  have HAS := Lib.hid (fun (W : World) (z : Int) (s : Bool) (l : List Nat) (Z : Zone) (C : Option Addr) (cc : Nat) (r : Bool) (h1 : Nm z s l) (h2 : l.length ≤ 60) (h3 : Below w.heap.size w W) (h4 : U64s W Z C cc l) (h5 : decide (P.1 ≤ z ∧ z ≤ P.2) = r) => has_w hp gp (by omega) h1 h2 (u1.below h3) (u2.below h3) h4 h5)
  dsimp only at HAS
  have HY1 := Lib.hid hY1
  have HY2 := Lib.hid hY2
  have HY3 := Lib.hid hY3
  have HYs := Lib.hid hYs
  clear hY1 hY2 hY3 hYs
  have Hall : Hid (∀ z : Int, (-wN (N + 1) < z ∧ z < wN (N + 1)) → P.1 ≤ z ∧ z ≤ P.2) := Lib.hid (fun z hz => by
    have h1 := hp.1
    have h2 := hp.2
    unfold EndL at h1
    unfold EndH at h2
    dsimp only at h1 h2
    have h3 : P.1 = -bigZ := of_decide_eq_true h1.1.symm
    have h4 : P.2 = bigZ := of_decide_eq_true h2.1.symm
    omega)
  obtain ⟨s2, l2, h2⟩ : ∃ s l, Nm ((b : Int) % 8 - 4) s l := ⟨_, _, rfl, rfl⟩
  have O1 := Lib.hid (fun W : World => wof_n (w := W) h2 (by omega))
  have Hz2 : Hid (-wN (N + 1) < (b : Int) % 8 - 4 ∧ (b : Int) % 8 - 4 < wN (N + 1)) := Lib.hid (by omega)
  have H2 := Lib.hid h2
  have H2l : Hid (l2.length ≤ 60) := Lib.hid (by have := nm_lenN h2 Hz2.out; omega)
  have hB0 : Below w.heap.size w (w.alloc (.cells #[.bool true, .bool s0, .slice A l0.length a, .bool true, .bool s1, .slice B l1.length c] 29)) := (Below.refl _ w).alloc (Nat.le_refl _) _
  have hB1 := hB0.alloc hB0.size (.cells #[.bool false, .slice none 0 0] 25)
  have HA := Lib.hid ((Box6.new w (.bool true) (.bool s0) (.slice A l0.length a) (.bool true) (.bool s1) (.slice B l1.length c) 29).alloc (.cells #[.bool false, .slice none 0 0] 25))
  have hbr : Box ((w.alloc (.cells #[.bool true, .bool s0, .slice A l0.length a, .bool true, .bool s1, .slice B l1.length c] 29)).alloc (.cells #[.bool false, .slice none 0 0] 25)) (w.heap.size + 1) (.bool false) (.slice none 0 0) := by
    have h := Box.new (w.alloc (.cells #[.bool true, .bool s0, .slice A l0.length a, .bool true, .bool s1, .slice B l1.length c] 29)) (.bool false) (.slice none 0 0) 25
    rw [World.size_alloc] at h
    exact h
  have HR := Lib.hid hbr
  have HB1 := Lib.hid hB1
  clear hp gp h2 hB0 hB1 hbr hw1 hwN hwM hbz hN hN1
  go_enter Tryz.func38, Tryz.ntmps38
  go_wp2_with fail
  refine (O1.out _).mono ?_
  rintro e w1 ⟨A2, c2, rfl, u3, hc⟩
  have hax : Below w1.heap.size w1 (w1.alloc (.cells #[.bool s2, .slice A2 l2.length c2] 25)) := (Below.refl _ _).alloc (Nat.le_refl _) _
  have HB := Lib.hid (from_ (from_ HB1.out hc) hax)
  have BA := Lib.hid ((HA.out.below hc).below hax)
  have BR := Lib.hid ((HR.out.below hc).below hax)
  have BN := Lib.hid (Box.new w1 (.bool s2) (.slice A2 l2.length c2) 25)
  have hlt := (HR.out.below hc).lt
  have u3' : U64s w1 (zAway Y w1.heap.size (w.heap.size + 1)) A2 c2 l2 := (U64s.toN u3 (new_to HY3.out (by simp; omega)) (show w.heap.size + 1 < _ by simp))
  obtain ⟨g5, hg5⟩ : ∃ g5, g5 = w1.heap.size := ⟨_, rfl⟩
  rw [← hg5] at BN hlt u3'
  have U := Lib.hid ((u3'.below hax))
  generalize hV : w1.alloc (.cells #[.bool s2, .slice A2 l2.length c2] 25) = V at *
  clear hax hc u3 O1 HA HR HB1
  have HN := Lib.hid H2.out
  have HL := Lib.hid H2l.out
  have Hbd := Lib.hid Hz2.out
  obtain ⟨y0, y1, y2, y3, y4, y5, _, _, _, _, _, _, _⟩ := id BA.out
  go_upto_region 5 with fail
  try simp only [hV]
  try simp only [← hg5]
  clear hV hg5 H2 H2l Hz2 y0 y1 y2 y3 y4 y5
  obtain ⟨y0, y1, y2, y3, y4, y5, _, _, _, _, _, _, _⟩ := id BA.out
  obtain ⟨x0, x1, x2', x3', _⟩ := id BN.out
  by_cases hin : P.1 ≤ ((b : Int) % 8 - 4) ∧ ((b : Int) % 8 - 4) ≤ P.2
  · have HS := Lib.hid (HAS.out _ _ _ _ _ _ _ true HN.out HL.out HB.out U.out (decide_eq_true hin))
    have Hin := Lib.hid hin
    clear hin
    go_wp2_with fail
    refine HS.out.mono ?_
    rintro e w7 ⟨rfl, hc⟩
    replace BA := Lib.hid (BA.out.below hc)
    replace BR := Lib.hid (BR.out.below hc)
    replace BN := Lib.hid (BN.out.below hc)
    replace U := Lib.hid (U.out.below hc)
    replace HB := Lib.hid (from_ HB.out hc)
    clear hc y0 y1 y2 y3 y4 y5 x0 x1 x2' x3' HS
    have hP := BR.out.put (w := w) HB.out (Nat.le_succ _) (.bool s2) (.slice A2 l2.length c2)
    have HP := Lib.hid hP
    have HU := Lib.hid (((U.out.set1 (w.heap.size + 1) 0 (fun h => h.2.2 rfl) (.bool s2)).set1 (w.heap.size + 1) 1 (fun h => h.2.2 rfl) (.slice A2 l2.length c2)).mono (zAway_le HYs.out _ _))
    obtain ⟨_, _, z0', z1', _⟩ := id BR.out
    obtain ⟨y0, y1, y2, y3, y4, y5, _, _, _, _, _, _, _⟩ := id BA.out
    obtain ⟨x0, x1, x2', x3', _⟩ := id BN.out
    clear hP
    go_wp2
    refine bodyPost_ret (res_int rfl _ (w.heap.size + 1) rfl HP.out.c0 HP.out.c1) rfl ?_
    exact ⟨_, s2, l2, A2, c2, rfl, HN.out, Hin.out, Hbd.out, HU.out, HP.out.bel⟩
  · exact absurd (Hall.out _ Hbd.out) hin

set_option maxRecDepth 100000 in
set_option maxHeartbeats 4000000 in
theorem pick_tf {w : World} {Z1 Z2 : Zone} {s0 s1 : Bool} {l0 l1 : List Nat} {P : IvP} {N : Nat} {A B : Option Addr} {a c : Nat} {b : Nat} (hb : b ≤ 255) (hp : IvW P ⟨true, s0, l0, false, s1, l1⟩) (gp : IvN N P.1 P.2) (hN1 : 1 ≤ N) (hN : N ≤ 32) (u1 : U64s w Z1 A a l0) (u2 : U64s w Z2 B c l1) {Y : Zone} (hY1 : Z1.le Y) (hY2 : Z2.le Y) (hY3 : (new w.heap.size).le Y) (hYs : ¬ Y.soft) :
    Calls Tryz.prog 38 #[.agg #[.bool true, .bool s0, .slice A l0.length a, .bool false, .bool s1, .slice B l1.length c], .int .u8 (b : Int)] w fun e w' => ∃ z s l A' c', e = .returned (.agg #[.bool s, .slice A' (l : List Nat).length c']) ∧ Nm z s l ∧ inI z P ∧ (-wN (N + 1) < z ∧ z < wN (N + 1)) ∧ U64s w' Y A' c' l ∧ Below w.heap.size w w' := by
  have hw1 : wN 1 = 18446744073709551616 := rfl
  have hwN : wN 1 ≤ wN N := wN_mono hN1
  have hwM : wN N + wN N ≤ wN (N + 1) := wN_two N
  have hbz : wN (N + 1) ≤ bigZ := wN_le (by omega)
  have HAS := Lib.hid (fun (W : World) (z : Int) (s : Bool) (l : List Nat) (Z : Zone) (C : Option Addr) (cc : Nat) (r : Bool) (h1 : Nm z s l) (h2 : l.length ≤ 60) (h3 : Below w.heap.size w W) (h4 : U64s W Z C cc l) (h5 : decide (P.1 ≤ z ∧ z ≤ P.2) = r) => has_w hp gp (by omega) h1 h2 (u1.below h3) (u2.below h3) h4 h5)
  dsimp only at HAS
  have HY1 := Lib.hid hY1
  have HY2 := Lib.hid hY2
  have HY3 := Lib.hid hY3
  have HYs := Lib.hid hYs
  clear hY1 hY2 hY3 hYs
  have HHi : Hid (Nm P.2 s1 l1 ∧ inI P.2 P ∧ (-wN (N + 1) < P.2 ∧ P.2 < wN (N + 1))) := Lib.hid (by
    have h1 := hp.2
    unfold EndH at h1
    dsimp only at h1
    have h2 : ¬ P.2 = bigZ := of_decide_eq_false h1.1.symm
    have h3 := gp.hi
    have h4 := gp.nhi
    unfold Ext at h3
    have h5 : -wN N < P.2 ∧ P.2 < wN N := by omega
    refine ⟨?_, ⟨gp.le, Int.le_refl _⟩, by omega⟩
    have := nm_e (n := P.2) (by omega)
    rw [← h1.2.1, ← h1.2.2] at this
    exact this)
  have HHl : Hid (l1.length ≤ 60) := Lib.hid (by have := nm_lenN HHi.out.1 HHi.out.2.2; omega)
  obtain ⟨s2, l2, h2⟩ : ∃ s l, Nm ((b : Int) % 8 - 4) s l := ⟨_, _, rfl, rfl⟩
  have O1 := Lib.hid (fun W : World => wof_n (w := W) h2 (by omega))
  have Hz2 : Hid (-wN (N + 1) < (b : Int) % 8 - 4 ∧ (b : Int) % 8 - 4 < wN (N + 1)) := Lib.hid (by omega)
  have H2 := Lib.hid h2
  have H2l : Hid (l2.length ≤ 60) := Lib.hid (by have := nm_lenN h2 Hz2.out; omega)
  have hB0 : Below w.heap.size w (w.alloc (.cells #[.bool true, .bool s0, .slice A l0.length a, .bool false, .bool s1, .slice B l1.length c] 29)) := (Below.refl _ w).alloc (Nat.le_refl _) _
  have hB1 := hB0.alloc hB0.size (.cells #[.bool false, .slice none 0 0] 25)
  have HA := Lib.hid ((Box6.new w (.bool true) (.bool s0) (.slice A l0.length a) (.bool false) (.bool s1) (.slice B l1.length c) 29).alloc (.cells #[.bool false, .slice none 0 0] 25))
  have hbr : Box ((w.alloc (.cells #[.bool true, .bool s0, .slice A l0.length a, .bool false, .bool s1, .slice B l1.length c] 29)).alloc (.cells #[.bool false, .slice none 0 0] 25)) (w.heap.size + 1) (.bool false) (.slice none 0 0) := by
    have h := Box.new (w.alloc (.cells #[.bool true, .bool s0, .slice A l0.length a, .bool false, .bool s1, .slice B l1.length c] 29)) (.bool false) (.slice none 0 0) 25
    rw [World.size_alloc] at h
    exact h
  have HR := Lib.hid hbr
  have HB1 := Lib.hid hB1
  clear hp gp h2 hB0 hB1 hbr hw1 hwN hwM hbz hN hN1
  go_enter Tryz.func38, Tryz.ntmps38
  go_wp2_with fail
  refine (O1.out _).mono ?_
  rintro e w1 ⟨A2, c2, rfl, u3, hc⟩
  have hax : Below w1.heap.size w1 (w1.alloc (.cells #[.bool s2, .slice A2 l2.length c2] 25)) := (Below.refl _ _).alloc (Nat.le_refl _) _
  have HB := Lib.hid (from_ (from_ HB1.out hc) hax)
  have BA := Lib.hid ((HA.out.below hc).below hax)
  have BR := Lib.hid ((HR.out.below hc).below hax)
  have BN := Lib.hid (Box.new w1 (.bool s2) (.slice A2 l2.length c2) 25)
  have hlt := (HR.out.below hc).lt
  have u3' : U64s w1 (zAway Y w1.heap.size (w.heap.size + 1)) A2 c2 l2 := (U64s.toN u3 (new_to HY3.out (by simp; omega)) (show w.heap.size + 1 < _ by simp))
  obtain ⟨g5, hg5⟩ : ∃ g5, g5 = w1.heap.size := ⟨_, rfl⟩
  rw [← hg5] at BN hlt u3'
  have U := Lib.hid ((u3'.below hax))
  generalize hV : w1.alloc (.cells #[.bool s2, .slice A2 l2.length c2] 25) = V at *
  clear hax hc u3 O1 HA HR HB1
  have HN := Lib.hid H2.out
  have HL := Lib.hid H2l.out
  have Hbd := Lib.hid Hz2.out
  obtain ⟨y0, y1, y2, y3, y4, y5, _, _, _, _, _, _, _⟩ := id BA.out
  go_upto_region 5 with fail
  try simp only [hV]
  try simp only [← hg5]
  clear hV hg5 H2 H2l Hz2 y0 y1 y2 y3 y4 y5
  by_cases hodd : b % 2 = 1
  · have o1 : (b % 2 == 1) = true := by simp [hodd]
    have o2 : decide (b % 2 = 1) = true := decide_eq_true hodd
    have o3 : ((b : Int) % 2 == 1) = true := by simp; omega
    clear hodd
    have hP := BN.out.put (w := w) HB.out (show w.heap.size ≤ g5 by omega) (.bool s1) (.slice B l1.length c)
    have HBx := Lib.hid hP.bel
    have BAx := Lib.hid (Box6.set2 BA.out (show g5 ≠ w.heap.size by omega) (.bool s1) (.slice B l1.length c))
    have BRx := Lib.hid (BR.out.other (h := g5) (show g5 ≠ w.heap.size + 1 by omega) (x := .bool s1) (y := .slice B l1.length c))
    have BNx := Lib.hid (Box.set2 BN.out (.bool s1) (.slice B l1.length c))
    have Ux := Lib.hid ((u2.toY HY2.out (g := g5) (h := w.heap.size + 1) (by omega) (by omega)).below hP.bel)
    have ng1 : ¬ (g5 = w.heap.size) := by omega
    have ng2 : ¬ (w.heap.size = g5) := by omega
    clear hP
    obtain ⟨y0, y1, y2, y3, y4, y5, _, _, _, _, _, _, _⟩ := id BA.out
    obtain ⟨x0, x1, x2', x3', _⟩ := id BN.out
    have HS := Lib.hid (HAS.out _ _ _ _ _ _ _ true HHi.out.1 HHl.out HBx.out Ux.out (decide_eq_true HHi.out.2.1))
    go_wp2_with fail
    refine HS.out.mono ?_
    rintro e w7 ⟨rfl, hc⟩
    replace BA := Lib.hid (BAx.out.below hc)
    replace BR := Lib.hid (BRx.out.below hc)
    replace BN := Lib.hid (BNx.out.below hc)
    replace U := Lib.hid (Ux.out.below hc)
    replace HB := Lib.hid (from_ HBx.out hc)
    clear hc y0 y1 y2 y3 y4 y5 x0 x1 x2' x3' HS BAx BRx BNx Ux HBx ng1 ng2
    have hP := BR.out.put (w := w) HB.out (Nat.le_succ _) (.bool s1) (.slice B l1.length c)
    have HP := Lib.hid hP
    have HU := Lib.hid (((U.out.set1 (w.heap.size + 1) 0 (fun h => h.2.2 rfl) (.bool s1)).set1 (w.heap.size + 1) 1 (fun h => h.2.2 rfl) (.slice B l1.length c)).mono (zAway_le HYs.out _ _))
    obtain ⟨_, _, z0', z1', _⟩ := id BR.out
    obtain ⟨y0, y1, y2, y3, y4, y5, _, _, _, _, _, _, _⟩ := id BA.out
    obtain ⟨x0, x1, x2', x3', _⟩ := id BN.out
    clear hP
    go_wp2
    refine bodyPost_ret (res_int rfl _ (w.heap.size + 1) rfl HP.out.c0 HP.out.c1) rfl ?_
    exact ⟨_, s1, l1, B, c, rfl, HHi.out.1, HHi.out.2.1, HHi.out.2.2, HU.out, HP.out.bel⟩
  · have o1 : (b % 2 == 1) = false := by simp [hodd]
    have o2 : decide (b % 2 = 1) = false := decide_eq_false hodd
    have o3 : ((b : Int) % 2 == 1) = false := by simp; omega
    clear hodd
    obtain ⟨y0, y1, y2, y3, y4, y5, _, _, _, _, _, _, _⟩ := id BA.out
    obtain ⟨x0, x1, x2', x3', _⟩ := id BN.out
    by_cases hin : P.1 ≤ ((b : Int) % 8 - 4) ∧ ((b : Int) % 8 - 4) ≤ P.2
    · have HS := Lib.hid (HAS.out _ _ _ _ _ _ _ true HN.out HL.out HB.out U.out (decide_eq_true hin))
      have Hin := Lib.hid hin
      clear hin
      go_wp2_with fail
      refine HS.out.mono ?_
      rintro e w7 ⟨rfl, hc⟩
      replace BA := Lib.hid (BA.out.below hc)
      replace BR := Lib.hid (BR.out.below hc)
      replace BN := Lib.hid (BN.out.below hc)
      replace U := Lib.hid (U.out.below hc)
      replace HB := Lib.hid (from_ HB.out hc)
      clear hc y0 y1 y2 y3 y4 y5 x0 x1 x2' x3' HS
      have hP := BR.out.put (w := w) HB.out (Nat.le_succ _) (.bool s2) (.slice A2 l2.length c2)
      have HP := Lib.hid hP
      have HU := Lib.hid (((U.out.set1 (w.heap.size + 1) 0 (fun h => h.2.2 rfl) (.bool s2)).set1 (w.heap.size + 1) 1 (fun h => h.2.2 rfl) (.slice A2 l2.length c2)).mono (zAway_le HYs.out _ _))
      obtain ⟨_, _, z0', z1', _⟩ := id BR.out
      obtain ⟨y0, y1, y2, y3, y4, y5, _, _, _, _, _, _, _⟩ := id BA.out
      obtain ⟨x0, x1, x2', x3', _⟩ := id BN.out
      clear hP
      go_wp2
      refine bodyPost_ret (res_int rfl _ (w.heap.size + 1) rfl HP.out.c0 HP.out.c1) rfl ?_
      exact ⟨_, s2, l2, A2, c2, rfl, HN.out, Hin.out, Hbd.out, HU.out, HP.out.bel⟩
    · have HS := Lib.hid (HAS.out _ _ _ _ _ _ _ false HN.out HL.out HB.out U.out (decide_eq_false hin))
      clear hin
      go_wp2_with fail
      refine HS.out.mono ?_
      rintro e w7 ⟨rfl, hc⟩
      replace BA := Lib.hid (BA.out.below hc)
      replace BR := Lib.hid (BR.out.below hc)
      replace BN := Lib.hid (BN.out.below hc)
      replace HB := Lib.hid (from_ HB.out hc)
      clear hc y0 y1 y2 y3 y4 y5 x0 x1 x2' x3' HS
      have hP := BR.out.put (w := w) HB.out (Nat.le_succ _) (.bool s1) (.slice B l1.length c)
      have HP := Lib.hid hP
      have HU := Lib.hid ((u2.below hP.bel).mono HY2.out)
      obtain ⟨_, _, z0', z1', _⟩ := id BR.out
      obtain ⟨y0, y1, y2, y3, y4, y5, _, _, _, _, _, _, _⟩ := id BA.out
      obtain ⟨x0, x1, x2', x3', _⟩ := id BN.out
      clear hP
      go_wp2
      refine bodyPost_ret (res_int rfl _ (w.heap.size + 1) rfl HP.out.c0 HP.out.c1) rfl ?_
      exact ⟨_, s1, l1, B, c, rfl, HHi.out.1, HHi.out.2.1, HHi.out.2.2, HU.out, HP.out.bel⟩

set_option maxRecDepth 100000 in
set_option maxHeartbeats 4000000 in
theorem pick_ft {w : World} {Z1 Z2 : Zone} {s0 s1 : Bool} {l0 l1 : List Nat} {P : IvP} {N : Nat} {A B : Option Addr} {a c : Nat} {b : Nat} (hb : b ≤ 255) (hp : IvW P ⟨false, s0, l0, true, s1, l1⟩) (gp : IvN N P.1 P.2) (hN1 : 1 ≤ N) (hN : N ≤ 32) (u1 : U64s w Z1 A a l0) (u2 : U64s w Z2 B c l1) {Y : Zone} (hY1 : Z1.le Y) (hY2 : Z2.le Y) (hY3 : (new w.heap.size).le Y) (hYs : ¬ Y.soft) :
    Calls Tryz.prog 38 #[.agg #[.bool false, .bool s0, .slice A l0.length a, .bool true, .bool s1, .slice B l1.length c], .int .u8 (b : Int)] w fun e w' => ∃ z s l A' c', e = .returned (.agg #[.bool s, .slice A' (l : List Nat).length c']) ∧ Nm z s l ∧ inI z P ∧ (-wN (N + 1) < z ∧ z < wN (N + 1)) ∧ U64s w' Y A' c' l ∧ Below w.heap.size w w' := by
  have hw1 : wN 1 = 18446744073709551616 := rfl
  have hwN : wN 1 ≤ wN N := wN_mono hN1
  have hwM : wN N + wN N ≤ wN (N + 1) := wN_two N
  have hbz : wN (N + 1) ≤ bigZ := wN_le (by omega)
  have HAS := Lib.hid (fun (W : World) (z : Int) (s : Bool) (l : List Nat) (Z : Zone) (C : Option Addr) (cc : Nat) (r : Bool) (h1 : Nm z s l) (h2 : l.length ≤ 60) (h3 : Below w.heap.size w W) (h4 : U64s W Z C cc l) (h5 : decide (P.1 ≤ z ∧ z ≤ P.2) = r) => has_w hp gp (by omega) h1 h2 (u1.below h3) (u2.below h3) h4 h5)
  dsimp only at HAS
  have HY1 := Lib.hid hY1
  have HY2 := Lib.hid hY2
  have HY3 := Lib.hid hY3
  have HYs := Lib.hid hYs
  clear hY1 hY2 hY3 hYs
  have HLo : Hid (Nm P.1 s0 l0 ∧ inI P.1 P ∧ (-wN (N + 1) < P.1 ∧ P.1 < wN (N + 1))) := Lib.hid (by
    have h1 := hp.1
    unfold EndL at h1
    dsimp only at h1
    have h2 : ¬ P.1 = -bigZ := of_decide_eq_false h1.1.symm
    have h3 := gp.lo
    have h4 := gp.nlo
    unfold Ext at h3
    have h5 : -wN N < P.1 ∧ P.1 < wN N := by omega
    refine ⟨?_, ⟨Int.le_refl _, gp.le⟩, by omega⟩
    have := nm_e (n := P.1) (by omega)
    rw [← h1.2.1, ← h1.2.2] at this
    exact this)
  have hlN : l0.length ≤ N := (nm_lenN HLo.out.1 (by have h3 := gp.lo; have h4 := gp.nlo; have h1 := hp.1; unfold EndL at h1; dsimp only at h1; have h2 : ¬ P.1 = -bigZ := of_decide_eq_false h1.1.symm; unfold Ext at h3; omega))
  obtain ⟨s2, l2, h2⟩ : ∃ s l, Nm ((b : Int) % 8 - 4) s l := ⟨_, _, rfl, rfl⟩
  have O1 := Lib.hid (fun W : World => wof_n (w := W) h2 (by omega))
  have Hz2 : Hid (-wN (N + 1) < (b : Int) % 8 - 4 ∧ (b : Int) % 8 - 4 < wN (N + 1)) := Lib.hid (by omega)
  have H2 := Lib.hid h2
  have H2l : Hid (l2.length ≤ 60) := Lib.hid (by have := nm_lenN h2 Hz2.out; omega)
  obtain ⟨s3, l3, h3⟩ : ∃ s l, Nm ((b : Int) % 3) s l := ⟨_, _, rfl, rfl⟩
  have O3 := Lib.hid (fun W : World => wof_n (w := W) h3 (by omega))
  obtain ⟨s4, l4, h4⟩ : ∃ s l, Nm (P.1 + (b : Int) % 3) s l := ⟨_, _, rfl, rfl⟩
  have hl3 : l3.length ≤ 1 := nm_lenN h3 (by omega)
  have W4 := Lib.hid (fun (W : World) (Z : Zone) (D : Option Addr) (d : Nat) (hb : Below w.heap.size w W) (u3 : U64s W Z D d l3) => wadd_n HLo.out.1 h3 h4 rfl (by omega) (by omega) (u1.below hb) u3)
  have Hz4 : Hid (-wN (N + 1) < P.1 + (b : Int) % 3 ∧ P.1 + (b : Int) % 3 < wN (N + 1)) := Lib.hid (by
    have h5 := gp.lo
    have h6 := gp.nlo
    have h1 := hp.1
    unfold EndL at h1
    dsimp only at h1
    have h7 : ¬ P.1 = -bigZ := of_decide_eq_false h1.1.symm
    unfold Ext at h5
    omega)
  have H4 := Lib.hid h4
  have H4l : Hid (l4.length ≤ 60) := Lib.hid (by have := nm_lenN h4 Hz4.out; omega)
  clear h3 h4 hl3 hlN
  have hB0 : Below w.heap.size w (w.alloc (.cells #[.bool false, .bool s0, .slice A l0.length a, .bool true, .bool s1, .slice B l1.length c] 29)) := (Below.refl _ w).alloc (Nat.le_refl _) _
  have hB1 := hB0.alloc hB0.size (.cells #[.bool false, .slice none 0 0] 25)
  have HA := Lib.hid ((Box6.new w (.bool false) (.bool s0) (.slice A l0.length a) (.bool true) (.bool s1) (.slice B l1.length c) 29).alloc (.cells #[.bool false, .slice none 0 0] 25))
  have hbr : Box ((w.alloc (.cells #[.bool false, .bool s0, .slice A l0.length a, .bool true, .bool s1, .slice B l1.length c] 29)).alloc (.cells #[.bool false, .slice none 0 0] 25)) (w.heap.size + 1) (.bool false) (.slice none 0 0) := by
    have h := Box.new (w.alloc (.cells #[.bool false, .bool s0, .slice A l0.length a, .bool true, .bool s1, .slice B l1.length c] 29)) (.bool false) (.slice none 0 0) 25
    rw [World.size_alloc] at h
    exact h
  have HR := Lib.hid hbr
  have HB1 := Lib.hid hB1
  clear hp gp h2 hB0 hB1 hbr hw1 hwN hwM hbz hN hN1
  go_enter Tryz.func38, Tryz.ntmps38
  go_wp2_with fail
  refine (O1.out _).mono ?_
  rintro e w1 ⟨A2, c2, rfl, u3, hc⟩
  have hax : Below w1.heap.size w1 (w1.alloc (.cells #[.bool s2, .slice A2 l2.length c2] 25)) := (Below.refl _ _).alloc (Nat.le_refl _) _
  have HB := Lib.hid (from_ (from_ HB1.out hc) hax)
  have BA := Lib.hid ((HA.out.below hc).below hax)
  have BR := Lib.hid ((HR.out.below hc).below hax)
  have BN := Lib.hid (Box.new w1 (.bool s2) (.slice A2 l2.length c2) 25)
  have hlt := (HR.out.below hc).lt
  have u3' : U64s w1 (zAway Y w1.heap.size (w.heap.size + 1)) A2 c2 l2 := (U64s.toN u3 (new_to HY3.out (by simp; omega)) (show w.heap.size + 1 < _ by simp))
  obtain ⟨g5, hg5⟩ : ∃ g5, g5 = w1.heap.size := ⟨_, rfl⟩
  rw [← hg5] at BN hlt u3'
  have U := Lib.hid ((u3'.below hax))
  generalize hV : w1.alloc (.cells #[.bool s2, .slice A2 l2.length c2] 25) = V at *
  clear hax hc u3 O1 HA HR HB1
  have BV := Lib.hid (id BA.out)
  obtain ⟨y0, y1, y2, y3, y4, y5, _, _, _, _, _, _, _⟩ := id BA.out
  go_upto_region 3 with fail
  try simp only [hV]
  try simp only [← hg5]
  have hzz : w.heap.size + 1 < g5 := hlt
  have hgV := BN.out.lt
  clear hV hg5
  go_cut [6] (fun s6 wx => ∃ (A4 : Option Addr) (c4 g6 : Nat), s6 = .pointer (some ⟨g6, 0, none⟩) ∧ Cut6 V wx g6 g5 s4 A4 c4 l4)
  case first =>
    have hs0 := And.intro y1 y2
    have hs := c2_keep hs0 (Below.refl _ _).drew
    have Hc0 := Lib.hid (Below.refl V.heap.size V)
    have Hc := Lib.hid (Below.refl V.heap.size V).drew
    clear y0 y1 y2 y3 y4 y5
    have e3 : IntKind.i64.wrap ((b : Int).tmod 3) = (b : Int) % 3 := by rw [Int.tmod_eq_emod_of_nonneg (by omega), IntKind.wrap_i64]; omega
    have e3' : IntKind.i64.wrap ((b : Int) % 3) = (b : Int) % 3 := by rw [IntKind.wrap_i64]; omega
    first | go_region_held3 (fun w' => w'.cell? ⟨w.heap.size, 1, none⟩ = some (.bool s0) ∧ w'.cell? ⟨w.heap.size, 2, none⟩ = some (.slice A l0.length a))
      ((repeat' (first | with_reducible apply c2_al rfl | with_reducible apply c2_st2 rfl)) <;> (first | with_reducible exact hs | (with_reducible apply c2_dr rfl; (repeat' (with_reducible apply c2_al rfl)); with_reducible exact hs0) | omega))
      (first
        | (go_at_call 19; with_reducible refine (O3.out _).mono ?_; rintro e w2 ⟨D3, d3, rfl, o3, hc2⟩; (first | (with_reducible have hx := c2_keep hs hc2; have hb := Lib.hid (from_ Hc.out hc2); (try replace HF1 := Lib.hid (HF1.out.below hc2))) | (with_reducible have z1 := Hc.out.size; have hx := c2_keep (c2_keep hs ((Below.refl _ _).alloc (Nat.le_refl _) _)) hc2; have hb := Lib.hid (from_ (from_ Hc.out ((Below.refl _ _).alloc (Nat.le_refl _) _)) hc2); have HF1 := Lib.hid ((Box.new _ (.bool false) (.slice none 0 0) 25).below hc2)) | (with_reducible have hx := c2_keep (c2_keep (c2_keep hs0 ((Below.refl _ _).alloc (Nat.le_refl _) _)) (Below.refl _ _).drew) hc2; have hb := Lib.hid (from_ (from_ (from_ Hc0.out ((Below.refl _ _).alloc (Nat.le_refl _) _)) (Below.refl _ _).drew) hc2); have HF1 := Lib.hid (((Box.new _ (.bool false) (.slice none 0 0) 25).below (Below.refl _ _).drew).below hc2))); replace hs := hx; replace Hc := hb; clear hx hb hc2)
        | (go_at_call 12; (first | (with_reducible refine (W4.out _ _ _ _ (from_ HB.out Hc.out) o3).mono ?_) | (with_reducible refine (W4.out _ _ _ _ (from_ HB.out (from_ Hc.out ((Below.refl _ _).alloc (Nat.le_refl _) _))) (o3.below ((Below.refl _ _).alloc (Nat.le_refl _) _))).mono ?_)); rintro e w2 ⟨D4, d4, rfl, o4, hc2⟩; have zz := Hc.out.size; (try have ltg := HF1.out.lt); (first | (with_reducible have hx := c2_keep hs hc2; have hb := Lib.hid (from_ Hc.out hc2); (try replace HF1 := Lib.hid (HF1.out.below hc2))) | (with_reducible have z1 := Hc.out.size; have hx := c2_keep (c2_keep hs ((Below.refl _ _).alloc (Nat.le_refl _) _)) hc2; have hb := Lib.hid (from_ (from_ Hc.out ((Below.refl _ _).alloc (Nat.le_refl _) _)) hc2); have HF1 := Lib.hid ((Box.new _ (.bool false) (.slice none 0 0) 25).below hc2)) | (with_reducible have hx := c2_keep (c2_keep (c2_keep hs0 ((Below.refl _ _).alloc (Nat.le_refl _) _)) (Below.refl _ _).drew) hc2; have hb := Lib.hid (from_ (from_ (from_ Hc0.out ((Below.refl _ _).alloc (Nat.le_refl _) _)) (Below.refl _ _).drew) hc2); have HF1 := Lib.hid (((Box.new _ (.bool false) (.slice none 0 0) 25).below (Below.refl _ _).drew).below hc2))); replace hs := hx; replace Hc := hb; clear hx hb hc2; (try have ne3 := Nat.ne_of_lt HF1.out.lt); (try have ne4 := Ne.symm ne3); (try obtain ⟨x0, x1, x2, x3, _⟩ := id HF1.out); have lz := Hc.out.size)) | fail
    all_goals
      clear e3 e3' hs hs0
      go_wp2_with fail
      go_meet
      refine ⟨D4, d4, _, rfl, ?_⟩
      (first | (with_reducible apply Cut6.nw) | (with_reducible apply Cut6.ol)) <;> (first | with_reducible exact Hc.out | with_reducible exact HF1.out | with_reducible exact o4 | omega | (simp only [World.size_alloc]; omega))
  case rest =>
    obtain ⟨A4, c4, g6, rfl, h6⟩ := hcut
    clear y0 y1 y2 y3 y4 y5
    have hb6 := h6.bel
    have e0 := h6.c0
    have e1 := h6.c1
    have hP := ((BN.out.below hb6).put (w := w) (from_ HB.out hb6) (show w.heap.size ≤ g5 by omega) (.bool s4) (.slice A4 l4.length c4))
    replace HB := Lib.hid hP.bel
    replace BA := Lib.hid (Box6.set2 (BA.out.below hb6) (show g5 ≠ w.heap.size by omega) (.bool s4) (.slice A4 l4.length c4))
    replace BR := Lib.hid ((BR.out.below hb6).other (h := g5) (show g5 ≠ w.heap.size + 1 by omega) (x := .bool s4) (y := .slice A4 l4.length c4))
    obtain ⟨x0, x1, x2, x3, _⟩ := BN.out.below hb6
    replace BN := Lib.hid (Box.set2 (BN.out.below hb6) (.bool s4) (.slice A4 l4.length c4))
    replace U := Lib.hid (((h6.u.set1 g5 0 (fun h : g5 + 1 ≤ g5 => by omega) (.bool s4)).set1 g5 1 (fun h : g5 + 1 ≤ g5 => by omega) (.slice A4 l4.length c4)).mono (new_zAway (h := w.heap.size + 1) (new_to HY3.out (by omega)) (show g5 < g5 + 1 by omega) (by omega)))
    have hw6 : w.heap.size < wc.heap.size := by have := hb6.size; omega
    have ng1 : ¬ (g5 = w.heap.size) := by omega
    have ng2 : ¬ (w.heap.size = g5) := by omega
    obtain ⟨y0, y1, y2, y3, y4, y5, _, _, _, _, _, _, _⟩ := BV.out.below hb6
    have HN := Lib.hid H4.out
    have HL := Lib.hid H4l.out
    have Hbd := Lib.hid Hz4.out
    clear hP h6 hb6 BV
    generalize hV4 : (wc.setCell ⟨g5, 0, none⟩ (.bool s4)).setCell ⟨g5, 1, none⟩ (.slice A4 l4.length c4) = V4 at *
    go_upto_region 5 with fail
    try simp only [hV4]
    clear hV4 ng1 ng2 hw6 e0 e1 x0 x1 x2 x3 y0 y1 y2 y3 y4 y5 H4 H4l Hz4 W4 O3 H2 H2l Hz2 u3'
    obtain ⟨y0, y1, y2, y3, y4, y5, _, _, _, _, _, _, _⟩ := id BA.out
    obtain ⟨x0, x1, x2', x3', _⟩ := id BN.out
    by_cases hin : P.1 ≤ (P.1 + (b : Int) % 3) ∧ (P.1 + (b : Int) % 3) ≤ P.2
    · have HS := Lib.hid (HAS.out _ _ _ _ _ _ _ true HN.out HL.out HB.out U.out (decide_eq_true hin))
      have Hin := Lib.hid hin
      clear hin
      go_wp2_with fail
      refine HS.out.mono ?_
      rintro e w7 ⟨rfl, hc⟩
      replace BA := Lib.hid (BA.out.below hc)
      replace BR := Lib.hid (BR.out.below hc)
      replace BN := Lib.hid (BN.out.below hc)
      replace U := Lib.hid (U.out.below hc)
      replace HB := Lib.hid (from_ HB.out hc)
      clear hc y0 y1 y2 y3 y4 y5 x0 x1 x2' x3' HS
      have hP := BR.out.put (w := w) HB.out (Nat.le_succ _) (.bool s4) (.slice A4 l4.length c4)
      have HP := Lib.hid hP
      have HU := Lib.hid (((U.out.set1 (w.heap.size + 1) 0 (fun h => h.2.2 rfl) (.bool s4)).set1 (w.heap.size + 1) 1 (fun h => h.2.2 rfl) (.slice A4 l4.length c4)).mono (zAway_le HYs.out _ _))
      obtain ⟨_, _, z0', z1', _⟩ := id BR.out
      obtain ⟨y0, y1, y2, y3, y4, y5, _, _, _, _, _, _, _⟩ := id BA.out
      obtain ⟨x0, x1, x2', x3', _⟩ := id BN.out
      clear hP
      go_wp2
      refine bodyPost_ret (res_int rfl _ (w.heap.size + 1) rfl HP.out.c0 HP.out.c1) rfl ?_
      exact ⟨_, s4, l4, A4, c4, rfl, HN.out, Hin.out, Hbd.out, HU.out, HP.out.bel⟩
    · have HS := Lib.hid (HAS.out _ _ _ _ _ _ _ false HN.out HL.out HB.out U.out (decide_eq_false hin))
      clear hin
      go_wp2_with fail
      refine HS.out.mono ?_
      rintro e w7 ⟨rfl, hc⟩
      replace BA := Lib.hid (BA.out.below hc)
      replace BR := Lib.hid (BR.out.below hc)
      replace BN := Lib.hid (BN.out.below hc)
      replace HB := Lib.hid (from_ HB.out hc)
      clear hc y0 y1 y2 y3 y4 y5 x0 x1 x2' x3' HS
      have hP := BR.out.put (w := w) HB.out (Nat.le_succ _) (.bool s0) (.slice A l0.length a)
      have HP := Lib.hid hP
      have HU := Lib.hid ((u1.below hP.bel).mono HY1.out)
      obtain ⟨_, _, z0', z1', _⟩ := id BR.out
      obtain ⟨y0, y1, y2, y3, y4, y5, _, _, _, _, _, _, _⟩ := id BA.out
      obtain ⟨x0, x1, x2', x3', _⟩ := id BN.out
      clear hP
      go_wp2
      refine bodyPost_ret (res_int rfl _ (w.heap.size + 1) rfl HP.out.c0 HP.out.c1) rfl ?_
      exact ⟨_, s0, l0, A, a, rfl, HLo.out.1, HLo.out.2.1, HLo.out.2.2, HU.out, HP.out.bel⟩

set_option maxRecDepth 100000 in
set_option maxHeartbeats 4000000 in
theorem pick_ff {w : World} {Z1 Z2 : Zone} {s0 s1 : Bool} {l0 l1 : List Nat} {P : IvP} {N : Nat} {A B : Option Addr} {a c : Nat} {b : Nat} (hb : b ≤ 255) (hp : IvW P ⟨false, s0, l0, false, s1, l1⟩) (gp : IvN N P.1 P.2) (hN1 : 1 ≤ N) (hN : N ≤ 32) (u1 : U64s w Z1 A a l0) (u2 : U64s w Z2 B c l1) {Y : Zone} (hY1 : Z1.le Y) (hY2 : Z2.le Y) (hY3 : (new w.heap.size).le Y) (hYs : ¬ Y.soft) :
    Calls Tryz.prog 38 #[.agg #[.bool false, .bool s0, .slice A l0.length a, .bool false, .bool s1, .slice B l1.length c], .int .u8 (b : Int)] w fun e w' => ∃ z s l A' c', e = .returned (.agg #[.bool s, .slice A' (l : List Nat).length c']) ∧ Nm z s l ∧ inI z P ∧ (-wN (N + 1) < z ∧ z < wN (N + 1)) ∧ U64s w' Y A' c' l ∧ Below w.heap.size w w' := by
  have hw1 : wN 1 = 18446744073709551616 := rfl
  have hwN : wN 1 ≤ wN N := wN_mono hN1
  have hwM : wN N + wN N ≤ wN (N + 1) := wN_two N
  have hbz : wN (N + 1) ≤ bigZ := wN_le (by omega)
  have HAS := Lib.hid (fun (W : World) (z : Int) (s : Bool) (l : List Nat) (Z : Zone) (C : Option Addr) (cc : Nat) (r : Bool) (h1 : Nm z s l) (h2 : l.length ≤ 60) (h3 : Below w.heap.size w W) (h4 : U64s W Z C cc l) (h5 : decide (P.1 ≤ z ∧ z ≤ P.2) = r) => has_w hp gp (by omega) h1 h2 (u1.below h3) (u2.below h3) h4 h5)
  dsimp only at HAS
  have HY1 := Lib.hid hY1
  have HY2 := Lib.hid hY2
  have HY3 := Lib.hid hY3
  have HYs := Lib.hid hYs
  clear hY1 hY2 hY3 hYs
  have HLo : Hid (Nm P.1 s0 l0 ∧ inI P.1 P ∧ (-wN (N + 1) < P.1 ∧ P.1 < wN (N + 1))) := Lib.hid (by
    have h1 := hp.1
    unfold EndL at h1
    dsimp only at h1
    have h2 : ¬ P.1 = -bigZ := of_decide_eq_false h1.1.symm
    have h3 := gp.lo
    have h4 := gp.nlo
    unfold Ext at h3
    have h5 : -wN N < P.1 ∧ P.1 < wN N := by omega
    refine ⟨?_, ⟨Int.le_refl _, gp.le⟩, by omega⟩
    have := nm_e (n := P.1) (by omega)
    rw [← h1.2.1, ← h1.2.2] at this
    exact this)
  have hlN : l0.length ≤ N := (nm_lenN HLo.out.1 (by have h3 := gp.lo; have h4 := gp.nlo; have h1 := hp.1; unfold EndL at h1; dsimp only at h1; have h2 : ¬ P.1 = -bigZ := of_decide_eq_false h1.1.symm; unfold Ext at h3; omega))
  have HHi : Hid (Nm P.2 s1 l1 ∧ inI P.2 P ∧ (-wN (N + 1) < P.2 ∧ P.2 < wN (N + 1))) := Lib.hid (by
    have h1 := hp.2
    unfold EndH at h1
    dsimp only at h1
    have h2 : ¬ P.2 = bigZ := of_decide_eq_false h1.1.symm
    have h3 := gp.hi
    have h4 := gp.nhi
    unfold Ext at h3
    have h5 : -wN N < P.2 ∧ P.2 < wN N := by omega
    refine ⟨?_, ⟨gp.le, Int.le_refl _⟩, by omega⟩
    have := nm_e (n := P.2) (by omega)
    rw [← h1.2.1, ← h1.2.2] at this
    exact this)
  have HHl : Hid (l1.length ≤ 60) := Lib.hid (by have := nm_lenN HHi.out.1 HHi.out.2.2; omega)
  obtain ⟨s2, l2, h2⟩ : ∃ s l, Nm ((b : Int) % 8 - 4) s l := ⟨_, _, rfl, rfl⟩
  have O1 := Lib.hid (fun W : World => wof_n (w := W) h2 (by omega))
  have Hz2 : Hid (-wN (N + 1) < (b : Int) % 8 - 4 ∧ (b : Int) % 8 - 4 < wN (N + 1)) := Lib.hid (by omega)
  have H2 := Lib.hid h2
  have H2l : Hid (l2.length ≤ 60) := Lib.hid (by have := nm_lenN h2 Hz2.out; omega)
  obtain ⟨s3, l3, h3⟩ : ∃ s l, Nm ((b : Int) % 3) s l := ⟨_, _, rfl, rfl⟩
  have O3 := Lib.hid (fun W : World => wof_n (w := W) h3 (by omega))
  obtain ⟨s4, l4, h4⟩ : ∃ s l, Nm (P.1 + (b : Int) % 3) s l := ⟨_, _, rfl, rfl⟩
  have hl3 : l3.length ≤ 1 := nm_lenN h3 (by omega)
  have W4 := Lib.hid (fun (W : World) (Z : Zone) (D : Option Addr) (d : Nat) (hb : Below w.heap.size w W) (u3 : U64s W Z D d l3) => wadd_n HLo.out.1 h3 h4 rfl (by omega) (by omega) (u1.below hb) u3)
  have Hz4 : Hid (-wN (N + 1) < P.1 + (b : Int) % 3 ∧ P.1 + (b : Int) % 3 < wN (N + 1)) := Lib.hid (by
    have h5 := gp.lo
    have h6 := gp.nlo
    have h1 := hp.1
    unfold EndL at h1
    dsimp only at h1
    have h7 : ¬ P.1 = -bigZ := of_decide_eq_false h1.1.symm
    unfold Ext at h5
    omega)
  have H4 := Lib.hid h4
  have H4l : Hid (l4.length ≤ 60) := Lib.hid (by have := nm_lenN h4 Hz4.out; omega)
  clear h3 h4 hl3 hlN
  have hB0 : Below w.heap.size w (w.alloc (.cells #[.bool false, .bool s0, .slice A l0.length a, .bool false, .bool s1, .slice B l1.length c] 29)) := (Below.refl _ w).alloc (Nat.le_refl _) _
  have hB1 := hB0.alloc hB0.size (.cells #[.bool false, .slice none 0 0] 25)
  have HA := Lib.hid ((Box6.new w (.bool false) (.bool s0) (.slice A l0.length a) (.bool false) (.bool s1) (.slice B l1.length c) 29).alloc (.cells #[.bool false, .slice none 0 0] 25))
  have hbr : Box ((w.alloc (.cells #[.bool false, .bool s0, .slice A l0.length a, .bool false, .bool s1, .slice B l1.length c] 29)).alloc (.cells #[.bool false, .slice none 0 0] 25)) (w.heap.size + 1) (.bool false) (.slice none 0 0) := by
    have h := Box.new (w.alloc (.cells #[.bool false, .bool s0, .slice A l0.length a, .bool false, .bool s1, .slice B l1.length c] 29)) (.bool false) (.slice none 0 0) 25
    rw [World.size_alloc] at h
    exact h
  have HR := Lib.hid hbr
  have HB1 := Lib.hid hB1
  clear hp gp h2 hB0 hB1 hbr hw1 hwN hwM hbz hN hN1
  go_enter Tryz.func38, Tryz.ntmps38
  go_wp2_with fail
  refine (O1.out _).mono ?_
  rintro e w1 ⟨A2, c2, rfl, u3, hc⟩
  have hax : Below w1.heap.size w1 (w1.alloc (.cells #[.bool s2, .slice A2 l2.length c2] 25)) := (Below.refl _ _).alloc (Nat.le_refl _) _
  have HB := Lib.hid (from_ (from_ HB1.out hc) hax)
  have BA := Lib.hid ((HA.out.below hc).below hax)
  have BR := Lib.hid ((HR.out.below hc).below hax)
  have BN := Lib.hid (Box.new w1 (.bool s2) (.slice A2 l2.length c2) 25)
  have hlt := (HR.out.below hc).lt
  have u3' : U64s w1 (zAway Y w1.heap.size (w.heap.size + 1)) A2 c2 l2 := (U64s.toN u3 (new_to HY3.out (by simp; omega)) (show w.heap.size + 1 < _ by simp))
  obtain ⟨g5, hg5⟩ : ∃ g5, g5 = w1.heap.size := ⟨_, rfl⟩
  rw [← hg5] at BN hlt u3'
  have U := Lib.hid ((u3'.below hax))
  generalize hV : w1.alloc (.cells #[.bool s2, .slice A2 l2.length c2] 25) = V at *
  clear hax hc u3 O1 HA HR HB1
  have BV := Lib.hid (id BA.out)
  obtain ⟨y0, y1, y2, y3, y4, y5, _, _, _, _, _, _, _⟩ := id BA.out
  go_upto_region 3 with fail
  try simp only [hV]
  try simp only [← hg5]
  have hzz : w.heap.size + 1 < g5 := hlt
  have hgV := BN.out.lt
  clear hV hg5
  go_cut [6] (fun s6 wx => ∃ (A4 : Option Addr) (c4 g6 : Nat), s6 = .pointer (some ⟨g6, 0, none⟩) ∧ Cut6 V wx g6 g5 s4 A4 c4 l4)
  case first =>
    have hs0 := And.intro y1 y2
    have hs := c2_keep hs0 (Below.refl _ _).drew
    have Hc0 := Lib.hid (Below.refl V.heap.size V)
    have Hc := Lib.hid (Below.refl V.heap.size V).drew
    clear y0 y1 y2 y3 y4 y5
    have e3 : IntKind.i64.wrap ((b : Int).tmod 3) = (b : Int) % 3 := by rw [Int.tmod_eq_emod_of_nonneg (by omega), IntKind.wrap_i64]; omega
    have e3' : IntKind.i64.wrap ((b : Int) % 3) = (b : Int) % 3 := by rw [IntKind.wrap_i64]; omega
    first | go_region_held3 (fun w' => w'.cell? ⟨w.heap.size, 1, none⟩ = some (.bool s0) ∧ w'.cell? ⟨w.heap.size, 2, none⟩ = some (.slice A l0.length a))
      ((repeat' (first | with_reducible apply c2_al rfl | with_reducible apply c2_st2 rfl)) <;> (first | with_reducible exact hs | (with_reducible apply c2_dr rfl; (repeat' (with_reducible apply c2_al rfl)); with_reducible exact hs0) | omega))
      (first
        | (go_at_call 19; with_reducible refine (O3.out _).mono ?_; rintro e w2 ⟨D3, d3, rfl, o3, hc2⟩; (first | (with_reducible have hx := c2_keep hs hc2; have hb := Lib.hid (from_ Hc.out hc2); (try replace HF1 := Lib.hid (HF1.out.below hc2))) | (with_reducible have z1 := Hc.out.size; have hx := c2_keep (c2_keep hs ((Below.refl _ _).alloc (Nat.le_refl _) _)) hc2; have hb := Lib.hid (from_ (from_ Hc.out ((Below.refl _ _).alloc (Nat.le_refl _) _)) hc2); have HF1 := Lib.hid ((Box.new _ (.bool false) (.slice none 0 0) 25).below hc2)) | (with_reducible have hx := c2_keep (c2_keep (c2_keep hs0 ((Below.refl _ _).alloc (Nat.le_refl _) _)) (Below.refl _ _).drew) hc2; have hb := Lib.hid (from_ (from_ (from_ Hc0.out ((Below.refl _ _).alloc (Nat.le_refl _) _)) (Below.refl _ _).drew) hc2); have HF1 := Lib.hid (((Box.new _ (.bool false) (.slice none 0 0) 25).below (Below.refl _ _).drew).below hc2))); replace hs := hx; replace Hc := hb; clear hx hb hc2)
        | (go_at_call 12; (first | (with_reducible refine (W4.out _ _ _ _ (from_ HB.out Hc.out) o3).mono ?_) | (with_reducible refine (W4.out _ _ _ _ (from_ HB.out (from_ Hc.out ((Below.refl _ _).alloc (Nat.le_refl _) _))) (o3.below ((Below.refl _ _).alloc (Nat.le_refl _) _))).mono ?_)); rintro e w2 ⟨D4, d4, rfl, o4, hc2⟩; have zz := Hc.out.size; (try have ltg := HF1.out.lt); (first | (with_reducible have hx := c2_keep hs hc2; have hb := Lib.hid (from_ Hc.out hc2); (try replace HF1 := Lib.hid (HF1.out.below hc2))) | (with_reducible have z1 := Hc.out.size; have hx := c2_keep (c2_keep hs ((Below.refl _ _).alloc (Nat.le_refl _) _)) hc2; have hb := Lib.hid (from_ (from_ Hc.out ((Below.refl _ _).alloc (Nat.le_refl _) _)) hc2); have HF1 := Lib.hid ((Box.new _ (.bool false) (.slice none 0 0) 25).below hc2)) | (with_reducible have hx := c2_keep (c2_keep (c2_keep hs0 ((Below.refl _ _).alloc (Nat.le_refl _) _)) (Below.refl _ _).drew) hc2; have hb := Lib.hid (from_ (from_ (from_ Hc0.out ((Below.refl _ _).alloc (Nat.le_refl _) _)) (Below.refl _ _).drew) hc2); have HF1 := Lib.hid (((Box.new _ (.bool false) (.slice none 0 0) 25).below (Below.refl _ _).drew).below hc2))); replace hs := hx; replace Hc := hb; clear hx hb hc2; (try have ne3 := Nat.ne_of_lt HF1.out.lt); (try have ne4 := Ne.symm ne3); (try obtain ⟨x0, x1, x2, x3, _⟩ := id HF1.out); have lz := Hc.out.size)) | fail
    all_goals
      clear e3 e3' hs hs0
      go_wp2_with fail
      go_meet
      refine ⟨D4, d4, _, rfl, ?_⟩
      (first | (with_reducible apply Cut6.nw) | (with_reducible apply Cut6.ol)) <;> (first | with_reducible exact Hc.out | with_reducible exact HF1.out | with_reducible exact o4 | omega | (simp only [World.size_alloc]; omega))
  case rest =>
    obtain ⟨A4, c4, g6, rfl, h6⟩ := hcut
    clear y0 y1 y2 y3 y4 y5
    have hb6 := h6.bel
    have e0 := h6.c0
    have e1 := h6.c1
    have hP := ((BN.out.below hb6).put (w := w) (from_ HB.out hb6) (show w.heap.size ≤ g5 by omega) (.bool s4) (.slice A4 l4.length c4))
    replace HB := Lib.hid hP.bel
    replace BA := Lib.hid (Box6.set2 (BA.out.below hb6) (show g5 ≠ w.heap.size by omega) (.bool s4) (.slice A4 l4.length c4))
    replace BR := Lib.hid ((BR.out.below hb6).other (h := g5) (show g5 ≠ w.heap.size + 1 by omega) (x := .bool s4) (y := .slice A4 l4.length c4))
    obtain ⟨x0, x1, x2, x3, _⟩ := BN.out.below hb6
    replace BN := Lib.hid (Box.set2 (BN.out.below hb6) (.bool s4) (.slice A4 l4.length c4))
    replace U := Lib.hid (((h6.u.set1 g5 0 (fun h : g5 + 1 ≤ g5 => by omega) (.bool s4)).set1 g5 1 (fun h : g5 + 1 ≤ g5 => by omega) (.slice A4 l4.length c4)).mono (new_zAway (h := w.heap.size + 1) (new_to HY3.out (by omega)) (show g5 < g5 + 1 by omega) (by omega)))
    have hw6 : w.heap.size < wc.heap.size := by have := hb6.size; omega
    have ng1 : ¬ (g5 = w.heap.size) := by omega
    have ng2 : ¬ (w.heap.size = g5) := by omega
    obtain ⟨y0, y1, y2, y3, y4, y5, _, _, _, _, _, _, _⟩ := BV.out.below hb6
    have HN := Lib.hid H4.out
    have HL := Lib.hid H4l.out
    have Hbd := Lib.hid Hz4.out
    clear hP h6 hb6 BV
    generalize hV4 : (wc.setCell ⟨g5, 0, none⟩ (.bool s4)).setCell ⟨g5, 1, none⟩ (.slice A4 l4.length c4) = V4 at *
    go_upto_region 5 with fail
    try simp only [hV4]
    clear hV4 ng1 ng2 hw6 e0 e1 x0 x1 x2 x3 y0 y1 y2 y3 y4 y5 H4 H4l Hz4 W4 O3 H2 H2l Hz2 u3'
    by_cases hodd : b % 2 = 1
    · have o1 : (b % 2 == 1) = true := by simp [hodd]
      have o2 : decide (b % 2 = 1) = true := decide_eq_true hodd
      have o3 : ((b : Int) % 2 == 1) = true := by simp; omega
      clear hodd
      have hP := BN.out.put (w := w) HB.out (show w.heap.size ≤ g5 by omega) (.bool s1) (.slice B l1.length c)
      have HBx := Lib.hid hP.bel
      have BAx := Lib.hid (Box6.set2 BA.out (show g5 ≠ w.heap.size by omega) (.bool s1) (.slice B l1.length c))
      have BRx := Lib.hid (BR.out.other (h := g5) (show g5 ≠ w.heap.size + 1 by omega) (x := .bool s1) (y := .slice B l1.length c))
      have BNx := Lib.hid (Box.set2 BN.out (.bool s1) (.slice B l1.length c))
      have Ux := Lib.hid ((u2.toY HY2.out (g := g5) (h := w.heap.size + 1) (by omega) (by omega)).below hP.bel)
      have ng1 : ¬ (g5 = w.heap.size) := by omega
      have ng2 : ¬ (w.heap.size = g5) := by omega
      clear hP
      obtain ⟨y0, y1, y2, y3, y4, y5, _, _, _, _, _, _, _⟩ := id BA.out
      obtain ⟨x0, x1, x2', x3', _⟩ := id BN.out
      have HS := Lib.hid (HAS.out _ _ _ _ _ _ _ true HHi.out.1 HHl.out HBx.out Ux.out (decide_eq_true HHi.out.2.1))
      go_wp2_with fail
      refine HS.out.mono ?_
      rintro e w7 ⟨rfl, hc⟩
      replace BA := Lib.hid (BAx.out.below hc)
      replace BR := Lib.hid (BRx.out.below hc)
      replace BN := Lib.hid (BNx.out.below hc)
      replace U := Lib.hid (Ux.out.below hc)
      replace HB := Lib.hid (from_ HBx.out hc)
      clear hc y0 y1 y2 y3 y4 y5 x0 x1 x2' x3' HS BAx BRx BNx Ux HBx ng1 ng2
      have hP := BR.out.put (w := w) HB.out (Nat.le_succ _) (.bool s1) (.slice B l1.length c)
      have HP := Lib.hid hP
      have HU := Lib.hid (((U.out.set1 (w.heap.size + 1) 0 (fun h => h.2.2 rfl) (.bool s1)).set1 (w.heap.size + 1) 1 (fun h => h.2.2 rfl) (.slice B l1.length c)).mono (zAway_le HYs.out _ _))
      obtain ⟨_, _, z0', z1', _⟩ := id BR.out
      obtain ⟨y0, y1, y2, y3, y4, y5, _, _, _, _, _, _, _⟩ := id BA.out
      obtain ⟨x0, x1, x2', x3', _⟩ := id BN.out
      clear hP
      go_wp2
      refine bodyPost_ret (res_int rfl _ (w.heap.size + 1) rfl HP.out.c0 HP.out.c1) rfl ?_
      exact ⟨_, s1, l1, B, c, rfl, HHi.out.1, HHi.out.2.1, HHi.out.2.2, HU.out, HP.out.bel⟩
    · have o1 : (b % 2 == 1) = false := by simp [hodd]
      have o2 : decide (b % 2 = 1) = false := decide_eq_false hodd
      have o3 : ((b : Int) % 2 == 1) = false := by simp; omega
      clear hodd
      obtain ⟨y0, y1, y2, y3, y4, y5, _, _, _, _, _, _, _⟩ := id BA.out
      obtain ⟨x0, x1, x2', x3', _⟩ := id BN.out
      by_cases hin : P.1 ≤ (P.1 + (b : Int) % 3) ∧ (P.1 + (b : Int) % 3) ≤ P.2
      · have HS := Lib.hid (HAS.out _ _ _ _ _ _ _ true HN.out HL.out HB.out U.out (decide_eq_true hin))
        have Hin := Lib.hid hin
        clear hin
        go_wp2_with fail
        refine HS.out.mono ?_
        rintro e w7 ⟨rfl, hc⟩
        replace BA := Lib.hid (BA.out.below hc)
        replace BR := Lib.hid (BR.out.below hc)
        replace BN := Lib.hid (BN.out.below hc)
        replace U := Lib.hid (U.out.below hc)
        replace HB := Lib.hid (from_ HB.out hc)
        clear hc y0 y1 y2 y3 y4 y5 x0 x1 x2' x3' HS
        have hP := BR.out.put (w := w) HB.out (Nat.le_succ _) (.bool s4) (.slice A4 l4.length c4)
        have HP := Lib.hid hP
        have HU := Lib.hid (((U.out.set1 (w.heap.size + 1) 0 (fun h => h.2.2 rfl) (.bool s4)).set1 (w.heap.size + 1) 1 (fun h => h.2.2 rfl) (.slice A4 l4.length c4)).mono (zAway_le HYs.out _ _))
        obtain ⟨_, _, z0', z1', _⟩ := id BR.out
        obtain ⟨y0, y1, y2, y3, y4, y5, _, _, _, _, _, _, _⟩ := id BA.out
        obtain ⟨x0, x1, x2', x3', _⟩ := id BN.out
        clear hP
        go_wp2
        refine bodyPost_ret (res_int rfl _ (w.heap.size + 1) rfl HP.out.c0 HP.out.c1) rfl ?_
        exact ⟨_, s4, l4, A4, c4, rfl, HN.out, Hin.out, Hbd.out, HU.out, HP.out.bel⟩
      · have HS := Lib.hid (HAS.out _ _ _ _ _ _ _ false HN.out HL.out HB.out U.out (decide_eq_false hin))
        clear hin
        go_wp2_with fail
        refine HS.out.mono ?_
        rintro e w7 ⟨rfl, hc⟩
        replace BA := Lib.hid (BA.out.below hc)
        replace BR := Lib.hid (BR.out.below hc)
        replace BN := Lib.hid (BN.out.below hc)
        replace HB := Lib.hid (from_ HB.out hc)
        clear hc y0 y1 y2 y3 y4 y5 x0 x1 x2' x3' HS
        have hP := BR.out.put (w := w) HB.out (Nat.le_succ _) (.bool s0) (.slice A l0.length a)
        have HP := Lib.hid hP
        have HU := Lib.hid ((u1.below hP.bel).mono HY1.out)
        obtain ⟨_, _, z0', z1', _⟩ := id BR.out
        obtain ⟨y0, y1, y2, y3, y4, y5, _, _, _, _, _, _, _⟩ := id BA.out
        obtain ⟨x0, x1, x2', x3', _⟩ := id BN.out
        clear hP
        go_wp2
        refine bodyPost_ret (res_int rfl _ (w.heap.size + 1) rfl HP.out.c0 HP.out.c1) rfl ?_
        exact ⟨_, s0, l0, A, a, rfl, HLo.out.1, HLo.out.2.1, HLo.out.2.2, HU.out, HP.out.bel⟩

/-- A number of an interval is picked. -/
theorem lpick_w {w : World} {Z1 Z2 : Zone} {p : Iv} {P : IvP} {N : Nat} {A B : Option Addr} {a c : Nat} {b : Nat} (hb : b ≤ 255) (hp : IvW P p) (gp : IvN N P.1 P.2) (hN1 : 1 ≤ N) (hN : N ≤ 32) (u1 : U64s w Z1 A a p.l0) (u2 : U64s w Z2 B c p.l1) {Y : Zone} (hY1 : Z1.le Y) (hY2 : Z2.le Y) (hY3 : (new w.heap.size).le Y) (hYs : ¬ Y.soft) :
    Calls Tryz.prog 38 #[.agg #[.bool p.n0, .bool p.s0, .slice A p.l0.length a, .bool p.n1, .bool p.s1, .slice B p.l1.length c], .int .u8 (b : Int)] w fun e w' => ∃ z s l A' c', e = .returned (.agg #[.bool s, .slice A' (l : List Nat).length c']) ∧ Nm z s l ∧ inI z P ∧ (-wN (N + 1) < z ∧ z < wN (N + 1)) ∧ U64s w' Y A' c' l ∧ Below w.heap.size w w' := by
  obtain ⟨n0, s0, l0, n1, s1, l1⟩ := p
  cases n0 <;> cases n1
  · exact pick_ff hb hp gp hN1 hN u1 u2 hY1 hY2 hY3 hYs
  · exact pick_ft hb hp gp hN1 hN u1 u2 hY1 hY2 hY3 hYs
  · exact pick_tf hb hp gp hN1 hN u1 u2 hY1 hY2 hY3 hYs
  · exact pick_tt hb hp gp hN1 hN u1 u2 hY1 hY2 hY3 hYs

end Go.Proofs.YtamenhffplhddaaGreat

namespace Go.Proofs.YtamenhffplhddaaGreat
open Go.RowKit
set_option linter.unusedVariables false
set_option linter.unusedSimpArgs false

theorem c4_keep {W V : World} {g i j h k l : Nat} {a b c d : Value} (hs : (W.cell? ⟨g, i, none⟩ = some a ∧ W.cell? ⟨g, j, none⟩ = some b) ∧ W.cell? ⟨h, k, none⟩ = some c ∧ W.cell? ⟨h, l, none⟩ = some d) (hb : Below W.heap.size W V) : (V.cell? ⟨g, i, none⟩ = some a ∧ V.cell? ⟨g, j, none⟩ = some b) ∧ V.cell? ⟨h, k, none⟩ = some c ∧ V.cell? ⟨h, l, none⟩ = some d := ⟨c2_keep hs.1 hb, c2_keep hs.2 hb⟩
theorem c4_al {W V : World} {g i j h k l : Nat} {a b c d : Value} {o : Obj} (e : V = W.alloc o) (hs : (W.cell? ⟨g, i, none⟩ = some a ∧ W.cell? ⟨g, j, none⟩ = some b) ∧ W.cell? ⟨h, k, none⟩ = some c ∧ W.cell? ⟨h, l, none⟩ = some d) : (V.cell? ⟨g, i, none⟩ = some a ∧ V.cell? ⟨g, j, none⟩ = some b) ∧ V.cell? ⟨h, k, none⟩ = some c ∧ V.cell? ⟨h, l, none⟩ = some d := ⟨c2_al e hs.1, c2_al e hs.2⟩
theorem c4_dr {W V : World} {g i j h k l : Nat} {a b c d : Value} (e : V = W.drew) (hs : (W.cell? ⟨g, i, none⟩ = some a ∧ W.cell? ⟨g, j, none⟩ = some b) ∧ W.cell? ⟨h, k, none⟩ = some c ∧ W.cell? ⟨h, l, none⟩ = some d) : (V.cell? ⟨g, i, none⟩ = some a ∧ V.cell? ⟨g, j, none⟩ = some b) ∧ V.cell? ⟨h, k, none⟩ = some c ∧ V.cell? ⟨h, l, none⟩ = some d := ⟨c2_dr e hs.1, c2_dr e hs.2⟩
theorem c4_st2 {W V : World} {g i j h k l r : Nat} {a b c d x y : Value} (e : V = (W.setCell ⟨r, 0, none⟩ x).setCell ⟨r, 1, none⟩ y) (hn : r ≠ g) (hm : r ≠ h) (hs : (W.cell? ⟨g, i, none⟩ = some a ∧ W.cell? ⟨g, j, none⟩ = some b) ∧ W.cell? ⟨h, k, none⟩ = some c ∧ W.cell? ⟨h, l, none⟩ = some d) : (V.cell? ⟨g, i, none⟩ = some a ∧ V.cell? ⟨g, j, none⟩ = some b) ∧ V.cell? ⟨h, k, none⟩ = some c ∧ V.cell? ⟨h, l, none⟩ = some d := ⟨c2_st2 e hn hs.1, c2_st2 e hm hs.2⟩
/-- Where the j-th number of a row lies. -/
theorem VecAt.num {w : World} {Z : Zone} {A : Option Addr} {c : Nat} {zs : List Int} (h : VecAt w Z A c (encI zs)) {j : Nat} (hj : j < zs.length) : ∃ b o B d s l, A = some ⟨b, o, none⟩ ∧ b < w.heap.size ∧ (w.cell? ⟨b, o + j * 2, none⟩ = some (.bool s) ∧ w.cell? ⟨b, o + j * 2 + 1, none⟩ = some (.slice B (l : List Nat).length d)) ∧ U64s w Z B d l ∧ Nm zs[j] s l := by
  have hl : j < (encI zs).length := by rw [encI_len]; exact hj
  obtain ⟨b, o, e, hz, hb, hf, hc⟩ := h.row (by omega)
  obtain ⟨B, d, h1, h2, h3⟩ := hc j hl
  rw [encI_get hl hj] at h1 h2 h3
  exact ⟨b, o, B, d, _, _, e, hb, ⟨h1, h2⟩, h3, rfl, rfl⟩

set_option maxRecDepth 100000 in
set_option maxHeartbeats 4000000 in
theorem lis_run {w : World} {Z Y : Zone} {F : Value} {A B : Option Addr} {c d n : Nat} {zs xs : List Int} {M S : Nat → Int} {rs : Bool} {rl : List Nat} (ha : VecAt w Z A c (encI zs)) (hb : VecAt w Y B d (encI xs)) (hz : zs.length = n + 1) (hx : xs.length = n) (hn : n ≤ 60)
    (hL1 : ∀ k (h : k < zs.length) s l, Nm zs[k] s l → l.length ≤ 64) (hL2 : ∀ k (h : k < xs.length) s l, Nm xs[k] s l → l.length ≤ 64) (hM : ∀ k (h : k + 1 < zs.length) (h2 : k < xs.length), zs[k + 1] * xs[k] = M k) (hS0 : ∀ (h : 0 < zs.length), S 0 = zs[0]) (hSs : ∀ k, k < n → S k + M k = S (k + 1)) (hLS : ∀ k, k ≤ n → ∀ s l, Nm (S k) s l → l.length ≤ 1000) (hLM : ∀ k, k < n → ∀ s l, Nm (M k) s l → l.length ≤ 1000) (hr : Nm (S n) rs rl) :
    Calls Tryz.prog 39 #[F, .slice A (n + 1) c, .slice B n d] w fun e w' => ∃ A' c', e = .returned (.agg #[.bool rs, .slice A' rl.length c']) ∧ U64s w' old A' c' rl ∧ Below w.heap.size w w' := by
  have hB0 : Below w.heap.size w (w.alloc (.cells #[.bool false, .slice none 0 0] 25)) := (Below.refl _ w).alloc (Nat.le_refl _) _
  have HR := Lib.hid (Box.new w (.bool false) (.slice none 0 0) 25)
  obtain ⟨b, o, B0, d0, s0, l0, rfl, hbb, c0, u0, n0⟩ := ha.num (j := 0) (by omega)
  have HW : Hid (∀ j (hj : j < n + 1), ∃ (C : Option Addr) (d : Nat) (s : Bool) (l : List Nat), (w.cell? ⟨b, o + j * 2, none⟩ = some (.bool s) ∧ w.cell? ⟨b, o + j * 2 + 1, none⟩ = some (.slice C l.length d)) ∧ U64s w Z C d l ∧ Nm (zs[j]'(by omega)) s l) := fun j hj => by
    obtain ⟨b', o', C, d, s, l, e, _, hc, u, hn⟩ := ha.num (j := j) (by omega)
    injection e with e
    injection e with e1 e2
    subst e1 e2
    exact ⟨C, d, s, l, hc, u, hn⟩
  have HX : Hid (∀ j (hj : j < n), ∃ (b2 o2 : Nat) (C : Option Addr) (d : Nat) (s : Bool) (l : List Nat), B = some ⟨b2, o2, none⟩ ∧ b2 < w.heap.size ∧ (w.cell? ⟨b2, o2 + j * 2, none⟩ = some (.bool s) ∧ w.cell? ⟨b2, o2 + j * 2 + 1, none⟩ = some (.slice C l.length d)) ∧ U64s w Y C d l ∧ Nm (xs[j]'(by omega)) s l) := fun j hj => by
    obtain ⟨b', o', C, d, s, l, e, h2, hc, u, hn⟩ := hb.num (j := j) (by omega)
    exact ⟨b', o', C, d, s, l, e, h2, hc, u, hn⟩
  have HL1 : Hid (∀ k (h : k < n + 1) s l, Nm (zs[k]'(by omega)) s l → l.length ≤ 64) := fun k h s l hn => hL1 k (by omega) s l hn
  have HL2 : Hid (∀ k (h : k < n) s l, Nm (xs[k]'(by omega)) s l → l.length ≤ 64) := fun k h s l hn => hL2 k (by omega) s l hn
  have HM : Hid (∀ k (h : k < n), (zs[k + 1]'(by omega)) * (xs[k]'(by omega)) = M k) := fun k h => hM k (by omega) (by omega)
  have HSs := Lib.hid hSs
  have HLS := Lib.hid hLS
  have HLM := Lib.hid hLM
  have Hr := Lib.hid hr
  have N0 : Hid (Nm (S 0) s0 l0) := by rw [hS0 (by omega)]; exact n0
  have Hb0 := Lib.hid hB0
  rw [Nat.zero_mul, Nat.add_zero] at c0
  have c0b := c2_keep c0 hB0
  clear hL1 hL2 hM hS0 hSs hLS hLM hr n0 ha hb c0
  go_enter Tryz.func39, Tryz.ntmps39
  obtain ⟨i0, i1⟩ := c0b
  go_wp2
  have hax : Below (w.alloc (.cells #[.bool false, .slice none 0 0] 25)).heap.size (w.alloc (.cells #[.bool false, .slice none 0 0] 25)) ((w.alloc (.cells #[.bool false, .slice none 0 0] 25)).alloc (.cells #[.bool s0, .slice B0 l0.length d0] 25)) := (Below.refl _ _).alloc (Nat.le_refl _) _
  have B7 := Lib.hid (Box.new (w.alloc (.cells #[.bool false, .slice none 0 0] 25)) (.bool s0) (.slice B0 l0.length d0) 25)
  have BR := Lib.hid (HR.out.below hax)
  have HB := Lib.hid (from_ Hb0.out hax)
  have U7 := Lib.hid ((u0.toF (g := w.heap.size + 1) (h := w.heap.size) (Nat.le_succ _) (Nat.le_refl _)).below HB.out)
  rw [World.size_alloc] at B7
  obtain ⟨g7, hg7⟩ : ∃ g7, g7 = w.heap.size + 1 := ⟨_, rfl⟩
  rw [← hg7] at B7 U7
  try simp only [← hg7]
  have HG := Lib.hid hg7
  clear hax u0 i0 i1 HR Hb0 hB0 hg7
  go_loopw [8] (fun i wr => ∃ (k : Nat) (s : Bool) (l : List Nat) (A7 : Option Addr) (c7 : Nat), k ≤ n ∧ i = .int .i64 (k : Int) ∧ Hid (Nm (S k) s l) ∧ Hid (Box wr g7 (.bool s) (.slice A7 l.length c7)) ∧ Hid (U64s wr (zOff g7 w.heap.size) A7 c7 l) ∧ Hid (Box wr w.heap.size (.bool false) (.slice none 0 0)) ∧ Below w.heap.size w wr) (fun i _ => n - (intOf i).toNat)
  case atStart => exact ⟨0, s0, l0, _, _, Nat.zero_le _, rfl, N0, B7, U7, BR, HB.out⟩
  case round =>
    clear N0 B7 U7 BR HB
    obtain ⟨k, s, l, A7, c7, hk, rfl, hnm, hb7, hu7, hbR, hbel⟩ := hrel
    by_cases hlt : k < n
    · obtain ⟨b2, o2, C2, d2, s2, l2, rfl, hb2, c2, u2, n2⟩ := HX.out k hlt
      obtain ⟨C1, d1, s1, l1, c1, u1, n1⟩ := HW.out (k + 1) (by omega)
      have hw1 : IntKind.i64.wrap ((k : Int) + 1) = (k : Int) + 1 := by rw [IntKind.wrap_i64]; omega
      have hmL : k + 1 < n + 1 := by omega
      have hi0 : (0 : Int) ≤ (k : Int) + 1 := by omega
      have hi2 : (k : Int) + 1 < (n : Int) + 1 := by omega
      have hi3 : (k : Int) < (n : Int) := by omega
      have hlen1 : l1.length ≤ 64 := HL1.out (k + 1) (by omega) _ _ n1
      have hlen2 : l2.length ≤ 64 := HL2.out k hlt _ _ n2
      obtain ⟨s3, l3, n3⟩ : ∃ s l, Nm (M k) s l := ⟨_, _, rfl, rfl⟩
      obtain ⟨s4, l4, n4⟩ : ∃ s l, Nm (S (k + 1)) s l := ⟨_, _, rfl, rfl⟩
      have MU := Lib.hid (fun (W : World) (h : Below w.heap.size w W) => wmul_n n1 n2 n3 (HM.out k hlt) (by omega) (by omega) (u1.below h) (u2.below h))
      have hlenS : l.length ≤ 1000 := HLS.out k (by omega) _ _ hnm.out
      have hlenM : l3.length ≤ 1000 := HLM.out k hlt _ _ n3
      have AD := Lib.hid (fun (W : World) (Z Y : Zone) (D E : Option Addr) (d e : Nat) (h1 : U64s W Z D d l) (h2 : U64s W Y E e l3) => wadd_n hnm.out n3 n4 (HSs.out k hlt) (by omega) (by omega) h1 h2)
      have N4 := Lib.hid n4
      have y1 := c2_keep c1 hbel
      have y2 := c2_keep c2 hbel
      have hs0 := And.intro y1 y2
      have hs := c4_keep hs0 (Below.refl _ _).drew
      have Hc0 := Lib.hid (Below.refl wr.heap.size wr)
      have Hc := Lib.hid (Below.refl wr.heap.size wr).drew
      have hg7 := hb7.out.lt
      have hgR := hbR.out.lt
      have hwr := hbel.size
      clear c1 c2 y1 y2 n1 n2 n3 n4 u1 u2 hnm hlen1 hlen2 hlenS hlenM
      go_wp2_with fail
      first | go_region_held3 (fun w' => (w'.cell? ⟨b, o + (k + 1) * 2, none⟩ = some (.bool s1) ∧ w'.cell? ⟨b, o + (k + 1) * 2 + 1, none⟩ = some (.slice C1 l1.length d1)) ∧ w'.cell? ⟨b2, o2 + k * 2, none⟩ = some (.bool s2) ∧ w'.cell? ⟨b2, o2 + k * 2 + 1, none⟩ = some (.slice C2 l2.length d2))
        ((repeat' (first | with_reducible apply c4_al rfl | with_reducible apply c4_st2 rfl)) <;> (first | with_reducible exact hs | (with_reducible apply c4_dr rfl; (repeat' (with_reducible apply c4_al rfl)); with_reducible exact hs0) | omega))
        (first
          | (go_at_call 14; (first | (with_reducible refine (MU.out _ (from_ hbel Hc.out)).mono ?_) | (with_reducible refine (MU.out _ (from_ hbel (from_ (from_ Hc0.out ((Below.refl _ _).alloc (Nat.le_refl _) _)) (Below.refl _ _).drew))).mono ?_)); rintro e w2 ⟨D4, d4, rfl, o4, hc2⟩; (first | (with_reducible have hx := c4_keep hs hc2; have hb := Lib.hid (from_ Hc.out hc2)) | (with_reducible have hx := c4_keep (c4_keep (c4_keep hs0 ((Below.refl _ _).alloc (Nat.le_refl _) _)) (Below.refl _ _).drew) hc2; have hb := Lib.hid (from_ (from_ (from_ Hc0.out ((Below.refl _ _).alloc (Nat.le_refl _) _)) (Below.refl _ _).drew) hc2); have HF1 := Lib.hid (((Box.new _ (.bool false) (.slice none 0 0) 25).below (Below.refl _ _).drew).below hc2))); replace hs := hx; replace Hc := hb; clear hx hb hc2; (try have ne3 := Nat.ne_of_lt HF1.out.lt); (try have ne4 := Ne.symm ne3); (try obtain ⟨x0, x1, x2, x3, _⟩ := id HF1.out); have lz := Hc.out.size)) | fail
      all_goals
        have hdsz : wr.drew.heap.size = wr.heap.size := by simp
        clear hs hs0
        first
        | (have h6 := Cut6.ol (V := wr) (g5 := g7) (s := s3) Hc.out HF1.out o4 (by first | omega | (simp; done) | (simp; omega)) (by omega) (by first | omega | (simp; omega))
           generalize hV5 : (w2.setCell ⟨wr.heap.size, 0, none⟩ (.bool s3)).setCell ⟨wr.heap.size, 1, none⟩ (.slice D4 l3.length d4) = W5 at *
           obtain ⟨gP, hgP⟩ : ∃ gP, gP = wr.heap.size := ⟨_, rfl⟩
           rw [← hgP] at h6)
        | (have h6 := Cut6.nw (V := wr) (g5 := g7) (s := s3) (t := 25) Hc.out o4 (by first | omega | (simp; omega))
           generalize hV5 : w2.alloc (.cells #[.bool s3, .slice D4 l3.length d4] 25) = W5 at *
           obtain ⟨gP, hgP⟩ : ∃ gP, gP = w2.heap.size := ⟨_, rfl⟩
           rw [← hgP] at h6)
        have hb6 := h6.bel
        have B7 := Lib.hid (hb7.out.below hb6)
        have BRR := Lib.hid (hbR.out.below hb6)
        have U7 := Lib.hid (hu7.out.below hb6)
        have HB5 := Lib.hid (from_ hbel hb6)
        have UP := Lib.hid h6.u
        have e0 := h6.c0
        have e1 := h6.c1
        have hz5 := hb6.size
        obtain ⟨x0', x1', _, _, _⟩ := id B7.out
        clear h6 hb6 Hc Hc0 o4
        try simp only [hV5]
        try simp only [← hgP]
        clear hV5 hgP
        go_wp2_with fail
        refine (AD.out _ _ _ _ _ _ _ U7.out UP.out).mono ?_
        rintro e w6 ⟨D6, d6, rfl, o6, hc⟩
        have hax : Below w6.heap.size w6 (w6.alloc (.cells #[.bool s4, .slice D6 l4.length d6] 25)) := (Below.refl _ _).alloc (Nat.le_refl _) _
        have hgg := HG.out
        have B7b := (B7.out.below hc).below hax
        have B7c := Lib.hid (Box.set2 B7b (.bool s4) (.slice D6 l4.length d6))
        have BRc := Lib.hid (((BRR.out.below hc).below hax).other (h := g7) (show g7 ≠ w.heap.size by omega) (x := .bool s4) (y := .slice D6 l4.length d6))
        have HBc := Lib.hid (((from_ (from_ HB5.out hc) hax).setCell (p := ⟨g7, 0, none⟩) (show w.heap.size ≤ g7 by omega) (.bool s4)).setCell (p := ⟨g7, 1, none⟩) (show w.heap.size ≤ g7 by omega) (.slice D6 l4.length d6))
        have Uc := Lib.hid ((((o6.mono (new_zOff (g := g7) (h := w.heap.size) (by omega) (by omega))).below hax).set1 g7 0 (fun h => h.2.1 rfl) (.bool s4)).set1 g7 1 (fun h => h.2.1 rfl) (.slice D6 l4.length d6))
        obtain ⟨m0, m1, _, _, _⟩ := Box.new w6 (.bool s4) (.slice D6 l4.length d6) 25
        clear x0' x1' e0 e1
        obtain ⟨x0', x1', x2', x3', _⟩ := B7b
        clear hc hax o6 hgg
        go_wp2
        go_roundw
        case rel => exact ⟨k + 1, s4, l4, _, _, by omega, by go_num, N4, B7c, Uc, BRc, HBc.out⟩
        case measure => simp [intOf]; omega
    · obtain rfl : k = n := by omega
      obtain ⟨rfl, rfl⟩ : rs = s ∧ rl = l := ⟨Hr.out.1.trans hnm.out.1.symm, Hr.out.2.trans hnm.out.2.symm⟩
      have hP := hbR.out.put (w := w) hbel (Nat.le_refl _) (.bool rs) (.slice A7 rl.length c7)
      have HP := Lib.hid hP
      have HU := Lib.hid (((hu7.out.set1 w.heap.size 0 (fun h => h.2.2 rfl) (.bool rs)).set1 w.heap.size 1 (fun h => h.2.2 rfl) (.slice A7 rl.length c7)).mono (zOff_old _ _))
      obtain ⟨x0, x1, _, _, _⟩ := id hb7.out
      obtain ⟨y0, y1, y2, y3, _⟩ := id hbR.out
      clear hP
      go_wp2
      refine bodyPost_ret (res_int rfl _ w.heap.size rfl HP.out.c0 HP.out.c1) rfl ?_
      exact ⟨_, _, rfl, HU.out, HP.out.bel⟩

end Go.Proofs.YtamenhffplhddaaGreat

namespace Go.Proofs.YtamenhffplhddaaGreat
open Go.RowKit
set_option linter.unusedVariables false
set_option linter.unusedSimpArgs false

/-- Not in the row's own block. -/
def notOwn (v : Value) : Zone := ⟨fun b => v.ownBlock ≠ some b, False⟩
/-- In blocks below B. -/
def eld (B : Nat) : Zone := ⟨fun b => b < B, False⟩
theorem U64s.eld {w : World} {Z : Zone} {A : Option Addr} {c : Nat} {l : List Nat} (u : U64s w Z A c l) : U64s w (eld w.heap.size) A c l := by
  refine ⟨u.small, u.cap, u.max, u.nul, fun h0 => ?_⟩
  obtain ⟨b, o, e, hb, hl, hf, hc⟩ := u.open (by simpa using h0)
  refine ⟨b, o, e, hl, fun h => h.elim, fun j v hv => ?_⟩
  have hj : j < l.length := by have := (List.getElem?_eq_some_iff.1 hv).1; simpa using this
  rw [hc j hj]
  rw [← hv]
  simp [hj]
theorem IvsAt.eld {w : World} {Z : Zone} {A : Option Addr} {c : Nat} {ps : List Iv} (h : IvsAt w Z A c ps) : IvsAt w (eld w.heap.size) A c ps := by
  refine ⟨h.cap, h.max, fun h0 => ?_⟩
  obtain ⟨b, o, e, h2, h4⟩ := h.row h0
  refine ⟨b, o, e, h2, fun j hj => ?_⟩
  obtain ⟨A0, d0, A1, d1, hc, u0, u1⟩ := h4 j hj
  exact ⟨A0, d0, A1, d1, hc, u0.eld, u1.eld⟩
theorem eld_notOwn {B : Nat} {v : Value} (h : ∀ k, v.ownBlock = some k → B ≤ k) : (eld B).le (notOwn v) := ⟨fun b hb e => by have h1 := h b e; have h2 : b < B := hb; omega, fun h => h⟩
theorem new_notOwn {B : Nat} {v : Value} (h : ∀ k, v.ownBlock = some k → k < B) : (new B).le (notOwn v) := ⟨fun b hb e => by have h1 := h b e; have h2 : B ≤ b := hb; omega, fun h => h.elim⟩
theorem U64s.growO {w w' : World} {v v' : Value} {A : Option Addr} {c : Nat} {l : List Nat} (h : U64s w (notOwn v) A c l) (hg : w.grownBy w' v.ownBlock) (hf : Fresh w v v') : U64s w' (notOwn v') A c l := by
  have h1 := h.keep (w' := w') fun b hb hl => hg.block b hl (fun e => hb e.symm)
  refine ⟨h1.small, h1.cap, h1.max, h1.nul, fun h0 => ?_⟩
  obtain ⟨b, o, e, hb, hfz, hc⟩ := h1.row h0
  obtain ⟨b2, o2, e2, hb2, _, hc2⟩ := h.row h0
  rw [e] at e2
  injection e2 with e2
  injection e2 with e3 e4
  subst e3 e4
  have hlt := lt_of_cell (hc2 0 _ (List.getElem?_eq_getElem h0))
  refine ⟨b, o, e, fun e5 => ?_, fun h => h.elim, hc⟩
  rcases hf with h3 | h3
  · exact hb (h3.symm.trans e5)
  · have h4 := h3 b e5
    have h5 : b < w.heap.size := hlt
    omega

/-- The row's cells are these numbers. -/
def NumsO (w : World) (v : Value) (xs : List Value) (zs : List Int) : Prop :=
  ∀ j (hj : j < zs.length), ∃ s l A c, xs[j * 2]? = some (.bool s) ∧ xs[j * 2 + 1]? = some (.slice A (l : List Nat).length c) ∧ U64s w (notOwn v) A c l ∧ Nm zs[j] s l
theorem NumsO.nil (w : World) (v : Value) (xs : List Value) : NumsO w v xs [] := fun j hj => absurd hj (by simp)
theorem NumsO.below {w w' : World} {v : Value} {xs : List Value} {zs : List Int} (h : NumsO w v xs zs) (hb : Below w.heap.size w w') : NumsO w' v xs zs := fun j hj => by
  obtain ⟨s, l, A, c, h0, h1, hu, hn⟩ := h j hj
  exact ⟨s, l, A, c, h0, h1, hu.below hb, hn⟩
theorem NumsO.snoc {w w' : World} {v v' : Value} {xs : List Value} {zs : List Int} {z : Int} {s : Bool} {l : List Nat} {A : Option Addr} {c : Nat} (h : NumsO w v xs zs) (hl : xs.length = zs.length * 2) (hg : w.grownBy w' v.ownBlock) (hf : Fresh w v v') (hu : U64s w (notOwn v) A c l) (hn : Nm z s l) :
    NumsO w' v' (xs ++ [.bool s, .slice A l.length c]) (zs ++ [z]) := fun j hj => by
  rw [List.length_append, List.length_singleton] at hj
  by_cases hj2 : j < zs.length
  · obtain ⟨s', l', A', c', h0, h1, hu', hn'⟩ := h j hj2
    refine ⟨s', l', A', c', ?_, ?_, hu'.growO hg hf, ?_⟩
    · rw [List.getElem?_append_left (by omega)]; exact h0
    · rw [List.getElem?_append_left (by omega)]; exact h1
    · rw [List.getElem_append_left hj2]; exact hn'
  · obtain rfl : j = zs.length := by omega
    refine ⟨s, l, A, c, ?_, ?_, hu.growO hg hf, ?_⟩
    · rw [List.getElem?_append_right (by omega), hl, Nat.sub_self]; rfl
    · rw [List.getElem?_append_right (by omega), hl, show zs.length * 2 + 1 - zs.length * 2 = 1 by omega]; rfl
    · rw [List.getElem_append_right (by omega)]; simpa using hn
theorem NumsO.fin {w : World} {B : Nat} {v : Value} {xs : List Value} {zs : List Int} {e : TypeId} (h : NumsO w v xs zs) (hown : w.ownsRow B e 2 v zs.length xs) : IsVec w old v (encI zs) := by
  obtain ⟨A2, c2, e2⟩ := own_shape hown
  have hcase := hown.2
  rcases hcase with ⟨e1, h0⟩ | ⟨g, cap, cur, e1, hB, hh, hcap, hm, _⟩
  · have hq : zs = [] := List.eq_nil_of_length_eq_zero h0
    subst hq
    exact ⟨none, 0, e1, VecAt.nil _ _⟩
  · subst e1
    refine ⟨some ⟨g, 0, none⟩, cap, by rw [encI_len], by rw [encI_len]; exact hcap, by simpa [maxLen] using hm, fun h0 => ⟨g, 0, rfl, trivial, (hown.lt g rfl).2, fun h => h.elim, fun j hj => ?_⟩⟩
    have hj' : j < zs.length := by rw [← encI_len]; exact hj
    obtain ⟨s, l, A, c, c0, c1, hu, hn⟩ := h j hj'
    obtain ⟨rfl, rfl⟩ := hn
    rw [encI_get hj hj']
    exact ⟨A, c, by rw [Nat.zero_add, hown.cellAt (j * 2) (by omega)]; exact c0, by rw [Nat.zero_add, hown.cellAt (j * 2 + 1) (by omega)]; exact c1, hu.mono (le_old _)⟩

end Go.Proofs.YtamenhffplhddaaGreat

namespace Go.Proofs.YtamenhffplhddaaGreat
set_option linter.unusedVariables false
set_option linter.unusedSimpArgs false

/-- Numbers of intervals. -/
def InL (N : Nat) (zs : List Int) (Ps : List IvP) : Prop := zs.length = Ps.length ∧ ∀ j (h : j < zs.length) (h' : j < Ps.length), inI zs[j] Ps[j] ∧ (-wN N < zs[j] ∧ zs[j] < wN N)
theorem InL.nil (N : Nat) : InL N [] [] := ⟨rfl, fun j h => absurd h (by simp)⟩
theorem InL.snoc {N : Nat} {zs : List Int} {Ps : List IvP} {z : Int} {P : IvP} (h : InL N zs Ps) (h1 : inI z P) (h2 : -wN N < z ∧ z < wN N) : InL N (zs ++ [z]) (Ps ++ [P]) := by
  refine ⟨by simp [h.1], fun j hj hj' => ?_⟩
  rw [List.length_append, List.length_singleton] at hj hj'
  by_cases hl : j < zs.length
  · rw [List.getElem_append_left hl, List.getElem_append_left (by rw [← h.1]; exact hl)]
    exact h.2 j hl (by rw [← h.1]; exact hl)
  · have e1 : j = zs.length := by omega
    have e2 : j = Ps.length := by have := h.1; omega
    rw [List.getElem_append_right (by omega), List.getElem_append_right (by omega)]
    simp only [e1, Nat.sub_self, h.1]
    exact ⟨h1, h2⟩
/-- What a form is. -/
def formL (zs xs : List Int) : Int := sumL (zs.headD 0) (zs.tail.zip xs)
theorem form_in {N : Nat} {zs xs : List Int} {Ps Qs : List IvP} (hp : ∀ P ∈ Ps, IvN 8 P.1 P.2) (hq : ∀ Q ∈ Qs, IvN 8 Q.1 Q.2) (hz : InL 8 zs Ps) (hx : InL 8 xs Qs) (hl : Ps.length = Qs.length + 1) (hn : Qs.length ≤ 40) :
    inI (formL zs xs) (valL (hdF Ps) (prF Ps Qs)) ∧ (-wN (16 + Qs.length) < formL zs xs ∧ formL zs xs < wN (16 + Qs.length)) := by
  have h0 : 0 < Ps.length := by omega
  have hz0 : 0 < zs.length := by rw [hz.1]; exact h0
  have e0 : zs.headD 0 = zs[0] := by cases zs with
    | nil => cases hz0
    | cons a t => rfl
  have hpl := prF_len hl
  have hzl := hz.1
  have hxl := hx.1
  have hwl : (zs.tail.zip xs).length = (prF Ps Qs).length := by
    rw [hpl, List.length_zip, List.length_tail]
    omega
  have h1 := hz.2 0 hz0 h0
  have h2 := valK_in (K := 8) (prF Ps Qs) (zs.tail.zip xs) (hdF Ps) 16 (zs.headD 0) hwl (by omega) (by rw [hpl]; omega) (by rw [hdF_get h0]; exact (hp _ (List.getElem_mem _)).up (by omega)) (fun q hm => by
      obtain ⟨j, hj, rfl⟩ := List.getElem_of_mem hm
      have hj2 : j < Qs.length := by rw [← hpl]; exact hj
      have hj1 : j + 1 < Ps.length := by omega
      rw [prF_get hj hj1 hj2]
      exact ⟨hp _ (List.getElem_mem _), hq _ (List.getElem_mem _)⟩) (by rw [e0, hdF_get h0]; exact h1.1) (by rw [e0]; exact bound_up h1.2 (by omega)) (fun j g1 g2 => by
      have hj2 : j < Qs.length := by rw [← hpl]; exact g2
      have hj1 : j + 1 < Ps.length := by omega
      have a1 := hz.2 (j + 1) (by omega) hj1
      have a2 := hx.2 j (by omega) hj2
      have e1 : (zs.tail.zip xs)[j] = (zs[j + 1]'(by omega), xs[j]'(by omega)) := by rw [List.getElem_zip, List.getElem_tail]
      rw [e1, prF_get g2 hj1 hj2]
      exact ⟨⟨a1.1, a2.1⟩, a1.2, a2.2⟩)
  rw [hpl] at h2
  exact h2
theorem sum_shift : ∀ (l : List (Int × Int)) (a c : Int), sumL (a + c) l = sumL a l + c := by
  intro l
  induction l with
  | nil => intro a c; rfl
  | cons p t ih =>
    intro a c
    show sumL (a + c + p.1 * p.2) t = sumL (a + p.1 * p.2) t + c
    rw [show a + c + p.1 * p.2 = a + p.1 * p.2 + c by omega, ih]
theorem sum_less : ∀ (us ms xs : List Int) (a : Int), us.length = xs.length → ms.length = xs.length → sumL a (us.zip xs) - dotZ ms xs = sumL a ((List.zipWith (fun u m => u - m) us ms).zip xs) := by
  intro us
  induction us with
  | nil =>
    intro ms xs a h1 h2
    have : xs = [] := List.eq_nil_of_length_eq_zero (by simpa using h1.symm)
    subst this
    have : ms = [] := List.eq_nil_of_length_eq_zero (by simpa using h2)
    subst this
    show a - (0 : Int) = a
    omega
  | cons u us ih =>
    intro ms xs a h1 h2
    cases xs with
    | nil => simp at h1
    | cons x xs =>
      cases ms with
      | nil => simp at h2
      | cons m ms =>
        have h := ih ms xs a (by simpa using h1) (by simpa using h2)
        have e1 : dotZ (m :: ms) (x :: xs) = m * x + dotZ ms xs := by unfold dotZ; simp
        rw [e1]
        show sumL (a + u * x) (us.zip xs) - (m * x + dotZ ms xs) = sumL (a + (u - m) * x) ((List.zipWith (fun u m => u - m) us ms).zip xs)
        rw [sum_shift, sum_shift, ← h, Int.sub_mul]
        omega
theorem form_rest {N : Nat} {zs xs : List Int} {Ps Qs : List IvP} (hp : ∀ P ∈ Ps, IvN 8 P.1 P.2) (hq : ∀ Q ∈ Qs, IvN 8 Q.1 Q.2) (hz : InL 8 zs Ps) (hx : InL 8 xs Qs) (hl : Ps.length = Qs.length + 1) (hn : Qs.length ≤ 35) :
    inI (formL zs xs - dotZ (rowL Ps) (1 :: xs)) (valL (hdF Ps) (prS Ps Qs)) ∧ (-wN (24 + Qs.length) < formL zs xs - dotZ (rowL Ps) (1 :: xs) ∧ formL zs xs - dotZ (rowL Ps) (1 :: xs) < wN (24 + Qs.length)) := by
  have h0 : 0 < Ps.length := by omega
  have hz0 : 0 < zs.length := by rw [hz.1]; exact h0
  have e0 : zs.headD 0 = zs[0] := by cases zs with
    | nil => cases hz0
    | cons a t => rfl
  have hpl := prS_len hl
  have hzl := hz.1
  have hxl := hx.1
  have ed : dotZ (rowL Ps) (1 :: xs) = dotZ (Ps.tail.map midI) xs := by
    unfold dotZ rowL
    simp
  have hms : (Ps.tail.map midI).length = xs.length := by rw [List.length_map, List.length_tail]; omega
  have hus : zs.tail.length = xs.length := by rw [List.length_tail]; omega
  have es := sum_less zs.tail (Ps.tail.map midI) xs (zs.headD 0) hus hms
  rw [ed]
  unfold formL
  rw [es]
  have hwl : ((List.zipWith (fun u m => u - m) zs.tail (Ps.tail.map midI)).zip xs).length = (prS Ps Qs).length := by
    rw [hpl, List.length_zip, List.length_zipWith, List.length_tail, List.length_map, List.length_tail]
    omega
  have h1 := hz.2 0 hz0 h0
  have h2 := valK_in (K := 12) (prS Ps Qs) ((List.zipWith (fun u m => u - m) zs.tail (Ps.tail.map midI)).zip xs) (hdF Ps) 24 (zs.headD 0) hwl (by omega) (by rw [hpl]; omega) (by rw [hdF_get h0]; exact (hp _ (List.getElem_mem _)).up (by omega)) (fun q hm => by
      obtain ⟨j, hj, rfl⟩ := List.getElem_of_mem hm
      have hj2 : j < Qs.length := by rw [← hpl]; exact hj
      have hj1 : j + 1 < Ps.length := by omega
      rw [prS_get hj hj1 hj2]
      exact ⟨lessI_ok (hp _ (List.getElem_mem _)), (hq _ (List.getElem_mem _)).up (by omega)⟩) (by rw [e0, hdF_get h0]; exact h1.1) (by rw [e0]; exact bound_up h1.2 (by omega)) (fun j g1 g2 => by
      have hj2 : j < Qs.length := by rw [← hpl]; exact g2
      have hj1 : j + 1 < Ps.length := by omega
      have a1 := hz.2 (j + 1) (by omega) hj1
      have a2 := hx.2 j (by omega) hj2
      have e1 : ((List.zipWith (fun u m => u - m) zs.tail (Ps.tail.map midI)).zip xs)[j] = (zs[j + 1]'(by omega) - midI (Ps[j + 1]'hj1), xs[j]'(by omega)) := by
        rw [List.getElem_zip, List.getElem_zipWith, List.getElem_tail, List.getElem_map, List.getElem_tail]
      rw [e1, prS_get g2 hj1 hj2]
      have h3 := lessI_in (hp _ (List.getElem_mem hj1)) a1.1 a1.2
      exact ⟨⟨h3.1, a2.1⟩, h3.2, bound_up a2.2 (by omega)⟩)
  rw [hpl] at h2
  exact h2

end Go.Proofs.YtamenhffplhddaaGreat

namespace Go.Proofs.YtamenhffplhddaaGreat
open Go.RowKit
set_option linter.unusedVariables false
set_option linter.unusedSimpArgs false

theorem bytes_at {w : World} {bs : List Nat} {t : TypeId} {j : Nat} (h : j < bs.length) : (w.alloc (.cells (bs.map fun b : Nat => Value.int .u8 (b : Int)).toArray t)).cell? ⟨w.heap.size, j, none⟩ = some (.int .u8 ((bs[j] : Nat) : Int)) :=
  cell_newest (by simp [h]) (by simp [h])
theorem s7_keep {W V : World} {b o h j : Nat} {a0 a1 a2 a3 a4 a5 x : Value} (hs : (W.cell? ⟨b, o, none⟩ = some a0 ∧ W.cell? ⟨b, o + 1, none⟩ = some a1 ∧ W.cell? ⟨b, o + 2, none⟩ = some a2 ∧ W.cell? ⟨b, o + 3, none⟩ = some a3 ∧ W.cell? ⟨b, o + 4, none⟩ = some a4 ∧ W.cell? ⟨b, o + 5, none⟩ = some a5) ∧ W.cell? ⟨h, j, none⟩ = some x) (hb : Below W.heap.size W V) : (V.cell? ⟨b, o, none⟩ = some a0 ∧ V.cell? ⟨b, o + 1, none⟩ = some a1 ∧ V.cell? ⟨b, o + 2, none⟩ = some a2 ∧ V.cell? ⟨b, o + 3, none⟩ = some a3 ∧ V.cell? ⟨b, o + 4, none⟩ = some a4 ∧ V.cell? ⟨b, o + 5, none⟩ = some a5) ∧ V.cell? ⟨h, j, none⟩ = some x := ⟨six_keep hs.1 hb, keepC hb hs.2⟩
theorem s7_al {W V : World} {b o h j : Nat} {a0 a1 a2 a3 a4 a5 x : Value} {p : Obj} (e : V = W.alloc p) (hs : (W.cell? ⟨b, o, none⟩ = some a0 ∧ W.cell? ⟨b, o + 1, none⟩ = some a1 ∧ W.cell? ⟨b, o + 2, none⟩ = some a2 ∧ W.cell? ⟨b, o + 3, none⟩ = some a3 ∧ W.cell? ⟨b, o + 4, none⟩ = some a4 ∧ W.cell? ⟨b, o + 5, none⟩ = some a5) ∧ W.cell? ⟨h, j, none⟩ = some x) : (V.cell? ⟨b, o, none⟩ = some a0 ∧ V.cell? ⟨b, o + 1, none⟩ = some a1 ∧ V.cell? ⟨b, o + 2, none⟩ = some a2 ∧ V.cell? ⟨b, o + 3, none⟩ = some a3 ∧ V.cell? ⟨b, o + 4, none⟩ = some a4 ∧ V.cell? ⟨b, o + 5, none⟩ = some a5) ∧ V.cell? ⟨h, j, none⟩ = some x := by
  subst e
  exact s7_keep hs ((Below.refl _ _).alloc (Nat.le_refl _) _)
theorem s7_dr {W V : World} {b o h j : Nat} {a0 a1 a2 a3 a4 a5 x : Value} (e : V = W.drew) (hs : (W.cell? ⟨b, o, none⟩ = some a0 ∧ W.cell? ⟨b, o + 1, none⟩ = some a1 ∧ W.cell? ⟨b, o + 2, none⟩ = some a2 ∧ W.cell? ⟨b, o + 3, none⟩ = some a3 ∧ W.cell? ⟨b, o + 4, none⟩ = some a4 ∧ W.cell? ⟨b, o + 5, none⟩ = some a5) ∧ W.cell? ⟨h, j, none⟩ = some x) : (V.cell? ⟨b, o, none⟩ = some a0 ∧ V.cell? ⟨b, o + 1, none⟩ = some a1 ∧ V.cell? ⟨b, o + 2, none⟩ = some a2 ∧ V.cell? ⟨b, o + 3, none⟩ = some a3 ∧ V.cell? ⟨b, o + 4, none⟩ = some a4 ∧ V.cell? ⟨b, o + 5, none⟩ = some a5) ∧ V.cell? ⟨h, j, none⟩ = some x := by
  subst e
  exact s7_keep hs (Below.refl _ _).drew
theorem pick_two {W : World} {u1 u2 : Value} {t : TypeId} : ∀ j u, [u1, u2][j]? = some u → (W.alloc (.cells #[u1, u2] t)).cell? ⟨W.heap.size, j, none⟩ = some u := two_news
theorem take_snoc {α : Type} {l : List α} {k : Nat} (h : k < l.length) : l.take (k + 1) = l.take k ++ [l[k]] := List.take_succ_eq_append_getElem h

end Go.Proofs.YtamenhffplhddaaGreat

namespace Go.Proofs.YtamenhffplhddaaGreat
open Go.RowKit
set_option linter.unusedVariables false
set_option linter.unusedSimpArgs false

theorem nm_len {N : Nat} {z : Int} {s : Bool} {l : List Nat} (h : -wN N < z ∧ z < wN N) (n : Nm z s l) : l.length ≤ N := by
  obtain ⟨_, rfl⟩ := n
  refine len_limbs_le ?_
  rw [wN_cast] at h
  have h4 : (z.natAbs : Int) < ((18446744073709551616 ^ N : Nat) : Int) := by omega
  exact Int.ofNat_lt.1 h4
theorem sum_bound {K : Nat} : ∀ (ws : List (Int × Int)) (a : Int) (N : Nat), K + K ≤ N → (-wN N < a ∧ a < wN N) → (∀ p ∈ ws, (-wN K < p.1 ∧ p.1 < wN K) ∧ (-wN K < p.2 ∧ p.2 < wN K)) → (-wN (N + ws.length) < sumL a ws ∧ sumL a ws < wN (N + ws.length)) := by
  intro ws
  induction ws with
  | nil => intro a N _ h _; exact h
  | cons p t ih =>
    intro a N hN h hp
    have h0 := hp p (by simp)
    have h1 := bound_up (bound_mul h0.1 h0.2) hN
    have h2 := ih (a + p.1 * p.2) (N + 1) (by omega) (bound_add h h1) fun q hq => hp q (by simp [hq])
    rw [List.length_cons, show N + (t.length + 1) = N + 1 + t.length by omega]
    exact h2
theorem VecAt.tail {w : World} {Z : Zone} {b o c : Nat} {p : Bool × List Nat} {ps : List (Bool × List Nat)} (h : VecAt w Z (some ⟨b, o, none⟩) c (p :: ps)) : VecAt w Z (some ⟨b, o + 2, none⟩) (c - 1) ps := by
  have hc := h.cap
  have hm := h.max
  rw [List.length_cons] at hc
  refine ⟨by omega, by omega, fun h0 => ?_⟩
  obtain ⟨b2, o2, e, h1, h2, h3, h4⟩ := h.row (by simp)
  injection e with e
  injection e with e1 e2
  subst e1 e2
  refine ⟨b, o + 2, rfl, h1, h2, fun hs j => by rw [show o + 2 + j = o + (2 + j) by omega]; exact h3 hs (2 + j), fun j hj => ?_⟩
  obtain ⟨B, d, c0, c1, hu⟩ := h4 (j + 1) (by rw [List.length_cons]; omega)
  rw [List.getElem_cons_succ] at c0 c1 hu
  rw [show o + (j + 1) * 2 = o + 2 + j * 2 by omega] at c0 c1
  exact ⟨B, d, c0, c1, hu⟩

set_option maxRecDepth 100000 in
theorem lis_w {w : World} {Z Y : Zone} {F : Value} {A B : Option Addr} {c d n : Nat} {zs xs : List Int} {rs : Bool} {rl : List Nat} (ha : VecAt w Z A c (encI zs)) (hb : VecAt w Y B d (encI xs)) (hz : zs.length = n + 1) (hx : xs.length = n) (hn : n ≤ 20) (bz : ∀ z ∈ zs, -wN 8 < z ∧ z < wN 8) (bx : ∀ x ∈ xs, -wN 8 < x ∧ x < wN 8) (hr : Nm (formL zs xs) rs rl) :
    Calls Tryz.prog 39 #[F, .slice A (n + 1) c, .slice B n d] w fun e w' => ∃ A' c', e = .returned (.agg #[.bool rs, .slice A' rl.length c']) ∧ U64s w' old A' c' rl ∧ Below w.heap.size w w' := by
  have hpos : 0 < zs.length := by omega
  have e0 : zs.headD 0 = zs[0] := by cases zs with
    | nil => cases hpos
    | cons a t => rfl
  have hwl : (zs.tail.zip xs).length = n := by rw [List.length_zip, List.length_tail]; omega
  have hall : ∀ p ∈ zs.tail.zip xs, (-wN 8 < p.1 ∧ p.1 < wN 8) ∧ (-wN 8 < p.2 ∧ p.2 < wN 8) := fun p hp => by
    have h1 := List.of_mem_zip hp
    exact ⟨bz _ (List.mem_of_mem_tail h1.1), bx _ h1.2⟩
  have hSb : ∀ k, k ≤ n → -wN 36 < sumL (zs.headD 0) ((zs.tail.zip xs).take k) ∧ sumL (zs.headD 0) ((zs.tail.zip xs).take k) < wN 36 := fun k hk => by
    have h1 := sum_bound (K := 8) ((zs.tail.zip xs).take k) (zs.headD 0) 16 (by omega) (by rw [e0]; exact bound_up (bz _ (List.getElem_mem _)) (by omega)) fun p hp => hall p (List.mem_of_mem_take hp)
    exact bound_up h1 (by rw [List.length_take]; omega)
  have hMb : ∀ k, k < n → -wN 16 < (zs.getD (k + 1) 0) * (xs.getD k 0) ∧ (zs.getD (k + 1) 0) * (xs.getD k 0) < wN 16 := fun k hk => by
    have e1 : zs.getD (k + 1) 0 = zs[k + 1]'(by omega) := by simp [List.getD, List.getElem?_eq_getElem (show k + 1 < zs.length by omega)]
    have e2 : xs.getD k 0 = xs[k]'(by omega) := by simp [List.getD, List.getElem?_eq_getElem (show k < xs.length by omega)]
    rw [e1, e2]
    exact bound_mul (N := 8) (M := 8) (bz _ (List.getElem_mem _)) (bx _ (List.getElem_mem _))
  refine lis_run (M := fun k => (zs.getD (k + 1) 0) * (xs.getD k 0)) (S := fun k => sumL (zs.headD 0) ((zs.tail.zip xs).take k)) ha hb hz hx (by omega) (fun k h s l hn => Nat.le_trans (nm_len (bz _ (List.getElem_mem _)) hn) (by omega)) (fun k h s l hn => Nat.le_trans (nm_len (bx _ (List.getElem_mem _)) hn) (by omega)) (fun k h h2 => ?_) (fun h => ?_) (fun k hk => ?_) (fun k hk s l hn => Nat.le_trans (nm_len (hSb k hk) hn) (by omega)) (fun k hk s l hn => Nat.le_trans (nm_len (hMb k hk) hn) (by omega)) ?_
  · simp [List.getD, List.getElem?_eq_getElem h, List.getElem?_eq_getElem h2]
  · show sumL (zs.headD 0) ((zs.tail.zip xs).take 0) = zs[0]
    rw [List.take_zero, ← e0]
    rfl
  · have hk2 : k < (zs.tail.zip xs).length := by omega
    show sumL (zs.headD 0) ((zs.tail.zip xs).take k) + (zs.getD (k + 1) 0) * (xs.getD k 0) = sumL (zs.headD 0) ((zs.tail.zip xs).take (k + 1))
    rw [List.take_succ_eq_append_getElem hk2, List.getElem_zip, List.getElem_tail]
    unfold sumL
    rw [List.foldl_append]
    simp [List.getD, List.getElem?_eq_getElem (show k + 1 < zs.length by omega), List.getElem?_eq_getElem (show k < xs.length by omega)]
  · show Nm (sumL (zs.headD 0) ((zs.tail.zip xs).take n)) rs rl
    rw [List.take_of_length_le (by omega)]
    exact hr

theorem InL.up {N M : Nat} {zs : List Int} {Ps : List IvP} (h : InL N zs Ps) (hN : N ≤ M) : InL M zs Ps := ⟨h.1, fun j h1 h2 => ⟨(h.2 j h1 h2).1, bound_up (h.2 j h1 h2).2 hN⟩⟩
theorem InL.all {N : Nat} {zs : List Int} {Ps : List IvP} (h : InL N zs Ps) : ∀ z ∈ zs, -wN N < z ∧ z < wN N := fun z hz => by
  obtain ⟨j, hj, rfl⟩ := List.getElem_of_mem hz
  exact (h.2 j hj (by rw [← h.1]; exact hj)).2
theorem val_okF {Ps Qs : List IvP} (hp : ∀ P ∈ Ps, IvN 8 P.1 P.2) (hq : ∀ Q ∈ Qs, IvN 8 Q.1 Q.2) (hl : Ps.length = Qs.length + 1) (hn : Qs.length ≤ 20) : IvN 36 (valL (hdF Ps) (prF Ps Qs)).1 (valL (hdF Ps) (prF Ps Qs)).2 := by
  have h0 : 0 < Ps.length := by omega
  have hpl := prF_len hl
  have h := valK_ok (K := 8) (prF Ps Qs) (hdF Ps) 16 (by omega) (by omega) (by rw [hdF_get h0]; exact (hp _ (List.getElem_mem _)).up (by omega)) (fun q hm => by
    obtain ⟨j, hj, rfl⟩ := List.getElem_of_mem hm
    have hj2 : j < Qs.length := by rw [← hpl]; exact hj
    have hj1 : j + 1 < Ps.length := by omega
    rw [prF_get hj hj1 hj2]
    exact ⟨hp _ (List.getElem_mem _), hq _ (List.getElem_mem _)⟩)
  exact h.up (by omega)
theorem val_okS {Ps Qs : List IvP} (hp : ∀ P ∈ Ps, IvN 8 P.1 P.2) (hq : ∀ Q ∈ Qs, IvN 8 Q.1 Q.2) (hl : Ps.length = Qs.length + 1) (hn : Qs.length ≤ 20) : IvN 44 (valL (hdF Ps) (prS Ps Qs)).1 (valL (hdF Ps) (prS Ps Qs)).2 := by
  have h0 : 0 < Ps.length := by omega
  have hpl := prS_len hl
  have h := valK_ok (K := 12) (prS Ps Qs) (hdF Ps) 24 (by omega) (by omega) (by rw [hdF_get h0]; exact (hp _ (List.getElem_mem _)).up (by omega)) (fun q hm => by
    obtain ⟨j, hj, rfl⟩ := List.getElem_of_mem hm
    have hj2 : j < Qs.length := by rw [← hpl]; exact hj
    have hj1 : j + 1 < Ps.length := by omega
    rw [prS_get hj hj1 hj2]
    exact ⟨lessI_ok (hp _ (List.getElem_mem _)), (hq _ (List.getElem_mem _)).up (by omega)⟩)
  exact h.up (by omega)
theorem FmW.p8 {N : Nat} {Ps : List IvP} {ps : List Iv} (h : FmW N Ps ps) (hN : N ≤ 8) : ∀ P ∈ Ps, IvN 8 P.1 P.2 := fun P hP => by
  obtain ⟨j, hj, rfl⟩ := List.getElem_of_mem hP
  exact (h.iv j (by rw [h.len]; exact hj) hj).2.up hN
theorem row_len {Ps : List IvP} (hp : ∀ P ∈ Ps, IvN 8 P.1 P.2) : ∀ p ∈ encI (rowL Ps), p.2.length ≤ 9 := fun p hm => by
  obtain ⟨j, hj, rfl⟩ := List.getElem_of_mem hm
  have hj2 : j < (rowL Ps).length := by rw [← encI_len]; exact hj
  rw [encI_get hj hj2]
  have hb : -wN 9 < (rowL Ps)[j] ∧ (rowL Ps)[j] < wN 9 := by
    have h1 := List.getElem_mem hj2
    unfold rowL at h1 ⊢
    rw [List.mem_cons] at h1
    rcases h1 with h1 | h1
    · rw [h1]; have := wN_pos 9; omega
    · obtain ⟨P, hP, e⟩ := List.mem_map.1 h1
      rw [← e]
      exact (midI_ok (hp P (List.mem_of_mem_tail hP))).2.2
  exact nm_len hb ⟨rfl, rfl⟩
theorem enc_len {N : Nat} {zs : List Int} (h : ∀ z ∈ zs, -wN N < z ∧ z < wN N) : ∀ p ∈ encI zs, p.2.length ≤ N := fun p hm => by
  obtain ⟨j, hj, rfl⟩ := List.getElem_of_mem hm
  have hj2 : j < zs.length := by rw [← encI_len]; exact hj
  rw [encI_get hj hj2]
  exact nm_len (h _ (List.getElem_mem _)) ⟨rfl, rfl⟩

end Go.Proofs.YtamenhffplhddaaGreat

namespace Go.Proofs.YtamenhffplhddaaGreat
open Go.RowKit
set_option linter.unusedVariables false
set_option linter.unusedSimpArgs false

/-- Not in the blocks of these two rows. -/
def notOwn2 (v u : Value) : Zone := ⟨fun b => v.ownBlock ≠ some b ∧ u.ownBlock ≠ some b, False⟩
theorem eld_notOwn2 {B : Nat} {v u : Value} (h : ∀ k, v.ownBlock = some k → B ≤ k) (h2 : ∀ k, u.ownBlock = some k → B ≤ k) : (eld B).le (notOwn2 v u) := ⟨fun b hb => ⟨(eld_notOwn h).1 b hb, (eld_notOwn h2).1 b hb⟩, fun h => h⟩
theorem new_notOwn2 {B : Nat} {v u : Value} (h : ∀ k, v.ownBlock = some k → k < B) (h2 : ∀ k, u.ownBlock = some k → k < B) : (new B).le (notOwn2 v u) := ⟨fun b hb => ⟨(new_notOwn h).1 b hb, (new_notOwn h2).1 b hb⟩, fun h => h.elim⟩
theorem notOwn2_le (v u : Value) : (notOwn2 v u).le (notOwn v) := ⟨fun b hb => hb.1, fun h => h⟩
theorem notOwn2_sym (v u : Value) : (notOwn2 v u).le (notOwn2 u v) := ⟨fun b hb => ⟨hb.2, hb.1⟩, fun h => h⟩
def Apart (v u : Value) : Prop := ∀ k, v.ownBlock = some k → u.ownBlock ≠ some k
theorem Apart.sym {v u : Value} (h : Apart v u) : Apart u v := fun k hk e => h k e hk
theorem Apart.grow {w : World} {v v' u : Value} (h : Apart v u) (hf : Fresh w v v') (hu : ∀ k, u.ownBlock = some k → k < w.heap.size) : Apart v' u := fun k hk e => by
  rcases hf with h3 | h3
  · exact h k (h3.symm.trans hk) e
  · have h4 := h3 k hk
    have h5 := hu k e
    omega
theorem U64s.grow2 {w w' : World} {v v' u : Value} {A : Option Addr} {c : Nat} {l : List Nat} (h : U64s w (notOwn2 v u) A c l) (hg : w.grownBy w' v.ownBlock) (hf : Fresh w v v') : U64s w' (notOwn2 v' u) A c l := by
  have h1 := h.keep (w' := w') fun b hb hl => hg.block b hl (fun e => hb.1 e.symm)
  refine ⟨h1.small, h1.cap, h1.max, h1.nul, fun h0 => ?_⟩
  obtain ⟨b, o, e, hb, hfz, hc⟩ := h1.row h0
  obtain ⟨b2, o2, e2, hb2, _, hc2⟩ := h.row h0
  rw [e] at e2
  injection e2 with e2
  injection e2 with e3 e4
  subst e3 e4
  have hlt := lt_of_cell (hc2 0 _ (List.getElem?_eq_getElem h0))
  refine ⟨b, o, e, ⟨fun e5 => ?_, hb.2⟩, fun h => h.elim, hc⟩
  rcases hf with h3 | h3
  · exact hb.1 (h3.symm.trans e5)
  · have h4 := h3 b e5
    have h5 : b < w.heap.size := hlt
    omega
theorem U64s.grow2r {w w' : World} {v u u' : Value} {A : Option Addr} {c : Nat} {l : List Nat} (h : U64s w (notOwn2 v u) A c l) (hg : w.grownBy w' u.ownBlock) (hf : Fresh w u u') : U64s w' (notOwn2 v u') A c l :=
  ((h.mono (notOwn2_sym v u)).grow2 hg hf).mono (notOwn2_sym u' v)
theorem own_other {w w' : World} {B : Nat} {e : TypeId} {size n : Nat} {v u : Value} {xs : List Value} (h : w.ownsRow B e size v n xs) (hg : w.grownBy w' u.ownBlock) (ha : Apart v u) : w'.ownsRow B e size v n xs := by
  refine ⟨h.1, ?_⟩
  rcases h.2 with h1 | ⟨g, cap, cur, e1, hB, hh, hr⟩
  · exact .inl h1
  · have hlt : g < w.heap.size := (h.lt g (by rw [e1]; rfl)).2
    refine .inr ⟨g, cap, cur, e1, hB, ?_, hr⟩
    rw [hg.block g hlt (fun e => ha g (by rw [e1]; rfl) e.symm)]
    exact hh
/-- The row's cells are these numbers, and their words lie in neither row. -/
def NumsP (w : World) (v u : Value) (xs : List Value) (zs : List Int) : Prop :=
  ∀ j (hj : j < zs.length), ∃ s l A c, xs[j * 2]? = some (.bool s) ∧ xs[j * 2 + 1]? = some (.slice A (l : List Nat).length c) ∧ U64s w (notOwn2 v u) A c l ∧ Nm zs[j] s l
theorem NumsP.nil (w : World) (v u : Value) (xs : List Value) : NumsP w v u xs [] := fun j hj => absurd hj (by simp)
theorem NumsP.below {w w' : World} {v u : Value} {xs : List Value} {zs : List Int} (h : NumsP w v u xs zs) (hb : Below w.heap.size w w') : NumsP w' v u xs zs := fun j hj => by
  obtain ⟨s, l, A, c, h0, h1, hu, hn⟩ := h j hj
  exact ⟨s, l, A, c, h0, h1, hu.below hb, hn⟩
theorem NumsP.other {w w' : World} {v u u' : Value} {xs : List Value} {zs : List Int} (h : NumsP w v u xs zs) (hg : w.grownBy w' u.ownBlock) (hf : Fresh w u u') : NumsP w' v u' xs zs := fun j hj => by
  obtain ⟨s, l, A, c, h0, h1, hu, hn⟩ := h j hj
  exact ⟨s, l, A, c, h0, h1, hu.grow2r hg hf, hn⟩
theorem NumsP.toO {w : World} {v u : Value} {xs : List Value} {zs : List Int} (h : NumsP w v u xs zs) : NumsO w v xs zs := fun j hj => by
  obtain ⟨s, l, A, c, h0, h1, hu, hn⟩ := h j hj
  exact ⟨s, l, A, c, h0, h1, hu.mono (notOwn2_le v u), hn⟩
theorem NumsP.snoc {w w' : World} {v v' u : Value} {xs : List Value} {zs : List Int} {z : Int} {s : Bool} {l : List Nat} {A : Option Addr} {c : Nat} (h : NumsP w v u xs zs) (hl : xs.length = zs.length * 2) (hg : w.grownBy w' v.ownBlock) (hf : Fresh w v v') (hu : U64s w (notOwn2 v u) A c l) (hn : Nm z s l) :
    NumsP w' v' u (xs ++ [.bool s, .slice A l.length c]) (zs ++ [z]) := fun j hj => by
  rw [List.length_append, List.length_singleton] at hj
  by_cases hj2 : j < zs.length
  · obtain ⟨s', l', A', c', h0, h1, hu', hn'⟩ := h j hj2
    refine ⟨s', l', A', c', ?_, ?_, hu'.grow2 hg hf, ?_⟩
    · rw [List.getElem?_append_left (by omega)]; exact h0
    · rw [List.getElem?_append_left (by omega)]; exact h1
    · rw [List.getElem_append_left hj2]; exact hn'
  · obtain rfl : j = zs.length := by omega
    refine ⟨s, l, A, c, ?_, ?_, hu.grow2 hg hf, ?_⟩
    · rw [List.getElem?_append_right (by omega), hl, Nat.sub_self]; rfl
    · rw [List.getElem?_append_right (by omega), hl, show zs.length * 2 + 1 - zs.length * 2 = 1 by omega]; rfl
    · rw [List.getElem_append_right (by omega)]; simpa using hn

-- what forms are, added, turned and scaled
theorem sumL_add : ∀ (us ms xs : List Int) (a b : Int), us.length = xs.length → ms.length = xs.length → sumL (a + b) ((List.zipWith (· + ·) us ms).zip xs) = sumL a (us.zip xs) + sumL b (ms.zip xs) := by
  intro us
  induction us with
  | nil =>
    intro ms xs a b h1 h2
    have : xs = [] := List.eq_nil_of_length_eq_zero (by simpa using h1.symm)
    subst this
    have : ms = [] := List.eq_nil_of_length_eq_zero (by simpa using h2)
    subst this
    rfl
  | cons u us ih =>
    intro ms xs a b h1 h2
    cases xs with
    | nil => simp at h1
    | cons x xs =>
      cases ms with
      | nil => simp at h2
      | cons m ms =>
        show sumL (a + b + (u + m) * x) ((List.zipWith (· + ·) us ms).zip xs) = sumL (a + u * x) (us.zip xs) + sumL (b + m * x) (ms.zip xs)
        rw [← ih ms xs (a + u * x) (b + m * x) (by simpa using h1) (by simpa using h2), Int.add_mul]
        congr 1
        omega
theorem sumL_mul : ∀ (us xs : List Int) (a c : Int), sumL (a * c) ((us.map (· * c)).zip xs) = sumL a (us.zip xs) * c := by
  intro us
  induction us with
  | nil => intro xs a c; rfl
  | cons u us ih =>
    intro xs a c
    cases xs with
    | nil => rfl
    | cons x xs =>
      show sumL (a * c + u * c * x) ((us.map (· * c)).zip xs) = sumL (a + u * x) (us.zip xs) * c
      rw [← ih xs (a + u * x) c, Int.add_mul, Int.mul_assoc u c x, Int.mul_comm c x, Int.mul_assoc u x c]
theorem formL_add {zs ys xs : List Int} (h : zs.length = xs.length + 1) (h2 : ys.length = xs.length + 1) : formL (List.zipWith (· + ·) zs ys) xs = formL zs xs + formL ys xs := by
  cases zs with
  | nil => simp at h
  | cons a t =>
    cases ys with
    | nil => simp at h2
    | cons b s => exact sumL_add t s xs a b (by simpa using h) (by simpa using h2)
theorem formL_mul {zs xs : List Int} {c : Int} (h : zs.length = xs.length + 1) : formL (zs.map (· * c)) xs = formL zs xs * c := by
  cases zs with
  | nil => simp at h
  | cons a t => exact sumL_mul t xs a c
theorem formL_neg {zs xs : List Int} (h : zs.length = xs.length + 1) : formL (zs.map (- ·)) xs = -formL zs xs := by
  have := formL_mul (c := -1) h
  rw [show zs.map (· * (-1 : Int)) = zs.map (- ·) from List.map_congr_left fun z _ => by omega] at this
  omega
theorem InL.add {zs ys : List Int} {Ps Qs : List IvP} (h : InL 4 zs Ps) (g : InL 4 ys Qs) (hl : Qs.length = Ps.length) (hp : ∀ P ∈ Ps, IvN 4 P.1 P.2) (hq : ∀ Q ∈ Qs, IvN 4 Q.1 Q.2) : InL 5 (List.zipWith (· + ·) zs ys) (addLL Ps Qs) := by
  have h1 := h.1
  have g1 := g.1
  refine ⟨by rw [List.length_zipWith, addLL, List.length_zipWith]; omega, fun j hj hj' => ?_⟩
  rw [List.length_zipWith] at hj
  have a := h.2 j (by omega) (by omega)
  have b := g.2 j (by omega) (by omega)
  rw [List.getElem_zipWith, addLL_get hj' (by omega) (by omega)]
  exact ⟨add_in (hp _ (List.getElem_mem _)) (hq _ (List.getElem_mem _)) (by omega) a.2 b.2 a.1 b.1, bound_add a.2 b.2⟩
theorem InL.neg {N : Nat} {zs : List Int} {Ps : List IvP} (h : InL N zs Ps) : InL N (zs.map (- ·)) (negL Ps) := by
  refine ⟨by rw [List.length_map, negL, List.length_map]; exact h.1, fun j hj hj' => ?_⟩
  rw [List.length_map] at hj
  have a := h.2 j hj (by rw [← h.1]; exact hj)
  rw [List.getElem_map, negL_get hj' (by rw [← h.1]; exact hj)]
  exact ⟨neg_in a.1, by omega⟩
theorem InL.scale {zs : List Int} {Ps : List IvP} {Q : IvP} {m : Int} (h : InL 4 zs Ps) (hp : ∀ P ∈ Ps, IvN 4 P.1 P.2) (hq : IvN 4 Q.1 Q.2) (hm : inI m Q) (hb : -wN 4 < m ∧ m < wN 4) : InL 8 (zs.map (· * m)) (scaL Ps Q) := by
  refine ⟨by rw [List.length_map, scaL, List.length_map]; exact h.1, fun j hj hj' => ?_⟩
  rw [List.length_map] at hj
  have a := h.2 j hj (by rw [← h.1]; exact hj)
  rw [List.getElem_map, scaL_get hj' (by rw [← h.1]; exact hj)]
  exact ⟨mul_in ((hp _ (List.getElem_mem _)).up (by omega)) (hq.up (by omega)) (bound_up a.2 (by omega)) (bound_up hb (by omega)) a.1 hm, bound_mul (N := 4) (M := 4) a.2 hb⟩
theorem addLL_ok {Ps Qs : List IvP} (hp : ∀ P ∈ Ps, IvN 4 P.1 P.2) (hq : ∀ Q ∈ Qs, IvN 4 Q.1 Q.2) : ∀ R ∈ addLL Ps Qs, IvN 5 R.1 R.2 := fun R hR => by
  obtain ⟨j, hj, rfl⟩ := List.getElem_of_mem hR
  have hj2 := hj
  rw [addLL, List.length_zipWith] at hj2
  rw [addLL_get hj (by omega) (by omega)]
  exact ivA_ok (hp _ (List.getElem_mem _)) (hq _ (List.getElem_mem _)) (by omega)
theorem negL_ok {N : Nat} {Ps : List IvP} (hp : ∀ P ∈ Ps, IvN N P.1 P.2) : ∀ R ∈ negL Ps, IvN N R.1 R.2 := fun R hR => by
  obtain ⟨P, hP, rfl⟩ := List.mem_map.1 hR
  exact ivNg_ok (hp P hP)
theorem scaL_ok {Ps : List IvP} {Q : IvP} (hp : ∀ P ∈ Ps, IvN 4 P.1 P.2) (hq : IvN 4 Q.1 Q.2) : ∀ R ∈ scaL Ps Q, IvN 8 R.1 R.2 := fun R hR => by
  obtain ⟨P, hP, rfl⟩ := List.mem_map.1 hR
  exact ivM_ok (hp P hP) hq (by omega)
theorem fmw_mk {N : Nat} {Ps : List IvP} (h : ∀ P ∈ Ps, IvN N P.1 P.2) : FmW N Ps (fmOf Ps) := FmW.of fun j hj => h _ (List.getElem_mem _)

end Go.Proofs.YtamenhffplhddaaGreat
